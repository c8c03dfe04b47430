/- Package sess, going on: New, and a session that begins. -/
import Derived.Test.YtpfnphkgmjgmeaaSessE
namespace Go.Proofs.Ytpfnphkgmjgmeaa
open Go Go.RowKit
set_option linter.unusedVariables false
set_option linter.unusedSimpArgs false

theorem zero_table (w : World) : (zeroValue 62).run Try.prog w = .ok (.agg #[.int .i64 0, .int .i64 0, .int .i64 0, .slice none 0 0, .map none]) w := by kernel_rfl
theorem zero_session (w : World) : (zeroValue 70).run Try.prog w = .ok (.agg #[.int .u64 0, .int .i64 0, .int .i64 0, .int .i64 0]) w := by kernel_rfl
theorem infoSe : (Try.prog.info? 66).map (fun i => (i.zero, i.size, i.bytes)) = some (some (.pointer none), 1, 8) := by kernel_rfl
theorem zero_bool (w : World) : (zeroValue 4).run Try.prog w = .ok (.bool false) w := by kernel_rfl
theorem tnew_bad (m i : Int) (w : World) (h : m < 1 ∨ 64 < m ∨ i < 1 ∨ 1048576 < i) :
    Calls Try.prog 9 #[.int .i64 m, .int .i64 i] w fun e w' => e = .returned (.tuple #[.pointer none, .int .i64 1]) ∧ w = w' := by
  by_cases h1 : m < 1
  · go_enter Try.func9, Try.ntmps9
    go_wp2
    go_ret2
    exact ⟨rfl, rfl⟩
  · have d1 : decide (m < 1) = false := by simp; omega
    by_cases h2 : 64 < m
    · go_enter Try.func9, Try.ntmps9
      go_wp2
      go_ret2
      exact ⟨rfl, rfl⟩
    · have d2 : decide (64 < m) = false := by simp; omega
      by_cases h3 : i < 1
      · go_enter Try.func9, Try.ntmps9
        go_wp2
        go_ret2
        exact ⟨rfl, rfl⟩
      · have d3 : decide (i < 1) = false := by simp; omega
        have h4 : 1048576 < i := by omega
        go_enter Try.func9, Try.ntmps9
        go_wp2
        go_ret2
        exact ⟨rfl, rfl⟩
def newT (m i : Nat) : Tb := ⟨m, i, 0, [], fun _ => false⟩
theorem tnew_ok (m i : Nat) (w : World) (h1 : 1 ≤ m) (h2 : m ≤ 64) (h3 : 1 ≤ i) (h4 : i ≤ 1048576) :
    Calls Try.prog 9 #[.int .i64 m, .int .i64 i] w fun e w' => e = .returned (.tuple #[.pointer (some ⟨w.heap.size + 1, 0, none⟩), .int .i64 0]) ∧ Chg Pure' w w' ∧
      TabOf w' (w.heap.size + 1) w.heap.size [] (.slice none 0 0) (newT m i) 0 := by
  have d1 : decide ((m : Int) < 1) = false := by simp; omega
  have d2 : decide ((64 : Int) < (m : Int)) = false := by simp; omega
  have d3 : decide ((i : Int) < 1) = false := by simp; omega
  have d4 : decide ((1048576 : Int) < (i : Int)) = false := by simp; omega
  have hz := zero_table
  have hmm := @run_makeMap Try.prog
  go_enter Try.func9, Try.ntmps9
  go_wp2
  go_ret2
  have hM := MapU.made w 29
  have e1 : (w.alloc (.map #[] 0)).heap.size = w.heap.size + 1 := by simp
  refine ⟨rfl, ((Chg.refl _ w).alloc _).alloc _, ?_⟩
  have c := fun j => cellAt_alloc_lit (w.alloc (.map #[] 0)) #[.int .i64 m, .int .i64 i, .int .i64 0, .slice none 0 0, .map (some w.heap.size)] 62 j
  have hb := heap_alloc_new (w.alloc (.map #[] 0)) (.cells #[.int .i64 m, .int .i64 i, .int .i64 0, .slice none 0 0, .map (some w.heap.size)] 62)
  rw [e1] at hb
  simp only [e1] at c
  have ca : Chg Pure' (w.alloc (.map #[] 0)) ((w.alloc (.map #[] 0)).alloc (.cells #[.int .i64 m, .int .i64 i, .int .i64 0, .slice none 0 0, .map (some w.heap.size)] 62)) := (Chg.refl _ _).alloc _
  refine ⟨⟨_, hb, rfl⟩, c 0, c 1, c 2, c 3, c 4, World.ownsRow_nil _ _ _ _, ?_, rfl, (fun j h => by simp at h), List.nodup_nil, (fun a ha => by simp at ha), (by omega), (fun e => by cases e), (fun e => by cases e), h1, h2, h3, h4, (by simp [newT]), Nat.zero_le _, (fun x hx => by simp [newT] at hx)⟩
  exact hM.chg ca (fun h => h)

/-- What begin answers. -/
def beginE (T : Tb) (d : UInt64) : Int := if d = 0 then 1 else if T.U (d.toNat : Int) then 9 else if T.L.length = T.most then 14 else 0
def beginT (T : Tb) (d : UInt64) : Tb := { T with L := T.L ++ [⟨d, 0, 0, 0⟩], U := fun i => T.U i || decide (i = (d.toNat : Int)) }
theorem usedM_set (U : Int → Bool) (k : Int) : setAt (usedM U) k (.bool true) = usedM (fun i => U i || decide (i = k)) := by
  funext i
  unfold setAt usedM
  by_cases h : i = k
  · subst h; simp
  · simp [h]
set_option maxHeartbeats 4000000 in
theorem begin_of {w : World} {p ub : Nat} {bs : List Nat} {v : Value} {T : Tb} {cnt : Nat} (h : TabOf w p ub bs v T cnt) (d : UInt64) (hcnt : cnt ≤ 4611686018427387904) :
    Calls Try.prog 28 #[.pointer (some ⟨p, 0, none⟩), .int .u64 (d.toNat : Int)] w fun e w' =>
      (beginE T d ≠ 0 ∧ e = .returned (.tuple #[.pointer none, .int .i64 (beginE T d)]) ∧ Chg Pure' w w') ∨
      (beginE T d = 0 ∧ Chg (TFoot p ub bs v) w w' ∧ ∃ a v', e = .returned (.tuple #[.pointer (some ⟨a, 0, none⟩), .int .i64 0]) ∧ w.heap.size ≤ a ∧ TabOf w' p ub (bs ++ [a]) v' (beginT T d) (cnt + 1) ∧ ∀ k, v'.ownBlock = some k → v.ownBlock = some k ∨ w.heap.size ≤ k) := by
  have H := Lib.hid h
  have hd := d.toNat_lt
  have g0 := h.c0
  have g3 := h.c3
  have g4 := h.c4
  have hlm := h.lm
  have hm64 := h.m64
  by_cases hd0 : d = 0
  · subst hd0
    have hR : beginE T 0 = 1 := rfl
    have HR := Lib.hid hR
    clear hR h
    go_enter Try.func28, Try.ntmps28
    go_wp2
    go_ret2
    refine .inl ⟨by rw [HR.out]; decide, by rw [HR.out]; rfl, Chg.refl _ _⟩
  · have hdi : ((d.toNat : Int) == 0) = false := by
      rw [beq_eq_false_iff_ne]
      exact fun e => hd0 (UInt64.toNat_inj.1 (by simpa using e))
    have hkey : (Lit.int .u64 (d.toNat : Int)).wf = true := wf_u64 (by omega)
    have hlook := look_runU h.map Try.underlying29 Try.underlying28 (zero_bool w) hkey (v := .bool (T.U (d.toNat : Int))) (by unfold usedM; cases T.U (d.toNat : Int) <;> rfl)
    cases hU : T.U (d.toNat : Int) with
    | true =>
      rw [hU] at hlook
      have hR : beginE T d = 9 := by unfold beginE; rw [if_neg hd0, hU]; rfl
      have HR := Lib.hid hR
      clear hR h hd0 hU
      go_enter Try.func28, Try.ntmps28
      go_wp2
      go_ret2
      refine .inl ⟨by rw [HR.out]; decide, by rw [HR.out]; rfl, Chg.refl _ _⟩
    | false =>
      rw [hU] at hlook
      obtain ⟨B, q, rfl, -, -, -⟩ := own_slice h.row
      by_cases hful : T.L.length = T.most
      · have hR : beginE T d = 14 := by unfold beginE; rw [if_neg hd0, hU, if_pos hful]; rfl
        have HR := Lib.hid hR
        have hfi : ((T.L.length : Int) == (T.most : Int)) = true := by rw [beq_iff_eq]; omega
        clear hR h hd0 hU hful
        go_enter Try.func28, Try.ntmps28
        go_wp2_with (fail)
        go_quiet (fail)
        go_wp2
        go_ret2
        refine .inl ⟨by rw [HR.out]; decide, by rw [HR.out]; rfl, (Chg.refl _ w).drewN _⟩
      · have hR : beginE T d = 0 := by unfold beginE; rw [if_neg hd0, hU, if_neg hful]; rfl
        have HR := Lib.hid hR
        have hfi : ((T.L.length : Int) == (T.most : Int)) = false := by rw [beq_eq_false_iff_ne]; omega
        have hz := zero_session
        clear hR h hd0 hU hful
        go_enter Try.func28, Try.ntmps28
        go_wp2_with (fail)
        go_quiet (fail)
        have C1 : Chg Pure' w (w.drewN nq) := (Chg.refl _ w).drewN nq
        have H0 := Lib.hid (H.out.pure C1)
        have hs0 : (w.drewN nq).heap.size = w.heap.size := rfl
        generalize (w.drewN nq) = w0 at *
        have c1 : Chg Pure' w0 (w0.alloc (.cells #[.int .u64 (d.toNat : Int), .int .i64 0, .int .i64 0, .int .i64 0] 70)) := (Chg.refl _ w0).alloc _
        have H1 := Lib.hid (H0.out.pure c1)
        have x0 := fun j => cellAt_alloc_lit w0 #[.int .u64 (d.toNat : Int), .int .i64 0, .int .i64 0, .int .i64 0] 70 j
        have xb := heap_alloc_new w0 (.cells #[.int .u64 (d.toNat : Int), .int .i64 0, .int .i64 0, .int .i64 0] 70)
        have hS1 : SeAt (w0.alloc (.cells #[.int .u64 (d.toNat : Int), .int .i64 0, .int .i64 0, .int .i64 0] 70)) w.heap.size ⟨d, 0, 0, 0⟩ := by
          rw [← hs0]
          exact ⟨⟨_, xb, rfl⟩, x0 0, x0 1, x0 2, x0 3⟩
        have hs1 : (w0.alloc (.cells #[.int .u64 (d.toNat : Int), .int .i64 0, .int .i64 0, .int .i64 0] 70)).heap.size = w.heap.size + 1 := by simp [hs0]
        have x3 := H1.out.c3
        have x4 := H1.out.c4
        have HM1 := Lib.hid H1.out.map
        clear x0 xb g0 g3 g4 hlook
        obtain ⟨w2, hput, hM2, c2⟩ := put_runU H1.out.map Try.underlying29 Try.underlying28 (by unfold maxLen; omega) hkey (.bool true)
        rw [usedM_set] at hM2
        have cc : Chg Pure' w (w0.alloc (.cells #[.int .u64 (d.toNat : Int), .int .i64 0, .int .i64 0, .int .i64 0] 70)) := C1.pure c1
        generalize hw1 : (w0.alloc (.cells #[.int .u64 (d.toNat : Int), .int .i64 0, .int .i64 0, .int .i64 0] 70)) = w1 at *
        have HW1 := Lib.hid hw1
        have fu : ∀ k, TFoot p ub bs (.slice B T.L.length q) k → k < w.heap.size := fun k hk => H.out.flt hk
        have c3 : Chg Pure' w2 (w2.alloc (.cells #[.pointer (some ⟨w.heap.size, 0, none⟩)] 66)) := (Chg.refl _ w2).alloc _
        have hR3 := own_keep (own_keep H1.out.row c2 (fun g hg e => H.out.vu (by rw [← show g = ub from e]; exact hg))) c3 (fun _ _ h => h)
        have hrow : Row (w2.alloc (.cells #[.pointer (some ⟨w.heap.size, 0, none⟩)] 66)) (some ⟨w2.heap.size, 0, none⟩) [.pointer (some ⟨w.heap.size, 0, none⟩)] := by
          refine ⟨fun _ => ⟨w2.heap.size, 0, rfl, fun j y hy => ?_⟩⟩
          rw [Nat.zero_add, cellAt_alloc_lit, ← hy]
          simp
        have hs2 := c2.size
        have hs3 := c3.size
        obtain ⟨v4, w4, hr4, ho4, hg4, hb4⟩ := app_own (P := Try.prog) _ 0 60 60 66 Try.underlying60 infoSe rfl (by decide) _ _ _ hR3 _ 1 1 _ hrow rfl (by intro u hu; simp at hu; subst hu; rfl) (by decide) (by omega) (Nat.zero_le _)
        have c4 : Chg (fun k => (Value.slice B T.L.length q).ownBlock = some k) (w2.alloc (.cells #[.pointer (some ⟨w.heap.size, 0, none⟩)] 66)) w4 := (Chg.refl _ _).grown hg4 (fun k hk => .inr hk)
        have C24 : Chg (fun k => k = ub ∨ (Value.slice B T.L.length q).ownBlock = some k) w1 w4 := ((c2.mono (fun k _ e => .inl e)).pure c3).trans c4 (fun i _ e => .inr e)
        have np : ¬ (p = ub ∨ (Value.slice B T.L.length q).ownBlock = some p) := fun e => e.elim H.out.pb H.out.vp
        have x32 := c2.cell x3 (fun e => H.out.pb e)
        have x34 := C24.cell x3 np
        have xf4 : w4.frozen? ⟨p, 3, none⟩ = false := (C24.frozen x3 np).trans (by obtain ⟨cs, b1, _⟩ := H1.out.blk; exact free_at b1)
        have hv4 : v4.ownBlock ≠ some p := fun e => by
          rcases hb4 p e with h | h
          · exact H.out.vp h
          · have := fu p (.inl rfl); omega
        have hFin : TabOf (w4.setCell ⟨p, 3, none⟩ v4) p ub (bs ++ [w.heap.size]) v4 (beginT T d) (cnt + 1) := by
          have c5 : Chg (fun k => k = p) w4 (w4.setCell ⟨p, 3, none⟩ v4) := Chg.setCell (S := fun k => k = p) (Chg.refl _ w4) (p := ⟨p, 3, none⟩) (.inr rfl) v4
          have C25 : Chg (fun k => k = p ∨ k = ub ∨ (Value.slice B T.L.length q).ownBlock = some k) w1 (w4.setCell ⟨p, 3, none⟩ v4) := (C24.mono (fun k _ e => .inr e)).trans c5 (fun i _ e => .inl e)
          obtain ⟨cs, b1, b2⟩ := H1.out.blk
          have b4 := (C24.block p H1.out.plt np).trans b1
          have hnew : ∀ k, TFoot p ub bs (.slice B T.L.length q) k → k ≠ w.heap.size := fun k hk e => by have := fu k hk; omega
          have hsl : SeAt (w4.setCell ⟨p, 3, none⟩ v4) w.heap.size ⟨d, 0, 0, 0⟩ := hS1.frame C25 (fun e => by
            rcases e with e | e | e
            · exact hnew p (.inl rfl) e.symm
            · exact hnew ub (.inr (.inl rfl)) e.symm
            · exact hnew _ (.inr (.inr (.inr e))) rfl)
          refine ⟨⟨_, heap_setCell_same w4 p 3 _ _ _ b4, by simpa using b2⟩, ?_, ?_, ?_, set_at x34, ?_, ?_, ?_, ?_, ?_, ?_, ?_, H.out.pb, hv4, ?_, H.out.m1, H.out.m64, H.out.i1, H.out.i2, H.out.n0, ?_, ?_⟩
          · rw [set_far (by omega)]; exact C24.cell H1.out.c0 np
          · rw [set_far (by omega)]; exact C24.cell H1.out.c1 np
          · rw [set_far (by omega)]; exact C24.cell H1.out.c2 np
          · rw [set_far (by omega)]; exact C24.cell H1.out.c4 np
          · have := own_keep ho4 c5 (fun g hg e => hv4 (by rw [← show g = p from e]; exact hg))
            simpa [beginT, ptr] using this
          · exact ((hM2.chg c3 (fun h => h)).chg c4 (fun e => H.out.vu e)).chg c5 (fun e => H.out.pb e.symm)
          · simp [beginT, H.out.len]
          · intro j h1 h2
            by_cases hj : j < bs.length
            · have hj2 : j < T.L.length := by rw [← H.out.len]; exact hj
              simp only [beginT, List.getElem_append_left hj, List.getElem_append_left hj2]
              have hmem := List.getElem_mem hj
              have hap := H.out.ap _ hmem
              exact (H1.out.ses j hj hj2).frame C25 (fun e => e.elim hap.1 (fun e => e.elim hap.2.1 hap.2.2))
            · have hje : j = bs.length := by simp at h1; omega
              subst hje
              have hlen := H.out.len
              have e1 : (bs ++ [w.heap.size])[bs.length]'h1 = w.heap.size := by rw [List.getElem_append_right (by omega)]; simp
              have e2 : ((beginT T d).L)[bs.length]'h2 = ⟨d, 0, 0, 0⟩ := by
                simp only [beginT]
                rw [List.getElem_append_right (by omega)]
                simp
              rw [e1, e2]
              exact hsl
          · rw [List.nodup_append]
            refine ⟨H.out.inj, by simp, fun a ha b hb e => ?_⟩
            simp at hb
            subst hb
            exact hnew a (.inr (.inr (.inl ha))) e
          · intro a ha
            rcases List.mem_append.1 ha with ha | ha
            · have hap := H.out.ap a ha
              refine ⟨hap.1, hap.2.1, fun e => ?_⟩
              rcases hb4 a e with h | h
              · exact hap.2.2 h
              · have := fu a (.inr (.inr (.inl ha))); omega
            · simp at ha
              subst ha
              refine ⟨fun e => hnew p (.inl rfl) e.symm, fun e => hnew ub (.inr (.inl rfl)) e.symm, fun e => ?_⟩
              rcases hb4 _ e with h | h
              · exact hnew _ (.inr (.inr (.inr h))) rfl
              · omega
          · intro e
            rcases hb4 ub e with h | h
            · exact H.out.vu h
            · have := fu ub (.inr (.inl rfl)); omega
          · have hne : T.L.length ≠ T.most := by rw [beq_eq_false_iff_ne] at hfi; omega
            simp [beginT]; omega
          · intro x hx
            simp only [beginT] at hx
            rcases List.mem_append.1 hx with hx | hx
            · have := H.out.ep x hx; omega
            · simp at hx; subst hx; simp; omega
        have C5 : Chg (TFoot p ub bs (.slice B T.L.length q)) w (w4.setCell ⟨p, 3, none⟩ v4) := (cc.of_pure.trans' (C24.mono (fun k _ e => e.elim (fun e => .inr (.inl e)) (fun e => .inr (.inr (.inr e)))))).setCell (p := ⟨p, 3, none⟩) (.inr (.inl rfl)) v4
        have hb5 : ∀ k, v4.ownBlock = some k → (Value.slice B T.L.length q).ownBlock = some k ∨ w.heap.size ≤ k := fun k hk => (hb4 k hk).imp id (fun h => by omega)
        obtain ⟨B4, q4, rfl, -, -, -⟩ := own_slice ho4
        have HFin := Lib.hid hFin
        rw [← hw1] at x4 hput
        clear hFin ho4 hb4 hg4 hR3 hrow c4 C24 hM2 hS1 hw1 fu hv4 x3
        go_wp2_with (first
          | (at_builtin; refine Lib.wpList_append_run _ rfl _ _ _ _ rfl _ _ rfl rfl _ _ hr4 ?_)
          | fail)
        clear hr4 hput
        go_wp2
        go_ret2
        exact .inr ⟨HR.out, C5, w.heap.size, _, rfl, Nat.le_refl _, HFin.out, hb5⟩
end Go.Proofs.Ytpfnphkgmjgmeaa
