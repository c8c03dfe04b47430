/- The laws of layer 17, going on: SendLoads. -/
import Derived.Test.YtlkpnhfdcljbfaaL17P
namespace Go.Proofs.Ytlkpnhfdcljbfaa
open Go Go.RowKit
set_option linter.unusedVariables false
set_option linter.unusedSimpArgs false

set_option maxRecDepth 100000 in
set_option maxHeartbeats 4000000 in
theorem law_SendLoads (a : Int) (A : Option Addr) (n c : Nat) (acts : List Act17) (w : World) (ha : -9223372036854775808 ≤ a ∧ a ≤ 9223372036854775807) (hA : Acts17 w A n acts) (hn : n * 64 ≤ 140737488351232) :
    Calls Try.prog 4 #[.int .i64 a, .slice A n c] w fun e w' => e = .returned (.bool true) ∧ Chg Pure' w w' := by
  by_cases hbad : a < 1 ∨ 32 < a
  · go_enter Try.func4, Try.ntmps4
    go_wp2_with (fail)
    refine (snew_bad _ _ hbad).mono ?_
    rintro e w1 ⟨rfl, rfl⟩
    go_wp2_with (fail)
    refine (alive17 _).mono ?_
    rintro e w2 ⟨rfl, hg⟩
    go_wp2
    go_ret
    exact ⟨rfl, hg⟩
  · obtain ⟨W, rfl⟩ : ∃ W : Nat, a = W := ⟨a.toNat, by omega⟩
    have h1 : 1 ≤ W := by omega
    have h2 : W ≤ 32 := by omega
    have hzm := zero_msg
    clear hbad ha
    go_enter Try.func4, Try.ntmps4
    go_wp2_with (fail)
    refine (own_new W _ h1 h2).mono ?_
    rintro e w1 ⟨rfl, s1⟩
    go_wp2_with (fail)
    refine (alive17 _).mono ?_
    rintro e w2 ⟨rfl, c2⟩
    obtain ⟨adr0, D0, g1, g2, g3⟩ := s1.pure c2
    clear s1 c2
    generalize hp : w.heap.size + 1 = p at *
    have H0 : Held17 w w2 (.slice none 0 0) [] [] p w.heap.size W adr0 D0 1 0 [] 0 :=
      ⟨g1, fun k hk => ⟨g2 k hk, fun e => by cases e⟩, g3, World.ownsRow_nil _ _ _ _, fun i hi => by simp at hi, rfl, rfl⟩
    clear g1 g2 g3
    go_wp2_with (fail)
    go_loopw [7, 33] (fun v i wr => ∃ (k : Nat) (cs : List Value) (ps : List (List UInt8)) (adr : Nat → Nat) (D : Nat → Prop) (base lim : Nat) (Ls : List Ld), k ≤ n ∧ i = .int .i64 k ∧ ps.length ≤ k ∧ Hid (Held17 w wr v cs ps p w.heap.size W adr D base lim Ls k)) (fun _ i _ => n - (intOf i).toNat)
    case atStart => exact ⟨0, [], [], _, _, 1, 0, [], Nat.zero_le _, rfl, Nat.le_refl _, H0⟩
    case round =>
      obtain ⟨k, cs, ps, adr, D, base, lim, Ls, hk, rfl, hpk, HS⟩ := hrel
      by_cases hlt : k < n
      · obtain ⟨b, off, rfl, hbl, hcell⟩ := hA.cells (by omega)
        have hkx : k < acts.length := by have := hA.len; omega
        have hc : Chg Pure' w wr := HS.out.chg
        obtain ⟨q0, q1, q2, q3, q4, Aj, nj, cj, q5, hle, hnj, hbj⟩ := hcell k hkx
        have e0 := hc.cell q0 (fun h => h)
        have e1 := hc.cell q1 (fun h => h)
        have e2 := hc.cell q2 (fun h => h)
        have e3 := hc.cell q3 (fun h => h)
        have e4 := hc.cell q4 (fun h => h)
        have e5 := hc.cell q5 (fun h => h)
        generalize acts[k] = act at e0 e1 e2 e3 e4 hbj
        obtain ⟨kind, now, nn, credit, m, xs⟩ := act
        simp only at e0 e1 e2 e3 e4 hbj
        clear q0 q1 q2 q3 q4 q5 hcell
        have ca : Chg Pure' wr (wr.alloc (.cells #[.int .i64 kind, .int .i64 now, .int .i64 nn, .int .i64 credit, .int .u64 (m.toNat : Int), .slice Aj nj cj] 39)) := (Chg.refl _ wr).alloc _
        have HS3 := Lib.hid (HS.out.pure ca)
        have hb' := hbj.pure (hc.pure ca)
        have lit := fun j => cellAt_alloc_lit wr #[.int .i64 kind, .int .i64 now, .int .i64 nn, .int .i64 credit, .int .u64 (m.toNat : Int), .slice Aj nj cj] 39 j
        have x0 : (wr.alloc (.cells #[.int .i64 kind, .int .i64 now, .int .i64 nn, .int .i64 credit, .int .u64 (m.toNat : Int), .slice Aj nj cj] 39)).cell? ⟨wr.heap.size, 0, none⟩ = some (.int .i64 kind) := lit 0
        have x1 : (wr.alloc (.cells #[.int .i64 kind, .int .i64 now, .int .i64 nn, .int .i64 credit, .int .u64 (m.toNat : Int), .slice Aj nj cj] 39)).cell? ⟨wr.heap.size, 1, none⟩ = some (.int .i64 now) := lit 1
        have x5 : (wr.alloc (.cells #[.int .i64 kind, .int .i64 now, .int .i64 nn, .int .i64 credit, .int .u64 (m.toNat : Int), .slice Aj nj cj] 39)).cell? ⟨wr.heap.size, 5, none⟩ = some (.slice Aj nj cj) := lit 5
        have hsz : (wr.alloc (.cells #[.int .i64 kind, .int .i64 now, .int .i64 nn, .int .i64 credit, .int .u64 (m.toNat : Int), .slice Aj nj cj] 39)).heap.size = wr.heap.size + 1 := by simp
        clear lit
        rcases and3 kind with hkd | hkd | hkd
        · -- a push
          have hpl : p < wr.heap.size := HS.out.snd.plt
          have hbl2 : w.heap.size < wr.heap.size := HS.out.snd.map.lt
          go_wp2_with (fail)
          refine (spush_any HS3.out.snd Aj nj cj xs now hb' hnj (by omega)).mono ?_
          rintro e w4 ⟨rfl, c4, adr', D', s4, f4⟩
          have hlen := HS3.out.len
          have x5' := c4.cell x5 (fun e => by rcases e with e | e <;> simp only at e <;> omega)
          have hf4 := s4.foot_lt
          have C4 : Chg Pure' w w4 := HS3.out.chg.trans c4 (fun i hi e => by rcases e with rfl | rfl <;> omega)
          have R4 := own_keep HS3.out.row c4 (fun g hg e => (HS3.out.foot g (e.elim (fun e => .inl e) (fun e => .inr (.inl e)))).2 hg)
          have hf5 : ∀ i, Foot p w.heap.size adr' D' base (pushOf W base lim Ls xs now).2.length i → w.heap.size ≤ i ∧ u7.ownBlock ≠ some i := by
            intro i hi
            rcases f4 i hi with h | h
            · exact HS3.out.foot i h
            · refine ⟨by omega, fun e => ?_⟩
              have := (HS3.out.row.lt i e).2
              omega
          rcases pushOf_ways W base lim Ls xs now with hpo | ⟨e, he, hpo⟩
          · rw [hpo] at s4 hf4 hf5 ⊢
            rw [← hlen]
            have ca2 : Chg Pure' w4 (w4.alloc (.cells #[.slice Aj nj cj] 22)) := (Chg.refl _ w4).alloc _
            have hrow : Row (w4.alloc (.cells #[.slice Aj nj cj] 22)) (some ⟨w4.heap.size, 0, none⟩) [.slice Aj nj cj] := by
              refine ⟨fun _ => ⟨w4.heap.size, 0, rfl, fun j x hx => ?_⟩⟩
              rw [Nat.zero_add, cellAt_alloc_lit, ← hx]
              simp
            have R5 := own_keep R4 ca2 (fun _ _ h => h)
            have hsz4 := C4.size
            obtain ⟨v6, w6, hr6, ho6, hg6, hb6⟩ := app_own (P := Try.prog) _ w.heap.size 37 37 22 Try.underlying37 infoBs rfl (by decide) _ _ _ R5 _ 1 1 _ hrow rfl (by intro u hu; simp at hu; subst hu; rfl) (by decide) (by omega) (by have := ca2.size; omega)
            have hz4 : w4.heap.size ≤ (w4.alloc (.cells #[.slice Aj nj cj] 22)).heap.size := ca2.size
            have c6 : Chg (fun k => u7.ownBlock = some k) (w4.alloc (.cells #[.slice Aj nj cj] 22)) w6 := (Chg.refl _ _).grown hg6 (fun k hk => .inr hk)
            have H6 : Hid (Held17 w w6 v6 (cs ++ [.slice Aj nj cj]) (ps ++ [xs]) p w.heap.size W adr' D' base lim (Ls ++ [⟨xs, false, now, 1⟩]) (k + 1)) := by
              refine ⟨(s4.pure ca2).frame c6 (fun i hi e => (hf5 i hi).2 e), fun i hi => ⟨(hf5 i hi).1, fun e => ?_⟩, (C4.pure ca2).trans c6 (fun i hi e => by have := (R5.lt i e).1; omega), by simpa using ho6, ?_, by simp; omega, ?_⟩
              · have hi4 := hf4 i hi
                rcases hb6 i e with h | h
                · exact (hf5 i hi).2 h
                · omega
              · intro i hi
                have hcl : cs.length = ps.length := by have := HS3.out.row.1; simpa using this
                by_cases hip : i < ps.length
                · obtain ⟨Ai, ni, ci, z1, z2⟩ := HS3.out.cells i hip
                  refine ⟨Ai, ni, ci, ?_, ?_⟩
                  · rw [List.getElem?_append_left (by omega)]; exact z1
                  · rw [List.getElem_append_left hip]; exact z2
                · have hie : i = ps.length := by simp at hi; omega
                  subst hie
                  refine ⟨Aj, nj, cj, ?_, ?_⟩
                  · rw [List.getElem?_append_right (by omega), hcl, Nat.sub_self]; rfl
                  · rw [List.getElem_append_right (by omega)]; simpa using hbj
              · have hd := HS3.out.data
                have hb1 := HS3.out.snd.b1
                rw [List.drop_append_of_le_length (by omega), hd, List.map_append]
                rfl
            have hvl : ∃ B6 q6, v6 = .slice B6 (ps.length + 1) q6 := by obtain ⟨B, q, h1, _⟩ := own_slice ho6; exact ⟨B, q, h1⟩
            obtain ⟨B6, q6, rfl⟩ := hvl
            clear ho6 hb6 hg6 c6 hrow R5 R4 s4 hf4 hf5 f4 c4 C4 hpo hlen x0 x1 x5 e0 e1 e2 e3 e4 e5 hbj hzm
            go_wp2_with (first
              | (at_builtin; refine Lib.wpList_append_run _ rfl _ _ _ _ rfl _ _ rfl rfl _ _ hr6 ?_)
              | fail)
            clear hr6
            go_wp2
            go_roundw
            case rel => exact ⟨k + 1, _, _, _, _, _, _, _, by omega, by go_num, by simp; omega, H6⟩
            case measure => simp [intOf]; omega
          · rw [hpo] at s4 hf4 hf5 ⊢
            have H6 : Hid (Held17 w w4 u7 cs ps p w.heap.size W adr' D' base lim Ls (k + 1)) := ⟨s4, hf5, C4, R4, HS3.out.cells, HS3.out.len, HS3.out.data⟩
            clear R4 s4 hf4 hf5 f4 c4 C4 hpo hlen x0 x1 x5 x5' e0 e1 e2 e3 e4 e5 hbj hzm
            go_wp2
            go_roundw
            case rel => exact ⟨k + 1, _, _, _, _, _, _, _, by omega, by go_num, by omega, H6⟩
            case measure => simp [intOf]; omega
        · -- what is told
          obtain ⟨Bp, qp, rfl, -, hBp, -⟩ := own_slice HS3.out.row
          go_wp2_with (fail)
          refine (sdue_any HS3.out.snd now).mono ?_
          rintro e w4 ⟨v, vs, rfl, hm, c4, s4⟩
          have H4 := Lib.hid ((HS3.out.turn (c4.mono (fun _ _ h => Lds.foot h)) s4 ⟨0, Nat.zero_le _, rfl, by simpa using dueOf_data now base Ls⟩).more)
          have HO := Lib.hid (fun i h => dueOf_at now base Ls HS3.out.snd.b1 i h)
          have hol : (dueOf now base Ls).1.length ≤ 64 := by
            have := HS3.out.snd.len
            have := HS3.out.snd.w32
            have := dueOut_length now base Ls
            unfold dueOf
            split
            · simp only; omega
            · simp
          generalize (dueOf now base Ls).1 = out at *
          obtain ⟨Bv, qv, rfl, -, hBv, -⟩ := own_slice hm.row
          have HM := Lib.hid hm
          clear hm c4 s4 x0 x1 x5 e0 e1 e2 e3 e4 e5 hb' hbj
          go_wp2_with (fail)
          go_loopw [12, 72] (fun l i wr2 => ∃ j : Nat, j ≤ out.length ∧ i = .int .i64 j ∧ l = .int .i64 (lastOf out j) ∧ Chg Pure' w4 wr2) (fun _ i _ => out.length - (intOf i).toNat)
          case atStart => exact ⟨0, Nat.zero_le _, rfl, rfl, Chg.refl _ _⟩
          case round =>
            obtain ⟨j, hj, rfl, rfl, hcj⟩ := hrel
            by_cases hjl : j < out.length
            · obtain ⟨o1, o2, o3, o4⟩ := HO.out j hjl
              obtain ⟨gv, rfl, -⟩ := hBv (by omega)
              have hvl : j < vs.length := by rw [HM.out.len]; exact hjl
              have hl0 := HM.out.loads j hjl hvl
              have cell := fun c (hc : c < 9) => (HM.out.row.cellAt (j * 9 + c) (by have := HM.out.len; omega)).trans (rowCells_at out vs j hjl hvl c hc)
              have hls := lastOf_succ out j hjl
              have HLS := Lib.hid hls
              generalize vs[j] = u at *
              generalize out[j] = oj at *
              obtain ⟨N, d⟩ := oj
              simp only at o1 o2 o3 o4 hl0 HLS
              have m0 := hcj.cell (cell 0 (by omega)) (fun h => h)
              have m1 := hcj.cell (cell 1 (by omega)) (fun h => h)
              have m2 := hcj.cell (cell 2 (by omega)) (fun h => h)
              have m3 := hcj.cell (cell 3 (by omega)) (fun h => h)
              have m4 := hcj.cell (cell 4 (by omega)) (fun h => h)
              have m5 := hcj.cell (cell 5 (by omega)) (fun h => h)
              have m6 := hcj.cell (cell 6 (by omega)) (fun h => h)
              have m7 := hcj.cell (cell 7 (by omega)) (fun h => h)
              have m8 := hcj.cell (cell 8 (by omega)) (fun h => h)
              simp only [msgCells, List.getElem?_cons_succ, List.getElem?_cons_zero] at m0 m1 m2 m3 m4 m5 m6 m7 m8
              rw [Nat.add_zero] at m0
              obtain ⟨Au, qu, rfl, -, hbu, -⟩ := Bytes.of_own hl0
              have lit := fun c => cellAt_alloc_lit wr #[.int .i64 1, .int .u64 0, .int .i64 0, .int .i64 (N : Nat), .int .i64 0, .int .u64 0, .int .i64 0, .int .i64 0, .slice Au d.length qu] 41 c
              have cb : Chg Pure' w4 (wr.alloc (.cells #[.int .i64 1, .int .u64 0, .int .i64 0, .int .i64 (N : Nat), .int .i64 0, .int .u64 0, .int .i64 0, .int .i64 0, .slice Au d.length qu] 41)) := hcj.alloc _
              have y0 : (wr.alloc (.cells #[.int .i64 1, .int .u64 0, .int .i64 0, .int .i64 (N : Nat), .int .i64 0, .int .u64 0, .int .i64 0, .int .i64 0, .slice Au d.length qu] 41)).cell? ⟨wr.heap.size, 0, none⟩ = some (.int .i64 1) := lit 0
              have y3 : (wr.alloc (.cells #[.int .i64 1, .int .u64 0, .int .i64 0, .int .i64 (N : Nat), .int .i64 0, .int .u64 0, .int .i64 0, .int .i64 0, .slice Au d.length qu] 41)).cell? ⟨wr.heap.size, 3, none⟩ = some (.int .i64 (N : Nat)) := lit 3
              have y8 : (wr.alloc (.cells #[.int .i64 1, .int .u64 0, .int .i64 0, .int .i64 (N : Nat), .int .i64 0, .int .u64 0, .int .i64 0, .int .i64 0, .slice Au d.length qu] 41)).cell? ⟨wr.heap.size, 8, none⟩ = some (.slice Au d.length qu) := lit 8
              have hpos : 0 < ps.length := by have := HS3.out.len; have := HS3.out.snd.b1; omega
              obtain ⟨gp, rfl, -⟩ := hBp hpos
              have hdat := HS3.out.data
              have hlen := HS3.out.len
              have hb1 := HS3.out.snd.b1
              have hN1 : N - 1 < ps.length := by omega
              have hps : ps[N - 1]'hN1 = d := by
                have h3 := o3
                rw [← HS3.out.data, List.getElem?_drop, show base - 1 + (N - base) = N - 1 from by omega, List.getElem?_eq_getElem hN1] at h3
                exact Option.some.inj h3
              obtain ⟨Ai, ni, ci, z1, z2⟩ := H4.out.cells (N - 1) hN1
              rw [hps] at z2
              have k1 := (own_keep H4.out.row cb (fun _ _ h => h)).cellAt (N - 1) (by omega)
              rw [z1] at k1
              have hnN : ((N : Nat) : Int) - 1 = ((N - 1 : Nat) : Int) := by omega
              have Hb := Lib.hid ((H4.out.snd.pure cb).pure (Chg.refl _ _).drew)
              have Hx := Lib.hid ((hbu.pure cb).drew)
              have Hy := Lib.hid (((z2.pure H4.out.chg).pure cb).drew)
              have cb9 := cb
              have i1 : ((lastOf out j : Nat) : Int) < ((N : Nat) : Int) := by omega
              have i2 : ((base : Nat) : Int) ≤ ((N : Nat) : Int) := by omega
              have i3 : ((N : Nat) : Int) ≤ ((ps.length : Nat) : Int) := by omega
              have i4 : ((N : Nat) : Int) ≤ 140737488351232 := by omega
              have i5 : ((N - 1 : Nat) : Int) < ((ps.length : Nat) : Int) := by omega
              have j1 : (((N : Nat) : Int) ≤ ((lastOf out j : Nat) : Int)) = False := eq_false (by omega)
              have j2 : (((N : Nat) : Int) < ((base : Nat) : Int)) = False := eq_false (by omega)
              have j3 : (((ps.length : Nat) : Int) < ((N : Nat) : Int)) = False := eq_false (by omega)
              have j4 : (N ≤ lastOf out j) = False := eq_false (by omega)
              have j5 : (N < base) = False := eq_false (by omega)
              have j6 : (ps.length < N) = False := eq_false (by omega)
              clear cell hps z1 z2 hdat hlen o3 lit hl0 hbu
              go_wp2_with (fail)
              generalize (wr.alloc (.cells #[.int .i64 1, .int .u64 0, .int .i64 0, .int .i64 (N : Nat), .int .i64 0, .int .u64 0, .int .i64 0, .int .i64 0, .slice Au d.length qu] 41)) = wa at *
              refine reg_begin (Pure') (by kernel_rfl) ?_
              refine reg_take 0 (v := ?_) rfl (by kernel_rfl) (by kernel_rfl) (by kernel_rfl) (fun _ _ _ h => h) (by kernel_rfl) ?_ ?_
              rotate_left
              · (intro w' hS; go_simp; (try go_bits); (try with_reducible rfl))
              try simp only [Act.put, List.getElem_toArray, List.getElem_cons_zero, List.getElem_cons_succ, List.setIfInBounds_toArray, List.set_cons_zero, List.set_cons_succ]
              refine reg_take 1 (v := ?_) rfl (by kernel_rfl) (by kernel_rfl) (by kernel_rfl) (fun _ _ _ h => h) (by kernel_rfl) ?_ ?_
              rotate_left
              · (intro w' hS; have hz := hS.cell (w := wa.drew) y0 (fun h => h); go_simp; (try go_bits); (try with_reducible rfl))
              try simp only [Act.put, List.getElem_toArray, List.getElem_cons_zero, List.getElem_cons_succ, List.setIfInBounds_toArray, List.set_cons_zero, List.set_cons_succ]
              refine reg_take 2 (v := ?_) rfl (by kernel_rfl) (by kernel_rfl) (by kernel_rfl) (fun _ _ _ h => h) (by kernel_rfl) ?_ ?_
              rotate_left
              · (intro w' hS; go_simp; (try go_bits); (try with_reducible rfl))
              try simp only [Act.put, List.getElem_toArray, List.getElem_cons_zero, List.getElem_cons_succ, List.setIfInBounds_toArray, List.set_cons_zero, List.set_cons_succ]
              refine reg_take 3 (v := ?_) rfl (by kernel_rfl) (by kernel_rfl) (by kernel_rfl) (fun _ _ _ h => h) (by kernel_rfl) ?_ ?_
              rotate_left
              · (intro w' hS; go_simp; (try go_bits); (try with_reducible rfl))
              try simp only [Act.put, List.getElem_toArray, List.getElem_cons_zero, List.getElem_cons_succ, List.setIfInBounds_toArray, List.set_cons_zero, List.set_cons_succ]
              refine reg_take 4 (v := ?_) rfl (by kernel_rfl) (by kernel_rfl) (by kernel_rfl) (fun _ _ _ h => h) (by kernel_rfl) ?_ ?_
              rotate_left
              · (intro w' hS; go_simp; (try go_bits); (try with_reducible rfl))
              try simp only [Act.put, List.getElem_toArray, List.getElem_cons_zero, List.getElem_cons_succ, List.setIfInBounds_toArray, List.set_cons_zero, List.set_cons_succ]
              refine reg_take 5 (v := ?_) rfl (by kernel_rfl) (by kernel_rfl) (by kernel_rfl) (fun _ _ _ h => h) (by kernel_rfl) ?_ ?_
              rotate_left
              · (intro w' hS; have hz := hS.cell (w := wa.drew) y3 (fun h => h); go_simp; (try go_bits); (try with_reducible rfl))
              try simp only [Act.put, List.getElem_toArray, List.getElem_cons_zero, List.getElem_cons_succ, List.setIfInBounds_toArray, List.set_cons_zero, List.set_cons_succ]
              refine reg_take 6 (v := ?_) rfl (by kernel_rfl) (by kernel_rfl) (by kernel_rfl) (fun _ _ _ h => h) (by kernel_rfl) ?_ ?_
              rotate_left
              · (intro w' hS; go_simp; (try go_bits); (try with_reducible rfl))
              try simp only [Act.put, List.getElem_toArray, List.getElem_cons_zero, List.getElem_cons_succ, List.setIfInBounds_toArray, List.set_cons_zero, List.set_cons_succ]
              refine reg_take 7 (v := ?_) rfl (by kernel_rfl) (by kernel_rfl) (by kernel_rfl) (fun _ _ _ h => h) (by kernel_rfl) ?_ ?_
              rotate_left
              · (intro w' hS; go_simp; (try go_bits); (try with_reducible rfl))
              try simp only [Act.put, List.getElem_toArray, List.getElem_cons_zero, List.getElem_cons_succ, List.setIfInBounds_toArray, List.set_cons_zero, List.set_cons_succ]
              refine reg_take 8 (v := ?_) rfl (by kernel_rfl) (by kernel_rfl) (by kernel_rfl) (fun _ _ _ h => h) (by kernel_rfl) ?_ ?_
              rotate_left
              · (intro w' hS; go_simp; (try go_bits); (try with_reducible rfl))
              try simp only [Act.put, List.getElem_toArray, List.getElem_cons_zero, List.getElem_cons_succ, List.setIfInBounds_toArray, List.set_cons_zero, List.set_cons_succ]
              refine reg_take 9 (v := ?_) rfl (by kernel_rfl) (by kernel_rfl) (by kernel_rfl) (fun _ _ _ h => h) (by kernel_rfl) ?_ ?_
              rotate_left
              · (intro w' hS; go_simp; (try go_bits); (try with_reducible rfl))
              try simp only [Act.put, List.getElem_toArray, List.getElem_cons_zero, List.getElem_cons_succ, List.setIfInBounds_toArray, List.set_cons_zero, List.set_cons_succ]
              refine reg_take 10 (v := ?_) rfl (by kernel_rfl) (by kernel_rfl) (by kernel_rfl) (fun _ _ _ h => h) (by kernel_rfl) ?_ ?_
              rotate_left
              · (intro w' hS; go_simp; (try go_bits); (try with_reducible rfl))
              try simp only [Act.put, List.getElem_toArray, List.getElem_cons_zero, List.getElem_cons_succ, List.setIfInBounds_toArray, List.set_cons_zero, List.set_cons_succ]
              refine reg_take 11 (v := ?_) rfl (by kernel_rfl) (by kernel_rfl) (by kernel_rfl) (fun _ _ _ h => h) (by kernel_rfl) ?_ ?_
              rotate_left
              · (intro w' hS; have hz := hS.cell (w := wa.drew) y3 (fun h => h); go_simp; (try go_bits); (try with_reducible rfl))
              try simp only [Act.put, List.getElem_toArray, List.getElem_cons_zero, List.getElem_cons_succ, List.setIfInBounds_toArray, List.set_cons_zero, List.set_cons_succ]
              refine reg_take 12 (v := ?_) rfl (by kernel_rfl) (by kernel_rfl) (by kernel_rfl) (fun _ _ _ h => h) (by kernel_rfl) ?_ ?_
              rotate_left
              · (intro w' hS; go_simp; (try go_bits); (try with_reducible rfl))
              try simp only [Act.put, List.getElem_toArray, List.getElem_cons_zero, List.getElem_cons_succ, List.setIfInBounds_toArray, List.set_cons_zero, List.set_cons_succ]
              refine reg_do 13 rfl (by kernel_rfl) (by kernel_rfl) ?_
              intro K hK
              go_simp
              refine (sbase_any Hb.out).mono ?_
              rintro e w' ⟨rfl, rfl⟩
              go_simp
              refine hK _ _ (Chg.refl _ _) ?_
              clear hK K
              try simp only [Act.put, List.getElem_toArray, List.getElem_cons_zero, List.getElem_cons_succ, List.setIfInBounds_toArray, List.set_cons_zero, List.set_cons_succ]
              refine reg_take 14 (v := ?_) rfl (by kernel_rfl) (by kernel_rfl) (by kernel_rfl) (fun _ _ _ h => h) (by kernel_rfl) ?_ ?_
              rotate_left
              · (intro w' hS; go_simp; (try go_bits); (try with_reducible rfl))
              try simp only [Act.put, List.getElem_toArray, List.getElem_cons_zero, List.getElem_cons_succ, List.setIfInBounds_toArray, List.set_cons_zero, List.set_cons_succ]
              refine reg_take 15 (v := ?_) rfl (by kernel_rfl) (by kernel_rfl) (by kernel_rfl) (fun _ _ _ h => h) (by kernel_rfl) ?_ ?_
              rotate_left
              · (intro w' hS; go_simp; (try go_bits); (try with_reducible rfl))
              try simp only [Act.put, List.getElem_toArray, List.getElem_cons_zero, List.getElem_cons_succ, List.setIfInBounds_toArray, List.set_cons_zero, List.set_cons_succ]
              refine reg_take 16 (v := ?_) rfl (by kernel_rfl) (by kernel_rfl) (by kernel_rfl) (fun _ _ _ h => h) (by kernel_rfl) ?_ ?_
              rotate_left
              · (intro w' hS; go_simp; (try go_bits); (try with_reducible rfl))
              try simp only [Act.put, List.getElem_toArray, List.getElem_cons_zero, List.getElem_cons_succ, List.setIfInBounds_toArray, List.set_cons_zero, List.set_cons_succ]
              refine reg_take 17 (v := ?_) rfl (by kernel_rfl) (by kernel_rfl) (by kernel_rfl) (fun _ _ _ h => h) (by kernel_rfl) ?_ ?_
              rotate_left
              · (intro w' hS; go_simp; (try go_bits); (try with_reducible rfl))
              try simp only [Act.put, List.getElem_toArray, List.getElem_cons_zero, List.getElem_cons_succ, List.setIfInBounds_toArray, List.set_cons_zero, List.set_cons_succ]
              refine reg_take 18 (v := ?_) rfl (by kernel_rfl) (by kernel_rfl) (by kernel_rfl) (fun _ _ _ h => h) (by kernel_rfl) ?_ ?_
              rotate_left
              · (intro w' hS; have hz := hS.cell (w := wa.drew) y3 (fun h => h); go_simp; (try go_bits); (try with_reducible rfl))
              try simp only [Act.put, List.getElem_toArray, List.getElem_cons_zero, List.getElem_cons_succ, List.setIfInBounds_toArray, List.set_cons_zero, List.set_cons_succ]
              refine reg_take 19 (v := ?_) rfl (by kernel_rfl) (by kernel_rfl) (by kernel_rfl) (fun _ _ _ h => h) (by kernel_rfl) ?_ ?_
              rotate_left
              · (intro w' hS; go_simp; (try go_bits); (try with_reducible rfl))
              try simp only [Act.put, List.getElem_toArray, List.getElem_cons_zero, List.getElem_cons_succ, List.setIfInBounds_toArray, List.set_cons_zero, List.set_cons_succ]
              refine reg_take 20 (v := ?_) rfl (by kernel_rfl) (by kernel_rfl) (by kernel_rfl) (fun _ _ _ h => h) (by kernel_rfl) ?_ ?_
              rotate_left
              · (intro w' hS; go_simp; (try go_bits); (try with_reducible rfl))
              try simp only [Act.put, List.getElem_toArray, List.getElem_cons_zero, List.getElem_cons_succ, List.setIfInBounds_toArray, List.set_cons_zero, List.set_cons_succ]
              refine reg_take 21 (v := ?_) rfl (by kernel_rfl) (by kernel_rfl) (by kernel_rfl) (fun _ _ _ h => h) (by kernel_rfl) ?_ ?_
              rotate_left
              · (intro w' hS; go_simp; (try go_bits); (try with_reducible rfl))
              try simp only [Act.put, List.getElem_toArray, List.getElem_cons_zero, List.getElem_cons_succ, List.setIfInBounds_toArray, List.set_cons_zero, List.set_cons_succ]
              refine reg_take 22 (v := ?_) rfl (by kernel_rfl) (by kernel_rfl) (by kernel_rfl) (fun _ _ _ h => h) (by kernel_rfl) ?_ ?_
              rotate_left
              · (intro w' hS; go_simp; (try go_bits); (try with_reducible rfl))
              try simp only [Act.put, List.getElem_toArray, List.getElem_cons_zero, List.getElem_cons_succ, List.setIfInBounds_toArray, List.set_cons_zero, List.set_cons_succ]
              refine reg_take 23 (v := ?_) rfl (by kernel_rfl) (by kernel_rfl) (by kernel_rfl) (fun _ _ _ h => h) (by kernel_rfl) ?_ ?_
              rotate_left
              · (intro w' hS; go_simp; (try go_bits); (try with_reducible rfl))
              try simp only [Act.put, List.getElem_toArray, List.getElem_cons_zero, List.getElem_cons_succ, List.setIfInBounds_toArray, List.set_cons_zero, List.set_cons_succ]
              refine reg_take 24 (v := ?_) rfl (by kernel_rfl) (by kernel_rfl) (by kernel_rfl) (fun _ _ _ h => h) (by kernel_rfl) ?_ ?_
              rotate_left
              · (intro w' hS; go_simp; (try go_bits); (try with_reducible rfl))
              try simp only [Act.put, List.getElem_toArray, List.getElem_cons_zero, List.getElem_cons_succ, List.setIfInBounds_toArray, List.set_cons_zero, List.set_cons_succ]
              refine reg_take 25 (v := ?_) rfl (by kernel_rfl) (by kernel_rfl) (by kernel_rfl) (fun _ _ _ h => h) (by kernel_rfl) ?_ ?_
              rotate_left
              · (intro w' hS; have hz := hS.cell (w := wa.drew) y8 (fun h => h); go_simp; (try go_bits); (try with_reducible rfl))
              try simp only [Act.put, List.getElem_toArray, List.getElem_cons_zero, List.getElem_cons_succ, List.setIfInBounds_toArray, List.set_cons_zero, List.set_cons_succ]
              refine reg_take 26 (v := ?_) rfl (by kernel_rfl) (by kernel_rfl) (by kernel_rfl) (fun _ _ _ h => h) (by kernel_rfl) ?_ ?_
              rotate_left
              · (intro w' hS; go_simp; (try go_bits); (try with_reducible rfl))
              try simp only [Act.put, List.getElem_toArray, List.getElem_cons_zero, List.getElem_cons_succ, List.setIfInBounds_toArray, List.set_cons_zero, List.set_cons_succ]
              refine reg_take 27 (v := ?_) rfl (by kernel_rfl) (by kernel_rfl) (by kernel_rfl) (fun _ _ _ h => h) (by kernel_rfl) ?_ ?_
              rotate_left
              · (intro w' hS; go_simp; (try go_bits); (try with_reducible rfl))
              try simp only [Act.put, List.getElem_toArray, List.getElem_cons_zero, List.getElem_cons_succ, List.setIfInBounds_toArray, List.set_cons_zero, List.set_cons_succ]
              refine reg_take 28 (v := ?_) rfl (by kernel_rfl) (by kernel_rfl) (by kernel_rfl) (fun _ _ _ h => h) (by kernel_rfl) ?_ ?_
              rotate_left
              · (intro w' hS; have hz := hS.cell (w := wa.drew) y3 (fun h => h); go_simp; (try go_bits); (try with_reducible rfl))
              try simp only [Act.put, List.getElem_toArray, List.getElem_cons_zero, List.getElem_cons_succ, List.setIfInBounds_toArray, List.set_cons_zero, List.set_cons_succ]
              refine reg_take 29 (v := ?_) rfl (by kernel_rfl) (by kernel_rfl) (by kernel_rfl) (fun _ _ _ h => h) (by kernel_rfl) ?_ ?_
              rotate_left
              · (intro w' hS; go_simp; (try go_bits); (try with_reducible rfl))
              try simp only [Act.put, List.getElem_toArray, List.getElem_cons_zero, List.getElem_cons_succ, List.setIfInBounds_toArray, List.set_cons_zero, List.set_cons_succ]
              refine reg_take 30 (v := ?_) rfl (by kernel_rfl) (by kernel_rfl) (by kernel_rfl) (fun _ _ _ h => h) (by kernel_rfl) ?_ ?_
              rotate_left
              · (intro w' hS; go_simp; (try go_bits); (try with_reducible rfl))
              try simp only [Act.put, List.getElem_toArray, List.getElem_cons_zero, List.getElem_cons_succ, List.setIfInBounds_toArray, List.set_cons_zero, List.set_cons_succ]
              refine reg_take 31 (v := ?_) rfl (by kernel_rfl) (by kernel_rfl) (by kernel_rfl) (fun _ _ _ h => h) (by kernel_rfl) ?_ ?_
              rotate_left
              · (intro w' hS; have hz := hS.cell (w := wa.drew) k1 (fun h => h); go_simp; (try go_bits); (try with_reducible rfl))
              try simp only [Act.put, List.getElem_toArray, List.getElem_cons_zero, List.getElem_cons_succ, List.setIfInBounds_toArray, List.set_cons_zero, List.set_cons_succ]
              refine reg_do 32 rfl (by kernel_rfl) (by kernel_rfl) ?_
              intro K hK
              go_simp
              refine (same_is true _ _ _ _ _ _ _ _ _ Hx.out Hy.out (by simp)).mono ?_
              rintro e w' ⟨rfl, rfl⟩
              go_simp
              refine hK _ _ (Chg.refl _ _) ?_
              clear hK K
              try simp only [Act.put, List.getElem_toArray, List.getElem_cons_zero, List.getElem_cons_succ, List.setIfInBounds_toArray, List.set_cons_zero, List.set_cons_succ]
              refine reg_take 33 (v := ?_) rfl (by kernel_rfl) (by kernel_rfl) (by kernel_rfl) (fun _ _ _ h => h) (by kernel_rfl) ?_ ?_
              rotate_left
              · (intro w' hS; go_simp; (try go_bits); (try with_reducible rfl))
              try simp only [Act.put, List.getElem_toArray, List.getElem_cons_zero, List.getElem_cons_succ, List.setIfInBounds_toArray, List.set_cons_zero, List.set_cons_succ]
              refine reg_take 34 (v := ?_) rfl (by kernel_rfl) (by kernel_rfl) (by kernel_rfl) (fun _ _ _ h => h) (by kernel_rfl) ?_ ?_
              rotate_left
              · (intro w' hS; go_simp; (try go_bits); (try with_reducible rfl))
              try simp only [Act.put, List.getElem_toArray, List.getElem_cons_zero, List.getElem_cons_succ, List.setIfInBounds_toArray, List.set_cons_zero, List.set_cons_succ]
              refine wpAnyH_done (by kernel_rfl) ?_ _
              go_wp2
              go_roundw
              case rel => exact ⟨j + 1, by omega, by go_num, by rw [HLS.out], cb9.drew⟩
              case measure => simp [intOf]; omega
            · have hcc := H4.out.pure hcj
              go_wp2
              go_roundw
              case rel => exact ⟨k + 1, _, _, _, _, _, _, _, by omega, by go_num, by omega, hcc⟩
              case measure => simp [intOf]; omega
        · clear x0 x1 x5
          go_wp2_with (fail)
          refine (held_plays HS3.out kind now nn credit m Aj nj cj hkd).mono ?_
          rintro e w4 ⟨rfl, base', lim', Ls', s4⟩
          go_wp2
          go_roundw
          case rel => exact ⟨k + 1, _, _, _, _, _, _, _, by omega, by go_num, by omega, Lib.hid s4.more⟩
          case measure => simp [intOf]; omega
      · go_wp2
        go_ret
        exact ⟨rfl, HS.out.chg⟩
end Go.Proofs.Ytlkpnhfdcljbfaa
