/- Package gantlineref20: Hear. -/
import Derived.Test.YtpfnphkgmjgmeaaSessO
import Derived.StillTailTactics
namespace Go.Proofs.Ytpfnphkgmjgmeaa
open Go Go.RowKit
set_option linter.unusedVariables false
set_option linter.unusedSimpArgs false

theorem tick_again (T : Tb) (now : Int) (L : List Se) (hL : ∀ x ∈ L, overB (tickNow T now) T.idle x = false) : tickT { tickT T now with L := L } now = { tickT T now with L := L } := by
  have e1 : tickNow { tickT T now with L := L } now = tickNow T now := by
    unfold tickNow tickT tickNow
    simp only
    split <;> omega
  unfold tickT at *
  simp only at e1 ⊢
  rw [e1]
  congr 1
  rw [List.filter_eq_self]
  intro x hx
  rw [hL x hx]
  rfl
theorem hear_close {T : Tb} {now : Int} {tk : UInt64} {i : Nat} {x : Se} (hi : (tickT T now).L[i]? = some x) (hp : place (tickT T now).L tk = i) :
    closeOf { tickT T now with L := (tickT T now).L.set i { x with last := (tickT T now).now } } tk now = (0, { tickT T now with L := (tickT T now).L.eraseIdx i }) := by
  obtain ⟨hil, hx⟩ := List.getElem?_eq_some_iff.1 hi
  have hle : ∀ y ∈ (tickT T now).L.set i { x with last := (tickT T now).now }, overB (tickNow T now) T.idle y = false := by
    intro y hy
    rcases List.mem_or_eq_of_mem_set hy with hy | rfl
    · have := (List.mem_filter.1 hy).2
      simpa using this
    · unfold overB tickT
      simp only
      rw [decide_eq_false_iff_not]
      omega
  have hpl : place ((tickT T now).L.set i { x with last := (tickT T now).now }) tk = i := by
    rcases place_ge (tickT T now).L tk with h | ⟨j, hj, h, h1, h2⟩
    · rw [hp] at h; omega
    · obtain rfl : j = i := by rw [hp] at h; omega
      refine place_at (by simpa using hj) (by rw [List.getElem_set_self]; rw [hx] at h1; exact h1) (fun k hk => ?_)
      rw [List.getElem_set_ne (by omega)]
      exact h2 k hk
  unfold closeOf
  rw [tick_again T now _ hle]
  simp only
  rw [hpl, if_neg (by omega), Int.toNat_natCast, List.eraseIdx_set_eq]
theorem getD_at {L : List Se} {i : Nat} (hi : i < L.length) (z : Se) : L.getD i z = L[i] := by
  rw [List.getD_eq_getElem?_getD, List.getElem?_eq_getElem hi]; rfl
/-- A session's last is set. -/
theorem RTab.setLast {w w' : World} {B p q m g : Nat} {T : Tb} {us : List UInt64} {vU : Value} (h : RTab w B p T us (.slice (some ⟨g, 0, none⟩) m q) vU) {i : Nat} (hi : i < T.L.length) (n : Int) (hn : 0 ≤ n ∧ n ≤ 1099511627776) (e : w' = w.setCell ⟨g, i * 4 + 3, none⟩ (.int .i64 n)) :
    RTab w' B p { T with L := T.L.set i { T.L[i]'hi with last := n } } us (.slice (some ⟨g, 0, none⟩) m q) vU ∧ Chg (fun k => k = g) w w' := by
  subst e
  have c : Chg (fun k => k = g) w (w.setCell ⟨g, i * 4 + 3, none⟩ (.int .i64 n)) := Chg.setCell (S := fun k => k = g) (Chg.refl _ w) (p := ⟨g, i * 4 + 3, none⟩) (.inr rfl) _
  have hg := (h.rowL.lt g rfl).1
  have hpB := h.pB
  have hmL : m = T.L.length := by
    rcases h.rowL.2 with ⟨h', -⟩ | ⟨g', cap, cur, h', -⟩
    · cases h'
    · cases h'; rfl
  have hU : ∀ k, vU.ownBlock = some k → ¬ k = g := by
    rintro k hk rfl
    exact own_far h.rowU h.rowL (by decide) hk rfl
  subst hmL
  obtain ⟨ho, -⟩ := h.rowL.stored (i * 4 + 3) (.int .i64 n)
  rw [rowCells_set3 T.L i n hi] at ho
  have hpg : ¬ p = g := by omega
  refine ⟨⟨?_, c.cell h.c0 hpg, c.cell h.c1 hpg, c.cell h.c2 hpg, c.cell h.c3 hpg, c.cell h.c4 hpg, ?_, own_keep h.rowU c hU, h.uu, h.pB, h.n0, h.i2, by simpa using h.l64, h.m64, h.ul, ?_⟩, c⟩
  · obtain ⟨cs, b1⟩ := h.blk
    exact ⟨cs, (c.block p h.plt hpg).trans b1⟩
  · simp only [List.length_set]
    exact ho
  · intro x hx
    rcases List.mem_or_eq_of_mem_set hx with hx | rfl
    · exact h.ep x hx
    · have := h.ep _ (List.getElem_mem hi)
      exact ⟨this.1, this.2.1, hn⟩
set_option maxRecDepth 100000 in
set_option maxHeartbeats 4000000 in
theorem rhear_any {w : World} {B p : Nat} {T : Tb} {us : List UInt64} {vL vU : Value} (h : RTab w B p T us vL vU) (hB : B ≤ w.heap.size) (m : Mg) (now : Int) :
    Calls Try.prog 19 #[.pointer (some ⟨p, 0, none⟩), m.val, .int .i64 now] w (rcallPost w B p vU (hearOf T m now).2 us (.int .i64 (hearOf T m now).1)) := by
  obtain ⟨mk, mt, me, ms, ma, mb, mc, mf, mA, mn, mq⟩ := m
  have hplt := h.plt
  have c1 : Chg Pure' w (w.alloc (.cells #[.int .i64 mk, .int .u64 (mt.toNat : Int), .int .i64 me, .int .i64 ms, .int .i64 ma, .int .u64 (mb.toNat : Int), .int .i64 mc, .int .i64 mf, .slice mA mn mq] 32)) := (Chg.refl _ w).alloc _
  have l0 : (w.alloc (.cells #[.int .i64 mk, .int .u64 (mt.toNat : Int), .int .i64 me, .int .i64 ms, .int .i64 ma, .int .u64 (mb.toNat : Int), .int .i64 mc, .int .i64 mf, .slice mA mn mq] 32)).cell? ⟨w.heap.size, 0, none⟩ = some (.int .i64 mk) := cellAt_alloc_lit w _ _ 0
  have l1 : (w.alloc (.cells #[.int .i64 mk, .int .u64 (mt.toNat : Int), .int .i64 me, .int .i64 ms, .int .i64 ma, .int .u64 (mb.toNat : Int), .int .i64 mc, .int .i64 mf, .slice mA mn mq] 32)).cell? ⟨w.heap.size, 1, none⟩ = some (.int .u64 (mt.toNat : Int)) := cellAt_alloc_lit w _ _ 1
  have l2 : (w.alloc (.cells #[.int .i64 mk, .int .u64 (mt.toNat : Int), .int .i64 me, .int .i64 ms, .int .i64 ma, .int .u64 (mb.toNat : Int), .int .i64 mc, .int .i64 mf, .slice mA mn mq] 32)).cell? ⟨w.heap.size, 2, none⟩ = some (.int .i64 me) := cellAt_alloc_lit w _ _ 2
  have hvU := Lib.hid (fun k hk => (h.rowU.lt k hk).1)
  have H2 := Lib.hid (h.pure c1)
  clear h
  rw [show (Mg.val ⟨mk, mt, me, ms, ma, mb, mc, mf, mA, mn, mq⟩) = .agg #[.int .i64 mk, .int .u64 (mt.toNat : Int), .int .i64 me, .int .i64 ms, .int .i64 ma, .int .u64 (mb.toNat : Int), .int .i64 mc, .int .i64 mf, .slice mA mn mq] from rfl]
  obtain ⟨M, hM⟩ : ∃ M : Mg, (⟨mk, mt, me, ms, ma, mb, mc, mf, mA, mn, mq⟩ : Mg) = M := ⟨_, rfl⟩
  rw [hM]
  have HMM := Lib.hid hM
  clear hM
  have hz1 : w.heap.size + 1 ≤ (w.alloc (.cells #[.int .i64 mk, .int .u64 (mt.toNat : Int), .int .i64 me, .int .i64 ms, .int .i64 ma, .int .u64 (mb.toNat : Int), .int .i64 mc, .int .i64 mf, .slice mA mn mq] 32)).heap.size := by simp
  go_enter Try.func19, Try.ntmps19
  go_wp2_with (fail)
  generalize (w.alloc (.cells #[.int .i64 mk, .int .u64 (mt.toNat : Int), .int .i64 me, .int .i64 ms, .int .i64 ma, .int .u64 (mb.toNat : Int), .int .i64 mc, .int .i64 mf, .slice mA mn mq] 32)) = w2 at *
  refine (rtick_any H2.out (by omega) now).mono ?_
  rintro e w3 ⟨ve, vL3, rfl, hve, h3, hv3, c3⟩
  obtain ⟨Be, qe, rfl, -, -, -⟩ := own_slice hve
  have y0 := c3.cell l0 (fun e => by simp only at e; omega)
  have y1 := c3.cell l1 (fun e => by simp only at e; omega)
  have y2 := c3.cell l2 (fun e => by simp only at e; omega)
  have C3 : Chg (fun k => k = p) w w3 := (c1.of_pure).trans' c3
  have hz3 := C3.size
  have hpl := rplace_any h3 mt
  have H3 := Lib.hid h3
  have HV3 : Hid (∀ k, vL3.ownBlock = some k → w.heap.size + 1 ≤ k) := Lib.hid (fun k hk => by have := hv3 k hk; omega)
  clear l0 l1 l2 c3 h3 hv3 hve c1 H2
  rcases place_ge (tickT T now).L mt with hp | ⟨i, hi, hp, -⟩
  · have hR : hearOf T M now = (15, tickT T now) := by
      rw [← HMM.out]; unfold hearOf; rw [if_pos hp]
    have HR := Lib.hid hR
    rw [hp] at hpl
    have HP := Lib.hid hpl
    clear hR hp hpl
    go_wp2_with (fail)
    refine HP.out.mono ?_
    rintro e w4 ⟨rfl, rfl⟩
    go_wp2
    go_ret
    rw [HR.out]
    exact ⟨vL3, vU, rfl, H3.out, fun k hk => hk.imp id (fun h => by have := HV3.out k h; omega), fun k hk => .inl hk, C3⟩
  · rw [hp] at hpl
    have HP := Lib.hid hpl
    have hR : hearOf T M now = if me < ((tickT T now).L[i]).epoch then (17, tickT T now) else if ((tickT T now).L[i]).epoch < me then (18, tickT T now)
        else if mk = 7 then (0, { tickT T now with L := (tickT T now).L.eraseIdx i }) else (0, { tickT T now with L := (tickT T now).L.set i { (tickT T now).L[i] with last := (tickT T now).now } }) := by
      rw [← HMM.out]; unfold hearOf
      simp only
      rw [if_neg (by rw [hp]; omega), hp, Int.toNat_natCast, getD_at hi, hear_close (x := (tickT T now).L[i]) (List.getElem?_eq_getElem hi) hp]
    have HR := Lib.hid hR
    obtain ⟨A, q, rfl, hq⟩ := H3.out.val
    have h3' := H3.out.c3
    have h2' := H3.out.c2
    have hn0 := H3.out.n0
    have hl64 := H3.out.l64
    obtain ⟨g, rfl, hgB, -, -, x0, x1, x2, x3, hfr⟩ := H3.out.at' hi
    have hepx := H3.out.ep _ (List.getElem_mem hi)
    have hfr3 := hfr (i * 4 + 3)
    have t1 : (i : Int) < ((tickT T now).L.length : Int) := by omega
    have t2 : i ≤ 64 := by omega
    have hgw := HV3.out g rfl
    have HSL := Lib.hid (fun w9 (e : w9 = (w3.setCell ⟨g, i * 4 + 3, none⟩ (.int .i64 (tickT T now).now))) => H3.out.setLast hi (tickT T now).now hn0 e)
    have HI := Lib.hid hi
    clear hR hp hpl hfr x0 x2
    obtain ⟨N1, hN1⟩ : ∃ n, (tickT T now).now = n := ⟨_, rfl⟩
    have HN1 := Lib.hid hN1
    rw [hN1] at h2' hn0
    generalize hx : (tickT T now).L[i] = x at HR x1 x3 hepx HSL
    obtain ⟨Ln, hLn⟩ : ∃ n, (tickT T now).L.length = n := ⟨_, rfl⟩
    have HLn := Lib.hid hLn
    rw [hLn] at h3' t1 hl64 hq
    have HX := Lib.hid hx
    clear hx hN1 hLn hi
    go_wp2_with (fail)
    refine HP.out.mono ?_
    rintro e w4 ⟨rfl, rfl⟩
    by_cases ho : me < x.epoch
    · have d1 : decide (me < x.epoch) = true := by simpa using ho
      rw [if_pos ho] at HR
      go_wp2_with (fail)
      go_quiet (fail)
      go_wp2
      go_ret
      rw [HR.out]
      exact ⟨_, vU, rfl, H3.out.pure ((Chg.refl _ _).drewN _), fun k hk => hk.imp id (fun h => by have := HV3.out k h; omega), fun k hk => .inl hk, C3.drewN _⟩
    · have d1 : decide (me < x.epoch) = false := by simpa using ho
      rw [if_neg ho] at HR
      by_cases ho2 : x.epoch < me
      · have d2 : decide (x.epoch < me) = true := by simpa using ho2
        rw [if_pos ho2] at HR
        go_wp2_with (fail)
        go_quiet (fail)
        have cd := (Chg.refl Pure' w3).drewN nq
        have y0 := cd.cell y0 (fun h => h)
        have y2 := cd.cell y2 (fun h => h)
        have h3' := cd.cell h3' (fun h => h)
        have x1 := cd.cell x1 (fun h => h)
        have H5 := Lib.hid (H3.out.pure cd)
        have C5 := C3.pure cd
        generalize w3.drewN nq = w5 at *
        go_wp2_with (fail)
        go_quiet (fail)
        go_wp2
        go_ret
        rw [HR.out]
        exact ⟨_, vU, rfl, H5.out.pure ((Chg.refl _ _).drewN _), fun k hk => hk.imp id (fun h => by have := HV3.out k h; omega), fun k hk => .inl hk, C5.drewN _⟩
      · have d2 : decide (x.epoch < me) = false := by simpa using ho2
        rw [if_neg ho2] at HR
        go_wp2_with (fail)
        go_quiet (fail)
        have cd := (Chg.refl Pure' w3).drewN nq
        have y0 := cd.cell y0 (fun h => h)
        have y2 := cd.cell y2 (fun h => h)
        have h3' := cd.cell h3' (fun h => h)
        have h2' := cd.cell h2' (fun h => h)
        have x1 := cd.cell x1 (fun h => h)
        have x3' := cd.cell x3 (fun h => h)
        have hfr3 := (cd.frozen x3 (fun h => h)).trans hfr3
        have H5 := Lib.hid (H3.out.pure cd)
        have C5 := C3.pure cd
        have hz5 : w.heap.size ≤ (w3.drewN nq).heap.size := C5.size
        clear x3 cd HSL
        generalize w3.drewN nq = w5 at *
        go_wp2_with (fail)
        go_quiet (fail)
        have cd := (Chg.refl Pure' w5).drewN nq
        have y0 := cd.cell y0 (fun h => h)
        have h3' := cd.cell h3' (fun h => h)
        have h2' := cd.cell h2' (fun h => h)
        have x3 := cd.cell x3' (fun h => h)
        have hfr3 := (cd.frozen x3' (fun h => h)).trans hfr3
        have H6 := Lib.hid (H5.out.pure cd)
        have C6 := C5.pure cd
        clear x3' cd H5 C5 y2 x1
        generalize w5.drewN nq = w6 at *
        go_wp2_with (fail)
        refine wp_region_still_tail 11 (by kernel_rfl) (by kernel_rfl) ?_
        simp only [List.take_succ_cons, List.take_zero, List.drop_succ_cons, List.drop_zero]
        change wpStill _ _ w6.drew _ _ _
        repeat still_step
        try refine wpStill_nil ?_
        change wpList _ _ _ _ _ w6.drew
        have cd := (Chg.refl Pure' w6).drew
        have y0 := cd.cell y0 (fun h => h)
        have h3' := cd.cell h3' (fun h => h)
        have h2' := cd.cell h2' (fun h => h)
        have x3 := cd.cell x3 (fun h => h)
        have hfr3 : w6.drew.frozen? ⟨g, i * 4 + 3, none⟩ = false := hfr3
        have H7 := H6.out.pure cd
        have C7 := C6.pure cd
        clear cd H6 C6
        generalize w6.drew = w7 at *
        obtain ⟨H8, c8⟩ := H7.setLast HI.out (tickT T now).now H7.n0 (w' := w7.setCell ⟨g, i * 4 + 3, none⟩ (.int .i64 N1)) (by rw [HN1.out])
        have e8 : (tickT T now).L[i]'HI.out = x := HX.out
        rw [e8] at H8
        have hpg : p < g := by have := H7.pB; omega
        have C8 : Chg (fun k => k = p) w (w7.setCell ⟨g, i * 4 + 3, none⟩ (.int .i64 N1)) := C7.trans c8 (fun k hk e => by omega)
        have hz8 := C8.size
        have H8 := Lib.hid H8
        have C8 := Lib.hid C8
        have hgm : ¬ w.heap.size = g := by omega
        have y0 := c8.cell y0 hgm
        clear c8 H7 C7 hgm
        by_cases hk7 : mk = 7
        · have e7 : (mk == 7) = true := by rw [beq_iff_eq]; exact hk7
          rw [if_pos hk7] at HR
          clear hk7
          go_wp2_with (fail)
          generalize w7.setCell ⟨g, i * 4 + 3, none⟩ (.int .i64 N1) = w8 at *
          refine (rgoes_any H8.out (by omega) i (by simp only [List.length_set]; exact HI.out)).mono ?_
          rintro e w9 ⟨vL9, rfl, h9, hv9, c9⟩
          simp only at h9
          rw [List.eraseIdx_set_eq] at h9
          have H9 := Lib.hid h9
          have HV9 := Lib.hid hv9
          clear h9 hv9
          go_wp2
          go_ret
          rw [HR.out]
          exact ⟨vL9, vU, rfl, H9.out, fun k hk => hk.imp id (fun h => by have := HV9.out k h; omega), fun k hk => .inl hk, C8.out.trans' c9⟩
        · have e7 : (mk == 7) = false := by rw [beq_eq_false_iff_ne]; exact hk7
          rw [if_neg hk7] at HR
          clear hk7
          go_wp2_with (fail)
          go_ret
          rw [HR.out]
          exact ⟨_, vU, rfl, H8.out, fun k hk => hk.imp id (fun h => by have := HV3.out k h; omega), fun k hk => .inl hk, C8.out⟩
end Go.Proofs.Ytpfnphkgmjgmeaa
