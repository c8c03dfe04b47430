/- Package sess, going on: Hear. -/
import Derived.Test.YtpfnphkgmjgmeaaSessJ
namespace Go.Proofs.Ytpfnphkgmjgmeaa
open Go Go.RowKit
set_option linter.unusedVariables false
set_option linter.unusedSimpArgs false

/-- What Hear answers, and what stands behind it. -/
def hearOf (T : Tb) (m : Mg) (now : Int) : Int × Tb :=
  if place (tickT T now).L m.token = -1 then (15, tickT T now)
  else if m.epoch < ((tickT T now).L.getD (place (tickT T now).L m.token).toNat ⟨0, 0, 0, 0⟩).epoch then (17, tickT T now)
  else if ((tickT T now).L.getD (place (tickT T now).L m.token).toNat ⟨0, 0, 0, 0⟩).epoch < m.epoch then (18, tickT T now)
  else if m.kind = 7 then closeOf { tickT T now with L := (tickT T now).L.set (place (tickT T now).L m.token).toNat { (tickT T now).L.getD (place (tickT T now).L m.token).toNat ⟨0, 0, 0, 0⟩ with last := (tickT T now).now } } m.token now
  else (0, { tickT T now with L := (tickT T now).L.set (place (tickT T now).L m.token).toNat { (tickT T now).L.getD (place (tickT T now).L m.token).toNat ⟨0, 0, 0, 0⟩ with last := (tickT T now).now } })
theorem set1 {w : World} {a : Nat} {x : Se} (h : SeAt w a x) (N : Int) : ∃ w5, w5 = w.setCell ⟨a, 3, none⟩ (.int .i64 N) ∧ Chg (fun k => k = a) w w5 ∧ SeAt w5 a { x with last := N } := by
  obtain ⟨cs, b1, b2⟩ := h.blk
  refine ⟨_, rfl, Chg.setCell (S := fun k => k = a) (Chg.refl _ w) (p := ⟨a, 3, none⟩) (.inr rfl) _, ⟨_, heap_setCell_same _ a 3 _ _ _ b1, by simpa using b2⟩, ?_, ?_, ?_, ?_⟩
  · rw [set_far (by omega)]; exact h.c0
  · rw [set_far (by omega)]; exact h.c1
  · rw [set_far (by omega)]; exact h.c2
  · exact set_at h.c3
set_option maxHeartbeats 4000000 in
theorem hear_of {w : World} {p ub : Nat} {bs : List Nat} {v : Value} {T : Tb} {cnt : Nat} (h : TabOf w p ub bs v T cnt) (m : Mg) (now : Int) :
    Calls Try.prog 18 #[.pointer (some ⟨p, 0, none⟩), m.val, .int .i64 now] w fun e w' => e = .returned (.int .i64 (hearOf T m now).1) ∧ Chg (TFoot p ub bs v) w w' ∧
      ∃ bs' v', TabOf w' p ub bs' v' (hearOf T m now).2 cnt ∧ ∀ k, TFoot p ub bs' v' k → TFoot p ub bs v k := by
  obtain ⟨mk, mt, me, ms, ma, mb, mc, mf, mA, mn, mq⟩ := m
  have HF := Lib.hid (fun k (hk : TFoot p ub bs v k) => h.flt hk)
  have c1 : Chg Pure' w (w.alloc (.cells #[.int .i64 mk, .int .u64 (mt.toNat : Int), .int .i64 me, .int .i64 ms, .int .i64 ma, .int .u64 (mb.toNat : Int), .int .i64 mc, .int .i64 mf, .slice mA mn mq] 32)) := (Chg.refl _ w).alloc _
  have l0 : (w.alloc (.cells #[.int .i64 mk, .int .u64 (mt.toNat : Int), .int .i64 me, .int .i64 ms, .int .i64 ma, .int .u64 (mb.toNat : Int), .int .i64 mc, .int .i64 mf, .slice mA mn mq] 32)).cell? ⟨w.heap.size, 0, none⟩ = some (.int .i64 mk) := cellAt_alloc_lit w _ _ 0
  have l1 : (w.alloc (.cells #[.int .i64 mk, .int .u64 (mt.toNat : Int), .int .i64 me, .int .i64 ms, .int .i64 ma, .int .u64 (mb.toNat : Int), .int .i64 mc, .int .i64 mf, .slice mA mn mq] 32)).cell? ⟨w.heap.size, 1, none⟩ = some (.int .u64 (mt.toNat : Int)) := cellAt_alloc_lit w _ _ 1
  have l2 : (w.alloc (.cells #[.int .i64 mk, .int .u64 (mt.toNat : Int), .int .i64 me, .int .i64 ms, .int .i64 ma, .int .u64 (mb.toNat : Int), .int .i64 mc, .int .i64 mf, .slice mA mn mq] 32)).cell? ⟨w.heap.size, 2, none⟩ = some (.int .i64 me) := cellAt_alloc_lit w _ _ 2
  have H2 := Lib.hid (h.pure c1)
  clear h
  rw [show (Mg.val ⟨mk, mt, me, ms, ma, mb, mc, mf, mA, mn, mq⟩) = .agg #[.int .i64 mk, .int .u64 (mt.toNat : Int), .int .i64 me, .int .i64 ms, .int .i64 ma, .int .u64 (mb.toNat : Int), .int .i64 mc, .int .i64 mf, .slice mA mn mq] from rfl]
  obtain ⟨M, hM⟩ : ∃ M : Mg, (⟨mk, mt, me, ms, ma, mb, mc, mf, mA, mn, mq⟩ : Mg) = M := ⟨_, rfl⟩
  rw [hM]
  have HMM := Lib.hid hM
  clear hM
  go_enter Try.func18, Try.ntmps18
  go_wp2_with (fail)
  generalize (w.alloc (.cells #[.int .i64 mk, .int .u64 (mt.toNat : Int), .int .i64 me, .int .i64 ms, .int .i64 ma, .int .u64 (mb.toNat : Int), .int .i64 mc, .int .i64 mf, .slice mA mn mq] 32)) = w2 at *
  refine (tok_any H2.out).mono ?_
  rintro e w' ⟨rfl, rfl⟩
  go_wp2_with (fail)
  refine (tick_of H2.out now).mono ?_
  rintro e w3 ⟨ve, rfl, hve, c3, bs3, v3, h3, hf3⟩
  obtain ⟨Be, qe, rfl, -, -, -⟩ := own_slice hve
  have nt : ¬ TFoot p ub bs v w.heap.size := fun e => by have := HF.out _ e; omega
  have y0 := c3.cell l0 nt
  have y1 := c3.cell l1 nt
  have y2 := c3.cell l2 nt
  have C3 := (c1.of_pure).trans' c3
  have H3 := Lib.hid h3
  have hfl3 := Lib.hid hf3
  clear l0 l1 l2 c3 h3 hf3 hve c1
  go_wp2_with (fail)
  refine (again_any H3.out mt).mono ?_
  rintro e w4 ⟨c4, ⟨hp, rfl⟩ | ⟨i, hib, hp, hi, rfl⟩⟩
  · have hR : hearOf T M now = (15, tickT T now) := by
      rw [← HMM.out]; unfold hearOf; rw [if_pos hp]
    have HR := Lib.hid hR
    clear hR hp
    go_wp2
    go_ret
    exact ⟨by rw [HR.out]; rfl, C3.pure c4, bs3, _, by rw [HR.out]; exact H3.out.pure c4, hfl3.out⟩
  · have y0 := c4.cell y0 (fun h => h)
    have y1 := c4.cell y1 (fun h => h)
    have y2 := c4.cell y2 (fun h => h)
    have h4 := H3.out.pure c4
    have C4 := C3.pure c4
    obtain ⟨a, ha⟩ : ∃ a, bs3[i] = a := ⟨_, rfl⟩
    have hse := h4.ses i hib hi
    rw [ha] at hse
    have hmem : a ∈ bs3 := by rw [← ha]; exact List.getElem_mem hib
    have hfa := hfl3.out a (.inr (.inr (.inl hmem)))
    have hma : w.heap.size ≠ a := fun e => by have := HF.out a hfa; omega
    have hpa : p ≠ a := fun e => (h4.ap _ hmem).1 e.symm
    have hep := h4.ep _ (List.getElem_mem hi)
    have hN := h4.n0
    have n4 := h4.c2
    obtain ⟨x, hx⟩ : ∃ x, (tickT T now).L[i] = x := ⟨_, rfl⟩
    have hgd : (tickT T now).L.getD (place (tickT T now).L mt).toNat ⟨0, 0, 0, 0⟩ = x := by
      rw [hp, Int.toNat_natCast, List.getD_eq_getElem?_getD, List.getElem?_eq_getElem hi, hx]; rfl
    have hR : hearOf T M now = if me < x.epoch then (17, tickT T now) else if x.epoch < me then (18, tickT T now) else if mk = 7 then closeOf { tickT T now with L := (tickT T now).L.set i { x with last := (tickT T now).now } } mt now
        else (0, { tickT T now with L := (tickT T now).L.set i { x with last := (tickT T now).now } }) := by
      rw [← HMM.out]; unfold hearOf
      rw [if_neg (fun e => by rw [hp] at e; omega)]
      simp only [hgd]
      rw [hp, Int.toNat_natCast]
    rw [hx] at hse hep
    have HR := Lib.hid hR
    have HA := Lib.hid ha
    have H4 := Lib.hid h4
    have HIB := Lib.hid hib
    have z1 := hse.c1
    rw [ha]
    clear ha hx h4 c4 hp C3 H3 hR hgd
    by_cases hlt : me < x.epoch
    · have i1 : (me < x.epoch) = True := eq_true hlt
      have HL := Lib.hid hlt
      clear hlt
      go_wp2_with (fail)
      go_quiet (fail)
      go_wp2
      go_ret
      exact ⟨by rw [HR.out, if_pos HL.out]; rfl, C4.drewN _, bs3, _, by rw [HR.out, if_pos HL.out]; exact H4.out.pure ((Chg.refl _ _).drewN _), hfl3.out⟩
    · have i1 : (me < x.epoch) = False := eq_false hlt
      have HL := Lib.hid hlt
      clear hlt
      by_cases hgt : x.epoch < me
      · have i2 : (x.epoch < me) = True := eq_true hgt
        have HG := Lib.hid hgt
        clear hgt
        go_wp2_with (fail)
        go_quiet (fail)
        go_wp2_with (fail)
        go_quiet (fail)
        go_wp2
        go_ret
        exact ⟨by rw [HR.out, if_neg (by have := HL.out; omega), if_pos HG.out]; rfl, (C4.drewN _).drewN _, bs3, _, by rw [HR.out, if_neg (by have := HL.out; omega), if_pos HG.out]; exact H4.out.pure (((Chg.refl _ _).drewN _).drewN _), hfl3.out⟩
      · have i2 : (x.epoch < me) = False := eq_false hgt
        have HG := Lib.hid hgt
        clear hgt
        rw [if_neg (by have := HL.out; omega), if_neg (by have := HG.out; omega)] at HR
        go_wp2_with (fail)
        go_quiet (fail)
        have Cd : Chg Pure' w4 (w4.drewN nq) := (Chg.refl _ w4).drewN nq
        generalize w4.drewN nq = w5 at *
        have y2 := Cd.cell y2 (fun h => h)
        have z1 := Cd.cell z1 (fun h => h)
        go_wp2_with (fail)
        go_quiet (fail)
        have Ce : Chg Pure' w4 (w5.drewN nq) := Cd.drewN nq
        generalize w5.drewN nq = w6 at *
        have H6 := Lib.hid (H4.out.pure Ce)
        have C6 := C4.pure Ce
        have hs6 := hse.frame Ce (fun h => h)
        have y0 := Ce.cell y0 (fun h => h)
        have y1 := Ce.cell y1 (fun h => h)
        have n6 := Ce.cell n4 (fun h => h)
        have z3 := hs6.c3
        have zf : w6.frozen? ⟨a, 3, none⟩ = false := by obtain ⟨cs, b1, _⟩ := hs6.blk; exact free_at b1
        obtain ⟨w7, e7, c7, hs7⟩ := set1 hs6 (tickT T now).now
        have H7 := Lib.hid (H6.out.seset HIB.out { x with last := (tickT T now).now } (by rw [HA.out]; exact c7) (by rw [HA.out]; exact hs7) (cnt' := cnt) ⟨hep.1, hep.2.1, hN.1, hN.2⟩ (Nat.le_refl _))
        have C7 : Chg (TFoot p ub bs v) w w7 := C6.trans c7 (fun j hj e => by rw [show j = a from e]; exact hfa)
        have y0 := c7.cell y0 hma
        have y1 := c7.cell y1 hma
        have E7 := Lib.hid e7
        clear e7 hs6 hs7 z1 y2 Cd Ce hse n4 C4 C6 c7 H4
        rw [E7.out] at y0 y1
        by_cases hk7 : mk = 7
        · have i3 : (mk == 7) = true := by rw [beq_iff_eq]; exact hk7
          have HK := Lib.hid hk7
          clear hk7
          rw [if_pos HK.out] at HR
          go_wp2_with (fail)
          rw [← E7.out]
          refine (close_of H7.out mt now).mono ?_
          rintro e w8 ⟨rfl, c8, bs8, v8, h8, f8⟩
          have H8 := Lib.hid h8
          have C8 := C7.trans c8 (fun j hj e => hfl3.out j e)
          clear h8 c8
          go_wp2
          go_ret
          exact ⟨by rw [HR.out]; rfl, C8, bs8, v8, by rw [HR.out]; exact H8.out, fun k hk => hfl3.out k (f8 k hk)⟩
        · have i3 : (mk == 7) = false := by rw [beq_eq_false_iff_ne]; exact hk7
          have HK := Lib.hid hk7
          clear hk7
          rw [if_neg HK.out] at HR
          go_wp2_with (fail)
          rw [← E7.out]
          go_ret
          exact ⟨by rw [HR.out]; rfl, C7, bs3, _, by rw [HR.out]; exact H7.out, hfl3.out⟩
end Go.Proofs.Ytpfnphkgmjgmeaa
