/- Package gantlineref03: At. -/
import Derived.Test.YtnpkpfcljkekfaaFrameH
namespace Go.Proofs.Ytnpkpfcljkekfaa
open Go Go.RowKit
set_option linter.unusedVariables false
set_option maxRecDepth 100000
set_option linter.unusedSimpArgs false

/-- What At tells. -/
def atPost (w : World) (xs : List UInt8) (e : Ending) (w' : World) : Prop :=
  Chg Pure' w w' ∧ match lookB xs with
    | .nothing => e = .returned (.tuple #[.slice none 0 0, .bool false, .bool false])
    | .few => e = .returned (.tuple #[.slice none 0 0, .bool false, .bool true])
    | .whole l => ∃ A' c', e = .returned (.tuple #[.slice A' l.length c', .bool true, .bool false]) ∧ l.length ≤ c' ∧ Load w' w.heap.size A' l
theorem neq_u8 (a k : UInt8) (i : Int) (hi : (k.toNat : Int) = i) (h : a ≠ k) : ((a.toNat : Int) != i) = true := by
  rw [bne_iff_ne]
  intro e
  apply h
  apply UInt8.toNat_inj.1
  omega
theorem eq_u8 (a k : UInt8) (i : Int) (hi : (k.toNat : Int) = i) (h : a = k) : ((a.toNat : Int) != i) = false := by
  subst h
  rw [bne_eq_false_iff_eq]; exact hi
theorem byte_at {w : World} {b off n : Nat} {xs : List UInt8} (h : Bytes w (some ⟨b, off, none⟩) n xs) (k : Nat) (hk : k < n) : w.cell? ⟨b, off + k, none⟩ = some (.int .u8 ((xs.getD k 0).toNat : Int)) := by
  obtain ⟨b', off', e, hcl⟩ := h.cells (by omega)
  cases e
  have := h.len
  rw [List.getD_eq_getElem?_getD, List.getElem?_eq_getElem (by omega)]
  exact hcl k (by omega)
theorem look_bad {xs : List UInt8} (h : headOk xs = false) : lookB xs = .nothing := by unfold lookB; rw [if_pos h]
theorem headOk_eq {xs : List UInt8} (h1 : 1 ≤ xs.length) : headOk xs = (decide (xs.getD 0 0 = 165) && (decide (xs.length < 2) || decide (xs.getD 1 0 = 90))) := by
  unfold headOk
  match xs, h1 with
  | [x], _ => simp
  | x :: y :: r, _ => have h3 : ¬ (r.length + 1 + 1 < 2) := by omega
                      simp [h3]
set_option maxHeartbeats 4000000 in
theorem at_bad (b off n c : Nat) (xs : List UInt8) (w : World) (hA : Bytes w (some ⟨b, off, none⟩) n xs) (h1 : 1 ≤ n) (hn : n ≤ 140737488351232) (hh : headOk xs = false) :
    Calls Try.prog 43 #[.slice (some ⟨b, off, none⟩) n c] w (atPost w xs) := by
  have hR := look_bad hh
  have q0 := byte_at hA 0 (by omega)
  rw [Nat.add_zero] at q0
  rw [headOk_eq (by rw [hA.len]; exact h1), hA.len] at hh
  have HR := Lib.hid hR
  have s1 : (1 : Int) ≤ (n : Int) := by omega
  have q1 := fun h => byte_at hA 1 h
  clear hR hA
  generalize xs.getD 0 0 = y0 at *
  generalize xs.getD 1 0 = y1 at *
  by_cases h0 : y0 = 165
  · subst h0
    simp only [decide_true, Bool.true_and, Bool.or_eq_false_iff, decide_eq_false_iff_not] at hh
    obtain ⟨h2, h3⟩ := hh
    have e1 := neq_u8 y1 90 90 rfl h3
    have q1 := q1 (by omega)
    have s2 : (2 : Int) ≤ (n : Int) := by omega
    have s3 : (1 : Int) < (n : Int) := by omega
    clear h3
    go_enter Try.func43, Try.ntmps43
    go_wp2
    go_ret3
    refine ⟨Chg.refl _ _, ?_⟩
    rw [HR.out]
    rfl
  · have e0 := neq_u8 y0 165 165 rfl h0
    clear h0 hh q1
    go_enter Try.func43, Try.ntmps43
    go_wp2
    go_ret3
    refine ⟨Chg.refl _ _, ?_⟩
    rw [HR.out]
    rfl
theorem look_short {xs : List UInt8} (h : headOk xs = true) (h4 : xs.length < 4) : lookB xs = if 1200 < frameN xs then .nothing else .few := by
  unfold lookB
  rw [if_neg (by rw [h]; simp)]
  split
  · rfl
  · rw [if_pos (.inl h4)]
theorem frameN_short {xs : List UInt8} (h3 : xs.length < 3) : frameN xs = 0 := by
  unfold frameN
  rw [if_neg (by omega), if_neg (by omega)]
theorem frameN_3 {xs : List UInt8} (h3 : xs.length = 3) : frameN xs = (xs.getD 2 0).toNat * 256 := by
  unfold frameN
  rw [if_pos (by omega), if_neg (by omega), Nat.add_zero]
theorem frameN_4 {xs : List UInt8} (h4 : 4 ≤ xs.length) : frameN xs = (xs.getD 2 0).toNat * 256 + (xs.getD 3 0).toNat := by
  unfold frameN
  rw [if_pos (by omega), if_pos (by omega)]
set_option maxHeartbeats 4000000 in
theorem at_short (b off n c : Nat) (xs : List UInt8) (w : World) (hA : Bytes w (some ⟨b, off, none⟩) n xs) (h1 : 1 ≤ n) (h4 : n < 4) (hh : headOk xs = true) :
    Calls Try.prog 43 #[.slice (some ⟨b, off, none⟩) n c] w (atPost w xs) := by
  have hR := look_short hh (by rw [hA.len]; exact h4)
  have q0 := byte_at hA 0 (by omega)
  rw [Nat.add_zero] at q0
  rw [headOk_eq (by rw [hA.len]; exact h1), hA.len] at hh
  simp only [Bool.and_eq_true, Bool.or_eq_true, decide_eq_true_eq] at hh
  obtain ⟨hy0, hy1⟩ := hh
  have e0 := eq_u8 (xs.getD 0 0) 165 165 rfl hy0
  rcases (show n = 1 ∨ n = 2 ∨ n = 3 from by omega) with rfl | rfl | rfl
  · rw [frameN_short (by rw [hA.len]; decide), if_neg (by decide)] at hR
    have HR := Lib.hid hR
    clear hR hA hy0 hy1 h1 h4
    generalize xs.getD 0 0 = y0 at *
    go_enter Try.func43, Try.ntmps43
    go_wp2
    go_quiet (fail)
    go_wp2
    go_ret3
    refine ⟨(Chg.refl _ _).drewN _, ?_⟩
    rw [HR.out]
    rfl
  · rw [frameN_short (by rw [hA.len]; decide), if_neg (by decide)] at hR
    have HR := Lib.hid hR
    have q1 := byte_at hA 1 (by omega)
    have e1 := eq_u8 (xs.getD 1 0) 90 90 rfl (hy1.resolve_left (by omega))
    clear hR hA hy0 hy1 h1 h4
    generalize xs.getD 0 0 = y0 at *
    generalize xs.getD 1 0 = y1 at *
    go_enter Try.func43, Try.ntmps43
    go_wp2
    go_quiet (fail)
    go_wp2
    go_ret3
    refine ⟨(Chg.refl _ _).drewN _, ?_⟩
    rw [HR.out]
    rfl
  · rw [frameN_3 hA.len] at hR
    have HR := Lib.hid hR
    have q1 := byte_at hA 1 (by omega)
    have q2 := byte_at hA 2 (by omega)
    have e1 := eq_u8 (xs.getD 1 0) 90 90 rfl (hy1.resolve_left (by omega))
    clear hR hA hy0 hy1 h1 h4
    have hb := (xs.getD 2 0).toNat_lt
    generalize xs.getD 0 0 = y0 at *
    generalize xs.getD 1 0 = y1 at *
    generalize (xs.getD 2 0).toNat = y2 at *
    by_cases hbig : 1200 < y2 * 256
    · have u1 : decide ((y2 : Int) * 256 ≤ 1200) = false := by rw [decide_eq_false_iff_not]; omega
      rw [if_pos hbig] at HR
      clear hbig
      go_enter Try.func43, Try.ntmps43
      go_wp2
      go_quiet (fail)
      go_wp2
      go_ret3
      refine ⟨(Chg.refl _ _).drewN _, ?_⟩
      rw [HR.out]
      rfl
    · have u1 : decide ((y2 : Int) * 256 ≤ 1200) = true := by rw [decide_eq_true_eq]; omega
      rw [if_neg hbig] at HR
      clear hbig
      go_enter Try.func43, Try.ntmps43
      go_wp2
      go_quiet (fail)
      go_wp2
      go_ret3
      refine ⟨(Chg.refl _ _).drewN _, ?_⟩
      rw [HR.out]
      rfl
set_option maxHeartbeats 4000000 in
theorem at_long (b off n c : Nat) (xs : List UInt8) (w : World) (hA : Bytes w (some ⟨b, off, none⟩) n xs) (hc : n ≤ c) (h4 : 4 ≤ n) (hn : n ≤ 140737488351232) (hh : headOk xs = true) :
    Calls Try.prog 43 #[.slice (some ⟨b, off, none⟩) n c] w (atPost w xs) := by
  have hR : lookB xs = if 1200 < frameN xs then .nothing else if xs.length < 4 ∨ xs.length < frameN xs + 8 then .few else match crcOpen ((xs.take (frameN xs + 8)).drop 2) with | none => .nothing | some x => .whole (x.drop 2) := by
    unfold lookB; rw [if_neg (by rw [hh]; simp)]; rfl
  have q0 := byte_at hA 0 (by omega)
  rw [Nat.add_zero] at q0
  have q1 := byte_at hA 1 (by omega)
  have q2 := byte_at hA 2 (by omega)
  have q3 := byte_at hA 3 (by omega)
  rw [headOk_eq (by rw [hA.len]; omega), hA.len] at hh
  simp only [Bool.and_eq_true, Bool.or_eq_true, decide_eq_true_eq] at hh
  obtain ⟨hy0, hy1⟩ := hh
  have e0 := eq_u8 (xs.getD 0 0) 165 165 rfl hy0
  have e1 := eq_u8 (xs.getD 1 0) 90 90 rfl (hy1.resolve_left (by omega))
  have hb2 := (xs.getD 2 0).toNat_lt
  have hb3 := (xs.getD 3 0).toNat_lt
  have hN := frameN_4 (xs := xs) (by rw [hA.len]; omega)
  have HL := Lib.hid hA.len
  have HR := Lib.hid hR
  have hNi : ((xs.getD 2 0).toNat : Int) * 256 + ((xs.getD 3 0).toNat : Int) = ((frameN xs : Nat) : Int) := by omega
  have HN := Lib.hid hNi
  have hNb := frameN_lt xs
  have s0 : (4 : Int) ≤ (n : Int) := by omega
  have s1 : (1 : Int) ≤ (n : Int) := by omega
  have s2 : (2 : Int) ≤ (n : Int) := by omega
  have s5 : (1 : Int) < (n : Int) := by omega
  have s6 : (2 : Int) < (n : Int) := by omega
  have s7 : (3 : Int) < (n : Int) := by omega
  have s8 : ((n : Int) < 4) = False := eq_false (by omega)
  clear hy0 hy1 hR hN hNi
  generalize xs.getD 0 0 = y0 at *
  generalize xs.getD 1 0 = y1 at *
  generalize (xs.getD 2 0).toNat = y2 at *
  generalize (xs.getD 3 0).toNat = y3 at *
  generalize frameN xs = N at *
  go_enter Try.func43, Try.ntmps43
  go_wp2
  go_quiet (fail)
  rw [HN.out]
  have ca : Chg Pure' w (w.drewN nq) := (Chg.refl _ w).drewN _
  clear q0 q1 q2 q3
  generalize w.drewN nq = w2 at *
  by_cases hbig : 1200 < N
  · have u1 : (1200 : Int) < (N : Int) := by omega
    go_wp2
    go_ret3
    refine ⟨ca, ?_⟩
    rw [HR.out, if_pos hbig]
    rfl
  · have u1 : (N : Int) ≤ (1200 : Int) := by omega
    rw [if_neg hbig] at HR
    by_cases hfew : n < N + 8
    · have u2 : (n : Int) < (N : Int) + 8 := by omega
      go_wp2
      go_ret3
      refine ⟨ca, ?_⟩
      rw [HR.out, if_pos (.inr (by rw [HL.out]; exact hfew))]
      rfl
    · have u2 : ((n : Int) < (N : Int) + 8) = False := eq_false (by omega)
      rw [if_neg (by rw [HL.out]; omega)] at HR
      have u3 : (N : Int) + 8 ≤ (c : Int) := by omega
      have u4 : (2 : Int) ≤ (N : Int) + 8 := by omega
      have u5 : (c = 2) = False := eq_false (by omega)
      have hA2 := (hA.pure ca).part 2 (N + 8) (by omega) (by omega)
      have hlen : ((xs.take (N + 8)).drop 2).length = (N + 2) + 4 := by have := HL.out; simp; omega
      have hA3 : Bytes w2 (some ⟨b, off + 2, none⟩) (N + 2 + 4) ((xs.take (N + 8)).drop 2) := by
        rw [show N + 2 + 4 = N + 8 - 2 from by omega]; exact hA2
      have HA3 := Lib.hid hA3
      have HLN := Lib.hid hlen
      obtain ⟨op, hop⟩ : ∃ op, crcOpen ((xs.take (N + 8)).drop 2) = op := ⟨_, rfl⟩
      rw [hop] at HR
      have HOP := Lib.hid hop
      clear hop hlen hA2 hA3
      cases op with
      | none =>
        go_wp2_with (fail)
        try rw [show N + 8 - 2 = N + 2 + 4 from by omega]
        refine (openR_none _ _ (N + 2 + 4) _ _ HA3.out (by omega) (by omega) HOP.out).mono ?_
        rintro e w3 ⟨rfl, c3⟩
        go_wp2
        go_ret3
        refine ⟨ca.pure c3, ?_⟩
        rw [HR.out]
        rfl
      | some ys =>
        have hys : ys.length = N + 2 := by
          obtain ⟨-, hx⟩ := (crcOpen_iff HLN.out ys).1 HOP.out
          rw [← hx]; simp; have := HL.out; omega
        have HYS := Lib.hid hys
        clear hys
        go_wp2_with (fail)
        try rw [show N + 8 - 2 = N + 2 + 4 from by omega]
        refine (openR_own _ _ (N + 2) _ ys _ HA3.out (by omega) (by omega) HOP.out).mono ?_
        rintro e w3 ⟨v, rfl, ho, c3⟩
        rcases ho.2 with ⟨rfl, h0⟩ | ⟨g, q, cur, rfl, hg, hh, hq, hqm, hcs, htk⟩
        · have := HYS.out
          have := ho.1
          rw [enc_length] at this; omega
        · have hld : ∀ A', (A' = some ⟨g, 2, none⟩ ∨ (A' = some ⟨g, 0, none⟩ ∧ N = 0)) → Load w3 w.heap.size A' (ys.drop 2) := by
            intro A' hA'
            have hlen : (ys.drop 2).length = N := by have := HYS.out; simp; omega
            refine ⟨?_, fun a ha => ?_⟩
            · rw [hlen]
              refine ⟨hlen, fun hp => ?_⟩
              rcases hA' with rfl | ⟨rfl, h0⟩
              · refine ⟨g, 2, rfl, fun j hj => ?_⟩
                have := ho.cellAt (2 + j) (by omega)
                rw [this, enc_get ys (2 + j) (by have := HYS.out; omega)]
                simp
              · omega
            · have hag : a.block = g := by
                rcases hA' with rfl | ⟨rfl, -⟩ <;> (cases ha; rfl)
              rw [hag]
              exact ⟨by have := ca.size; omega, cur, hh⟩
          have C3 := ca.pure c3
          have HLD := Lib.hid hld
          have t1 : 2 ≤ q := by omega
          have t2 : 2 ≤ N + 2 := by omega
          have t3 : (2 : Int) ≤ (q : Int) := by omega
          clear ho hh hld c3 hcs htk
          have hlen : (ys.drop 2).length = N := by have := HYS.out; simp; omega
          have HLE := Lib.hid hlen
          clear hlen
          by_cases hq2 : q = 2
          · have h0 := Lib.hid (show N = 0 by omega)
            subst hq2
            go_wp2_with (fail)
            go_wp2
            go_ret3
            refine ⟨C3, ?_⟩
            rw [HR.out]
            refine ⟨some ⟨g, 0, none⟩, 0, by rw [HLE.out, h0.out]; rfl, by rw [HLE.out]; omega, ?_⟩
            exact (HLD.out _ (.inr ⟨rfl, by omega⟩))
          · have hq3 : (q = 2) = False := eq_false hq2
            clear hq2
            go_wp2_with (fail)
            go_wp2
            go_ret3
            refine ⟨C3, ?_⟩
            rw [HR.out]
            refine ⟨some ⟨g, 2, none⟩, q - 2, by rw [HLE.out]; rfl, by rw [HLE.out]; omega, ?_⟩
            exact (HLD.out _ (.inl rfl))
end Go.Proofs.Ytnpkpfcljkekfaa
