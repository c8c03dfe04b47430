/- Package frame: the walk of look. -/
import Derived.Test.YtemofjaonoofhaaFrameP
import Derived.Test.YtemofjaonoofhaaCrc
import Derived.Test.YtemofjaonoofhaaReg
namespace Go.Proofs.Ytemofjaonoofhaa
open Go Go.RowKit
set_option linter.unusedVariables false
set_option linter.unusedSimpArgs false

theorem eqb_any (A : Option Addr) (c m : Nat) (xs : List UInt8) (B : Option Addr) (d n : Nat) (ys : List UInt8) (w : World) (hA : Bytes w A m xs) (hB : Bytes w B n ys) (r : Bool) (hr : decide (xs = ys) = r) :
    Calls Try.prog 36 #[.slice A m c, .slice B n d] w fun e w' => e = .returned (.bool r) ∧ w = w' := by
  subst hr
  have h1 := hA.run_string 22 9 5 Try.underlying22 Try.underlying5 Try.underlying9 c
  have h2 := hB.run_string 22 9 5 Try.underlying22 Try.underlying5 Try.underlying9 d
  clear hA hB
  go_enter Try.func36, Try.ntmps36
  go_wp2
  go_ret
  refine ⟨ret_bool ?_, rfl⟩
  rw [Bool.eq_iff_iff]; simp
/-- Bytes of the call's own from B on, that may be written. -/
structure Load (w : World) (B : Nat) (A : Option Addr) (xs : List UInt8) : Prop where
  bytes : Bytes w A xs.length xs
  blk : ∀ a, A = some a → B ≤ a.block ∧ ∃ cs, w.heap[a.block]? = some (.cells cs 5 (0, 0))
theorem Load.frame {w w' : World} {S : Nat → Prop} {B : Nat} {A : Option Addr} {xs : List UInt8} (h : Load w B A xs) (hc : Chg S w w') (hS : ∀ a, A = some a → ¬ S a.block) : Load w' B A xs :=
  ⟨h.bytes.chg hc (fun a ha => hS a ha), fun a ha => by
    obtain ⟨h1, cs, h2⟩ := h.blk a ha
    exact ⟨h1, cs, (hc.block _ (Array.getElem?_eq_some_iff.1 h2).1 (hS a ha)).trans h2⟩⟩
theorem headOk_short {xs : List UInt8} {k : Nat} (h : xs.length = k) (hk : k ≤ 2) : headOk xs = decide (xs = ([165, 90] : List UInt8).take k) := by
  unfold headOk
  rw [List.take_of_length_le (by omega), h, show min k 2 = k from by omega]
/-- What look tells. -/
def lookPost (w : World) (xs : List UInt8) (e : Ending) (w' : World) : Prop :=
  Chg Pure' w w' ∧ match lookB xs with
    | .nothing => e = .returned (.tuple #[.int .i64 0, .slice none 0 0])
    | .few => e = .returned (.tuple #[.int .i64 1, .slice none 0 0])
    | .whole l => ∃ A' c', e = .returned (.tuple #[.int .i64 2, .slice A' l.length c']) ∧ l.length ≤ c' ∧ Load w' w.heap.size A' l
set_option maxHeartbeats 4000000 in
theorem look_any (b off n c : Nat) (xs : List UInt8) (w : World) (hA : Bytes w (some ⟨b, off, none⟩) n xs) (hc : n ≤ c) (hn : n ≤ 140737488351232) (h4 : 4 ≤ n) :
    Calls Try.prog 28 #[.slice (some ⟨b, off, none⟩) n c] w (lookPost w xs) := by
  have hl := hA.len
  have ca : Chg Pure' w (w.alloc (.cells #[.int .u8 165, .int .u8 90] 5)) := (Chg.refl _ w).alloc _
  have hH := Bytes.alloc_lit w #[.int .u8 165, .int .u8 90] 5 [165, 90] rfl 2 rfl
  have hA1 := hA.pure ca
  have hp := hA1.part 0 2 (by omega) (by omega)
  have hdec : decide ((xs.take 2).drop 0 = [165, 90]) = headOk xs := by
    unfold headOk
    rw [List.drop_zero, show min xs.length 2 = 2 from by omega]
    rfl
  have HL := Lib.hid hl
  clear hl
  cases hh : headOk xs with
  | false =>
    rw [hh] at hdec
    have hR : lookB xs = .nothing := by unfold lookB; rw [if_pos hh]
    have HR := Lib.hid hR
    have s1 : (2 : Int) ≤ (c : Int) := by omega
    have s2 : (2 : Int) ≤ (n : Int) := by omega
    have s3 : (n : Int) < 2 → False := by omega
    have s4 : 2 ≤ c := by omega
    clear hR hh
    go_enter Try.func28, Try.ntmps28
    go_wp2_with (fail)
    generalize (w.alloc (.cells #[.int .u8 165, .int .u8 90] 5)) = w1 at *
    refine reg_begin (Pure') (by kernel_rfl) ?_
    refine reg_take 0 (v := ?_) rfl (by kernel_rfl) (by kernel_rfl) (by kernel_rfl) (fun _ _ _ h => h) (by kernel_rfl) ?_ ?_
    rotate_left
    · (intro w' hS; go_simp; (try go_bits); (try with_reducible rfl))
    try simp only [Act.put, List.getElem_toArray, List.getElem_cons_zero, List.getElem_cons_succ, List.setIfInBounds_toArray, List.set_cons_zero, List.set_cons_succ]
    refine reg_take 1 (v := ?_) rfl (by kernel_rfl) (by kernel_rfl) (by kernel_rfl) (fun _ _ _ h => h) (by kernel_rfl) ?_ ?_
    rotate_left
    · (intro w' hS; go_simp; (try go_bits); (try with_reducible rfl))
    try simp only [Act.put, List.getElem_toArray, List.getElem_cons_zero, List.getElem_cons_succ, List.setIfInBounds_toArray, List.set_cons_zero, List.set_cons_succ]
    refine reg_take 2 (v := ?_) rfl (by kernel_rfl) (by kernel_rfl) (by kernel_rfl) (fun _ _ _ h => h) (by kernel_rfl) ?_ ?_
    rotate_left
    · (intro w' hS; go_simp; (try go_bits); (try with_reducible rfl))
    try simp only [Act.put, List.getElem_toArray, List.getElem_cons_zero, List.getElem_cons_succ, List.setIfInBounds_toArray, List.set_cons_zero, List.set_cons_succ]
    refine reg_take 3 (v := ?_) rfl (by kernel_rfl) (by kernel_rfl) (by kernel_rfl) (fun _ _ _ h => h) (by kernel_rfl) ?_ ?_
    rotate_left
    · (intro w' hS; go_simp; (try go_bits); (try with_reducible rfl))
    try simp only [Act.put, List.getElem_toArray, List.getElem_cons_zero, List.getElem_cons_succ, List.setIfInBounds_toArray, List.set_cons_zero, List.set_cons_succ]
    refine reg_take 4 (v := ?_) rfl (by kernel_rfl) (by kernel_rfl) (by kernel_rfl) (fun _ _ _ h => h) (by kernel_rfl) ?_ ?_
    rotate_left
    · (intro w' hS; go_simp; (try go_bits); (try with_reducible rfl))
    try simp only [Act.put, List.getElem_toArray, List.getElem_cons_zero, List.getElem_cons_succ, List.setIfInBounds_toArray, List.set_cons_zero, List.set_cons_succ]
    refine reg_take 5 (v := ?_) rfl (by kernel_rfl) (by kernel_rfl) (by kernel_rfl) (fun _ _ _ h => h) (by kernel_rfl) ?_ ?_
    rotate_left
    · (intro w' hS; go_simp; (try go_bits); (try with_reducible rfl))
    try simp only [Act.put, List.getElem_toArray, List.getElem_cons_zero, List.getElem_cons_succ, List.setIfInBounds_toArray, List.set_cons_zero, List.set_cons_succ]
    refine reg_do 6 rfl (by kernel_rfl) (by kernel_rfl) ?_
    intro K hK
    go_simp
    refine (eqb_any _ _ _ _ _ _ _ _ _ hp.drew hH.drew false hdec).mono ?_
    rintro e w2 ⟨rfl, rfl⟩
    go_simp
    refine hK _ _ (Chg.refl _ _) ?_
    clear hK K
    try simp only [Act.put, List.getElem_toArray, List.getElem_cons_zero, List.getElem_cons_succ, List.setIfInBounds_toArray, List.set_cons_zero, List.set_cons_succ]
    refine reg_take 7 (v := ?_) rfl (by kernel_rfl) (by kernel_rfl) (by kernel_rfl) (fun _ _ _ h => h) (by kernel_rfl) ?_ ?_
    rotate_left
    · (intro w' hS; go_simp; (try go_bits); (try with_reducible rfl))
    try simp only [Act.put, List.getElem_toArray, List.getElem_cons_zero, List.getElem_cons_succ, List.setIfInBounds_toArray, List.set_cons_zero, List.set_cons_succ]
    refine wpAnyH_done (by kernel_rfl) ?_ _
    go_wp2
    go_ret2
    refine ⟨ca.drew, ?_⟩
    rw [HR.out]
    rfl
  | true =>
    rw [hh] at hdec
    have hR : lookB xs = if 1200 < frameN xs then .nothing else if xs.length < 4 ∨ xs.length < frameN xs + 8 then .few else match crcOpen ((xs.take (frameN xs + 8)).drop 2) with | none => .nothing | some x => .whole (x.drop 2) := by
      unfold lookB; rw [if_neg (by rw [hh]; simp)]; rfl
    have HR := Lib.hid hR
    have s1 : (2 : Int) ≤ (c : Int) := by omega
    have s2 : (2 : Int) ≤ (n : Int) := by omega
    have s4 : 2 ≤ c := by omega
    have s5 : (4 : Int) ≤ (n : Int) := by omega
    have s6 : (4 : Int) ≤ (c : Int) := by omega
    have s7 : 4 ≤ c := by omega
    have s8 : ((n : Int) < 4) = False := eq_false (by omega)
    have hl := HL.out
    have q2 : (w.alloc (.cells #[.int .u8 165, .int .u8 90] 5)).cell? ⟨b, off + 2, none⟩ = some (.int .u8 ((xs.getD 2 0).toNat : Int)) := by
      obtain ⟨b', off', e, hcl⟩ := hA1.cells (by omega)
      cases e
      rw [List.getD_eq_getElem?_getD, List.getElem?_eq_getElem (by omega)]
      exact hcl 2 (by omega)
    have q3 : (w.alloc (.cells #[.int .u8 165, .int .u8 90] 5)).cell? ⟨b, off + 2 + 1, none⟩ = some (.int .u8 ((xs.getD 3 0).toNat : Int)) := by
      obtain ⟨b', off', e, hcl⟩ := hA1.cells (by omega)
      cases e
      rw [List.getD_eq_getElem?_getD, List.getElem?_eq_getElem (by omega)]
      exact hcl 3 (by omega)
    have hN : frameN xs = (xs.getD 2 0).toNat * 256 + (xs.getD 3 0).toNat := by
      unfold frameN
      rw [if_pos (by omega), if_pos (by omega)]
    have HN := Lib.hid hN
    have hb2 := (xs.getD 2 0).toNat_lt
    have hb3 := (xs.getD 3 0).toNat_lt
    clear hR hh hl hN
    generalize xs.getD 2 0 = y2 at *
    generalize xs.getD 3 0 = y3 at *
    go_enter Try.func28, Try.ntmps28
    go_wp2_with (fail)
    generalize (w.alloc (.cells #[.int .u8 165, .int .u8 90] 5)) = w1 at *
    refine reg_begin (Pure') (by kernel_rfl) ?_
    refine reg_take 0 (v := ?_) rfl (by kernel_rfl) (by kernel_rfl) (by kernel_rfl) (fun _ _ _ h => h) (by kernel_rfl) ?_ ?_
    rotate_left
    · (intro w' hS; go_simp; (try go_bits); (try with_reducible rfl))
    try simp only [Act.put, List.getElem_toArray, List.getElem_cons_zero, List.getElem_cons_succ, List.setIfInBounds_toArray, List.set_cons_zero, List.set_cons_succ]
    refine reg_take 1 (v := ?_) rfl (by kernel_rfl) (by kernel_rfl) (by kernel_rfl) (fun _ _ _ h => h) (by kernel_rfl) ?_ ?_
    rotate_left
    · (intro w' hS; go_simp; (try go_bits); (try with_reducible rfl))
    try simp only [Act.put, List.getElem_toArray, List.getElem_cons_zero, List.getElem_cons_succ, List.setIfInBounds_toArray, List.set_cons_zero, List.set_cons_succ]
    refine reg_take 2 (v := ?_) rfl (by kernel_rfl) (by kernel_rfl) (by kernel_rfl) (fun _ _ _ h => h) (by kernel_rfl) ?_ ?_
    rotate_left
    · (intro w' hS; go_simp; (try go_bits); (try with_reducible rfl))
    try simp only [Act.put, List.getElem_toArray, List.getElem_cons_zero, List.getElem_cons_succ, List.setIfInBounds_toArray, List.set_cons_zero, List.set_cons_succ]
    refine reg_take 3 (v := ?_) rfl (by kernel_rfl) (by kernel_rfl) (by kernel_rfl) (fun _ _ _ h => h) (by kernel_rfl) ?_ ?_
    rotate_left
    · (intro w' hS; go_simp; (try go_bits); (try with_reducible rfl))
    try simp only [Act.put, List.getElem_toArray, List.getElem_cons_zero, List.getElem_cons_succ, List.setIfInBounds_toArray, List.set_cons_zero, List.set_cons_succ]
    refine reg_take 4 (v := ?_) rfl (by kernel_rfl) (by kernel_rfl) (by kernel_rfl) (fun _ _ _ h => h) (by kernel_rfl) ?_ ?_
    rotate_left
    · (intro w' hS; go_simp; (try go_bits); (try with_reducible rfl))
    try simp only [Act.put, List.getElem_toArray, List.getElem_cons_zero, List.getElem_cons_succ, List.setIfInBounds_toArray, List.set_cons_zero, List.set_cons_succ]
    refine reg_take 5 (v := ?_) rfl (by kernel_rfl) (by kernel_rfl) (by kernel_rfl) (fun _ _ _ h => h) (by kernel_rfl) ?_ ?_
    rotate_left
    · (intro w' hS; go_simp; (try go_bits); (try with_reducible rfl))
    try simp only [Act.put, List.getElem_toArray, List.getElem_cons_zero, List.getElem_cons_succ, List.setIfInBounds_toArray, List.set_cons_zero, List.set_cons_succ]
    refine reg_do 6 rfl (by kernel_rfl) (by kernel_rfl) ?_
    intro K hK
    go_simp
    refine (eqb_any _ _ _ _ _ _ _ _ _ hp.drew hH.drew true hdec).mono ?_
    rintro e w2 ⟨rfl, rfl⟩
    go_simp
    refine hK _ _ (Chg.refl _ _) ?_
    clear hK K
    try simp only [Act.put, List.getElem_toArray, List.getElem_cons_zero, List.getElem_cons_succ, List.setIfInBounds_toArray, List.set_cons_zero, List.set_cons_succ]
    refine reg_take 7 (v := ?_) rfl (by kernel_rfl) (by kernel_rfl) (by kernel_rfl) (fun _ _ _ h => h) (by kernel_rfl) ?_ ?_
    rotate_left
    · (intro w' hS; go_simp; (try go_bits); (try with_reducible rfl))
    try simp only [Act.put, List.getElem_toArray, List.getElem_cons_zero, List.getElem_cons_succ, List.setIfInBounds_toArray, List.set_cons_zero, List.set_cons_succ]
    refine wpAnyH_done (by kernel_rfl) ?_ _
    have q2 : w1.drew.cell? ⟨b, off + 2, none⟩ = some (.int .u8 (y2.toNat : Int)) := q2
    have q3 : w1.drew.cell? ⟨b, off + 2 + 1, none⟩ = some (.int .u8 (y3.toNat : Int)) := q3
    have ca := ca.drew
    generalize w1.drew = w2 at *
    go_wp2_with (fail)
    go_loop [6, 34] (fun s i => ∃ k : Nat, i = .int .i64 k ∧ ((k = 0 ∧ s = .int .i64 0) ∨ (k = 1 ∧ s = .int .i64 ((y2.toNat : Int) * 256)) ∨ (k = 2 ∧ s = .int .i64 ((y2.toNat : Int) * 256 + (y3.toNat : Int))))) (fun _ i => 2 - (intOf i).toNat)
    case atStart => exact ⟨0, rfl, .inl ⟨rfl, rfl⟩⟩
    case round =>
      obtain ⟨k, rfl, hk⟩ := hrel
      rcases hk with ⟨rfl, rfl⟩ | ⟨rfl, rfl⟩ | ⟨rfl, rfl⟩
      · go_wp2
        go_round
        case rel => exact ⟨1, by go_num, .inr (.inl ⟨rfl, by go_num⟩)⟩
        case measure => simp [intOf]
      · go_wp2
        go_round
        case rel => exact ⟨2, by go_num, .inr (.inr ⟨rfl, by go_num⟩)⟩
        case measure => simp [intOf]
      · clear q2 q3
        have hNi : (y2.toNat : Int) * 256 + (y3.toNat : Int) = ((frameN xs : Nat) : Int) := by have := HN.out; omega
        rw [hNi]
        have hNb := frameN_lt xs
        clear hNi
        generalize frameN xs = N at *
        by_cases hbig : 1200 < N
        · have u1 : (1200 : Int) < (N : Int) := by omega
          go_wp2
          go_ret2
          refine ⟨ca, ?_⟩
          rw [HR.out, if_pos hbig]
          rfl
        · have u1 : (N : Int) ≤ (1200 : Int) := by omega
          rw [if_neg hbig] at HR
          by_cases hfew : n < N + 8
          · have u2 : (n : Int) < 4 + (N : Int) + 4 := by omega
            go_wp2
            go_ret2
            refine ⟨ca, ?_⟩
            rw [HR.out, if_pos (.inr (by rw [HL.out]; exact hfew))]
            rfl
          · have u2 : ((n : Int) < 4 + (N : Int) + 4) = False := eq_false (by omega)
            rw [if_neg (by rw [HL.out]; omega)] at HR
            have u3 : 4 + (N : Int) + 4 ≤ (c : Int) := by omega
            have u4 : (2 : Int) ≤ 4 + (N : Int) + 4 := by omega
            have u5 : (c = 2) = False := eq_false (by omega)
            have hA2 := (hA.pure ca).part 2 (N + 8) (by omega) (by omega)
            have hlen : ((xs.take (N + 8)).drop 2).length = (N + 2) + 4 := by have := HL.out; simp; omega
            have hA3 : Bytes w2 (some ⟨b, off + 2, none⟩) (N + 2 + 4) ((xs.take (N + 8)).drop 2) := by
              rw [show N + 2 + 4 = N + 8 - 2 from by omega]; exact hA2
            have HA3 := Lib.hid hA3
            have HLN := Lib.hid hlen
            obtain ⟨op, hop⟩ : ∃ op, crcOpen ((xs.take (N + 8)).drop 2) = op := ⟨_, rfl⟩
            rw [hop] at HR
            have HOP := Lib.hid hop
            clear hop hlen hA2 hA3
            cases op with
            | none =>
              go_wp2_with (fail)
              rw [show 4 + N + 2 = N + 2 + 4 from by omega]
              refine (open_none _ _ (N + 2 + 4) _ _ HA3.out (by omega) (by omega) HOP.out).mono ?_
              rintro e w3 ⟨rfl, c3⟩
              go_wp2
              go_ret2
              refine ⟨ca.pure c3, ?_⟩
              rw [HR.out]
              rfl
            | some ys =>
              have hys : ys.length = N + 2 := by
                obtain ⟨-, hx⟩ := (crcOpen_iff HLN.out ys).1 HOP.out
                rw [← hx]; simp; have := HL.out; omega
              have HYS := Lib.hid hys
              clear hys
              go_wp2_with (fail)
              rw [show 4 + N + 2 = N + 2 + 4 from by omega]
              refine (open_own _ _ (N + 2) _ ys _ HA3.out (by omega) (by omega) HOP.out).mono ?_
              rintro e w3 ⟨v, rfl, ho, c3⟩
              rcases ho.2 with ⟨rfl, h0⟩ | ⟨g, q, cur, rfl, hg, hh, hq, hqm, hcs, htk⟩
              · omega
              · have hld : ∀ A', (A' = some ⟨g, 2, none⟩ ∨ (A' = some ⟨g, 0, none⟩ ∧ N = 0)) → Load w3 w.heap.size A' (ys.drop 2) := by
                  intro A' hA'
                  have hlen : (ys.drop 2).length = N := by have := HYS.out; simp; omega
                  refine ⟨?_, fun a ha => ?_⟩
                  · rw [hlen]
                    refine ⟨hlen, fun hp => ?_⟩
                    rcases hA' with rfl | ⟨rfl, h0⟩
                    · refine ⟨g, 2, rfl, fun j hj => ?_⟩
                      have := ho.cellAt (2 + j) (by omega)
                      rw [this, enc_get ys (2 + j) (by have := HYS.out; omega)]
                      simp
                    · omega
                  · have hag : a.block = g := by
                      rcases hA' with rfl | ⟨rfl, -⟩ <;> (cases ha; rfl)
                    rw [hag]
                    exact ⟨by have := ca.size; omega, cur, hh⟩
                have C3 := ca.pure c3
                have HLD := Lib.hid hld
                have t1 : 2 ≤ q := by omega
                have t2 : 2 ≤ N + 2 := by omega
                clear ho hh hld c3 hcs htk
                have hlen : (ys.drop 2).length = N := by have := HYS.out; simp; omega
                have HLE := Lib.hid hlen
                clear hlen
                by_cases hq2 : q = 2
                · subst hq2
                  go_wp2_with (fail)
                  go_quiet (fail)
                  go_wp2
                  go_ret2
                  refine ⟨C3.drewN _, ?_⟩
                  rw [HR.out]
                  refine ⟨some ⟨g, 0, none⟩, 0, by rw [HLE.out, show N = 0 from by omega]; rfl, by rw [HLE.out]; omega, ?_⟩
                  exact (HLD.out _ (.inr ⟨rfl, by omega⟩)).frame ((Chg.refl Pure' _).drewN _) (fun _ _ h => h)
                · have hq3 : (q = 2) = False := eq_false hq2
                  go_wp2_with (fail)
                  go_quiet (fail)
                  go_wp2
                  go_ret2
                  refine ⟨C3.drewN _, ?_⟩
                  rw [HR.out]
                  refine ⟨some ⟨g, 2, none⟩, q - 2, by rw [HLE.out]; rfl, by rw [HLE.out]; omega, ?_⟩
                  exact (HLD.out _ (.inl rfl)).frame ((Chg.refl Pure' _).drewN _) (fun _ _ h => h)
end Go.Proofs.Ytemofjaonoofhaa
