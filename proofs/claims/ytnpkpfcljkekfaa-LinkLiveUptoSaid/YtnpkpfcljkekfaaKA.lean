/- Package frame: the walk of look. -/
import Derived.Test.YtnpkpfcljkekfaaFrameP
import Derived.Test.YtnpkpfcljkekfaaCrc
import Derived.Test.YtnpkpfcljkekfaaReg
import Derived.Test.YtnpkpfcljkekfaaSame
import Derived.Test.YtnpkpfcljkekfaaOpenM
namespace Go.Proofs.Ytnpkpfcljkekfaa
open Go Go.RowKit
set_option linter.unusedVariables false
set_option maxRecDepth 100000
set_option linter.unusedSimpArgs false

theorem eqb_any (A : Option Addr) (c m : Nat) (xs : List UInt8) (B : Option Addr) (d n : Nat) (ys : List UInt8) (w : World) (hA : Bytes w A m xs) (hB : Bytes w B n ys) (r : Bool) (hr : decide (xs = ys) = r) :
    Calls Try.prog 91 #[.slice A m c, .slice B n d] w fun e w' => e = .returned (.bool r) ∧ w = w' := by
  subst hr
  have h1 := hA.run_string 23 9 5 Try.underlying23 Try.underlying5 Try.underlying9 c
  have h2 := hB.run_string 23 9 5 Try.underlying23 Try.underlying5 Try.underlying9 d
  clear hA hB
  go_enter Try.func91, Try.ntmps91
  go_wp2
  go_ret
  refine ⟨ret_bool ?_, rfl⟩
  rw [Bool.eq_iff_iff]; simp
/-- Bytes of the call's own from B on, that may be written. -/
structure Load (w : World) (B : Nat) (A : Option Addr) (xs : List UInt8) : Prop where
  bytes : Bytes w A xs.length xs
  blk : ∀ a, A = some a → B ≤ a.block ∧ ∃ cs, w.heap[a.block]? = some (.cells cs 5 (0, 0))
theorem Load.frame {w w' : World} {S : Nat → Prop} {B : Nat} {A : Option Addr} {xs : List UInt8} (h : Load w B A xs) (hc : Chg S w w') (hS : ∀ a, A = some a → ¬ S a.block) : Load w' B A xs :=
  ⟨h.bytes.chg hc (fun a ha => hS a ha), fun a ha => by
    obtain ⟨h1, cs, h2⟩ := h.blk a ha
    exact ⟨h1, cs, (hc.block _ (Array.getElem?_eq_some_iff.1 h2).1 (hS a ha)).trans h2⟩⟩
theorem headOk_short {xs : List UInt8} {k : Nat} (h : xs.length = k) (hk : k ≤ 2) : headOk xs = decide (xs = ([165, 90] : List UInt8).take k) := by
  unfold headOk
  rw [List.take_of_length_le (by omega), h, show min k 2 = k from by omega]
/-- What look tells. -/
def lookPost (w : World) (xs : List UInt8) (e : Ending) (w' : World) : Prop :=
  Chg Pure' w w' ∧ match lookB xs with
    | .nothing => e = .returned (.tuple #[.int .i64 0, .slice none 0 0])
    | .few => e = .returned (.tuple #[.int .i64 1, .slice none 0 0])
    | .whole l => ∃ A' c', e = .returned (.tuple #[.int .i64 2, .slice A' l.length c']) ∧ l.length ≤ c' ∧ Load w' w.heap.size A' l
set_option maxHeartbeats 4000000 in
theorem look_any (b off n c : Nat) (xs : List UInt8) (w : World) (hA : Bytes w (some ⟨b, off, none⟩) n xs) (hc : n ≤ c) (hn : n ≤ 140737488351232) (h4 : 4 ≤ n) :
    Calls Try.prog 71 #[.slice (some ⟨b, off, none⟩) n c] w (lookPost w xs) := by
  have hl := hA.len
  have ca : Chg Pure' w (w.alloc (.cells #[.int .u8 165, .int .u8 90] 5)) := (Chg.refl _ w).alloc _
  have hH := Bytes.alloc_lit w #[.int .u8 165, .int .u8 90] 5 [165, 90] rfl 2 rfl
  have hA1 := hA.pure ca
  have hp := hA1.part 0 2 (by omega) (by omega)
  have hdec : decide ((xs.take 2).drop 0 = [165, 90]) = headOk xs := by
    unfold headOk
    rw [List.drop_zero, show min xs.length 2 = 2 from by omega]
    rfl
  have HL := Lib.hid hl
  clear hl
  cases hh : headOk xs with
  | false =>
    rw [hh] at hdec
    have hR : lookB xs = .nothing := by unfold lookB; rw [if_pos hh]
    have HR := Lib.hid hR
    have s1 : (2 : Int) ≤ (c : Int) := by omega
    have s2 : (2 : Int) ≤ (n : Int) := by omega
    have s3 : (n : Int) < 2 → False := by omega
    have s4 : 2 ≤ c := by omega
    clear hR hh
    go_enter Try.func71, Try.ntmps71
    go_wp2_with (fail)
    generalize (w.alloc (.cells #[.int .u8 165, .int .u8 90] 5)) = w1 at *
    refine reg_begin (Pure') (by kernel_rfl) ?_
    refine reg_take 0 (v := ?_) rfl (by kernel_rfl) (by kernel_rfl) (by kernel_rfl) (fun _ _ _ h => h) (by kernel_rfl) ?_ ?_
    rotate_left
    · (intro w' hS; go_simp; (try go_bits); (try with_reducible rfl))
    try simp only [Act.put, List.getElem_toArray, List.getElem_cons_zero, List.getElem_cons_succ, List.setIfInBounds_toArray, List.set_cons_zero, List.set_cons_succ]
    refine reg_take 1 (v := ?_) rfl (by kernel_rfl) (by kernel_rfl) (by kernel_rfl) (fun _ _ _ h => h) (by kernel_rfl) ?_ ?_
    rotate_left
    · (intro w' hS; go_simp; (try go_bits); (try with_reducible rfl))
    try simp only [Act.put, List.getElem_toArray, List.getElem_cons_zero, List.getElem_cons_succ, List.setIfInBounds_toArray, List.set_cons_zero, List.set_cons_succ]
    refine reg_take 2 (v := ?_) rfl (by kernel_rfl) (by kernel_rfl) (by kernel_rfl) (fun _ _ _ h => h) (by kernel_rfl) ?_ ?_
    rotate_left
    · (intro w' hS; go_simp; (try go_bits); (try with_reducible rfl))
    try simp only [Act.put, List.getElem_toArray, List.getElem_cons_zero, List.getElem_cons_succ, List.setIfInBounds_toArray, List.set_cons_zero, List.set_cons_succ]
    refine reg_take 3 (v := ?_) rfl (by kernel_rfl) (by kernel_rfl) (by kernel_rfl) (fun _ _ _ h => h) (by kernel_rfl) ?_ ?_
    rotate_left
    · (intro w' hS; go_simp; (try go_bits); (try with_reducible rfl))
    try simp only [Act.put, List.getElem_toArray, List.getElem_cons_zero, List.getElem_cons_succ, List.setIfInBounds_toArray, List.set_cons_zero, List.set_cons_succ]
    refine reg_take 4 (v := ?_) rfl (by kernel_rfl) (by kernel_rfl) (by kernel_rfl) (fun _ _ _ h => h) (by kernel_rfl) ?_ ?_
    rotate_left
    · (intro w' hS; go_simp; (try go_bits); (try with_reducible rfl))
    try simp only [Act.put, List.getElem_toArray, List.getElem_cons_zero, List.getElem_cons_succ, List.setIfInBounds_toArray, List.set_cons_zero, List.set_cons_succ]
    refine reg_take 5 (v := ?_) rfl (by kernel_rfl) (by kernel_rfl) (by kernel_rfl) (fun _ _ _ h => h) (by kernel_rfl) ?_ ?_
    rotate_left
    · (intro w' hS; go_simp; (try go_bits); (try with_reducible rfl))
    try simp only [Act.put, List.getElem_toArray, List.getElem_cons_zero, List.getElem_cons_succ, List.setIfInBounds_toArray, List.set_cons_zero, List.set_cons_succ]
    refine reg_do 6 rfl (by kernel_rfl) (by kernel_rfl) ?_
    intro K hK
    go_simp
    refine (eqb_any _ _ _ _ _ _ _ _ _ hp.drew hH.drew false hdec).mono ?_
    rintro e w2 ⟨rfl, rfl⟩
    go_simp
    refine hK _ _ (Chg.refl _ _) ?_
    clear hK K
    try simp only [Act.put, List.getElem_toArray, List.getElem_cons_zero, List.getElem_cons_succ, List.setIfInBounds_toArray, List.set_cons_zero, List.set_cons_succ]
    refine reg_take 7 (v := ?_) rfl (by kernel_rfl) (by kernel_rfl) (by kernel_rfl) (fun _ _ _ h => h) (by kernel_rfl) ?_ ?_
    rotate_left
    · (intro w' hS; go_simp; (try go_bits); (try with_reducible rfl))
    try simp only [Act.put, List.getElem_toArray, List.getElem_cons_zero, List.getElem_cons_succ, List.setIfInBounds_toArray, List.set_cons_zero, List.set_cons_succ]
    refine wpAnyH_done (by kernel_rfl) ?_ _
    go_wp2
    go_ret2
    refine ⟨ca.drew, ?_⟩
    rw [HR.out]
    rfl
  | true =>
    rw [hh] at hdec
    have hR : lookB xs = if 1200 < frameN xs then .nothing else if xs.length < 4 ∨ xs.length < frameN xs + 8 then .few else match crcOpen ((xs.take (frameN xs + 8)).drop 2) with | none => .nothing | some x => .whole (x.drop 2) := by
      unfold lookB; rw [if_neg (by rw [hh]; simp)]; rfl
    have HR := Lib.hid hR
    have s1 : (2 : Int) ≤ (c : Int) := by omega
    have s2 : (2 : Int) ≤ (n : Int) := by omega
    have s4 : 2 ≤ c := by omega
    have s5 : (4 : Int) ≤ (n : Int) := by omega
    have s6 : (4 : Int) ≤ (c : Int) := by omega
    have s7 : 4 ≤ c := by omega
    have s8 : ((n : Int) < 4) = False := eq_false (by omega)
    have hl := HL.out
    have q2 : (w.alloc (.cells #[.int .u8 165, .int .u8 90] 5)).cell? ⟨b, off + 2, none⟩ = some (.int .u8 ((xs.getD 2 0).toNat : Int)) := by
      obtain ⟨b', off', e, hcl⟩ := hA1.cells (by omega)
      cases e
      rw [List.getD_eq_getElem?_getD, List.getElem?_eq_getElem (by omega)]
      exact hcl 2 (by omega)
    have q3 : (w.alloc (.cells #[.int .u8 165, .int .u8 90] 5)).cell? ⟨b, off + 2 + 1, none⟩ = some (.int .u8 ((xs.getD 3 0).toNat : Int)) := by
      obtain ⟨b', off', e, hcl⟩ := hA1.cells (by omega)
      cases e
      rw [List.getD_eq_getElem?_getD, List.getElem?_eq_getElem (by omega)]
      exact hcl 3 (by omega)
    have hN : frameN xs = (xs.getD 2 0).toNat * 256 + (xs.getD 3 0).toNat := by
      unfold frameN
      rw [if_pos (by omega), if_pos (by omega)]
    have HN := Lib.hid hN
    have hb2 := (xs.getD 2 0).toNat_lt
    have hb3 := (xs.getD 3 0).toNat_lt
    clear hR hh hl hN
    generalize xs.getD 2 0 = y2 at *
    generalize xs.getD 3 0 = y3 at *
    go_enter Try.func71, Try.ntmps71
    go_wp2_with (fail)
    generalize (w.alloc (.cells #[.int .u8 165, .int .u8 90] 5)) = w1 at *
    refine reg_begin (Pure') (by kernel_rfl) ?_
    refine reg_take 0 (v := ?_) rfl (by kernel_rfl) (by kernel_rfl) (by kernel_rfl) (fun _ _ _ h => h) (by kernel_rfl) ?_ ?_
    rotate_left
    · (intro w' hS; go_simp; (try go_bits); (try with_reducible rfl))
    try simp only [Act.put, List.getElem_toArray, List.getElem_cons_zero, List.getElem_cons_succ, List.setIfInBounds_toArray, List.set_cons_zero, List.set_cons_succ]
    refine reg_take 1 (v := ?_) rfl (by kernel_rfl) (by kernel_rfl) (by kernel_rfl) (fun _ _ _ h => h) (by kernel_rfl) ?_ ?_
    rotate_left
    · (intro w' hS; go_simp; (try go_bits); (try with_reducible rfl))
    try simp only [Act.put, List.getElem_toArray, List.getElem_cons_zero, List.getElem_cons_succ, List.setIfInBounds_toArray, List.set_cons_zero, List.set_cons_succ]
    refine reg_take 2 (v := ?_) rfl (by kernel_rfl) (by kernel_rfl) (by kernel_rfl) (fun _ _ _ h => h) (by kernel_rfl) ?_ ?_
    rotate_left
    · (intro w' hS; go_simp; (try go_bits); (try with_reducible rfl))
    try simp only [Act.put, List.getElem_toArray, List.getElem_cons_zero, List.getElem_cons_succ, List.setIfInBounds_toArray, List.set_cons_zero, List.set_cons_succ]
    refine reg_take 3 (v := ?_) rfl (by kernel_rfl) (by kernel_rfl) (by kernel_rfl) (fun _ _ _ h => h) (by kernel_rfl) ?_ ?_
    rotate_left
    · (intro w' hS; go_simp; (try go_bits); (try with_reducible rfl))
    try simp only [Act.put, List.getElem_toArray, List.getElem_cons_zero, List.getElem_cons_succ, List.setIfInBounds_toArray, List.set_cons_zero, List.set_cons_succ]
    refine reg_take 4 (v := ?_) rfl (by kernel_rfl) (by kernel_rfl) (by kernel_rfl) (fun _ _ _ h => h) (by kernel_rfl) ?_ ?_
    rotate_left
    · (intro w' hS; go_simp; (try go_bits); (try with_reducible rfl))
    try simp only [Act.put, List.getElem_toArray, List.getElem_cons_zero, List.getElem_cons_succ, List.setIfInBounds_toArray, List.set_cons_zero, List.set_cons_succ]
    refine reg_take 5 (v := ?_) rfl (by kernel_rfl) (by kernel_rfl) (by kernel_rfl) (fun _ _ _ h => h) (by kernel_rfl) ?_ ?_
    rotate_left
    · (intro w' hS; go_simp; (try go_bits); (try with_reducible rfl))
    try simp only [Act.put, List.getElem_toArray, List.getElem_cons_zero, List.getElem_cons_succ, List.setIfInBounds_toArray, List.set_cons_zero, List.set_cons_succ]
    refine reg_do 6 rfl (by kernel_rfl) (by kernel_rfl) ?_
    intro K hK
    go_simp
    refine (eqb_any _ _ _ _ _ _ _ _ _ hp.drew hH.drew true hdec).mono ?_
    rintro e w2 ⟨rfl, rfl⟩
    go_simp
    refine hK _ _ (Chg.refl _ _) ?_
    clear hK K
    try simp only [Act.put, List.getElem_toArray, List.getElem_cons_zero, List.getElem_cons_succ, List.setIfInBounds_toArray, List.set_cons_zero, List.set_cons_succ]
    refine reg_take 7 (v := ?_) rfl (by kernel_rfl) (by kernel_rfl) (by kernel_rfl) (fun _ _ _ h => h) (by kernel_rfl) ?_ ?_
    rotate_left
    · (intro w' hS; go_simp; (try go_bits); (try with_reducible rfl))
    try simp only [Act.put, List.getElem_toArray, List.getElem_cons_zero, List.getElem_cons_succ, List.setIfInBounds_toArray, List.set_cons_zero, List.set_cons_succ]
    refine wpAnyH_done (by kernel_rfl) ?_ _
    have q2 : w1.drew.cell? ⟨b, off + 2, none⟩ = some (.int .u8 (y2.toNat : Int)) := q2
    have q3 : w1.drew.cell? ⟨b, off + 2 + 1, none⟩ = some (.int .u8 (y3.toNat : Int)) := q3
    have ca := ca.drew
    generalize w1.drew = w2 at *
    go_wp2_with (fail)
    go_loop [6, 34] (fun s i => ∃ k : Nat, i = .int .i64 k ∧ ((k = 0 ∧ s = .int .i64 0) ∨ (k = 1 ∧ s = .int .i64 ((y2.toNat : Int) * 256)) ∨ (k = 2 ∧ s = .int .i64 ((y2.toNat : Int) * 256 + (y3.toNat : Int))))) (fun _ i => 2 - (intOf i).toNat)
    case atStart => exact ⟨0, rfl, .inl ⟨rfl, rfl⟩⟩
    case round =>
      obtain ⟨k, rfl, hk⟩ := hrel
      rcases hk with ⟨rfl, rfl⟩ | ⟨rfl, rfl⟩ | ⟨rfl, rfl⟩
      · go_wp2
        go_round
        case rel => exact ⟨1, by go_num, .inr (.inl ⟨rfl, by go_num⟩)⟩
        case measure => simp [intOf]
      · go_wp2
        go_round
        case rel => exact ⟨2, by go_num, .inr (.inr ⟨rfl, by go_num⟩)⟩
        case measure => simp [intOf]
      · clear q2 q3
        have hNi : (y2.toNat : Int) * 256 + (y3.toNat : Int) = ((frameN xs : Nat) : Int) := by have := HN.out; omega
        rw [hNi]
        have hNb := frameN_lt xs
        clear hNi
        generalize frameN xs = N at *
        by_cases hbig : 1200 < N
        · have u1 : (1200 : Int) < (N : Int) := by omega
          go_wp2
          go_ret2
          refine ⟨ca, ?_⟩
          rw [HR.out, if_pos hbig]
          rfl
        · have u1 : (N : Int) ≤ (1200 : Int) := by omega
          rw [if_neg hbig] at HR
          by_cases hfew : n < N + 8
          · have u2 : (n : Int) < 4 + (N : Int) + 4 := by omega
            go_wp2
            go_ret2
            refine ⟨ca, ?_⟩
            rw [HR.out, if_pos (.inr (by rw [HL.out]; exact hfew))]
            rfl
          · have u2 : ((n : Int) < 4 + (N : Int) + 4) = False := eq_false (by omega)
            rw [if_neg (by rw [HL.out]; omega)] at HR
            have u3 : 4 + (N : Int) + 4 ≤ (c : Int) := by omega
            have u4 : (2 : Int) ≤ 4 + (N : Int) + 4 := by omega
            have u5 : (c = 2) = False := eq_false (by omega)
            have hA2 := (hA.pure ca).part 2 (N + 8) (by omega) (by omega)
            have hlen : ((xs.take (N + 8)).drop 2).length = (N + 2) + 4 := by have := HL.out; simp; omega
            have hA3 : Bytes w2 (some ⟨b, off + 2, none⟩) (N + 2 + 4) ((xs.take (N + 8)).drop 2) := by
              rw [show N + 2 + 4 = N + 8 - 2 from by omega]; exact hA2
            have HA3 := Lib.hid hA3
            have HLN := Lib.hid hlen
            obtain ⟨op, hop⟩ : ∃ op, crcOpen ((xs.take (N + 8)).drop 2) = op := ⟨_, rfl⟩
            rw [hop] at HR
            have HOP := Lib.hid hop
            clear hop hlen hA2 hA3
            cases op with
            | none =>
              go_wp2_with (fail)
              rw [show 4 + N + 2 = N + 2 + 4 from by omega]
              refine (open_none _ _ (N + 2 + 4) _ _ HA3.out (by omega) (by omega) HOP.out).mono ?_
              rintro e w3 ⟨rfl, c3⟩
              go_wp2
              go_ret2
              refine ⟨ca.pure c3, ?_⟩
              rw [HR.out]
              rfl
            | some ys =>
              have hys : ys.length = N + 2 := by
                obtain ⟨-, hx⟩ := (crcOpen_iff HLN.out ys).1 HOP.out
                rw [← hx]; simp; have := HL.out; omega
              have HYS := Lib.hid hys
              clear hys
              go_wp2_with (fail)
              rw [show 4 + N + 2 = N + 2 + 4 from by omega]
              refine (open_own _ _ (N + 2) _ ys _ HA3.out (by omega) (by omega) HOP.out).mono ?_
              rintro e w3 ⟨v, rfl, ho, c3⟩
              rcases ho.2 with ⟨rfl, h0⟩ | ⟨g, q, cur, rfl, hg, hh, hq, hqm, hcs, htk⟩
              · omega
              · have hld : ∀ A', (A' = some ⟨g, 2, none⟩ ∨ (A' = some ⟨g, 0, none⟩ ∧ N = 0)) → Load w3 w.heap.size A' (ys.drop 2) := by
                  intro A' hA'
                  have hlen : (ys.drop 2).length = N := by have := HYS.out; simp; omega
                  refine ⟨?_, fun a ha => ?_⟩
                  · rw [hlen]
                    refine ⟨hlen, fun hp => ?_⟩
                    rcases hA' with rfl | ⟨rfl, h0⟩
                    · refine ⟨g, 2, rfl, fun j hj => ?_⟩
                      have := ho.cellAt (2 + j) (by omega)
                      rw [this, enc_get ys (2 + j) (by have := HYS.out; omega)]
                      simp
                    · omega
                  · have hag : a.block = g := by
                      rcases hA' with rfl | ⟨rfl, -⟩ <;> (cases ha; rfl)
                    rw [hag]
                    exact ⟨by have := ca.size; omega, cur, hh⟩
                have C3 := ca.pure c3
                have HLD := Lib.hid hld
                have t1 : 2 ≤ q := by omega
                have t2 : 2 ≤ N + 2 := by omega
                clear ho hh hld c3 hcs htk
                have hlen : (ys.drop 2).length = N := by have := HYS.out; simp; omega
                have HLE := Lib.hid hlen
                clear hlen
                by_cases hq2 : q = 2
                · subst hq2
                  go_wp2_with (fail)
                  go_quiet (fail)
                  go_wp2
                  go_ret2
                  refine ⟨C3.drewN _, ?_⟩
                  rw [HR.out]
                  refine ⟨some ⟨g, 0, none⟩, 0, by rw [HLE.out, show N = 0 from by omega]; rfl, by rw [HLE.out]; omega, ?_⟩
                  exact (HLD.out _ (.inr ⟨rfl, by omega⟩)).frame ((Chg.refl Pure' _).drewN _) (fun _ _ h => h)
                · have hq3 : (q = 2) = False := eq_false hq2
                  go_wp2_with (fail)
                  go_quiet (fail)
                  go_wp2
                  go_ret2
                  refine ⟨C3.drewN _, ?_⟩
                  rw [HR.out]
                  refine ⟨some ⟨g, 2, none⟩, q - 2, by rw [HLE.out]; rfl, by rw [HLE.out]; omega, ?_⟩
                  exact (HLD.out _ (.inl rfl)).frame ((Chg.refl Pure' _).drewN _) (fun _ _ h => h)
end Go.Proofs.Ytnpkpfcljkekfaa
namespace Go.Proofs.Ytnpkpfcljkekfaa
open Go Go.RowKit
set_option linter.unusedVariables false
set_option maxRecDepth 100000
set_option linter.unusedSimpArgs false

set_option maxHeartbeats 4000000 in
theorem look_1 (b off c : Nat) (xs : List UInt8) (w : World) (hA : Bytes w (some ⟨b, off, none⟩) 1 xs) (hc : 1 ≤ c) :
    Calls Try.prog 71 #[.slice (some ⟨b, off, none⟩) 1 c] w (lookPost w xs) := by
  have hl := hA.len
  have ca : Chg Pure' w (w.alloc (.cells #[.int .u8 165, .int .u8 90] 5)) := (Chg.refl _ w).alloc _
  have hH0 := Bytes.alloc_lit w #[.int .u8 165, .int .u8 90] 5 [165, 90] rfl 2 rfl
  have hH : Bytes (w.alloc (.cells #[.int .u8 165, .int .u8 90] 5)) (some ⟨w.heap.size, 0, none⟩) 1 [165] := by
    have := hH0.part 0 1 (by omega) (by omega)
    exact this
  have hA1 := hA.pure ca
  have hp : Bytes (w.alloc (.cells #[.int .u8 165, .int .u8 90] 5)) (some ⟨b, off, none⟩) 1 (xs.take 1) := by
    have := hA1.part 0 1 (by omega) (by omega)
    exact this
  have hdec : decide (xs.take 1 = [165]) = headOk xs := by
    unfold headOk
    rw [hl, show min 1 2 = 1 from rfl]
    rw [show xs.take 2 = xs.take 1 from by rw [List.take_of_length_le (by omega), List.take_of_length_le (by omega)]]
    rfl
  have s1 : (1 : Int) ≤ (c : Int) := by omega
  have s4 : 1 ≤ c := by omega
  have hN : frameN xs = 0 := by
    unfold frameN
    rw [hl]
    rfl
  cases hh : headOk xs with
  | false =>
    rw [hh] at hdec
    have hR : lookB xs = .nothing := by unfold lookB; rw [if_pos hh]
    have HR := Lib.hid hR
    clear hR hh hl hN
    go_enter Try.func71, Try.ntmps71
    go_wp2_with (fail)
    generalize (w.alloc (.cells #[.int .u8 165, .int .u8 90] 5)) = w1 at *
    refine reg_begin (Pure') (by kernel_rfl) ?_
    refine reg_take 0 (v := ?_) rfl (by kernel_rfl) (by kernel_rfl) (by kernel_rfl) (fun _ _ _ h => h) (by kernel_rfl) ?_ ?_
    rotate_left
    · (intro w' hS; go_simp; (try go_bits); (try with_reducible rfl))
    try simp only [Act.put, List.getElem_toArray, List.getElem_cons_zero, List.getElem_cons_succ, List.setIfInBounds_toArray, List.set_cons_zero, List.set_cons_succ]
    refine reg_take 1 (v := ?_) rfl (by kernel_rfl) (by kernel_rfl) (by kernel_rfl) (fun _ _ _ h => h) (by kernel_rfl) ?_ ?_
    rotate_left
    · (intro w' hS; go_simp; (try go_bits); (try with_reducible rfl))
    try simp only [Act.put, List.getElem_toArray, List.getElem_cons_zero, List.getElem_cons_succ, List.setIfInBounds_toArray, List.set_cons_zero, List.set_cons_succ]
    refine reg_take 2 (v := ?_) rfl (by kernel_rfl) (by kernel_rfl) (by kernel_rfl) (fun _ _ _ h => h) (by kernel_rfl) ?_ ?_
    rotate_left
    · (intro w' hS; go_simp; (try go_bits); (try with_reducible rfl))
    try simp only [Act.put, List.getElem_toArray, List.getElem_cons_zero, List.getElem_cons_succ, List.setIfInBounds_toArray, List.set_cons_zero, List.set_cons_succ]
    refine reg_take 3 (v := ?_) rfl (by kernel_rfl) (by kernel_rfl) (by kernel_rfl) (fun _ _ _ h => h) (by kernel_rfl) ?_ ?_
    rotate_left
    · (intro w' hS; go_simp; (try go_bits); (try with_reducible rfl))
    try simp only [Act.put, List.getElem_toArray, List.getElem_cons_zero, List.getElem_cons_succ, List.setIfInBounds_toArray, List.set_cons_zero, List.set_cons_succ]
    refine reg_take 4 (v := ?_) rfl (by kernel_rfl) (by kernel_rfl) (by kernel_rfl) (fun _ _ _ h => h) (by kernel_rfl) ?_ ?_
    rotate_left
    · (intro w' hS; go_simp; (try go_bits); (try with_reducible rfl))
    try simp only [Act.put, List.getElem_toArray, List.getElem_cons_zero, List.getElem_cons_succ, List.setIfInBounds_toArray, List.set_cons_zero, List.set_cons_succ]
    refine reg_take 5 (v := ?_) rfl (by kernel_rfl) (by kernel_rfl) (by kernel_rfl) (fun _ _ _ h => h) (by kernel_rfl) ?_ ?_
    rotate_left
    · (intro w' hS; go_simp; (try go_bits); (try with_reducible rfl))
    try simp only [Act.put, List.getElem_toArray, List.getElem_cons_zero, List.getElem_cons_succ, List.setIfInBounds_toArray, List.set_cons_zero, List.set_cons_succ]
    refine reg_do 6 rfl (by kernel_rfl) (by kernel_rfl) ?_
    intro K hK
    go_simp
    refine (eqb_any _ _ _ _ _ _ _ _ _ hp.drew hH.drew false hdec).mono ?_
    rintro e w2 ⟨rfl, rfl⟩
    go_simp
    refine hK _ _ (Chg.refl _ _) ?_
    clear hK K
    try simp only [Act.put, List.getElem_toArray, List.getElem_cons_zero, List.getElem_cons_succ, List.setIfInBounds_toArray, List.set_cons_zero, List.set_cons_succ]
    refine reg_take 7 (v := ?_) rfl (by kernel_rfl) (by kernel_rfl) (by kernel_rfl) (fun _ _ _ h => h) (by kernel_rfl) ?_ ?_
    rotate_left
    · (intro w' hS; go_simp; (try go_bits); (try with_reducible rfl))
    try simp only [Act.put, List.getElem_toArray, List.getElem_cons_zero, List.getElem_cons_succ, List.setIfInBounds_toArray, List.set_cons_zero, List.set_cons_succ]
    refine wpAnyH_done (by kernel_rfl) ?_ _
    go_wp2
    go_ret2
    refine ⟨ca.drew, ?_⟩
    rw [HR.out]
    rfl
  | true =>
    rw [hh] at hdec
    have hR : lookB xs = if 1200 < frameN xs then .nothing else .few := by
      unfold lookB; rw [if_neg (by rw [hh]; simp)]
      split
      · rfl
      · rw [if_pos (.inl (by omega))]
    rw [hN] at hR
    have HR := Lib.hid hR
    clear hR hh hl hN
    by_cases hc1 : c = 1
    · have s9 : (c = 1) = True := eq_true hc1
      clear hc1
      go_enter Try.func71, Try.ntmps71
      go_wp2_with (fail)
      generalize (w.alloc (.cells #[.int .u8 165, .int .u8 90] 5)) = w1 at *
      refine reg_begin (Pure') (by kernel_rfl) ?_
      refine reg_take 0 (v := ?_) rfl (by kernel_rfl) (by kernel_rfl) (by kernel_rfl) (fun _ _ _ h => h) (by kernel_rfl) ?_ ?_
      rotate_left
      · (intro w' hS; go_simp; (try go_bits); (try with_reducible rfl))
      try simp only [Act.put, List.getElem_toArray, List.getElem_cons_zero, List.getElem_cons_succ, List.setIfInBounds_toArray, List.set_cons_zero, List.set_cons_succ]
      refine reg_take 1 (v := ?_) rfl (by kernel_rfl) (by kernel_rfl) (by kernel_rfl) (fun _ _ _ h => h) (by kernel_rfl) ?_ ?_
      rotate_left
      · (intro w' hS; go_simp; (try go_bits); (try with_reducible rfl))
      try simp only [Act.put, List.getElem_toArray, List.getElem_cons_zero, List.getElem_cons_succ, List.setIfInBounds_toArray, List.set_cons_zero, List.set_cons_succ]
      refine reg_take 2 (v := ?_) rfl (by kernel_rfl) (by kernel_rfl) (by kernel_rfl) (fun _ _ _ h => h) (by kernel_rfl) ?_ ?_
      rotate_left
      · (intro w' hS; go_simp; (try go_bits); (try with_reducible rfl))
      try simp only [Act.put, List.getElem_toArray, List.getElem_cons_zero, List.getElem_cons_succ, List.setIfInBounds_toArray, List.set_cons_zero, List.set_cons_succ]
      refine reg_take 3 (v := ?_) rfl (by kernel_rfl) (by kernel_rfl) (by kernel_rfl) (fun _ _ _ h => h) (by kernel_rfl) ?_ ?_
      rotate_left
      · (intro w' hS; go_simp; (try go_bits); (try with_reducible rfl))
      try simp only [Act.put, List.getElem_toArray, List.getElem_cons_zero, List.getElem_cons_succ, List.setIfInBounds_toArray, List.set_cons_zero, List.set_cons_succ]
      refine reg_take 4 (v := ?_) rfl (by kernel_rfl) (by kernel_rfl) (by kernel_rfl) (fun _ _ _ h => h) (by kernel_rfl) ?_ ?_
      rotate_left
      · (intro w' hS; go_simp; (try go_bits); (try with_reducible rfl))
      try simp only [Act.put, List.getElem_toArray, List.getElem_cons_zero, List.getElem_cons_succ, List.setIfInBounds_toArray, List.set_cons_zero, List.set_cons_succ]
      refine reg_take 5 (v := ?_) rfl (by kernel_rfl) (by kernel_rfl) (by kernel_rfl) (fun _ _ _ h => h) (by kernel_rfl) ?_ ?_
      rotate_left
      · (intro w' hS; go_simp; (try go_bits); (try with_reducible rfl))
      try simp only [Act.put, List.getElem_toArray, List.getElem_cons_zero, List.getElem_cons_succ, List.setIfInBounds_toArray, List.set_cons_zero, List.set_cons_succ]
      refine reg_do 6 rfl (by kernel_rfl) (by kernel_rfl) ?_
      intro K hK
      go_simp
      refine (eqb_any _ _ _ _ _ _ _ _ _ hp.drew hH.drew true hdec).mono ?_
      rintro e w2 ⟨rfl, rfl⟩
      go_simp
      refine hK _ _ (Chg.refl _ _) ?_
      clear hK K
      try simp only [Act.put, List.getElem_toArray, List.getElem_cons_zero, List.getElem_cons_succ, List.setIfInBounds_toArray, List.set_cons_zero, List.set_cons_succ]
      refine reg_take 7 (v := ?_) rfl (by kernel_rfl) (by kernel_rfl) (by kernel_rfl) (fun _ _ _ h => h) (by kernel_rfl) ?_ ?_
      rotate_left
      · (intro w' hS; go_simp; (try go_bits); (try with_reducible rfl))
      try simp only [Act.put, List.getElem_toArray, List.getElem_cons_zero, List.getElem_cons_succ, List.setIfInBounds_toArray, List.set_cons_zero, List.set_cons_succ]
      refine wpAnyH_done (by kernel_rfl) ?_ _
      have ca := ca.drew
      generalize w1.drew = w2 at *
      go_wp2_with (fail)
      go_loop [6, 34] (fun s i => ∃ k : Nat, k = 0 ∧ i = .int .i64 k ∧ s = .int .i64 k) (fun _ i => 1 - (intOf i).toNat)
      case atStart => exact ⟨0, rfl, rfl, rfl⟩
      case round =>
        obtain ⟨k, rfl, rfl, rfl⟩ := hrel
        go_wp2
        go_ret2
        refine ⟨ca, ?_⟩
        rw [HR.out]
        rfl
    · have s9 : (c = 1) = False := eq_false hc1
      go_enter Try.func71, Try.ntmps71
      go_wp2_with (fail)
      generalize (w.alloc (.cells #[.int .u8 165, .int .u8 90] 5)) = w1 at *
      refine reg_begin (Pure') (by kernel_rfl) ?_
      refine reg_take 0 (v := ?_) rfl (by kernel_rfl) (by kernel_rfl) (by kernel_rfl) (fun _ _ _ h => h) (by kernel_rfl) ?_ ?_
      rotate_left
      · (intro w' hS; go_simp; (try go_bits); (try with_reducible rfl))
      try simp only [Act.put, List.getElem_toArray, List.getElem_cons_zero, List.getElem_cons_succ, List.setIfInBounds_toArray, List.set_cons_zero, List.set_cons_succ]
      refine reg_take 1 (v := ?_) rfl (by kernel_rfl) (by kernel_rfl) (by kernel_rfl) (fun _ _ _ h => h) (by kernel_rfl) ?_ ?_
      rotate_left
      · (intro w' hS; go_simp; (try go_bits); (try with_reducible rfl))
      try simp only [Act.put, List.getElem_toArray, List.getElem_cons_zero, List.getElem_cons_succ, List.setIfInBounds_toArray, List.set_cons_zero, List.set_cons_succ]
      refine reg_take 2 (v := ?_) rfl (by kernel_rfl) (by kernel_rfl) (by kernel_rfl) (fun _ _ _ h => h) (by kernel_rfl) ?_ ?_
      rotate_left
      · (intro w' hS; go_simp; (try go_bits); (try with_reducible rfl))
      try simp only [Act.put, List.getElem_toArray, List.getElem_cons_zero, List.getElem_cons_succ, List.setIfInBounds_toArray, List.set_cons_zero, List.set_cons_succ]
      refine reg_take 3 (v := ?_) rfl (by kernel_rfl) (by kernel_rfl) (by kernel_rfl) (fun _ _ _ h => h) (by kernel_rfl) ?_ ?_
      rotate_left
      · (intro w' hS; go_simp; (try go_bits); (try with_reducible rfl))
      try simp only [Act.put, List.getElem_toArray, List.getElem_cons_zero, List.getElem_cons_succ, List.setIfInBounds_toArray, List.set_cons_zero, List.set_cons_succ]
      refine reg_take 4 (v := ?_) rfl (by kernel_rfl) (by kernel_rfl) (by kernel_rfl) (fun _ _ _ h => h) (by kernel_rfl) ?_ ?_
      rotate_left
      · (intro w' hS; go_simp; (try go_bits); (try with_reducible rfl))
      try simp only [Act.put, List.getElem_toArray, List.getElem_cons_zero, List.getElem_cons_succ, List.setIfInBounds_toArray, List.set_cons_zero, List.set_cons_succ]
      refine reg_take 5 (v := ?_) rfl (by kernel_rfl) (by kernel_rfl) (by kernel_rfl) (fun _ _ _ h => h) (by kernel_rfl) ?_ ?_
      rotate_left
      · (intro w' hS; go_simp; (try go_bits); (try with_reducible rfl))
      try simp only [Act.put, List.getElem_toArray, List.getElem_cons_zero, List.getElem_cons_succ, List.setIfInBounds_toArray, List.set_cons_zero, List.set_cons_succ]
      refine reg_do 6 rfl (by kernel_rfl) (by kernel_rfl) ?_
      intro K hK
      go_simp
      refine (eqb_any _ _ _ _ _ _ _ _ _ hp.drew hH.drew true hdec).mono ?_
      rintro e w2 ⟨rfl, rfl⟩
      go_simp
      refine hK _ _ (Chg.refl _ _) ?_
      clear hK K
      try simp only [Act.put, List.getElem_toArray, List.getElem_cons_zero, List.getElem_cons_succ, List.setIfInBounds_toArray, List.set_cons_zero, List.set_cons_succ]
      refine reg_take 7 (v := ?_) rfl (by kernel_rfl) (by kernel_rfl) (by kernel_rfl) (fun _ _ _ h => h) (by kernel_rfl) ?_ ?_
      rotate_left
      · (intro w' hS; go_simp; (try go_bits); (try with_reducible rfl))
      try simp only [Act.put, List.getElem_toArray, List.getElem_cons_zero, List.getElem_cons_succ, List.setIfInBounds_toArray, List.set_cons_zero, List.set_cons_succ]
      refine wpAnyH_done (by kernel_rfl) ?_ _
      have ca := ca.drew
      generalize w1.drew = w2 at *
      go_wp2_with (fail)
      go_loop [6, 34] (fun s i => ∃ k : Nat, k = 0 ∧ i = .int .i64 k ∧ s = .int .i64 k) (fun _ i => 1 - (intOf i).toNat)
      case atStart => exact ⟨0, rfl, rfl, rfl⟩
      case round =>
        obtain ⟨k, rfl, rfl, rfl⟩ := hrel
        go_wp2
        go_ret2
        refine ⟨ca, ?_⟩
        rw [HR.out]
        rfl
set_option maxHeartbeats 4000000 in
theorem look_2 (b off c : Nat) (xs : List UInt8) (w : World) (hA : Bytes w (some ⟨b, off, none⟩) 2 xs) (hc : 2 ≤ c) :
    Calls Try.prog 71 #[.slice (some ⟨b, off, none⟩) 2 c] w (lookPost w xs) := by
  have hl := hA.len
  have ca : Chg Pure' w (w.alloc (.cells #[.int .u8 165, .int .u8 90] 5)) := (Chg.refl _ w).alloc _
  have hH0 := Bytes.alloc_lit w #[.int .u8 165, .int .u8 90] 5 [165, 90] rfl 2 rfl
  have hH : Bytes (w.alloc (.cells #[.int .u8 165, .int .u8 90] 5)) (some ⟨w.heap.size, 0, none⟩) 2 [165, 90] := by
    have := hH0.part 0 2 (by omega) (by omega)
    exact this
  have hA1 := hA.pure ca
  have hp : Bytes (w.alloc (.cells #[.int .u8 165, .int .u8 90] 5)) (some ⟨b, off, none⟩) 2 (xs.take 2) := by
    have := hA1.part 0 2 (by omega) (by omega)
    exact this
  have hdec : decide (xs.take 2 = [165, 90]) = headOk xs := by
    unfold headOk
    rw [hl, show min 2 2 = 2 from rfl]
    rw [show xs.take 2 = xs.take 2 from rfl]
    rfl
  have s1 : (2 : Int) ≤ (c : Int) := by omega
  have s4 : 2 ≤ c := by omega
  have hN : frameN xs = 0 := by
    unfold frameN
    rw [hl]
    rfl
  cases hh : headOk xs with
  | false =>
    rw [hh] at hdec
    have hR : lookB xs = .nothing := by unfold lookB; rw [if_pos hh]
    have HR := Lib.hid hR
    clear hR hh hl hN
    go_enter Try.func71, Try.ntmps71
    go_wp2_with (fail)
    generalize (w.alloc (.cells #[.int .u8 165, .int .u8 90] 5)) = w1 at *
    refine reg_begin (Pure') (by kernel_rfl) ?_
    refine reg_take 0 (v := ?_) rfl (by kernel_rfl) (by kernel_rfl) (by kernel_rfl) (fun _ _ _ h => h) (by kernel_rfl) ?_ ?_
    rotate_left
    · (intro w' hS; go_simp; (try go_bits); (try with_reducible rfl))
    try simp only [Act.put, List.getElem_toArray, List.getElem_cons_zero, List.getElem_cons_succ, List.setIfInBounds_toArray, List.set_cons_zero, List.set_cons_succ]
    refine reg_take 1 (v := ?_) rfl (by kernel_rfl) (by kernel_rfl) (by kernel_rfl) (fun _ _ _ h => h) (by kernel_rfl) ?_ ?_
    rotate_left
    · (intro w' hS; go_simp; (try go_bits); (try with_reducible rfl))
    try simp only [Act.put, List.getElem_toArray, List.getElem_cons_zero, List.getElem_cons_succ, List.setIfInBounds_toArray, List.set_cons_zero, List.set_cons_succ]
    refine reg_take 2 (v := ?_) rfl (by kernel_rfl) (by kernel_rfl) (by kernel_rfl) (fun _ _ _ h => h) (by kernel_rfl) ?_ ?_
    rotate_left
    · (intro w' hS; go_simp; (try go_bits); (try with_reducible rfl))
    try simp only [Act.put, List.getElem_toArray, List.getElem_cons_zero, List.getElem_cons_succ, List.setIfInBounds_toArray, List.set_cons_zero, List.set_cons_succ]
    refine reg_take 3 (v := ?_) rfl (by kernel_rfl) (by kernel_rfl) (by kernel_rfl) (fun _ _ _ h => h) (by kernel_rfl) ?_ ?_
    rotate_left
    · (intro w' hS; go_simp; (try go_bits); (try with_reducible rfl))
    try simp only [Act.put, List.getElem_toArray, List.getElem_cons_zero, List.getElem_cons_succ, List.setIfInBounds_toArray, List.set_cons_zero, List.set_cons_succ]
    refine reg_take 4 (v := ?_) rfl (by kernel_rfl) (by kernel_rfl) (by kernel_rfl) (fun _ _ _ h => h) (by kernel_rfl) ?_ ?_
    rotate_left
    · (intro w' hS; go_simp; (try go_bits); (try with_reducible rfl))
    try simp only [Act.put, List.getElem_toArray, List.getElem_cons_zero, List.getElem_cons_succ, List.setIfInBounds_toArray, List.set_cons_zero, List.set_cons_succ]
    refine reg_take 5 (v := ?_) rfl (by kernel_rfl) (by kernel_rfl) (by kernel_rfl) (fun _ _ _ h => h) (by kernel_rfl) ?_ ?_
    rotate_left
    · (intro w' hS; go_simp; (try go_bits); (try with_reducible rfl))
    try simp only [Act.put, List.getElem_toArray, List.getElem_cons_zero, List.getElem_cons_succ, List.setIfInBounds_toArray, List.set_cons_zero, List.set_cons_succ]
    refine reg_do 6 rfl (by kernel_rfl) (by kernel_rfl) ?_
    intro K hK
    go_simp
    refine (eqb_any _ _ _ _ _ _ _ _ _ hp.drew hH.drew false hdec).mono ?_
    rintro e w2 ⟨rfl, rfl⟩
    go_simp
    refine hK _ _ (Chg.refl _ _) ?_
    clear hK K
    try simp only [Act.put, List.getElem_toArray, List.getElem_cons_zero, List.getElem_cons_succ, List.setIfInBounds_toArray, List.set_cons_zero, List.set_cons_succ]
    refine reg_take 7 (v := ?_) rfl (by kernel_rfl) (by kernel_rfl) (by kernel_rfl) (fun _ _ _ h => h) (by kernel_rfl) ?_ ?_
    rotate_left
    · (intro w' hS; go_simp; (try go_bits); (try with_reducible rfl))
    try simp only [Act.put, List.getElem_toArray, List.getElem_cons_zero, List.getElem_cons_succ, List.setIfInBounds_toArray, List.set_cons_zero, List.set_cons_succ]
    refine wpAnyH_done (by kernel_rfl) ?_ _
    go_wp2
    go_ret2
    refine ⟨ca.drew, ?_⟩
    rw [HR.out]
    rfl
  | true =>
    rw [hh] at hdec
    have hR : lookB xs = if 1200 < frameN xs then .nothing else .few := by
      unfold lookB; rw [if_neg (by rw [hh]; simp)]
      split
      · rfl
      · rw [if_pos (.inl (by omega))]
    rw [hN] at hR
    have HR := Lib.hid hR
    clear hR hh hl hN
    by_cases hc2 : c = 2
    · have s9 : (c = 2) = True := eq_true hc2
      clear hc2
      go_enter Try.func71, Try.ntmps71
      go_wp2_with (fail)
      generalize (w.alloc (.cells #[.int .u8 165, .int .u8 90] 5)) = w1 at *
      refine reg_begin (Pure') (by kernel_rfl) ?_
      refine reg_take 0 (v := ?_) rfl (by kernel_rfl) (by kernel_rfl) (by kernel_rfl) (fun _ _ _ h => h) (by kernel_rfl) ?_ ?_
      rotate_left
      · (intro w' hS; go_simp; (try go_bits); (try with_reducible rfl))
      try simp only [Act.put, List.getElem_toArray, List.getElem_cons_zero, List.getElem_cons_succ, List.setIfInBounds_toArray, List.set_cons_zero, List.set_cons_succ]
      refine reg_take 1 (v := ?_) rfl (by kernel_rfl) (by kernel_rfl) (by kernel_rfl) (fun _ _ _ h => h) (by kernel_rfl) ?_ ?_
      rotate_left
      · (intro w' hS; go_simp; (try go_bits); (try with_reducible rfl))
      try simp only [Act.put, List.getElem_toArray, List.getElem_cons_zero, List.getElem_cons_succ, List.setIfInBounds_toArray, List.set_cons_zero, List.set_cons_succ]
      refine reg_take 2 (v := ?_) rfl (by kernel_rfl) (by kernel_rfl) (by kernel_rfl) (fun _ _ _ h => h) (by kernel_rfl) ?_ ?_
      rotate_left
      · (intro w' hS; go_simp; (try go_bits); (try with_reducible rfl))
      try simp only [Act.put, List.getElem_toArray, List.getElem_cons_zero, List.getElem_cons_succ, List.setIfInBounds_toArray, List.set_cons_zero, List.set_cons_succ]
      refine reg_take 3 (v := ?_) rfl (by kernel_rfl) (by kernel_rfl) (by kernel_rfl) (fun _ _ _ h => h) (by kernel_rfl) ?_ ?_
      rotate_left
      · (intro w' hS; go_simp; (try go_bits); (try with_reducible rfl))
      try simp only [Act.put, List.getElem_toArray, List.getElem_cons_zero, List.getElem_cons_succ, List.setIfInBounds_toArray, List.set_cons_zero, List.set_cons_succ]
      refine reg_take 4 (v := ?_) rfl (by kernel_rfl) (by kernel_rfl) (by kernel_rfl) (fun _ _ _ h => h) (by kernel_rfl) ?_ ?_
      rotate_left
      · (intro w' hS; go_simp; (try go_bits); (try with_reducible rfl))
      try simp only [Act.put, List.getElem_toArray, List.getElem_cons_zero, List.getElem_cons_succ, List.setIfInBounds_toArray, List.set_cons_zero, List.set_cons_succ]
      refine reg_take 5 (v := ?_) rfl (by kernel_rfl) (by kernel_rfl) (by kernel_rfl) (fun _ _ _ h => h) (by kernel_rfl) ?_ ?_
      rotate_left
      · (intro w' hS; go_simp; (try go_bits); (try with_reducible rfl))
      try simp only [Act.put, List.getElem_toArray, List.getElem_cons_zero, List.getElem_cons_succ, List.setIfInBounds_toArray, List.set_cons_zero, List.set_cons_succ]
      refine reg_do 6 rfl (by kernel_rfl) (by kernel_rfl) ?_
      intro K hK
      go_simp
      refine (eqb_any _ _ _ _ _ _ _ _ _ hp.drew hH.drew true hdec).mono ?_
      rintro e w2 ⟨rfl, rfl⟩
      go_simp
      refine hK _ _ (Chg.refl _ _) ?_
      clear hK K
      try simp only [Act.put, List.getElem_toArray, List.getElem_cons_zero, List.getElem_cons_succ, List.setIfInBounds_toArray, List.set_cons_zero, List.set_cons_succ]
      refine reg_take 7 (v := ?_) rfl (by kernel_rfl) (by kernel_rfl) (by kernel_rfl) (fun _ _ _ h => h) (by kernel_rfl) ?_ ?_
      rotate_left
      · (intro w' hS; go_simp; (try go_bits); (try with_reducible rfl))
      try simp only [Act.put, List.getElem_toArray, List.getElem_cons_zero, List.getElem_cons_succ, List.setIfInBounds_toArray, List.set_cons_zero, List.set_cons_succ]
      refine wpAnyH_done (by kernel_rfl) ?_ _
      have ca := ca.drew
      generalize w1.drew = w2 at *
      go_wp2_with (fail)
      go_loop [6, 34] (fun s i => ∃ k : Nat, k = 0 ∧ i = .int .i64 k ∧ s = .int .i64 k) (fun _ i => 1 - (intOf i).toNat)
      case atStart => exact ⟨0, rfl, rfl, rfl⟩
      case round =>
        obtain ⟨k, rfl, rfl, rfl⟩ := hrel
        go_wp2
        go_ret2
        refine ⟨ca, ?_⟩
        rw [HR.out]
        rfl
    · have s9 : (c = 2) = False := eq_false hc2
      go_enter Try.func71, Try.ntmps71
      go_wp2_with (fail)
      generalize (w.alloc (.cells #[.int .u8 165, .int .u8 90] 5)) = w1 at *
      refine reg_begin (Pure') (by kernel_rfl) ?_
      refine reg_take 0 (v := ?_) rfl (by kernel_rfl) (by kernel_rfl) (by kernel_rfl) (fun _ _ _ h => h) (by kernel_rfl) ?_ ?_
      rotate_left
      · (intro w' hS; go_simp; (try go_bits); (try with_reducible rfl))
      try simp only [Act.put, List.getElem_toArray, List.getElem_cons_zero, List.getElem_cons_succ, List.setIfInBounds_toArray, List.set_cons_zero, List.set_cons_succ]
      refine reg_take 1 (v := ?_) rfl (by kernel_rfl) (by kernel_rfl) (by kernel_rfl) (fun _ _ _ h => h) (by kernel_rfl) ?_ ?_
      rotate_left
      · (intro w' hS; go_simp; (try go_bits); (try with_reducible rfl))
      try simp only [Act.put, List.getElem_toArray, List.getElem_cons_zero, List.getElem_cons_succ, List.setIfInBounds_toArray, List.set_cons_zero, List.set_cons_succ]
      refine reg_take 2 (v := ?_) rfl (by kernel_rfl) (by kernel_rfl) (by kernel_rfl) (fun _ _ _ h => h) (by kernel_rfl) ?_ ?_
      rotate_left
      · (intro w' hS; go_simp; (try go_bits); (try with_reducible rfl))
      try simp only [Act.put, List.getElem_toArray, List.getElem_cons_zero, List.getElem_cons_succ, List.setIfInBounds_toArray, List.set_cons_zero, List.set_cons_succ]
      refine reg_take 3 (v := ?_) rfl (by kernel_rfl) (by kernel_rfl) (by kernel_rfl) (fun _ _ _ h => h) (by kernel_rfl) ?_ ?_
      rotate_left
      · (intro w' hS; go_simp; (try go_bits); (try with_reducible rfl))
      try simp only [Act.put, List.getElem_toArray, List.getElem_cons_zero, List.getElem_cons_succ, List.setIfInBounds_toArray, List.set_cons_zero, List.set_cons_succ]
      refine reg_take 4 (v := ?_) rfl (by kernel_rfl) (by kernel_rfl) (by kernel_rfl) (fun _ _ _ h => h) (by kernel_rfl) ?_ ?_
      rotate_left
      · (intro w' hS; go_simp; (try go_bits); (try with_reducible rfl))
      try simp only [Act.put, List.getElem_toArray, List.getElem_cons_zero, List.getElem_cons_succ, List.setIfInBounds_toArray, List.set_cons_zero, List.set_cons_succ]
      refine reg_take 5 (v := ?_) rfl (by kernel_rfl) (by kernel_rfl) (by kernel_rfl) (fun _ _ _ h => h) (by kernel_rfl) ?_ ?_
      rotate_left
      · (intro w' hS; go_simp; (try go_bits); (try with_reducible rfl))
      try simp only [Act.put, List.getElem_toArray, List.getElem_cons_zero, List.getElem_cons_succ, List.setIfInBounds_toArray, List.set_cons_zero, List.set_cons_succ]
      refine reg_do 6 rfl (by kernel_rfl) (by kernel_rfl) ?_
      intro K hK
      go_simp
      refine (eqb_any _ _ _ _ _ _ _ _ _ hp.drew hH.drew true hdec).mono ?_
      rintro e w2 ⟨rfl, rfl⟩
      go_simp
      refine hK _ _ (Chg.refl _ _) ?_
      clear hK K
      try simp only [Act.put, List.getElem_toArray, List.getElem_cons_zero, List.getElem_cons_succ, List.setIfInBounds_toArray, List.set_cons_zero, List.set_cons_succ]
      refine reg_take 7 (v := ?_) rfl (by kernel_rfl) (by kernel_rfl) (by kernel_rfl) (fun _ _ _ h => h) (by kernel_rfl) ?_ ?_
      rotate_left
      · (intro w' hS; go_simp; (try go_bits); (try with_reducible rfl))
      try simp only [Act.put, List.getElem_toArray, List.getElem_cons_zero, List.getElem_cons_succ, List.setIfInBounds_toArray, List.set_cons_zero, List.set_cons_succ]
      refine wpAnyH_done (by kernel_rfl) ?_ _
      have ca := ca.drew
      generalize w1.drew = w2 at *
      go_wp2_with (fail)
      go_loop [6, 34] (fun s i => ∃ k : Nat, k = 0 ∧ i = .int .i64 k ∧ s = .int .i64 k) (fun _ i => 1 - (intOf i).toNat)
      case atStart => exact ⟨0, rfl, rfl, rfl⟩
      case round =>
        obtain ⟨k, rfl, rfl, rfl⟩ := hrel
        go_wp2
        go_ret2
        refine ⟨ca, ?_⟩
        rw [HR.out]
        rfl
set_option maxHeartbeats 4000000 in
theorem look_3 (b off c : Nat) (xs : List UInt8) (w : World) (hA : Bytes w (some ⟨b, off, none⟩) 3 xs) (hc : 3 ≤ c) :
    Calls Try.prog 71 #[.slice (some ⟨b, off, none⟩) 3 c] w (lookPost w xs) := by
  have hl := hA.len
  have ca : Chg Pure' w (w.alloc (.cells #[.int .u8 165, .int .u8 90] 5)) := (Chg.refl _ w).alloc _
  have hH0 := Bytes.alloc_lit w #[.int .u8 165, .int .u8 90] 5 [165, 90] rfl 2 rfl
  have hH : Bytes (w.alloc (.cells #[.int .u8 165, .int .u8 90] 5)) (some ⟨w.heap.size, 0, none⟩) 2 [165, 90] := by
    have := hH0.part 0 2 (by omega) (by omega)
    exact this
  have hA1 := hA.pure ca
  have hp : Bytes (w.alloc (.cells #[.int .u8 165, .int .u8 90] 5)) (some ⟨b, off, none⟩) 2 (xs.take 2) := by
    have := hA1.part 0 2 (by omega) (by omega)
    exact this
  have hdec : decide (xs.take 2 = [165, 90]) = headOk xs := by
    unfold headOk
    rw [hl, show min 3 2 = 2 from rfl]
    rw [show xs.take 2 = xs.take 2 from rfl]
    rfl
  have s1 : (2 : Int) ≤ (c : Int) := by omega
  have s4 : 2 ≤ c := by omega
  have s9 : (c = 2) = False := eq_false (by omega)
  have s10 : (3 : Int) ≤ (c : Int) := by omega
  have s11 : 3 ≤ c := by omega
  have hN : frameN xs = (xs.getD 2 0).toNat * 256 := by
    unfold frameN
    rw [hl]
    rw [if_pos (by omega), if_neg (by omega)]; exact Nat.add_zero _
  cases hh : headOk xs with
  | false =>
    rw [hh] at hdec
    have hR : lookB xs = .nothing := by unfold lookB; rw [if_pos hh]
    have HR := Lib.hid hR
    clear hR hh hl hN
    go_enter Try.func71, Try.ntmps71
    go_wp2_with (fail)
    generalize (w.alloc (.cells #[.int .u8 165, .int .u8 90] 5)) = w1 at *
    refine reg_begin (Pure') (by kernel_rfl) ?_
    refine reg_take 0 (v := ?_) rfl (by kernel_rfl) (by kernel_rfl) (by kernel_rfl) (fun _ _ _ h => h) (by kernel_rfl) ?_ ?_
    rotate_left
    · (intro w' hS; go_simp; (try go_bits); (try with_reducible rfl))
    try simp only [Act.put, List.getElem_toArray, List.getElem_cons_zero, List.getElem_cons_succ, List.setIfInBounds_toArray, List.set_cons_zero, List.set_cons_succ]
    refine reg_take 1 (v := ?_) rfl (by kernel_rfl) (by kernel_rfl) (by kernel_rfl) (fun _ _ _ h => h) (by kernel_rfl) ?_ ?_
    rotate_left
    · (intro w' hS; go_simp; (try go_bits); (try with_reducible rfl))
    try simp only [Act.put, List.getElem_toArray, List.getElem_cons_zero, List.getElem_cons_succ, List.setIfInBounds_toArray, List.set_cons_zero, List.set_cons_succ]
    refine reg_take 2 (v := ?_) rfl (by kernel_rfl) (by kernel_rfl) (by kernel_rfl) (fun _ _ _ h => h) (by kernel_rfl) ?_ ?_
    rotate_left
    · (intro w' hS; go_simp; (try go_bits); (try with_reducible rfl))
    try simp only [Act.put, List.getElem_toArray, List.getElem_cons_zero, List.getElem_cons_succ, List.setIfInBounds_toArray, List.set_cons_zero, List.set_cons_succ]
    refine reg_take 3 (v := ?_) rfl (by kernel_rfl) (by kernel_rfl) (by kernel_rfl) (fun _ _ _ h => h) (by kernel_rfl) ?_ ?_
    rotate_left
    · (intro w' hS; go_simp; (try go_bits); (try with_reducible rfl))
    try simp only [Act.put, List.getElem_toArray, List.getElem_cons_zero, List.getElem_cons_succ, List.setIfInBounds_toArray, List.set_cons_zero, List.set_cons_succ]
    refine reg_take 4 (v := ?_) rfl (by kernel_rfl) (by kernel_rfl) (by kernel_rfl) (fun _ _ _ h => h) (by kernel_rfl) ?_ ?_
    rotate_left
    · (intro w' hS; go_simp; (try go_bits); (try with_reducible rfl))
    try simp only [Act.put, List.getElem_toArray, List.getElem_cons_zero, List.getElem_cons_succ, List.setIfInBounds_toArray, List.set_cons_zero, List.set_cons_succ]
    refine reg_take 5 (v := ?_) rfl (by kernel_rfl) (by kernel_rfl) (by kernel_rfl) (fun _ _ _ h => h) (by kernel_rfl) ?_ ?_
    rotate_left
    · (intro w' hS; go_simp; (try go_bits); (try with_reducible rfl))
    try simp only [Act.put, List.getElem_toArray, List.getElem_cons_zero, List.getElem_cons_succ, List.setIfInBounds_toArray, List.set_cons_zero, List.set_cons_succ]
    refine reg_do 6 rfl (by kernel_rfl) (by kernel_rfl) ?_
    intro K hK
    go_simp
    refine (eqb_any _ _ _ _ _ _ _ _ _ hp.drew hH.drew false hdec).mono ?_
    rintro e w2 ⟨rfl, rfl⟩
    go_simp
    refine hK _ _ (Chg.refl _ _) ?_
    clear hK K
    try simp only [Act.put, List.getElem_toArray, List.getElem_cons_zero, List.getElem_cons_succ, List.setIfInBounds_toArray, List.set_cons_zero, List.set_cons_succ]
    refine reg_take 7 (v := ?_) rfl (by kernel_rfl) (by kernel_rfl) (by kernel_rfl) (fun _ _ _ h => h) (by kernel_rfl) ?_ ?_
    rotate_left
    · (intro w' hS; go_simp; (try go_bits); (try with_reducible rfl))
    try simp only [Act.put, List.getElem_toArray, List.getElem_cons_zero, List.getElem_cons_succ, List.setIfInBounds_toArray, List.set_cons_zero, List.set_cons_succ]
    refine wpAnyH_done (by kernel_rfl) ?_ _
    go_wp2
    go_ret2
    refine ⟨ca.drew, ?_⟩
    rw [HR.out]
    rfl
  | true =>
    rw [hh] at hdec
    have hR : lookB xs = if 1200 < frameN xs then .nothing else .few := by
      unfold lookB; rw [if_neg (by rw [hh]; simp)]
      split
      · rfl
      · rw [if_pos (.inl (by omega))]
    rw [hN] at hR
    have HR := Lib.hid hR
    have q2 : (w.alloc (.cells #[.int .u8 165, .int .u8 90] 5)).cell? ⟨b, off + 2, none⟩ = some (.int .u8 ((xs.getD 2 0).toNat : Int)) := by
      obtain ⟨b', off', e, hcl⟩ := hA1.cells (by omega)
      cases e
      rw [List.getD_eq_getElem?_getD, List.getElem?_eq_getElem (by omega)]
      exact hcl 2 (by omega)
    have hb2 := (xs.getD 2 0).toNat_lt
    clear hR hh hl hN
    generalize xs.getD 2 0 = y2 at *
    go_enter Try.func71, Try.ntmps71
    go_wp2_with (fail)
    generalize (w.alloc (.cells #[.int .u8 165, .int .u8 90] 5)) = w1 at *
    refine reg_begin (Pure') (by kernel_rfl) ?_
    refine reg_take 0 (v := ?_) rfl (by kernel_rfl) (by kernel_rfl) (by kernel_rfl) (fun _ _ _ h => h) (by kernel_rfl) ?_ ?_
    rotate_left
    · (intro w' hS; go_simp; (try go_bits); (try with_reducible rfl))
    try simp only [Act.put, List.getElem_toArray, List.getElem_cons_zero, List.getElem_cons_succ, List.setIfInBounds_toArray, List.set_cons_zero, List.set_cons_succ]
    refine reg_take 1 (v := ?_) rfl (by kernel_rfl) (by kernel_rfl) (by kernel_rfl) (fun _ _ _ h => h) (by kernel_rfl) ?_ ?_
    rotate_left
    · (intro w' hS; go_simp; (try go_bits); (try with_reducible rfl))
    try simp only [Act.put, List.getElem_toArray, List.getElem_cons_zero, List.getElem_cons_succ, List.setIfInBounds_toArray, List.set_cons_zero, List.set_cons_succ]
    refine reg_take 2 (v := ?_) rfl (by kernel_rfl) (by kernel_rfl) (by kernel_rfl) (fun _ _ _ h => h) (by kernel_rfl) ?_ ?_
    rotate_left
    · (intro w' hS; go_simp; (try go_bits); (try with_reducible rfl))
    try simp only [Act.put, List.getElem_toArray, List.getElem_cons_zero, List.getElem_cons_succ, List.setIfInBounds_toArray, List.set_cons_zero, List.set_cons_succ]
    refine reg_take 3 (v := ?_) rfl (by kernel_rfl) (by kernel_rfl) (by kernel_rfl) (fun _ _ _ h => h) (by kernel_rfl) ?_ ?_
    rotate_left
    · (intro w' hS; go_simp; (try go_bits); (try with_reducible rfl))
    try simp only [Act.put, List.getElem_toArray, List.getElem_cons_zero, List.getElem_cons_succ, List.setIfInBounds_toArray, List.set_cons_zero, List.set_cons_succ]
    refine reg_take 4 (v := ?_) rfl (by kernel_rfl) (by kernel_rfl) (by kernel_rfl) (fun _ _ _ h => h) (by kernel_rfl) ?_ ?_
    rotate_left
    · (intro w' hS; go_simp; (try go_bits); (try with_reducible rfl))
    try simp only [Act.put, List.getElem_toArray, List.getElem_cons_zero, List.getElem_cons_succ, List.setIfInBounds_toArray, List.set_cons_zero, List.set_cons_succ]
    refine reg_take 5 (v := ?_) rfl (by kernel_rfl) (by kernel_rfl) (by kernel_rfl) (fun _ _ _ h => h) (by kernel_rfl) ?_ ?_
    rotate_left
    · (intro w' hS; go_simp; (try go_bits); (try with_reducible rfl))
    try simp only [Act.put, List.getElem_toArray, List.getElem_cons_zero, List.getElem_cons_succ, List.setIfInBounds_toArray, List.set_cons_zero, List.set_cons_succ]
    refine reg_do 6 rfl (by kernel_rfl) (by kernel_rfl) ?_
    intro K hK
    go_simp
    refine (eqb_any _ _ _ _ _ _ _ _ _ hp.drew hH.drew true hdec).mono ?_
    rintro e w2 ⟨rfl, rfl⟩
    go_simp
    refine hK _ _ (Chg.refl _ _) ?_
    clear hK K
    try simp only [Act.put, List.getElem_toArray, List.getElem_cons_zero, List.getElem_cons_succ, List.setIfInBounds_toArray, List.set_cons_zero, List.set_cons_succ]
    refine reg_take 7 (v := ?_) rfl (by kernel_rfl) (by kernel_rfl) (by kernel_rfl) (fun _ _ _ h => h) (by kernel_rfl) ?_ ?_
    rotate_left
    · (intro w' hS; go_simp; (try go_bits); (try with_reducible rfl))
    try simp only [Act.put, List.getElem_toArray, List.getElem_cons_zero, List.getElem_cons_succ, List.setIfInBounds_toArray, List.set_cons_zero, List.set_cons_succ]
    refine wpAnyH_done (by kernel_rfl) ?_ _
    have q2 : w1.drew.cell? ⟨b, off + 2, none⟩ = some (.int .u8 (y2.toNat : Int)) := q2
    have ca := ca.drew
    generalize w1.drew = w2 at *
    go_wp2_with (fail)
    go_loop [6, 34] (fun s i => ∃ k : Nat, i = .int .i64 k ∧ ((k = 0 ∧ s = .int .i64 0) ∨ (k = 1 ∧ s = .int .i64 ((y2.toNat : Int) * 256)))) (fun _ i => 1 - (intOf i).toNat)
    case atStart => exact ⟨0, rfl, .inl ⟨rfl, rfl⟩⟩
    case round =>
      obtain ⟨k, rfl, hk⟩ := hrel
      rcases hk with ⟨rfl, rfl⟩ | ⟨rfl, rfl⟩
      · go_wp2
        go_round
        case rel => exact ⟨1, by go_num, .inr ⟨rfl, by go_num⟩⟩
        case measure => simp [intOf]
      · clear q2
        by_cases hbig : 1200 < y2.toNat * 256
        · have u1 : (1200 : Int) < (y2.toNat : Int) * 256 := by omega
          go_wp2
          go_ret2
          refine ⟨ca, ?_⟩
          rw [HR.out, if_pos hbig]
          rfl
        · have u1 : (y2.toNat : Int) * 256 ≤ (1200 : Int) := by omega
          go_wp2
          go_ret2
          refine ⟨ca, ?_⟩
          rw [HR.out, if_neg hbig]
          rfl
/-- What stands at the beginning of some bytes. -/
theorem look_all (b off n c : Nat) (xs : List UInt8) (w : World) (hA : Bytes w (some ⟨b, off, none⟩) n xs) (hc : n ≤ c) (hn : n ≤ 140737488351232) (h1 : 1 ≤ n) :
    Calls Try.prog 71 #[.slice (some ⟨b, off, none⟩) n c] w (lookPost w xs) := by
  rcases (show n = 1 ∨ n = 2 ∨ n = 3 ∨ 4 ≤ n from by omega) with rfl | rfl | rfl | h4
  · exact look_1 b off c xs w hA hc
  · exact look_2 b off c xs w hA hc
  · exact look_3 b off c xs w hA hc
  · exact look_any b off n c xs w hA hc hn h4
end Go.Proofs.Ytnpkpfcljkekfaa
namespace Go.Proofs.Ytnpkpfcljkekfaa
open Go Go.RowKit
set_option linter.unusedVariables false
set_option maxRecDepth 100000
set_option linter.unusedSimpArgs false

theorem infoBs : (Try.prog.info? 23).map (fun i => (i.zero, i.size, i.bytes)) = some (some (.slice none 0 0), 1, 24) := by kernel_rfl
/-- A row of slices, of the call's own from B on, each of which reads as these bytes, and these are of the call's own too. -/
def Loads (w : World) (B : Nat) (v : Value) (ls : List (List UInt8)) : Prop :=
  ∃ us, w.ownsRow B 23 1 v ls.length us ∧ ∀ i (h : i < ls.length), ∃ A c, us[i]? = some (.slice A (ls[i]'h).length c) ∧ (ls[i]'h).length ≤ c ∧ Load w B A (ls[i]'h)
theorem Loads.nil (w : World) (B : Nat) : Loads w B (.slice none 0 0) [] := ⟨[], World.ownsRow_nil _ _ _ _, fun i h => absurd h (by simp)⟩
theorem Load.lt {w : World} {B : Nat} {A : Option Addr} {xs : List UInt8} (h : Load w B A xs) {a : Addr} (ha : A = some a) : a.block < w.heap.size := by
  obtain ⟨-, cs, h2⟩ := h.blk a ha
  exact (Array.getElem?_eq_some_iff.1 h2).1
theorem Load.far {w : World} {B B' : Nat} {e : TypeId} {A : Option Addr} {xs : List UInt8} (h : Load w B A xs) {v : Value} {n : Nat} {us : List Value} (ho : w.ownsRow B' e 1 v n us) (he : e ≠ 5) {a : Addr} (ha : A = some a) : v.ownBlock ≠ some a.block := by
  intro hv
  obtain ⟨-, cs, h2⟩ := h.blk a ha
  rcases ho.2 with ⟨rfl, -⟩ | ⟨g, cap, cur, rfl, -, hg, -⟩
  · cases hv
  · simp only [Value.ownBlock, Option.some.injEq] at hv
    rw [← hv, hg] at h2
    injection h2 with h2
    injection h2 with h3 h4
    exact he h4
theorem Load.low {w : World} {B B' : Nat} {A : Option Addr} {xs : List UInt8} (h : Load w B A xs) (hB : B' ≤ B) : Load w B' A xs :=
  ⟨h.bytes, fun a ha => by obtain ⟨h1, h2⟩ := h.blk a ha; exact ⟨by omega, h2⟩⟩
theorem Loads.low {w : World} {B B' : Nat} {v : Value} {ls : List (List UInt8)} (h : Loads w B v ls) (hB : B' ≤ B) : Loads w B' v ls := by
  obtain ⟨us, h1, h2⟩ := h
  refine ⟨us, h1.low hB, fun i hi => ?_⟩
  obtain ⟨A, c, h3, h4, h5⟩ := h2 i hi
  exact ⟨A, c, h3, h4, h5.low hB⟩
theorem Loads.pure {w w' : World} {B : Nat} {v : Value} {ls : List (List UInt8)} (h : Loads w B v ls) (hc : Chg Pure' w w') : Loads w' B v ls := by
  obtain ⟨us, h1, h2⟩ := h
  refine ⟨us, own_keep h1 hc (fun _ _ h => h), fun i hi => ?_⟩
  obtain ⟨A, c, h3, h4, h5⟩ := h2 i hi
  exact ⟨A, c, h3, h4, h5.frame hc (fun _ _ h => h)⟩
theorem Loads.keep {S : Nat → Prop} {w w' : World} {B : Nat} {v : Value} {ls : List (List UInt8)} (h : Loads w B v ls) (hc : Chg S w w') (hS : ∀ k, B ≤ k → ¬ S k) : Loads w' B v ls := by
  obtain ⟨us, h1, h2⟩ := h
  refine ⟨us, own_keep h1 hc (fun g hg => hS g (h1.lt g hg).1), fun i hi => ?_⟩
  obtain ⟨A, c, h3, h4, h5⟩ := h2 i hi
  exact ⟨A, c, h3, h4, h5.frame hc (fun a ha => hS _ (h5.blk a ha).1)⟩
/-- One load more: append of a row of one. -/
theorem Loads.more {w w1 : World} {B : Nat} {v : Value} {ls : List (List UInt8)} {A : Option Addr} {l : List UInt8} {c : Nat} (h : Loads w B v ls) (hl : Load w B A l) (hc : l.length ≤ c) (hB : B ≤ w.heap.size) (hn : (ls.length + 1) * 24 ≤ 140737488355328) (h1 : w1 = w.alloc (.cells #[.slice A l.length c] 23)) :
    ∃ v' w', (Builtin.append_ #[44, 44] 44 #[v, .slice (some ⟨w.heap.size, 0, none⟩) 1 1]).run Try.prog w1 = .ok v' w' ∧ Loads w' B v' (ls ++ [l]) ∧ Chg (fun k => v.ownBlock = some k) w w' := by
  subst h1
  obtain ⟨us, hr, hu⟩ := h
  have ca : Chg Pure' w (w.alloc (.cells #[.slice A l.length c] 23)) := (Chg.refl _ w).alloc _
  have hrow : Row (w.alloc (.cells #[.slice A l.length c] 23)) (some ⟨w.heap.size, 0, none⟩) [.slice A l.length c] := by
    refine ⟨fun _ => ⟨w.heap.size, 0, rfl, fun j x hx => ?_⟩⟩
    rw [Nat.zero_add, cellAt_alloc_lit, ← hx]
    simp
  have hr2 := own_keep hr ca (fun _ _ h => h)
  obtain ⟨v6, w6, hr6, ho6, hg6, hb6⟩ := app_own (P := Try.prog) _ B 44 44 23 Try.underlying44 infoBs rfl (by decide) _ _ _ hr2 _ 1 1 _ hrow rfl (by intro u hu; simp at hu; subst hu; rfl) (by decide) (by omega) (by have := ca.size; omega)
  have c6 : Chg (fun k => v.ownBlock = some k) (w.alloc (.cells #[.slice A l.length c] 23)) w6 := (Chg.refl _ _).grown hg6 (fun k hk => .inr hk)
  have C : Chg (fun k => v.ownBlock = some k) w w6 := (Chg.of_pure ca).trans' c6
  refine ⟨v6, w6, hr6, ⟨us ++ [.slice A l.length c], by simpa using ho6, fun i hi => ?_⟩, C⟩
  have hul : us.length = ls.length := by have := hr.1; simpa using this
  by_cases hil : i < ls.length
  · obtain ⟨A1, c1, h3, h4, h5⟩ := hu i hil
    refine ⟨A1, c1, ?_, ?_, ?_⟩
    · rw [List.getElem?_append_left (by omega), List.getElem_append_left hil]; exact h3
    · rw [List.getElem_append_left hil]; exact h4
    · rw [List.getElem_append_left hil]; exact h5.frame C (fun a ha e => h5.far hr (by decide) ha e)
  · have hie : i = ls.length := by simp at hi; omega
    subst hie
    refine ⟨A, c, ?_, ?_, ?_⟩
    · rw [List.getElem?_append_right (by omega), hul, Nat.sub_self, List.getElem_append_right (by omega)]; simp
    · rw [List.getElem_append_right (by omega)]; simpa using hc
    · rw [List.getElem_append_right (by omega)]
      have := hl.frame C (fun a ha e => hl.far hr (by decide) ha e)
      simpa using this
theorem lookB_drop_whole {xs l : List UInt8} {k : Nat} (h : lookB (xs.drop k) = .whole l) : k + (l.length + 8) ≤ xs.length := by
  obtain ⟨h1, h2, -⟩ := look_whole h
  simp at h2; omega
set_option maxHeartbeats 4000000 in
theorem scan_any (A : Option Addr) (n c : Nat) (xs : List UInt8) (w : World) (hA : Bytes w A n xs) (hc : n ≤ c) (hn : n * 3 + 24 ≤ 140737488351232) :
    Calls Try.prog 35 #[.slice A n c] w fun e w' => ∃ v, e = .returned (.tuple #[v, .int .i64 ((scan xs).2 : Nat)]) ∧ Loads w' w.heap.size v (scan xs).1 ∧ Chg Pure' w w' := by
  have hl := hA.len
  have HL := Lib.hid hl
  clear hl
  go_enter Try.func35, Try.ntmps35
  go_wp2_with (fail)
  go_step3
  go_wp2_with (fail)
  go_step3
  go_wp2_with (fail)
  go_loopw [4, 5] (fun v i wr => ∃ (k : Nat) (ls : List (List UInt8)), k ≤ n ∧ i = .int .i64 k ∧ ls.length * 8 ≤ k ∧ Hid (Loads wr w.heap.size v ls ∧ Chg Pure' w wr ∧ (scan xs).1 = ls ++ (scan (xs.drop k)).1 ∧ (scan xs).2 = (scan (xs.drop k)).2 + k)) (fun _ i _ => n - (intOf i).toNat)
  case atStart => exact ⟨0, [], Nat.zero_le _, rfl, Nat.le_refl _, Lib.hid ⟨Loads.nil _ _, Chg.refl _ _, rfl, rfl⟩⟩
  case round =>
    obtain ⟨k, ls, hk, rfl, hlk, HS⟩ := hrel
    by_cases hlt : k < n
    · have hbl := hA.cells (by omega)
      obtain ⟨b, off, rfl, -⟩ := hbl
      have hC : Chg Pure' w wr := HS.out.2.1
      have hb : Bytes wr (some ⟨b, off + k, none⟩) (n - k) (xs.drop k) := by
        have := (hA.pure hC).part k n (by omega) (by omega)
        rwa [List.take_of_length_le (by rw [HL.out]; omega)] at this
      have s1 : (c = k) = False := eq_false (by omega)
      have s2 : (k : Int) ≤ (n : Int) := by omega
      have s3 : (k : Int) < (n : Int) := by omega
      have hne : xs.drop k ≠ [] := by intro h; have := congrArg List.length h; have := HL.out; simp at *; omega
      have HE := Lib.hid (scan_eq _ hne)
      clear hne
      go_wp2_with (fail)
      refine (look_all b (off + k) (n - k) (c - k) (xs.drop k) wr hb (by omega) (by omega) (by omega)).mono ?_
      rintro e w1 ⟨c1, hp⟩
      have C1 := hC.pure c1
      have L1 := Lib.hid (HS.out.1.pure c1)
      obtain ⟨r, hr⟩ : ∃ r, lookB (xs.drop k) = r := ⟨_, rfl⟩
      have hE := HE.out
      rw [hr] at hE hp
      have hS1 := HS.out.2.2.1
      have hS2 := HS.out.2.2.2
      cases r with
      | nothing =>
        obtain rfl := hp
        have HN : Hid (Loads w1 w.heap.size u4 ls ∧ Chg Pure' w w1 ∧ (scan xs).1 = ls ++ (scan (xs.drop (k + 1))).1 ∧ (scan xs).2 = (scan (xs.drop (k + 1))).2 + (k + 1)) := by
          refine Lib.hid ⟨L1.out, C1, ?_, ?_⟩
          · rw [hS1, hE, List.drop_drop]
          · rw [hS2, hE, List.drop_drop]; simp only; omega
        clear hE hr hS1 hS2 HS HE
        go_wp2
        go_roundw
        case rel => exact ⟨k + 1, ls, by omega, by go_num, by omega, HN⟩
        case measure => simp [intOf]; omega
      | few =>
        obtain rfl := hp
        clear hr
        go_wp2
        try rw [Exit.noGoto_ret]
        go_ret2
        refine ⟨u4, ?_, ?_, C1⟩
        · rw [hS2, hE]; first | done | (simp only [Nat.zero_add]; done) | (simp only [Nat.zero_add]; rfl)
        · rw [hS1, hE]; simpa using L1.out
      | whole l =>
        obtain ⟨A', c', rfl, hlc, hld⟩ := hp
        have hfit := lookB_drop_whole hr
        rw [HL.out] at hfit
        obtain ⟨v6, w6, hr6, ho6, c6⟩ := L1.out.more (hld.low (by have := hC.size; omega)) hlc (by have := C1.size; omega) (by omega) rfl
        have C6 : Chg Pure' w w6 := C1.trans c6 (fun i hi e => by obtain ⟨us, ho, -⟩ := L1.out; have := (ho.lt i e).1; omega)
        have HN : Hid (Loads w6 w.heap.size v6 (ls ++ [l]) ∧ Chg Pure' w w6 ∧ (scan xs).1 = (ls ++ [l]) ++ (scan (xs.drop (k + (l.length + 8)))).1 ∧ (scan xs).2 = (scan (xs.drop (k + (l.length + 8)))).2 + (k + (l.length + 8))) := by
          refine Lib.hid ⟨ho6, C6, ?_, ?_⟩
          · rw [hS1, hE]; simp [List.drop_drop]
          · rw [hS2, hE]; simp only [List.drop_drop]; omega
        clear hE hr hS1 hS2 HS HE c6 C6 ho6 hld
        go_wp2_with (first
          | (at_builtin; refine Lib.wpList_append_run _ rfl _ _ _ _ rfl _ _ rfl rfl _ _ hr6 ?_)
          | fail)
        clear hr6
        go_wp2
        go_roundw
        case rel => exact ⟨k + (l.length + 8), ls ++ [l], by omega, by go_num, by simp; omega, HN⟩
        case measure => simp [intOf]; omega
    · have hkn : k = n := by omega
      have s3 : (k : Int) < (n : Int) → False := by omega
      have hnil : xs.drop k = [] := by rw [List.drop_eq_nil_iff, HL.out]; omega
      have H := HS.out
      rw [hnil] at H
      obtain ⟨h1, h2, h3, h4⟩ := H
      rw [scan_nil] at h3 h4
      have H3 := Lib.hid h3
      have H4 := Lib.hid h4
      clear h3 h4 hkn hnil HS
      go_wp2
      go_ret2
      refine ⟨u4, ?_, ?_, h2⟩
      · rw [H4.out, Nat.zero_add]; rfl
      · rw [H3.out]; simpa using h1
end Go.Proofs.Ytnpkpfcljkekfaa
namespace Go.Proofs.Ytnpkpfcljkekfaa
open Go Go.RowKit
set_option linter.unusedVariables false
set_option maxRecDepth 100000
set_option linter.unusedSimpArgs false

theorem free_at {w : World} {p i : Nat} {c : Array Value} {T : TypeId} (h : w.heap[p]? = some (.cells c T (0, 0))) : w.frozen? ⟨p, i, none⟩ = false := by
  simp [World.frozen?, h]
theorem Loads.get {w : World} {B n q k : Nat} {Bo : Option Addr} {ls : List (List UInt8)} (h : Loads w B (.slice Bo n q) ls) (hk : k < ls.length) :
    ∃ g A c, Bo = some ⟨g, 0, none⟩ ∧ B ≤ g ∧ w.cell? ⟨g, k, none⟩ = some (.slice A (ls[k]'hk).length c) ∧ (ls[k]'hk).length ≤ c ∧ Load w B A (ls[k]'hk) := by
  obtain ⟨us, ho, hu⟩ := h
  obtain ⟨A, c, h1, h2, h3⟩ := hu k hk
  rcases ho.2 with ⟨h', h0⟩ | ⟨g, cap, cur, h', hb, hg, hnc, hcm, hcs, htake⟩
  · omega
  · cases h'
    have := World.ownsRow.cells ho (g := g) rfl k _ h1
    have e : (⟨g, 0, none⟩ : Addr).add k = ⟨g, k, none⟩ := by unfold Addr.add; split <;> simp_all
    rw [e] at this
    exact ⟨g, A, c, rfl, hb, this, h2, h3⟩
theorem sizeL_succ (ls : List (List UInt8)) (k : Nat) (hk : k < ls.length) : sizeL (ls.take (k + 1)) = sizeL (ls.take k) + ((ls[k]'hk).length + 8) := by
  unfold sizeL
  rw [List.take_succ_eq_append_getElem hk, List.map_append, List.sum_append]
  simp
theorem sizeL_len : ∀ ls : List (List UInt8), 8 * ls.length ≤ sizeL ls
  | [] => Nat.zero_le _
  | l :: ls => by
    have := sizeL_len ls
    simp only [sizeL, List.map_cons, List.sum_cons, List.length_cons] at this ⊢
    omega
theorem sizeL_append (a b : List (List UInt8)) : sizeL (a ++ b) = sizeL a + sizeL b := by simp [sizeL]
theorem sizeL_take (ls : List (List UInt8)) (k : Nat) : sizeL (ls.take k) ≤ sizeL ls := by
  have := sizeL_append (ls.take k) (ls.drop k)
  rw [List.take_append_drop] at this
  omega
end Go.Proofs.Ytnpkpfcljkekfaa
namespace Go.Proofs.Ytnpkpfcljkekfaa
open Go Go.RowKit
set_option linter.unusedVariables false
set_option maxRecDepth 100000
set_option linter.unusedSimpArgs false

/-- What a flush finds in bytes that wait, and how many of them are lost. -/
def flushN : Nat → List UInt8 → List (List UInt8) × Nat
  | 0, _ => ([], 0)
  | f + 1, r => if r = [] then ([], 0) else
    ((scan (r.drop 1)).1 ++ (flushN f ((r.drop 1).drop (scan (r.drop 1)).2)).1, 1 + ((scan (r.drop 1)).2 - sizeL (scan (r.drop 1)).1) + (flushN f ((r.drop 1).drop (scan (r.drop 1)).2)).2)
theorem flushN_more : ∀ (f g : Nat) (r : List UInt8), r.length ≤ f → r.length ≤ g → flushN f r = flushN g r
  | 0, g, r, h, _ => by
    obtain rfl : r = [] := List.eq_nil_of_length_eq_zero (by omega)
    cases g <;> simp [flushN]
  | f + 1, 0, r, _, h => by
    obtain rfl : r = [] := List.eq_nil_of_length_eq_zero (by omega)
    simp [flushN]
  | f + 1, g + 1, r, h1, h2 => by
    by_cases hb : r = []
    · simp [flushN, hb]
    · have hl : 0 < r.length := List.length_pos_iff.2 hb
      simp only [flushN, if_neg hb]
      rw [flushN_more f g _ (by simp; omega) (by simp; omega)]
def flushB (r : List UInt8) : List (List UInt8) × Nat := flushN r.length r
theorem flush_nil : flushB [] = ([], 0) := rfl
theorem flush_eq (r : List UInt8) (hr : r ≠ []) : flushB r = ((scan (r.drop 1)).1 ++ (flushB ((r.drop 1).drop (scan (r.drop 1)).2)).1, 1 + ((scan (r.drop 1)).2 - sizeL (scan (r.drop 1)).1) + (flushB ((r.drop 1).drop (scan (r.drop 1)).2)).2) := by
  have hl : 0 < r.length := List.length_pos_iff.2 hr
  obtain ⟨n, hn⟩ : ∃ n, r.length = n + 1 := ⟨r.length - 1, by omega⟩
  conv => lhs; unfold flushB; rw [hn]
  simp only [flushN, if_neg hr]
  rw [flushN_more n _ _ (by simp; omega) (Nat.le_refl _)]
  rfl
/-- Append of a row of loads. -/
theorem Loads.cat {w : World} {B B2 : Nat} {v : Value} {ls ls2 : List (List UInt8)} {A2 : Option Addr} {c2 : Nat} (h : Loads w B v ls) (h2 : Loads w B2 (.slice A2 ls2.length c2) ls2) (hBB : B ≤ B2) (hB : B ≤ w.heap.size) (hn : (ls.length + ls2.length) * 24 ≤ 140737488355328) :
    ∃ v' w', (Builtin.append_ #[44, 44] 44 #[v, .slice A2 ls2.length c2]).run Try.prog w = .ok v' w' ∧ Loads w' B v' (ls ++ ls2) ∧ Chg (fun k => v.ownBlock = some k) w w' := by
  obtain ⟨us, hr, hu⟩ := h
  obtain ⟨us2, hr2, hu2⟩ := h2
  have hul : us.length = ls.length := by have := hr.1; simpa using this
  have hul2 : us2.length = ls2.length := by have := hr2.1; simpa using this
  have hrow : Row w A2 us2 := by
    refine ⟨fun h0 => ?_⟩
    rcases hr2.2 with ⟨h', h0'⟩ | ⟨g, cap, cur, h', hb, hg, hnc, hcm, hcs, htake⟩
    · omega
    · injection h' with e1 e2 e3
      subst e1
      refine ⟨g, 0, rfl, fun j u hju => ?_⟩
      have := World.ownsRow.cells hr2 (g := g) rfl j u hju
      have e : (⟨g, 0, none⟩ : Addr).add j = ⟨g, 0 + j, none⟩ := by unfold Addr.add; split <;> simp_all
      rwa [e] at this
  have hone : ∀ u ∈ us2, u.oneCell' = true := by
    intro u hmu
    obtain ⟨i, hi, rfl⟩ := List.getElem_of_mem hmu
    obtain ⟨A1, c1, h3, -⟩ := hu2 i (by omega)
    rw [List.getElem?_eq_getElem hi] at h3
    injection h3 with h3
    rw [h3]; rfl
  obtain ⟨v6, w6, hr6, ho6, hg6, hb6⟩ := app_own (P := Try.prog) _ B 44 44 23 Try.underlying44 infoBs rfl (by decide) _ _ _ hr A2 ls2.length c2 us2 hrow (by omega) hone (by decide) hn hB
  have C : Chg (fun k => v.ownBlock = some k) w w6 := (Chg.refl _ _).grown hg6 (fun k hk => .inr hk)
  refine ⟨v6, w6, hr6, ⟨us ++ us2, by simpa using ho6, fun i hi => ?_⟩, C⟩
  by_cases hil : i < ls.length
  · obtain ⟨A1, c1, h3, h4, h5⟩ := hu i hil
    refine ⟨A1, c1, ?_, ?_, ?_⟩
    · rw [List.getElem?_append_left (by omega), List.getElem_append_left hil]; exact h3
    · rw [List.getElem_append_left hil]; exact h4
    · rw [List.getElem_append_left hil]; exact h5.frame C (fun a ha e => h5.far hr (by decide) ha e)
  · obtain ⟨A1, c1, h3, h4, h5⟩ := hu2 (i - ls.length) (by simp at hi; omega)
    refine ⟨A1, c1, ?_, ?_, ?_⟩
    · rw [List.getElem?_append_right (by omega), List.getElem_append_right (by omega), hul]; exact h3
    · rw [List.getElem_append_right (by omega)]; exact h4
    · rw [List.getElem_append_right (by omega)]; exact (h5.frame C (fun a ha e => h5.far hr (by decide) ha e)).low hBB
theorem Loads.val {w : World} {B : Nat} {v : Value} {ls : List (List UInt8)} (h : Loads w B v ls) : ∃ A c, v = .slice A ls.length c ∧ (∀ a, A = some a → B ≤ a.block ∧ a.block < w.heap.size) := by
  obtain ⟨us, hr, -⟩ := h
  obtain ⟨A, c, h1, -, -, h2⟩ := own_slice hr
  exact ⟨A, c, h1, h2⟩
theorem Loads.own {w : World} {B : Nat} {v : Value} {ls : List (List UInt8)} (h : Loads w B v ls) {k : Nat} (hk : v.ownBlock = some k) : B ≤ k ∧ k < w.heap.size := by
  obtain ⟨us, hr, -⟩ := h
  exact hr.lt k hk
end Go.Proofs.Ytnpkpfcljkekfaa
namespace Go.Proofs.Ytnpkpfcljkekfaa
open Go Go.RowKit
set_option linter.unusedVariables false
set_option maxRecDepth 100000
set_option linter.unusedSimpArgs false

theorem two_lists {w : World} {A B : Option Addr} {n m c d : Nat} {xs ys : List UInt8} {k : Nat} (hA : Bytes w A n xs) (hB : Bytes w B m ys) (hc : n ≤ c) (hd : m ≤ d) (hk : w.heap.size = k) :
    BytesL (w.alloc (.cells #[.slice A n c, .slice B m d] 23)) (some ⟨k, 0, none⟩) 2 [xs, ys] := by
  subst hk
  have ca : Chg Pure' w (w.alloc (.cells #[.slice A n c, .slice B m d] 23)) := (Chg.refl _ w).alloc _
  have lit := fun j => cellAt_alloc_lit w #[.slice A n c, .slice B m d] 23 j
  refine ⟨rfl, fun _ => ⟨w.heap.size, 0, rfl, fun j hj => ?_⟩⟩
  match j, hj with
  | 0, _ => exact ⟨A, n, c, lit 0, hc, hA.pure ca⟩
  | 1, _ => exact ⟨B, m, d, lit 1, hd, hB.pure ca⟩
theorem frameB_length (xs : List UInt8) : (frameB xs).length = xs.length + 8 := by
  simp [frameB, crcSeal, crcMark]
set_option maxHeartbeats 4000000 in
theorem fenc_any (A : Option Addr) (n c : Nat) (xs : List UInt8) (w : World) (hA : Bytes w A n xs) (hc : n ≤ c) (hn : n ≤ 140737488351232) :
    Calls Try.prog 30 #[.slice A n c] w fun e w' => Chg Pure' w w' ∧ ((1200 < n ∧ e = .returned (.tuple #[.slice none 0 0, .int .i64 8])) ∨ (n ≤ 1200 ∧ ∃ v, e = .returned (.tuple #[v, .int .i64 0]) ∧ w'.ownsRow w.heap.size 5 1 v (n + 8) (enc (frameB xs)))) := by
  have hl := hA.len
  have HL := Lib.hid hl
  clear hl
  by_cases hbig : 1200 < n
  · have h1 : (1200 : Int) < (n : Int) := by omega
    go_enter Try.func30, Try.ntmps30
    go_wp2
    go_ret2
    exact ⟨Chg.refl _ _, .inl ⟨hbig, rfl⟩⟩
  · have h1 : (n : Int) ≤ (1200 : Int) := by omega
    go_enter Try.func30, Try.ntmps30
    go_wp2_with (fail)
    have ca : Chg Pure' w (w.alloc (.cells #[.int .u8 ((n : Int) / 256), .int .u8 ((n : Int) % 256)] 5)) := (Chg.refl _ w).alloc _
    have hb1 : UInt8.toNat (UInt8.ofNat (n / 256)) = n / 256 := by rw [UInt8.toNat_ofNat']; omega
    have hb2 : UInt8.toNat (UInt8.ofNat (n % 256)) = n % 256 := by rw [UInt8.toNat_ofNat']; omega
    have hH : Bytes (w.alloc (.cells #[.int .u8 ((n : Int) / 256), .int .u8 ((n : Int) % 256)] 5)) (some ⟨w.heap.size, 0, none⟩) 2 [UInt8.ofNat (n / 256), UInt8.ofNat (n % 256)] :=
      Bytes.alloc_lit w #[.int .u8 ((n : Int) / 256), .int .u8 ((n : Int) % 256)] 5 [UInt8.ofNat (n / 256), UInt8.ofNat (n % 256)] (by
        simp only [enc, List.map_cons, List.map_nil, hb1, hb2]
        simp) 2 rfl
    have hsz : (w.alloc (.cells #[.int .u8 ((n : Int) / 256), .int .u8 ((n : Int) % 256)] 5)).heap.size = w.heap.size + 1 := by simp
    have hBL := two_lists hH (hA.pure ca) (Nat.le_refl 2) hc hsz
    generalize w.alloc (.cells #[.int .u8 ((n : Int) / 256), .int .u8 ((n : Int) % 256)] 5) = w1 at *
    have hcat : [[UInt8.ofNat (n / 256), UInt8.ofNat (n % 256)], xs].flatten = [UInt8.ofNat (n / 256), UInt8.ofNat (n % 256)] ++ xs := by simp
    have hcl : ([UInt8.ofNat (n / 256), UInt8.ofNat (n % 256)] ++ xs).length = n + 2 := by simp [HL.out]
    refine (concat_any _ 2 2 _ _ hBL (by decide) (by rw [hcat, hcl]; omega)).mono ?_
    rw [hcat, hcl]
    have ca2 : Chg Pure' w (w1.alloc (.cells #[.slice (some ⟨w.heap.size, 0, none⟩) 2 2, .slice A n c] 23)) := ca.alloc _
    rintro e w2 ⟨v, rfl, hv, c2⟩
    obtain ⟨B, q, rfl, hq, -, -⟩ := own_slice hv
    have C2 := ca2.pure c2
    have hB2 : Bytes w2 B (n + 2) ([UInt8.ofNat (n / 256), UInt8.ofNat (n % 256)] ++ xs) := by
      obtain ⟨B', q', e, h1, h2, -⟩ := Bytes.of_own hv
      injection e with e1
      rw [e1]
      exact h2
    clear hBL hH hv c2 ca ca2 hcat hcl hb1 hb2 hsz
    go_wp2_with (fail)
    refine (seal_own B q (n + 2) _ w2 hB2 hq (by omega)).mono ?_
    rintro e w3 ⟨v, rfl, hv, c3⟩
    obtain ⟨B3, q3, rfl, hq3, -, -⟩ := own_slice hv
    have C3 := C2.pure c3
    have hB3 : Bytes w3 B3 (n + 2 + 4) (crcSeal ([UInt8.ofNat (n / 256), UInt8.ofNat (n % 256)] ++ xs)) := by
      obtain ⟨B', q', e, h1, h2, -⟩ := Bytes.of_own hv
      injection e with e1
      rw [e1]
      exact h2
    clear hv c3 C2 hB2
    have ca : Chg Pure' w (w3.alloc (.cells #[.int .u8 165, .int .u8 90] 5)) := C3.alloc _
    have ca3 : Chg Pure' w3 (w3.alloc (.cells #[.int .u8 165, .int .u8 90] 5)) := (Chg.refl _ w3).alloc _
    have hH : Bytes (w3.alloc (.cells #[.int .u8 165, .int .u8 90] 5)) (some ⟨w3.heap.size, 0, none⟩) 2 [165, 90] := Bytes.alloc_lit w3 #[.int .u8 165, .int .u8 90] 5 [165, 90] rfl 2 rfl
    have hsz : (w3.alloc (.cells #[.int .u8 165, .int .u8 90] 5)).heap.size = w3.heap.size + 1 := by simp
    have hBL := two_lists hH (hB3.pure ca3) (Nat.le_refl 2) hq3 hsz
    have hfl : [[165, 90], crcSeal ([UInt8.ofNat (n / 256), UInt8.ofNat (n % 256)] ++ xs)].flatten = frameB xs := by
      unfold frameB; rw [HL.out]; simp
    have hfll : (frameB xs).length = n + 8 := by rw [frameB_length, HL.out]
    go_wp2_with (fail)
    generalize w3.alloc (.cells #[.int .u8 165, .int .u8 90] 5) = w4 at *
    have C5 : Chg Pure' w (w4.alloc (.cells #[.slice (some ⟨w3.heap.size, 0, none⟩) 2 2, .slice B3 (n + 2 + 4) q3] 23)) := ca.alloc _
    refine (concat_any _ 2 2 _ _ hBL (by decide) (by rw [hfl, hfll]; omega)).mono ?_
    rw [hfl, hfll]
    rintro e w5 ⟨v, rfl, hv, c5⟩
    obtain ⟨B5, q5, rfl, hq5, -, -⟩ := own_slice hv
    have C6 := C5.pure c5
    have hv2 := hv.low C5.size
    have HV := Lib.hid hv2
    clear hv hv2 hBL hH hfl hfll C5 c5 ca ca3
    go_wp2
    go_ret2
    exact ⟨C6, .inr ⟨by omega, _, rfl, HV.out⟩⟩

set_option maxHeartbeats 4000000 in
theorem rencode_any (A : Option Addr) (n c : Nat) (xs : List UInt8) (w : World) (hA : Bytes w A n xs) (hc : n ≤ c) (hn : n ≤ 140737488351232) :
    Calls Try.prog 34 #[.slice A n c] w fun e w' => Chg Pure' w w' ∧ ((1200 < n ∧ e = .returned (.tuple #[.slice none 0 0, .int .i64 8])) ∨ (n ≤ 1200 ∧ ∃ v, e = .returned (.tuple #[v, .int .i64 0]) ∧ w'.ownsRow w.heap.size 5 1 v (n + 8) (enc (frameB xs)))) := by
  have hl := hA.len
  have HL := Lib.hid hl
  clear hl
  by_cases hbig : 1200 < n
  · have h1 : (1200 : Int) < (n : Int) := by omega
    go_enter Try.func34, Try.ntmps34
    go_wp2
    go_ret2
    exact ⟨Chg.refl _ _, .inl ⟨hbig, rfl⟩⟩
  · have h1 : (n : Int) ≤ (1200 : Int) := by omega
    have hb1 : UInt8.toNat (UInt8.ofNat (n / 256)) = n / 256 := by rw [UInt8.toNat_ofNat']; omega
    have hb2 : UInt8.toNat (UInt8.ofNat (n % 256)) = n % 256 := by rw [UInt8.toNat_ofNat']; omega
    have henc : enc [UInt8.ofNat (n / 256), UInt8.ofNat (n % 256)] = [.int .u8 ((n : Int) / 256), .int .u8 ((n : Int) % 256)] := by
      simp only [enc, List.map_cons, List.map_nil, hb1, hb2]
      simp
    have ca : Chg Pure' w (w.alloc (.cells #[.int .u8 ((n : Int) / 256), .int .u8 ((n : Int) % 256)] 5)) := (Chg.refl _ w).alloc _
    have ho := World.ownsRow_lit (base := w.heap.size) (e := 5) (size := 1) w #[.int .u8 ((n : Int) / 256), .int .u8 ((n : Int) % 256)] 2 (Nat.le_refl _) (by decide) rfl
    have hA1 := hA.pure ca
    obtain ⟨v1, w1, hr1, ho1, hg1, -⟩ := app_own (P := Try.prog) _ w.heap.size 23 23 5 Try.underlying23 infoU8 rfl (by decide) _ _ _ ho A n c (enc xs) hA1.row (by rw [enc_length, HL.out, Nat.mul_one]) (enc_one _) (by decide) (by omega) ca.size
    have C1 : Chg Pure' w w1 := by
      have c1 := (Chg.refl (fun k => w.heap.size ≤ k) _).grown hg1 (fun k hk => .inr (by simp [Value.ownBlock] at hk; omega))
      exact ca.trans c1 (fun i hi h => absurd h (by omega))
    have hfl : #[Value.int .u8 ((n : Int) / 256), .int .u8 ((n : Int) % 256)].toList ++ enc xs = enc ([UInt8.ofNat (n / 256), UInt8.ofNat (n % 256)] ++ xs) := by
      rw [enc_append, henc]
    rw [hfl] at ho1
    obtain ⟨B, q, rfl, hq, -, -⟩ := own_slice ho1
    have hB1 : Bytes w1 B (n + 2) ([UInt8.ofNat (n / 256), UInt8.ofNat (n % 256)] ++ xs) := by
      obtain ⟨B', q', e, h1, h2, -⟩ := Bytes.of_own ho1
      injection e with e1
      rw [e1, Nat.add_comm]
      exact h2
    clear hfl ho1 hg1 ho hA1 ca henc hb1 hb2
    go_enter Try.func34, Try.ntmps34
    go_wp2_with (first
      | (at_builtin; refine Lib.wpList_append_run _ rfl _ _ _ _ rfl _ _ rfl rfl _ _ hr1 ?_)
      | fail)
    clear hr1
    have ho := World.ownsRow_lit (base := w1.heap.size) (e := 5) (size := 1) w1 #[.int .u8 165, .int .u8 90] 2 (Nat.le_refl _) (by decide) rfl
    have ca : Chg Pure' w1 (w1.alloc (.cells #[.int .u8 165, .int .u8 90] 5)) := (Chg.refl _ w1).alloc _
    have hB2 := hB1.pure ca
    have hlen2 : ([UInt8.ofNat (n / 256), UInt8.ofNat (n % 256)] ++ xs).length = n + 2 := by simp [HL.out]
    go_wp2_with (fail)
    generalize w1.alloc (.cells #[.int .u8 165, .int .u8 90] 5) = w2 at *
    rw [Nat.add_comm 2 n]
    refine (sealR_own B q (n + 2) _ w2 hB2 (by omega)).mono ?_
    rintro e w3 ⟨v3, rfl, hv3, c3⟩
    obtain ⟨B3, q3, rfl, hq3, -, -⟩ := own_slice hv3
    have hB3 : Bytes w3 B3 (n + 2 + 4) (crcSeal ([UInt8.ofNat (n / 256), UInt8.ofNat (n % 256)] ++ xs)) := by
      obtain ⟨B', q', e, h1, h2, -⟩ := Bytes.of_own hv3
      injection e with e1
      rw [e1]
      exact h2
    have ho3 := own_keep ho c3 (fun _ _ h => h)
    have C3 := (C1.pure ca).pure c3
    obtain ⟨v4, w4, hr4, ho4, hg4, -⟩ := app_own (P := Try.prog) w3 w1.heap.size 23 23 5 Try.underlying23 infoU8 rfl (by decide) _ _ _ ho3 B3 (n + 2 + 4) q3 (enc (crcSeal ([UInt8.ofNat (n / 256), UInt8.ofNat (n % 256)] ++ xs))) hB3.row (by rw [enc_length]; simp [crcSeal, crcMark, HL.out]) (enc_one _) (by decide) (by omega) (by have := ca.size; have := c3.size; omega)
    have C4 : Chg Pure' w w4 := by
      have c4 := (Chg.refl (fun k => w1.heap.size ≤ k) _).grown hg4 (fun k hk => .inr (by simp [Value.ownBlock] at hk; omega))
      exact C3.trans c4 (fun i hi h => absurd h (by have := C1.size; omega))
    have hfl : #[Value.int .u8 165, .int .u8 90].toList ++ enc (crcSeal ([UInt8.ofNat (n / 256), UInt8.ofNat (n % 256)] ++ xs)) = enc (frameB xs) := by
      unfold frameB
      rw [enc_append, HL.out]
      rfl
    rw [hfl, show 2 + (n + 2 + 4) = n + 8 from by omega] at ho4
    have HO := Lib.hid (ho4.low C1.size)
    clear ho4 hfl hg4 ho3 hv3 hB3 c3 ho ca hB2 hlen2 hB1
    go_wp2_with (first
      | (at_builtin; refine Lib.wpList_append_run _ rfl _ _ _ _ rfl _ _ rfl rfl _ _ hr4 ?_)
      | fail)
    clear hr4
    go_wp2
    go_ret2
    exact ⟨C4, .inr ⟨by omega, _, rfl, HO.out⟩⟩
end Go.Proofs.Ytnpkpfcljkekfaa
