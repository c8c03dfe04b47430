/- Package recv, going on: Ack and New. -/
import Derived.Test.YtnpkpfcljkekfaaRecv
namespace Go.Proofs.Ytnpkpfcljkekfaa
open Go Go.RowKit
set_option linter.unusedVariables false
set_option maxRecDepth 100000
set_option linter.unusedSimpArgs false

/-- The bits of an ack: of what stands beyond the first gap, up to number j. -/
def ackTo (L : List (Option (List UInt8))) (n : Nat) : Nat → Int
  | 0 => 0
  | j + 1 => if n < j ∧ (L.getD j none).isSome = true then bits .or .u64 (ackTo L n j) (2 ^ (j - n - 1)) else ackTo L n j
theorem ackTo_zero (L : List (Option (List UInt8))) (n : Nat) : ∀ j, j ≤ n + 1 → ackTo L n j = 0
  | 0, _ => rfl
  | j + 1, h => by rw [ackTo, if_neg (fun hh => by omega), ackTo_zero L n j (by omega)]

theorem u64_pow (q : Nat) (h : q ≤ 63) : IntKind.u64.wrap (2 ^ q) = 2 ^ q := by
  have h1 : 2 ^ q < 2 ^ 64 := Nat.pow_lt_pow_right (by decide) (by omega)
  have h2 : ((2 ^ q : Nat) : Int) < 18446744073709551616 := by (have h5 := Int.ofNat_lt.2 h1; exact h5)
  have h3 : ((2 ^ q : Nat) : Int) = (2 : Int) ^ q := by simp
  rw [h3] at h2
  have h4 : (0 : Int) ≤ (2 : Int) ^ q := by rw [← h3]; exact Int.natCast_nonneg _
  exact IntWalk.u64_in _ (by omega)

set_option maxHeartbeats 1000000 in
theorem ack_any (F : Nat → Prop) (p W T : Nat) (L : List (Option (List UInt8))) (w : World) (h : RecvAt w F p W T L) (hT : T ≤ 4611686018427387904) :
    Calls Try.prog 62 #[.pointer (some ⟨p, 0, none⟩)] w fun e w' => e = .returned (.tuple #[.int .i64 ((T + lead L : Nat)), .int .u64 (ackTo L (lead L) W), .int .i64 ((T + W : Nat))]) ∧ Chg Pure' w w' := by
  have hcw := h.cw
  have hct := h.ct
  have h32 := h.w32
  have hlw : lead L ≤ W := by have := lead_le L; have := h.len; omega
  have H := Lib.hid h
  clear h
  have hrd := ready_any F p W T L w.drew (H.out.pure (Chg.refl _ w).drew) hT
  generalize hn : lead L = n at hlw hrd ⊢
  have HR := Lib.hid hrd
  clear hrd hn
  go_enter Try.func62, Try.ntmps62
  go_wp2_with (go_at_call 84; refine (ok_any F p W T L _ H.out).mono ?_; rintro e w' ⟨rfl, rfl⟩)
  have hn1 : (0 : Int) ≤ n := by omega
  have hn2 : (n : Int) ≤ 32 := by omega
  have hctd : w.drew.cell? ⟨p, 1, none⟩ = some (.int .i64 T) := hct
  refine reg_begin (Pure') (by kernel_rfl) ?_
  refine reg_take 0 (v := ?_) rfl (by kernel_rfl) (by kernel_rfl) (by kernel_rfl) (fun _ _ _ h => h) (by kernel_rfl) ?_ ?_
  rotate_left
  · (intro w' hS; go_simp; (try go_bits); (try with_reducible rfl))
  try simp only [Act.put, List.getElem_toArray, List.getElem_cons_zero, List.getElem_cons_succ, List.setIfInBounds_toArray, List.set_cons_zero, List.set_cons_succ]
  refine reg_take 1 (v := ?_) rfl (by kernel_rfl) (by kernel_rfl) (by kernel_rfl) (fun _ _ _ h => h) (by kernel_rfl) ?_ ?_
  rotate_left
  · (intro w' hS; go_simp; (try go_bits); (try with_reducible rfl))
  try simp only [Act.put, List.getElem_toArray, List.getElem_cons_zero, List.getElem_cons_succ, List.setIfInBounds_toArray, List.set_cons_zero, List.set_cons_succ]
  refine reg_take 2 (v := ?_) rfl (by kernel_rfl) (by kernel_rfl) (by kernel_rfl) (fun _ _ _ h => h) (by kernel_rfl) ?_ ?_
  rotate_left
  · (intro w' hS; go_simp; (try go_bits); (try with_reducible rfl))
  try simp only [Act.put, List.getElem_toArray, List.getElem_cons_zero, List.getElem_cons_succ, List.setIfInBounds_toArray, List.set_cons_zero, List.set_cons_succ]
  refine reg_take 3 (v := ?_) rfl (by kernel_rfl) (by kernel_rfl) (by kernel_rfl) (fun _ _ _ h => h) (by kernel_rfl) ?_ ?_
  rotate_left
  · (intro w' hS; have hz := hS.cell hctd (fun h => h); go_simp; (try go_bits); (try with_reducible rfl))
  try simp only [Act.put, List.getElem_toArray, List.getElem_cons_zero, List.getElem_cons_succ, List.setIfInBounds_toArray, List.set_cons_zero, List.set_cons_succ]
  refine reg_take 4 (v := ?_) rfl (by kernel_rfl) (by kernel_rfl) (by kernel_rfl) (fun _ _ _ h => h) (by kernel_rfl) ?_ ?_
  rotate_left
  · (intro w' hS; go_simp; (try go_bits); (try with_reducible rfl))
  try simp only [Act.put, List.getElem_toArray, List.getElem_cons_zero, List.getElem_cons_succ, List.setIfInBounds_toArray, List.set_cons_zero, List.set_cons_succ]
  refine reg_do 5 rfl (by kernel_rfl) (by kernel_rfl) ?_
  intro K hK
  go_simp
  refine HR.out.mono ?_
  rintro e w' ⟨rfl, rfl⟩
  refine hK _ _ (Chg.refl _ _) ?_
  clear hK K
  try simp only [Act.put, List.getElem_toArray, List.getElem_cons_zero, List.getElem_cons_succ, List.setIfInBounds_toArray, List.set_cons_zero, List.set_cons_succ]
  refine reg_take 6 (v := ?_) rfl (by kernel_rfl) (by kernel_rfl) (by kernel_rfl) (fun _ _ _ h => h) (by kernel_rfl) ?_ ?_
  rotate_left
  · (intro w' hS; go_simp; (try go_bits); (try with_reducible rfl))
  try simp only [Act.put, List.getElem_toArray, List.getElem_cons_zero, List.getElem_cons_succ, List.setIfInBounds_toArray, List.set_cons_zero, List.set_cons_succ]
  refine reg_take 7 (v := ?_) rfl (by kernel_rfl) (by kernel_rfl) (by kernel_rfl) (fun _ _ _ h => h) (by kernel_rfl) ?_ ?_
  rotate_left
  · (intro w' hS; go_simp; (try go_bits); (try with_reducible rfl))
  try simp only [Act.put, List.getElem_toArray, List.getElem_cons_zero, List.getElem_cons_succ, List.setIfInBounds_toArray, List.set_cons_zero, List.set_cons_succ]
  refine wpAnyH_done (by kernel_rfl) ?_ _
  go_wp2
  go_loopw [6, 7] (fun b s wr => ∃ j : Nat, n + 1 ≤ j ∧ (j ≤ W ∨ j = n + 1) ∧ s = .int .i64 ((T + 1 + j : Nat)) ∧ b = .int .u64 (ackTo L n j) ∧ Chg Pure' w wr) (fun _ s _ => T + 1 + W - (intOf s).toNat)
  case atStart => exact ⟨n + 1, Nat.le_refl _, .inr rfl, by go_num, by rw [ackTo_zero L n (n + 1) (Nat.le_refl _)], (Chg.refl _ w).drew⟩
  case round =>
    obtain ⟨j, hj1, hj2, rfl, rfl, hc⟩ := hrel
    have hcw' := hc.cell hcw (fun h => h)
    have hct' := hc.cell hct (fun h => h)
    have hj3 : j ≤ 33 := by omega
    by_cases hlt : j < W
    · have hlt' : ((T + 1 + j : Nat) : Int) ≤ (T : Int) + W := by omega
      have hpl := (H.out.pure hc).ring j (by omega)
      cases hL : L.getD j none with
      | none =>
        rw [hL] at hpl
        have hb := hpl.1
        have hbits : ackTo L n (j + 1) = ackTo L n j := by rw [ackTo, if_neg (by rw [hL]; simp)]
        have HB := Lib.hid hbits
        clear hpl hL hbits
        go_wp2_with (fail)
        go_quiet (fail)
        go_wp2_with (go_at_call 87; refine (at_any p (T + 1 + j) _ (by omega) _).mono ?_; rintro e w' ⟨rfl, rfl⟩)
        go_roundw
        case rel => exact ⟨j + 1, by omega, .inl (by omega), by go_num, by rw [HB.out], hc.drewN _⟩
        case measure => simp [intOf]; omega
      | some xs =>
        rw [hL] at hpl
        have hb := hpl.1
        have hbits : ackTo L n (j + 1) = bits .or .u64 (ackTo L n j) (2 ^ (j - n - 1)) := by rw [ackTo, if_pos ⟨by omega, by rw [hL]; rfl⟩]
        have HB := Lib.hid hbits
        clear hpl hL hbits
        obtain ⟨q, rfl⟩ : ∃ q, j = n + 1 + q := ⟨j - n - 1, by omega⟩
        have hq : (q : Int) ≤ 31 := by omega
        go_wp2_with (fail)
        go_quiet (fail)
        go_wp2_with (go_at_call 87; refine (at_any p (T + 1 + (n + 1 + q)) _ (by omega) _).mono ?_; rintro e w' ⟨rfl, rfl⟩)
        go_roundw
        case rel => exact ⟨n + 1 + q + 1, by omega, .inl (by omega), by go_num, by rw [HB.out, show T + 1 + (n + 1 + q) - (T + n) - 2 = q from by omega, show n + 1 + q - n - 1 = q from by omega, u64_pow q (by omega)], hc.drewN _⟩
        case measure => simp [intOf]; omega
    · have hlt' : ¬ (((T + 1 + j : Nat) : Int) ≤ (T : Int) + W) := by omega
      have hbits : ackTo L n j = ackTo L n W := by
        rcases hj2 with h | h
        · rw [show j = W from by omega]
        · rcases Nat.lt_or_ge W j with h2 | h2
          · rw [ackTo_zero L n j (by omega), ackTo_zero L n W (by omega)]
          · rw [show j = W from by omega]
      have HB := Lib.hid hbits
      clear hbits
      go_wp2_with (fail)
      go_quiet (fail)
      go_wp2
      go_quiet (fail)
      go_wp2
      go_ret3
      exact ⟨by rw [← HB.out]; rfl, (hc.drewN _).drewN _⟩

/-- A receiver of zeros. -/
def zeroRecv : Array Value := #[.int .i64 0, .int .i64 0, .int .i64 0, Value.bool false, .slice none 0 0, Value.bool false, .slice none 0 0, Value.bool false, .slice none 0 0, Value.bool false, .slice none 0 0, Value.bool false, .slice none 0 0, Value.bool false, .slice none 0 0, Value.bool false, .slice none 0 0, Value.bool false, .slice none 0 0, Value.bool false, .slice none 0 0, Value.bool false, .slice none 0 0, Value.bool false, .slice none 0 0, Value.bool false, .slice none 0 0, Value.bool false, .slice none 0 0, Value.bool false, .slice none 0 0, Value.bool false, .slice none 0 0, Value.bool false, .slice none 0 0, Value.bool false, .slice none 0 0, Value.bool false, .slice none 0 0, Value.bool false, .slice none 0 0, Value.bool false, .slice none 0 0, Value.bool false, .slice none 0 0, Value.bool false, .slice none 0 0, Value.bool false, .slice none 0 0, Value.bool false, .slice none 0 0, Value.bool false, .slice none 0 0, Value.bool false, .slice none 0 0, Value.bool false, .slice none 0 0, Value.bool false, .slice none 0 0, Value.bool false, .slice none 0 0, Value.bool false, .slice none 0 0, Value.bool false, .slice none 0 0, Value.bool false, .slice none 0 0]
theorem zero_recv (w : World) : (zeroValue 131).run Try.prog w = .ok (.agg zeroRecv) w := by kernel_rfl
theorem new_bad (W : Int) (w : World) (h : W < 1 ∨ 32 < W) :
    Calls Try.prog 47 #[.int .i64 W] w fun e w' => e = .returned (.tuple #[.pointer none, .int .i64 1]) ∧ w = w' := by
  rcases h with h | h
  · go_enter Try.func47, Try.ntmps47
    go_wp2
    go_ret2
    exact ⟨rfl, rfl⟩
  · have h1 : ¬ W < 1 := by omega
    have h2 : decide (W < 1) = false := by simp; omega
    go_enter Try.func47, Try.ntmps47
    go_wp2
    go_ret2
    exact ⟨rfl, rfl⟩
theorem flat_get {α : Type} (a b : α) : ∀ (n i : Nat), i < n → (List.replicate n [a, b]).flatten[i * 2]? = some a ∧ (List.replicate n [a, b]).flatten[i * 2 + 1]? = some b
  | 0, _, h => by omega
  | n + 1, 0, _ => ⟨rfl, rfl⟩
  | n + 1, i + 1, h => by
    have := flat_get a b n i (by omega)
    rw [List.replicate_succ, List.flatten_cons, show (i + 1) * 2 = i * 2 + 1 + 1 from by omega]
    exact this
theorem new_ok (W : Nat) (w : World) (h1 : 1 ≤ W) (h2 : W ≤ 32) :
    Calls Try.prog 47 #[.int .i64 W] w fun e w' => e = .returned (.tuple #[.pointer (some ⟨w.heap.size, 0, none⟩), .int .i64 0]) ∧ Chg Pure' w w' ∧
      RecvAt w' (fun k => k = w.heap.size) w.heap.size W 0 (List.replicate W none) := by
  have h3 : decide ((W : Int) < 1) = false := by simp; omega
  have h4 : decide ((32 : Int) < (W : Int)) = false := by simp; omega
  have hz := zero_recv
  unfold zeroRecv at hz
  go_enter Try.func47, Try.ntmps47
  go_wp2
  go_ret2
  refine ⟨rfl, (Chg.refl _ w).alloc _, ?_⟩
  generalize hcs : (#[Value.int .i64 W, .int .i64 0, .int .i64 0, Value.bool false, .slice none 0 0, Value.bool false, .slice none 0 0, Value.bool false, .slice none 0 0, Value.bool false, .slice none 0 0, Value.bool false, .slice none 0 0, Value.bool false, .slice none 0 0, Value.bool false, .slice none 0 0, Value.bool false, .slice none 0 0, Value.bool false, .slice none 0 0, Value.bool false, .slice none 0 0, Value.bool false, .slice none 0 0, Value.bool false, .slice none 0 0, Value.bool false, .slice none 0 0, Value.bool false, .slice none 0 0, Value.bool false, .slice none 0 0, Value.bool false, .slice none 0 0, Value.bool false, .slice none 0 0, Value.bool false, .slice none 0 0, Value.bool false, .slice none 0 0, Value.bool false, .slice none 0 0, Value.bool false, .slice none 0 0, Value.bool false, .slice none 0 0, Value.bool false, .slice none 0 0, Value.bool false, .slice none 0 0, Value.bool false, .slice none 0 0, Value.bool false, .slice none 0 0, Value.bool false, .slice none 0 0, Value.bool false, .slice none 0 0, Value.bool false, .slice none 0 0, Value.bool false, .slice none 0 0, Value.bool false, .slice none 0 0, Value.bool false, .slice none 0 0] : Array Value) = cs
  have hl : cs.toList = Value.int .i64 W :: .int .i64 0 :: .int .i64 0 :: (List.replicate 32 [Value.bool false, .slice none 0 0]).flatten := by rw [← hcs]; rfl
  have hat : ∀ j, (w.alloc (.cells cs 131)).cell? ⟨w.heap.size, j, none⟩ = cs.toList[j]? := fun j => by rw [cellAt_alloc_lit, Array.getElem?_toList]
  have hb : (w.alloc (.cells cs 131)).heap[w.heap.size]? = some (.cells cs 131 (0, 0)) := heap_alloc_new w _
  refine ⟨rfl, fun k hk => by rw [hk]; simp, ⟨cs, hb, by rw [← hcs]; rfl⟩, h1, h2, by simp, by rw [hat, hl]; rfl, by rw [hat, hl]; rfl, ?_, fun k hk => ?_⟩
  · rw [hat, hl]
    congr 2
    simp [List.countP_replicate]
  · have e : (List.replicate W (none : Option (List UInt8))).getD k none = none := by
      rw [List.getD_eq_getElem?_getD, List.getElem?_replicate]
      split <;> rfl
    rw [e]
    have hg := flat_get (Value.bool false) (.slice none 0 0) 32 ((0 + 1 + k) % 32) (by omega)
    exact ⟨by rw [hat, hl, show 3 + (0 + 1 + k) % 32 * 2 = (0 + 1 + k) % 32 * 2 + 1 + 1 + 1 from by omega]; exact hg.1, by rw [hat, hl, show 3 + (0 + 1 + k) % 32 * 2 + 1 = (0 + 1 + k) % 32 * 2 + 1 + 1 + 1 + 1 from by omega]; exact hg.2⟩
end Go.Proofs.Ytnpkpfcljkekfaa
