/- Package frame in plain Lean: what stands at a place, and what is found. -/
import Derived.Test.YtnpkpfcljkekfaaCrcF
namespace Go.Proofs.Ytnpkpfcljkekfaa
open Go Go.RowKit
set_option linter.unusedVariables false
set_option linter.unusedSimpArgs false

/-- What stands at the beginning of bytes. -/
inductive Look where
  | nothing
  | few
  | whole (l : List UInt8)
/-- How long a load is said to be, as far as it is told. -/
def frameN (b : List UInt8) : Nat := (if 2 < b.length then (b.getD 2 0).toNat * 256 else 0) + (if 3 < b.length then (b.getD 3 0).toNat else 0)
def headOk (b : List UInt8) : Bool := decide (b.take 2 = ([165, 90] : List UInt8).take (min b.length 2))
def lookB (b : List UInt8) : Look :=
  if headOk b = false then .nothing else if 1200 < frameN b then .nothing else if b.length < 4 ∨ b.length < frameN b + 8 then .few
  else match crcOpen ((b.take (frameN b + 8)).drop 2) with | none => .nothing | some x => .whole (x.drop 2)
theorem frameN_lt (b : List UInt8) : frameN b ≤ 65535 := by
  unfold frameN
  have h1 := (b.getD 2 0).toNat_lt
  have h2 := (b.getD 3 0).toNat_lt
  split <;> split <;> omega
theorem look_whole {b l : List UInt8} (h : lookB b = .whole l) : l.length = frameN b ∧ frameN b + 8 ≤ b.length ∧ frameN b ≤ 1200 ∧ headOk b = true ∧ crcOpen ((b.take (frameN b + 8)).drop 2) = some ((b.take (frameN b + 4)).drop 2) ∧ l = (b.take (frameN b + 4)).drop 4 := by
  unfold lookB at h
  split at h
  · cases h
  · rename_i h0
    split at h
    · cases h
    · rename_i h1
      split at h
      · cases h
      · rename_i h2
        cases hc : crcOpen ((b.take (frameN b + 8)).drop 2) with
        | none => rw [hc] at h; cases h
        | some x =>
          rw [hc] at h
          simp only [Look.whole.injEq] at h
          have hlen : ((b.take (frameN b + 8)).drop 2).length = (frameN b + 2) + 4 := by simp; omega
          obtain ⟨-, hx⟩ := (crcOpen_iff hlen x).1 hc
          have hx2 : x = (b.take (frameN b + 4)).drop 2 := by
            rw [← hx, List.take_drop, List.take_take]
            congr 2; omega
          refine ⟨?_, by omega, by omega, by simpa using h0, by rw [hx2], ?_⟩
          · rw [← h, hx2]; simp; omega
          · rw [← h, hx2, List.drop_drop]
/-- What is found, and where the look ends. -/
def scanN : Nat → List UInt8 → List (List UInt8) × Nat
  | 0, _ => ([], 0)
  | f + 1, b => if b = [] then ([], 0) else match lookB b with
    | .whole l => (l :: (scanN f (b.drop (l.length + 8))).1, (scanN f (b.drop (l.length + 8))).2 + (l.length + 8))
    | .few => ([], 0)
    | .nothing => ((scanN f (b.drop 1)).1, (scanN f (b.drop 1)).2 + 1)
theorem scanN_more : ∀ (f g : Nat) (b : List UInt8), b.length ≤ f → b.length ≤ g → scanN f b = scanN g b
  | 0, g, b, h, _ => by
    obtain rfl : b = [] := List.eq_nil_of_length_eq_zero (by omega)
    cases g <;> simp [scanN]
  | f + 1, 0, b, _, h => by
    obtain rfl : b = [] := List.eq_nil_of_length_eq_zero (by omega)
    simp [scanN]
  | f + 1, g + 1, b, h1, h2 => by
    by_cases hb : b = []
    · simp [scanN, hb]
    · have hl : 0 < b.length := List.length_pos_iff.2 hb
      simp only [scanN, if_neg hb]
      cases hk : lookB b with
      | whole l =>
        simp only
        rw [scanN_more f g (b.drop (l.length + 8)) (by simp; omega) (by simp; omega)]
      | few => rfl
      | nothing =>
        simp only
        rw [scanN_more f g (b.drop 1) (by simp; omega) (by simp; omega)]
def scan (b : List UInt8) : List (List UInt8) × Nat := scanN b.length b
theorem scan_nil : scan [] = ([], 0) := rfl
theorem scan_eq (b : List UInt8) (hb : b ≠ []) : scan b = match lookB b with
    | .whole l => (l :: (scan (b.drop (l.length + 8))).1, (scan (b.drop (l.length + 8))).2 + (l.length + 8))
    | .few => ([], 0)
    | .nothing => ((scan (b.drop 1)).1, (scan (b.drop 1)).2 + 1) := by
  have hl : 0 < b.length := List.length_pos_iff.2 hb
  obtain ⟨n, hn⟩ : ∃ n, b.length = n + 1 := ⟨b.length - 1, by omega⟩
  unfold scan
  rw [hn]
  simp only [scanN, if_neg hb]
  cases hk : lookB b with
  | whole l =>
    simp only
    rw [scanN_more n (b.drop (l.length + 8)).length _ (by simp; omega) (Nat.le_refl _)]
  | few => rfl
  | nothing =>
    simp only
    rw [scanN_more n (b.drop 1).length _ (by simp; omega) (Nat.le_refl _)]
/-- How many bytes the frames of loads have. -/
def sizeL (l : List (List UInt8)) : Nat := (l.map fun x => x.length + 8).sum
theorem scan_le : ∀ (n : Nat) (b : List UInt8), b.length ≤ n → (scan b).2 ≤ b.length ∧ sizeL (scan b).1 ≤ (scan b).2 ∧ ∀ l ∈ (scan b).1, l.length ≤ 1200
  | 0, b, h => by
    obtain rfl : b = [] := List.eq_nil_of_length_eq_zero (by omega)
    simp [scan_nil, sizeL]
  | n + 1, b, h => by
    by_cases hb : b = []
    · subst hb; simp [scan_nil, sizeL]
    · have hl : 0 < b.length := List.length_pos_iff.2 hb
      rw [scan_eq b hb]
      cases hk : lookB b with
      | whole l =>
        obtain ⟨h1, h2, h3, -⟩ := look_whole hk
        obtain ⟨i1, i2, i3⟩ := scan_le n (b.drop (l.length + 8)) (by simp; omega)
        simp only [List.length_drop] at i1
        refine ⟨by simp only; omega, ?_, ?_⟩
        · simp only [sizeL, List.map_cons, List.sum_cons] at i2 ⊢; omega
        · intro x hx
          rcases List.mem_cons.1 hx with rfl | hx
          · omega
          · exact i3 x hx
      | few => simp [sizeL]
      | nothing =>
        obtain ⟨i1, i2, i3⟩ := scan_le n (b.drop 1) (by simp; omega)
        simp only [List.length_drop] at i1
        exact ⟨by simp only; omega, by simp only; omega, i3⟩
/-- The document's frame. -/
def frameB (l : List UInt8) : List UInt8 := [165, 90] ++ crcSeal ([UInt8.ofNat (l.length / 256), UInt8.ofNat (l.length % 256)] ++ l)
end Go.Proofs.Ytnpkpfcljkekfaa
