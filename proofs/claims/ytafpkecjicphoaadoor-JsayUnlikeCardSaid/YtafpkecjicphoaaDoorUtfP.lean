/- utf, plainly: what a first byte tells, the first character of bytes, whether bytes are written in UTF-8; and the same by the model's decoding. -/
import Derived.Test.YtafpkecjicphoaaDoorBase
namespace Go.Proofs.YtafpkecjicphoaaDoor
open Go Go.RowKit
set_option linter.unusedVariables false
set_option linter.unusedSimpArgs false

structure Hd where
  more : Nat
  bits : Int
  lo : Nat
  hi : Nat
def hd0 : Hd := ⟨0, 0, 0, 0⟩
def headP (c : Nat) : Hd :=
  if c < 128 then ⟨0, c, 0, 0⟩
  else if c < 194 ∨ 244 < c then hd0
  else if c < 224 then ⟨1, (c : Int) % 32, 128, 191⟩
  else if c < 240 then ⟨2, (c : Int) % 16, if c = 224 then 160 else 128, if c = 237 then 159 else 191⟩
  else ⟨3, (c : Int) % 8, if c = 240 then 144 else 128, if c = 244 then 143 else 191⟩
def headOk (c : Nat) : Bool := decide (c < 128 ∨ (194 ≤ c ∧ c ≤ 244))
def follow : Nat → Nat → Int → Nat → Nat → List UInt8 → Int × Int × Int
  | 0, i, r, _, _, _ => (r, i, -1)
  | _ + 1, i, _, _, _, [] => (0, 0, i)
  | k + 1, i, r, lo, hi, x :: xs => if x.toNat < lo ∨ hi < x.toNat then (0, 0, i) else follow k (i + 1) (r * 64 + (x.toNat : Int) % 64) 128 191 xs
def oneP : List UInt8 → Int × Int × Int
  | [] => (0, 0, 0)
  | c :: xs => if headOk c.toNat then follow (headP c.toNat).more 1 (headP c.toNat).bits (headP c.toNat).lo (headP c.toNat).hi xs else (0, 0, 0)

/-- The model's decoding, of a list. -/
def decL (l : List UInt8) : Nat × Nat :=
  let a (k : Nat) : Nat := (l.getD k 0).toNat
  let ct (k : Nat) : Bool := decide (k < l.length) && a k / 64 == 2
  if a 0 < 128 then (a 0, 1)
  else if a 0 / 32 == 6 && ct 1 then
    if a 0 % 32 * 64 + a 1 % 64 ≥ 128 then (a 0 % 32 * 64 + a 1 % 64, 2) else (65533, 1)
  else if a 0 / 16 == 14 && ct 1 && ct 2 then
    if a 0 % 16 * 4096 + a 1 % 64 * 64 + a 2 % 64 ≥ 2048 && Utf8.valid (a 0 % 16 * 4096 + a 1 % 64 * 64 + a 2 % 64 : Nat) then (a 0 % 16 * 4096 + a 1 % 64 * 64 + a 2 % 64, 3) else (65533, 1)
  else if a 0 / 8 == 30 && ct 1 && ct 2 && ct 3 then
    if a 0 % 8 * 262144 + a 1 % 64 * 4096 + a 2 % 64 * 64 + a 3 % 64 ≥ 65536 && Utf8.valid (a 0 % 8 * 262144 + a 1 % 64 * 4096 + a 2 % 64 * 64 + a 3 % 64 : Nat) then (a 0 % 8 * 262144 + a 1 % 64 * 4096 + a 2 % 64 * 64 + a 3 % 64, 4) else (65533, 1)
  else (65533, 1)
theorem get_drop (l : List UInt8) (i k : Nat) : (⟨l.toArray⟩ : ByteArray).get! (i + k) = (l.drop i).getD k 0 := by
  change l.toArray[i + k]! = _
  simp [List.getD_eq_getElem?_getD]
  rfl
theorem decode_drop (l : List UInt8) (i : Nat) : Utf8.decode ⟨l.toArray⟩ i = decL (l.drop i) := by
  unfold Utf8.decode decL
  simp only [get_drop]
  have hk : ∀ k, decide (i + k < (⟨l.toArray⟩ : ByteArray).size) = decide (k < (l.drop i).length) := by
    intro k; congr 1; simp [ByteArray.size]; omega
  simp only [hk]
  rfl


theorem cont_iff (b : Nat) : (b / 64 == 2) = decide (128 ≤ b ∧ b ≤ 191) := by
  rw [Bool.eq_iff_iff]; simp; omega
theorem dec_two (b0 : UInt8) (t : List UInt8) (h1 : 194 ≤ b0.toNat) (h2 : b0.toNat < 224) :
    decL (b0 :: t) = match t with | [] => (65533, 1) | b1 :: _ => if 128 ≤ b1.toNat ∧ b1.toNat ≤ 191 then (b0.toNat % 32 * 64 + b1.toNat % 64, 2) else (65533, 1) := by
  unfold decL
  simp only [cont_iff]
  have e0 : ((b0 :: t).getD 0 0).toNat = b0.toNat := rfl
  simp only [e0]
  generalize b0.toNat = a at *
  rw [if_neg (by omega)]
  cases t with
  | nil => simp
  | cons b1 t =>
    simp only [show ((b0 :: b1 :: t).getD 1 0).toNat = b1.toNat from rfl]
    generalize b1.toNat = b
    by_cases h : 128 ≤ b ∧ b ≤ 191
    · rw [if_pos (by simp; omega), if_pos (by omega), if_pos h]
    · rw [if_neg (by simp; omega), if_neg (by simp; omega), if_neg (by simp; omega), if_neg h]
theorem dec_three (b0 : UInt8) (t : List UInt8) (h1 : 224 ≤ b0.toNat) (h2 : b0.toNat < 240) :
    decL (b0 :: t) = match t with
      | b1 :: b2 :: _ => if (128 ≤ b1.toNat ∧ b1.toNat ≤ 191) ∧ (128 ≤ b2.toNat ∧ b2.toNat ≤ 191) ∧ 2048 ≤ b0.toNat % 16 * 4096 + b1.toNat % 64 * 64 + b2.toNat % 64 ∧ ¬ (b0.toNat = 237 ∧ 160 ≤ b1.toNat) then (b0.toNat % 16 * 4096 + b1.toNat % 64 * 64 + b2.toNat % 64, 3) else (65533, 1)
      | _ => (65533, 1) := by
  unfold decL
  simp only [cont_iff]
  have e0 : ((b0 :: t).getD 0 0).toNat = b0.toNat := rfl
  simp only [e0]
  generalize b0.toNat = a at *
  rw [if_neg (by omega)]
  match t with
  | [] => rw [if_neg (by simp), if_neg (by simp), if_neg (by simp)]
  | [b1] => rw [if_neg (by simp; omega), if_neg (by simp), if_neg (by simp)]
  | b1 :: b2 :: t =>
    simp only [show ((b0 :: b1 :: b2 :: t).getD 1 0).toNat = b1.toNat from rfl, show ((b0 :: b1 :: b2 :: t).getD 2 0).toNat = b2.toNat from rfl]
    have hb := b1.toNat_lt
    have hd := b2.toNat_lt
    generalize b1.toNat = b at hb
    generalize b2.toNat = d at hd
    rw [if_neg (by simp; omega)]
    by_cases hc : (128 ≤ b ∧ b ≤ 191) ∧ (128 ≤ d ∧ d ≤ 191)
    · rw [if_pos (by simp; omega)]
      by_cases hv : 2048 ≤ a % 16 * 4096 + b % 64 * 64 + d % 64 ∧ ¬ (a = 237 ∧ 160 ≤ b)
      · rw [if_pos (by simp [Utf8.valid]; omega), if_pos ⟨hc.1, hc.2, hv⟩]
      · rw [if_neg (by simp [Utf8.valid]; omega), if_neg (by omega)]
    · rw [if_neg (by simp; omega), if_neg (by simp; omega), if_neg (by omega)]
theorem dec_four (b0 : UInt8) (t : List UInt8) (h1 : 240 ≤ b0.toNat) (h2 : b0.toNat ≤ 244) :
    decL (b0 :: t) = match t with
      | b1 :: b2 :: b3 :: _ => if (128 ≤ b1.toNat ∧ b1.toNat ≤ 191) ∧ (128 ≤ b2.toNat ∧ b2.toNat ≤ 191) ∧ (128 ≤ b3.toNat ∧ b3.toNat ≤ 191) ∧ ¬ (b0.toNat = 240 ∧ b1.toNat < 144) ∧ ¬ (b0.toNat = 244 ∧ 144 ≤ b1.toNat) then (b0.toNat % 8 * 262144 + b1.toNat % 64 * 4096 + b2.toNat % 64 * 64 + b3.toNat % 64, 4) else (65533, 1)
      | _ => (65533, 1) := by
  unfold decL
  simp only [cont_iff]
  have e0 : ((b0 :: t).getD 0 0).toNat = b0.toNat := rfl
  simp only [e0]
  generalize b0.toNat = a at *
  rw [if_neg (by omega)]
  match t with
  | [] => rw [if_neg (by simp), if_neg (by simp), if_neg (by simp)]
  | [b1] => rw [if_neg (by simp; omega), if_neg (by simp), if_neg (by simp)]
  | [b1, b2] => rw [if_neg (by simp; omega), if_neg (by simp; omega), if_neg (by simp)]
  | b1 :: b2 :: b3 :: t =>
    simp only [show ((b0 :: b1 :: b2 :: b3 :: t).getD 1 0).toNat = b1.toNat from rfl, show ((b0 :: b1 :: b2 :: b3 :: t).getD 2 0).toNat = b2.toNat from rfl, show ((b0 :: b1 :: b2 :: b3 :: t).getD 3 0).toNat = b3.toNat from rfl]
    have hb := b1.toNat_lt
    have hd := b2.toNat_lt
    have hf := b3.toNat_lt
    generalize b1.toNat = b at hb
    generalize b2.toNat = d at hd
    generalize b3.toNat = f at hf
    rw [if_neg (by simp; omega), if_neg (by simp; omega)]
    by_cases hc : (128 ≤ b ∧ b ≤ 191) ∧ (128 ≤ d ∧ d ≤ 191) ∧ (128 ≤ f ∧ f ≤ 191)
    · rw [if_pos (by simp; omega)]
      by_cases hv : ¬ (a = 240 ∧ b < 144) ∧ ¬ (a = 244 ∧ 144 ≤ b)
      · rw [if_pos (by simp [Utf8.valid]; omega), if_pos ⟨hc.1, hc.2.1, hc.2.2, hv⟩]
      · rw [if_neg (by simp [Utf8.valid]; omega), if_neg (by omega)]
    · rw [if_neg (by simp; omega), if_neg (by omega)]
theorem dec_one (b0 : UInt8) (t : List UInt8) (h : b0.toNat < 128) : decL (b0 :: t) = (b0.toNat, 1) := by
  unfold decL
  have e0 : ((b0 :: t).getD 0 0).toNat = b0.toNat := rfl
  simp only [e0]; rw [if_pos h]
theorem dec_bad (b0 : UInt8) (t : List UInt8) (h : 128 ≤ b0.toNat) (h2 : b0.toNat < 194 ∨ 244 < b0.toNat) : decL (b0 :: t) = (65533, 1) := by
  have h0 := b0.toNat_lt
  unfold decL
  have e0 : ((b0 :: t).getD 0 0).toNat = b0.toNat := rfl
  simp only [e0]
  generalize b0.toNat = a at *
  rw [if_neg (by omega)]
  split
  · rename_i h; simp at h; rw [if_neg (by omega)]
  · split
    · rename_i h; simp at h; omega
    · split
      · rename_i h; simp at h; rw [if_neg]; simp [Utf8.valid]; omega
      · rfl

theorem one_is (b0 : UInt8) (t : List UInt8) : ∃ wr : Int, 0 ≤ wr ∧ oneP (b0 :: t) = if decL (b0 :: t) = (65533, 1) then (0, 0, wr) else (((decL (b0 :: t)).1 : Int), ((decL (b0 :: t)).2 : Int), -1) := by
  have h0 := b0.toNat_lt
  simp only [oneP]
  by_cases c1 : b0.toNat < 128
  · refine ⟨0, by omega, ?_⟩
    rw [dec_one _ _ c1, if_pos (by simp [headOk]; omega), show headP b0.toNat = ⟨0, b0.toNat, 0, 0⟩ by unfold headP; rw [if_pos c1], if_neg (by intro e; have := congrArg Prod.fst e; simp at this; omega)]
    rfl
  by_cases c2 : b0.toNat < 194 ∨ 244 < b0.toNat
  · refine ⟨0, by omega, ?_⟩
    rw [dec_bad _ _ (by omega) c2, if_pos rfl, if_neg (by simp [headOk]; omega)]
  rw [if_pos (by simp [headOk]; omega)]
  by_cases c3 : b0.toNat < 224
  · rw [show headP b0.toNat = ⟨1, (b0.toNat : Int) % 32, 128, 191⟩ by unfold headP; rw [if_neg c1, if_neg c2, if_pos c3]]
    have hD := dec_two b0 t (by omega) c3
    generalize decL (b0 :: t) = D at hD ⊢
    generalize b0.toNat = a at *
    match t with
    | [] => subst hD; exact ⟨1, by omega, rfl⟩
    | b1 :: t =>
      refine ⟨1, by omega, ?_⟩
      have hb := b1.toNat_lt
      simp only [follow] at hD ⊢
      generalize b1.toNat = b at *
      by_cases h : 128 ≤ b ∧ b ≤ 191
      · rw [if_pos h] at hD; subst hD; rw [if_neg (by omega), if_neg (by simp)]; simp
      · rw [if_neg h] at hD; subst hD; rw [if_pos (by omega), if_pos rfl]; simp
  by_cases c4 : b0.toNat < 240
  · rw [show headP b0.toNat = ⟨2, (b0.toNat : Int) % 16, if b0.toNat = 224 then 160 else 128, if b0.toNat = 237 then 159 else 191⟩ by unfold headP; rw [if_neg c1, if_neg c2, if_neg c3, if_pos c4]]
    have hD := dec_three b0 t (by omega) c4
    generalize decL (b0 :: t) = D at hD ⊢
    generalize b0.toNat = a at *
    have hlo : ∃ lo, (if a = 224 then 160 else 128 : Nat) = lo ∧ ((a = 224 ∧ lo = 160) ∨ (a ≠ 224 ∧ lo = 128)) := by
      by_cases h : a = 224
      · exact ⟨160, by simp [h], .inl ⟨h, rfl⟩⟩
      · exact ⟨128, by simp [h], .inr ⟨h, rfl⟩⟩
    have hhi : ∃ lo, (if a = 237 then 159 else 191 : Nat) = lo ∧ ((a = 237 ∧ lo = 159) ∨ (a ≠ 237 ∧ lo = 191)) := by
      by_cases h : a = 237
      · exact ⟨159, by simp [h], .inl ⟨h, rfl⟩⟩
      · exact ⟨191, by simp [h], .inr ⟨h, rfl⟩⟩
    obtain ⟨lo, e1, hlo⟩ := hlo
    obtain ⟨hi, e2, hhi⟩ := hhi
    rw [e1, e2]
    clear e1 e2
    match t with
    | [] => subst hD; exact ⟨1, by omega, rfl⟩
    | [b1] =>
      subst hD
      simp only [follow]
      split
      · exact ⟨1, by omega, by simp⟩
      · exact ⟨2, by omega, by simp⟩
    | b1 :: b2 :: t =>
      have hb := b1.toNat_lt
      have hd := b2.toNat_lt
      simp only [follow] at hD ⊢
      generalize b1.toNat = b at *
      generalize b2.toNat = d at *
      by_cases g1 : b < lo ∨ hi < b
      · refine ⟨1, by omega, ?_⟩
        rw [if_neg (by omega)] at hD; subst hD; rw [if_pos g1, if_pos rfl]; simp
      · rw [if_neg g1]
        by_cases g2 : d < 128 ∨ 191 < d
        · refine ⟨2, by omega, ?_⟩
          rw [if_neg (by omega)] at hD; subst hD; rw [if_pos g2, if_pos rfl]; simp
        · refine ⟨0, by omega, ?_⟩
          rw [if_pos (by omega)] at hD; subst hD; rw [if_neg g2, if_neg (by simp)]
          simp; omega
  · rw [show headP b0.toNat = ⟨3, (b0.toNat : Int) % 8, if b0.toNat = 240 then 144 else 128, if b0.toNat = 244 then 143 else 191⟩ by unfold headP; rw [if_neg c1, if_neg c2, if_neg c3, if_neg c4]]
    have hD := dec_four b0 t (by omega) (by omega)
    generalize decL (b0 :: t) = D at hD ⊢
    generalize b0.toNat = a at *
    have hlo : ∃ lo, (if a = 240 then 144 else 128 : Nat) = lo ∧ ((a = 240 ∧ lo = 144) ∨ (a ≠ 240 ∧ lo = 128)) := by
      by_cases h : a = 240
      · exact ⟨144, by simp [h], .inl ⟨h, rfl⟩⟩
      · exact ⟨128, by simp [h], .inr ⟨h, rfl⟩⟩
    have hhi : ∃ lo, (if a = 244 then 143 else 191 : Nat) = lo ∧ ((a = 244 ∧ lo = 143) ∨ (a ≠ 244 ∧ lo = 191)) := by
      by_cases h : a = 244
      · exact ⟨143, by simp [h], .inl ⟨h, rfl⟩⟩
      · exact ⟨191, by simp [h], .inr ⟨h, rfl⟩⟩
    obtain ⟨lo, e1, hlo⟩ := hlo
    obtain ⟨hi, e2, hhi⟩ := hhi
    rw [e1, e2]
    clear e1 e2
    match t with
    | [] => subst hD; exact ⟨1, by omega, rfl⟩
    | [b1] =>
      subst hD
      simp only [follow]
      split
      · exact ⟨1, by omega, by simp⟩
      · exact ⟨2, by omega, by simp⟩
    | [b1, b2] =>
      subst hD
      simp only [follow]
      split
      · exact ⟨1, by omega, by simp⟩
      · split
        · exact ⟨2, by omega, by simp⟩
        · exact ⟨3, by omega, by simp⟩
    | b1 :: b2 :: b3 :: t =>
      have hb := b1.toNat_lt
      have hd := b2.toNat_lt
      have hf := b3.toNat_lt
      simp only [follow] at hD ⊢
      generalize b1.toNat = b at *
      generalize b2.toNat = d at *
      generalize b3.toNat = f at *
      by_cases g1 : b < lo ∨ hi < b
      · refine ⟨1, by omega, ?_⟩
        rw [if_neg (by omega)] at hD; subst hD; rw [if_pos g1, if_pos rfl]; simp
      · rw [if_neg g1]
        by_cases g2 : d < 128 ∨ 191 < d
        · refine ⟨2, by omega, ?_⟩
          rw [if_neg (by omega)] at hD; subst hD; rw [if_pos g2, if_pos rfl]; simp
        · rw [if_neg g2]
          by_cases g3 : f < 128 ∨ 191 < f
          · refine ⟨3, by omega, ?_⟩
            rw [if_neg (by omega)] at hD; subst hD; rw [if_pos g3, if_pos rfl]; simp
          · refine ⟨0, by omega, ?_⟩
            rw [if_pos (by omega)] at hD; subst hD; rw [if_neg g3, if_neg (by simp)]
            simp; omega

/-- Is what stands from here on written in UTF-8? -/
def utfR : Nat → List UInt8 → Bool
  | _, [] => true
  | 0, _ => true
  | f + 1, c :: l => if decL (c :: l) = (65533, 1) then false else utfR f ((c :: l).drop (decL (c :: l)).2)
def utfOk (l : List UInt8) : Bool := utfR l.length l
theorem decL_width (c : UInt8) (l : List UInt8) : 1 ≤ (decL (c :: l)).2 ∧ (decL (c :: l)).2 ≤ l.length + 1 ∧ (decL (c :: l)).1 < 1114112 := by
  have h0 := c.toNat_lt
  by_cases c1 : c.toNat < 128
  · rw [dec_one _ _ c1]; simp; omega
  by_cases c2 : c.toNat < 194 ∨ 244 < c.toNat
  · rw [dec_bad _ _ (by omega) c2]; simp
  by_cases c3 : c.toNat < 224
  · rw [dec_two _ _ (by omega) c3]
    split
    · simp
    · split <;> simp <;> omega
  by_cases c4 : c.toNat < 240
  · rw [dec_three _ _ (by omega) c4]
    split
    · split <;> simp <;> omega
    · simp
  · rw [dec_four _ _ (by omega) (by omega)]
    split
    · split <;> simp <;> omega
    · simp
theorem headP_bound (c : Nat) (hc : c < 256) : (headP c).more ≤ 3 ∧ 0 ≤ (headP c).bits ∧ (headP c).bits < 128 ∧ (headP c).lo < 256 ∧ (headP c).hi < 256 := by
  unfold headP hd0
  split
  · simp; omega
  · split
    · simp
    · split
      · simp; omega
      · split
        · simp; refine ⟨by omega, by omega, ?_, ?_⟩ <;> split <;> omega
        · simp; refine ⟨by omega, by omega, ?_, ?_⟩ <;> split <;> omega
end Go.Proofs.YtafpkecjicphoaaDoor
