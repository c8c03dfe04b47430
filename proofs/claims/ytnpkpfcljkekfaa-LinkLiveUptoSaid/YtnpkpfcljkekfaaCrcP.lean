/- The algebra of the check sum: turning up to four bytes that stand together is always seen. -/
import Derived.Test.YtnpkpfcljkekfaaCrcF
namespace Go.Proofs.Ytnpkpfcljkekfaa
open Go Go.RowKit
theorem bitStep_if (n : UInt32) : bitStep n = if n.toNat % 2 = 1 then (n >>> 1) ^^^ 0xEDB88320 else n >>> 1 := by
  rw [← bitStepR_eq]
  unfold bitStepR
  have h1 : (n &&& 1).toNat = n.toNat % 2 := by
    rw [UInt32.toNat_and]
    show n.toNat &&& 1 = _
    exact Nat.and_one_is_mod _
  by_cases h : n.toNat % 2 = 1
  · rw [if_pos h, if_pos (UInt32.toNat_inj.1 (by rw [h1, h]; rfl))]
  · rw [if_neg h, if_neg (fun e => h (by rw [← h1, e]; rfl))]
theorem shr1_toNat (n : UInt32) : (n >>> 1).toNat = n.toNat / 2 := by
  rw [UInt32.toNat_shiftRight]
  show n.toNat >>> 1 = _
  rw [Nat.shiftRight_eq_div_pow]
theorem xor_div_two (a b : Nat) : (a ^^^ b) / 2 = (a / 2) ^^^ (b / 2) := by
  have := Nat.shiftRight_xor_distrib (a := a) (b := b) (i := 1)
  simpa [Nat.shiftRight_eq_div_pow] using this
theorem xor_mod_two (a b : Nat) : (a ^^^ b) % 2 = (a + b) % 2 := by
  have h := Nat.xor_mod_two_eq_one (a := a) (b := b)
  rcases Nat.mod_two_eq_zero_or_one a with ha | ha <;> rcases Nat.mod_two_eq_zero_or_one b with hb | hb <;> rcases Nat.mod_two_eq_zero_or_one (a ^^^ b) with hx | hx <;> simp [ha, hb, hx] at h <;> omega
theorem shr1_xor (a b : UInt32) : (a ^^^ b) >>> 1 = (a >>> 1) ^^^ (b >>> 1) := by
  apply UInt32.toNat_inj.1
  rw [shr1_toNat, UInt32.toNat_xor, UInt32.toNat_xor, shr1_toNat, shr1_toNat, xor_div_two]
theorem bitStep_xor (a b : UInt32) : bitStep (a ^^^ b) = bitStep a ^^^ bitStep b := by
  rw [bitStep_if, bitStep_if, bitStep_if, shr1_xor, UInt32.toNat_xor, xor_mod_two]
  generalize a >>> 1 = x
  generalize b >>> 1 = y
  rcases Nat.mod_two_eq_zero_or_one a.toNat with ha | ha <;> rcases Nat.mod_two_eq_zero_or_one b.toNat with hb | hb
  · rw [if_neg (by omega), if_neg (by omega), if_neg (by omega)]
  · rw [if_pos (by omega), if_neg (by omega), if_pos (by omega), UInt32.xor_assoc]
  · rw [if_pos (by omega), if_pos (by omega), if_neg (by omega), UInt32.xor_assoc, UInt32.xor_assoc, UInt32.xor_comm y]
  · rw [if_neg (by omega), if_pos (by omega), if_pos (by omega)]
    rw [UInt32.xor_assoc x, UInt32.xor_comm y, ← UInt32.xor_assoc 3988292384, UInt32.xor_self, UInt32.zero_xor]
theorem bitStep_zero {n : UInt32} (h : bitStep n = 0) : n = 0 := by
  have hl := n.toNat_lt
  have h2 := shr1_toNat n
  rw [bitStep_if] at h
  split at h
  · have e : n >>> 1 = 0xEDB88320 := by
      have := congrArg (· ^^^ (0xEDB88320 : UInt32)) h
      simpa [UInt32.xor_assoc] using this
    rw [e] at h2
    have : (0xEDB88320 : UInt32).toNat = 3988292384 := rfl
    omega
  · rw [h] at h2
    apply UInt32.toNat_inj.1
    have : (0 : UInt32).toNat = 0 := rfl
    omega
theorem bitSteps_xor (k : Nat) (a b : UInt32) : bitSteps k (a ^^^ b) = bitSteps k a ^^^ bitSteps k b := by
  induction k with
  | zero => rfl
  | succ k ih => simp only [bitSteps, ih, bitStep_xor]
theorem bitSteps_zero {k : Nat} {n : UInt32} (h : bitSteps k n = 0) : n = 0 := by
  induction k with
  | zero => exact h
  | succ k ih => exact ih (bitStep_zero h)
theorem xor_zero_eq {a b : UInt32} (h : a ^^^ b = 0) : a = b := by
  have := congrArg (· ^^^ b) h
  simpa [UInt32.xor_assoc] using this
theorem bitSteps_inj {k : Nat} {a b : UInt32} (h : bitSteps k a = bitSteps k b) : a = b := by
  apply xor_zero_eq
  apply bitSteps_zero (k := k)
  rw [bitSteps_xor, h, UInt32.xor_self]
theorem bitSteps_add (j k : Nat) (a : UInt32) : bitSteps (j + k) a = bitSteps j (bitSteps k a) := by
  induction j with
  | zero => simp [bitSteps]
  | succ j ih => rw [Nat.add_right_comm]; simp only [bitSteps, ih]
theorem bitSteps_even (k : Nat) (m : UInt32) (q : Nat) (h : m.toNat = q * 2 ^ k) : (bitSteps k m).toNat = q := by
  induction k generalizing q with
  | zero => simpa [bitSteps] using h
  | succ k ih =>
    have h1 := ih (q * 2) (by rw [h, Nat.pow_succ]; ac_rfl)
    show (bitStep (bitSteps k m)).toNat = q
    rw [bitStep_if, if_neg (by omega), shr1_toNat]
    omega
theorem low_high (w : UInt32) : w = w.toUInt8.toUInt32 ^^^ ((w >>> 8) <<< 8) := by
  have hl := w.toNat_lt
  apply UInt32.toNat_inj.1
  rw [UInt32.toNat_xor, UInt8.toNat_toUInt32, UInt32.toNat_toUInt8, UInt32.toNat_shiftLeft, UInt32.toNat_shiftRight]
  show w.toNat = (w.toNat % 2 ^ 8) ^^^ ((w.toNat >>> 8) <<< 8 % 2 ^ 32)
  have e : (w.toNat >>> 8) <<< 8 % 2 ^ 32 = (w.toNat >>> 8) <<< 8 := by
    apply Nat.mod_eq_of_lt
    rw [Nat.shiftRight_eq_div_pow, Nat.shiftLeft_eq]
    omega
  rw [e]
  apply Nat.eq_of_testBit_eq
  intro i
  rw [Nat.testBit_xor, Nat.testBit_mod_two_pow, Nat.testBit_shiftLeft, Nat.testBit_shiftRight]
  by_cases hi : i < 8
  · simp [hi, show ¬ 8 ≤ i by omega]
  · simp [hi, show 8 ≤ i by omega, show 8 + (i - 8) = i by omega]
theorem byteStep_word (r w : UInt32) : bitSteps 8 (r ^^^ w) = byteStep r w.toUInt8 ^^^ (w >>> 8) := by
  have hl := w.toNat_lt
  conv => lhs; rw [low_high w]
  rw [← UInt32.xor_assoc, bitSteps_xor, byteStep_eq]
  congr 1
  apply UInt32.toNat_inj.1
  apply bitSteps_even
  rw [UInt32.toNat_shiftLeft]
  show (w >>> 8).toNat <<< 8 % 2 ^ 32 = _
  rw [UInt32.toNat_shiftRight]
  show (w.toNat >>> 8) <<< 8 % 2 ^ 32 = (w.toNat >>> 8) * 2 ^ 8
  rw [Nat.shiftLeft_eq]
  apply Nat.mod_eq_of_lt
  rw [Nat.shiftRight_eq_div_pow]
  omega
theorem shr_shr (w : UInt32) : w >>> 8 >>> 8 = w >>> 16 ∧ w >>> 16 >>> 8 = w >>> 24 := by
  constructor <;> (apply UInt32.toNat_inj.1; rw [UInt32.toNat_shiftRight, UInt32.toNat_shiftRight, UInt32.toNat_shiftRight])
  · show w.toNat >>> 8 >>> 8 = w.toNat >>> 16; rw [← Nat.shiftRight_add]
  · show w.toNat >>> 16 >>> 8 = w.toNat >>> 24; rw [← Nat.shiftRight_add]
theorem top_byte (w : UInt32) : (w >>> 24).toUInt8.toUInt32 = w >>> 24 := by
  have hl := w.toNat_lt
  apply UInt32.toNat_inj.1
  rw [UInt8.toNat_toUInt32, UInt32.toNat_toUInt8, UInt32.toNat_shiftRight]
  show w.toNat >>> 24 % 2 ^ 8 = w.toNat >>> 24
  rw [Nat.shiftRight_eq_div_pow]
  omega
theorem mark_word (r w : UInt32) : (crcMark w).foldl byteStep r = bitSteps 32 (r ^^^ w) := by
  show byteStep (byteStep (byteStep (byteStep r w.toUInt8) (w >>> 8).toUInt8) (w >>> 16).toUInt8) (w >>> 24).toUInt8 = _
  rw [show (32 : Nat) = 24 + 8 from rfl, bitSteps_add, byteStep_word, show (24 : Nat) = 16 + 8 from rfl, bitSteps_add, byteStep_word, (shr_shr w).1, show (16 : Nat) = 8 + 8 from rfl, bitSteps_add, byteStep_word, (shr_shr w).2]
  rw [← byteStep_eq, top_byte]
theorem fold_inj (ys : List UInt8) {a b : UInt32} (h : ys.foldl byteStep a = ys.foldl byteStep b) : a = b := by
  induction ys generalizing a b with
  | nil => exact h
  | cons y ys ih =>
    have := ih h
    rw [← byteStep_eq, ← byteStep_eq] at this
    have h2 := bitSteps_inj this
    apply xor_zero_eq
    have h3 := congrArg (· ^^^ (b ^^^ y.toUInt32)) h2
    simp only [UInt32.xor_self] at h3
    rw [← h3, UInt32.xor_assoc, UInt32.xor_comm b, ← UInt32.xor_assoc y.toUInt32, UInt32.xor_self, UInt32.zero_xor]
/-- The register behind whole sealed bytes is one constant. -/
theorem valid_fold {xs : List UInt8} {k : Nat} (hl : xs.length = k + 4) (h : crcOpen xs ≠ none) : xs.foldl byteStep (~~~ 0) = bitSteps 32 (~~~ 0) := by
  have h2 : xs.drop k = crcMark (crcSum (xs.take k)) := by
    apply Classical.byContradiction
    intro hh
    exact h ((crcOpen_none hl).2 hh)
  have e : xs = xs.take k ++ crcMark (crcSum (xs.take k)) := by rw [← h2, List.take_append_drop]
  rw [e, List.foldl_append, mark_word]
  congr 1
  unfold crcSum crcMore
  generalize List.foldl byteStep (~~~0) (List.take k xs) = r
  apply UInt32.toBitVec_inj.1
  simp only [UInt32.toBitVec_xor, UInt32.toBitVec_not]
  show r.toBitVec ^^^ ~~~r.toBitVec = BitVec.allOnes 32
  apply BitVec.eq_of_getLsbD_eq
  intro i hi
  rw [BitVec.getLsbD_xor, BitVec.getLsbD_not, BitVec.getLsbD_allOnes]
  cases r.toBitVec.getLsbD i <;> simp [hi]
theorem turned_none (pre post : List UInt8) (w by_ : UInt32) (hb : by_ ≠ 0) (k : Nat) (hl : (pre ++ crcMark w ++ post).length = k + 4) (hv : crcOpen (pre ++ crcMark w ++ post) ≠ none) :
    crcOpen (pre ++ crcMark (w ^^^ by_) ++ post) = none := by
  apply Classical.byContradiction
  intro hh
  have h1 := valid_fold hl hv
  have h2 := valid_fold (xs := pre ++ crcMark (w ^^^ by_) ++ post) (k := k) (by simp [crcMark] at hl ⊢; omega) hh
  rw [← h2, List.foldl_append, List.foldl_append, List.foldl_append, List.foldl_append] at h1
  have h3 := fold_inj post h1
  rw [mark_word, mark_word] at h3
  have h4 := bitSteps_inj h3
  apply hb
  generalize List.foldl byteStep (~~~0) pre = r at h4
  have h5 := congrArg (· ^^^ (r ^^^ w)) h4
  simp only [UInt32.xor_self] at h5
  rw [h5, ← UInt32.xor_assoc r, UInt32.xor_comm (r ^^^ w) by_, UInt32.xor_assoc, UInt32.xor_self, UInt32.xor_zero]
end Go.Proofs.Ytnpkpfcljkekfaa
