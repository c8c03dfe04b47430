/- What the check sum computes, as plain functions, and the model's words on 32 bits in their terms. -/
import Derived.Test.YtnpkpfcljkekfaaBase
namespace Go.Proofs.Ytnpkpfcljkekfaa
open Go Go.RowKit

theorem bits_xor_u32 (a b : UInt32) : bits .xor .u32 (a.toNat : Int) (b.toNat : Int) = (((a ^^^ b).toNat : Nat) : Int) := by
  have ha := a.toNat_lt; have hb := b.toNat_lt
  show IntKind.u32.wrap ((BitVec.ofInt 32 (a.toNat : Int) ^^^ BitVec.ofInt 32 (b.toNat : Int)).toNat : Int) = _
  rw [IntKind.wrap_u32, BitVec.ofInt_natCast, BitVec.ofInt_natCast, BitVec.toNat_xor, BitVec.toNat_ofNat, BitVec.toNat_ofNat, UInt32.toNat_xor, Nat.mod_eq_of_lt ha, Nat.mod_eq_of_lt hb]
  have : a.toNat ^^^ b.toNat < 2 ^ 32 := Nat.xor_lt_two_pow ha hb
  omega
theorem bits_and_u32 (a b : UInt32) : bits .and .u32 (a.toNat : Int) (b.toNat : Int) = (((a &&& b).toNat : Nat) : Int) := by
  have ha := a.toNat_lt; have hb := b.toNat_lt
  show IntKind.u32.wrap ((BitVec.ofInt 32 (a.toNat : Int) &&& BitVec.ofInt 32 (b.toNat : Int)).toNat : Int) = _
  rw [IntKind.wrap_u32, BitVec.ofInt_natCast, BitVec.ofInt_natCast, BitVec.toNat_and, BitVec.toNat_ofNat, BitVec.toNat_ofNat, UInt32.toNat_and, Nat.mod_eq_of_lt ha, Nat.mod_eq_of_lt hb]
  have : a.toNat &&& b.toNat < 2 ^ 32 := Nat.and_lt_two_pow _ hb
  omega
theorem neg_u32 (a : UInt32) : (-(a.toNat : Int)) % 4294967296 = (((-a).toNat : Nat) : Int) := by
  have ha := a.toNat_lt
  have e : UInt32.size = 4294967296 := rfl
  rw [UInt32.toNat_neg, e]
  omega
theorem half_u32 (a : UInt32) : (a.toNat : Int) / (2 : Int) = (((a >>> 1).toNat : Nat) : Int) := by
  rw [UInt32.toNat_shiftRight]
  show _ = ((a.toNat >>> 1 : Nat) : Int)
  rw [Nat.shiftRight_eq_div_pow]
  omega
theorem not_u32 (a : UInt32) : bits .xor .u32 IntKind.u32.max (a.toNat : Int) = (((~~~a).toNat : Nat) : Int) := by
  have e : IntKind.u32.max = (((0xFFFFFFFF : UInt32).toNat : Nat) : Int) := by simp [IntKind.max, IntKind.signed, IntKind.bits]
  rw [e, bits_xor_u32]
  rw [UInt32.xor_comm]
  have : a ^^^ 4294967295 = ~~~a := by
    apply UInt32.toBitVec_inj.1
    simp only [UInt32.toBitVec_xor, UInt32.toBitVec_not]
    rw [show (0xFFFFFFFF : UInt32).toBitVec = BitVec.allOnes 32 from rfl, BitVec.xor_allOnes]
  rw [this]
theorem up_u8 (c : UInt8) : (c.toNat : Int) % 4294967296 = ((c.toUInt32.toNat : Nat) : Int) := by
  have := c.toNat_lt
  rw [UInt8.toNat_toUInt32]
  omega

/-- One bit's step, as the code takes it. -/
def bitStep (n : UInt32) : UInt32 := (n >>> 1) ^^^ (0xEDB88320 &&& (-(n &&& 1)))
def bitSteps : Nat → UInt32 → UInt32
  | 0, n => n
  | k + 1, n => bitStep (bitSteps k n)
def byteStep (n : UInt32) (c : UInt8) : UInt32 := bitSteps 8 (n ^^^ c.toUInt32)
def crcMore (n : UInt32) (xs : List UInt8) : UInt32 := ~~~ (xs.foldl byteStep (~~~ n))
def crcSum (xs : List UInt8) : UInt32 := crcMore 0 xs
def crcMark (n : UInt32) : List UInt8 := [n.toUInt8, (n >>> 8).toUInt8, (n >>> 16).toUInt8, (n >>> 24).toUInt8]
def crcSeal (xs : List UInt8) : List UInt8 := xs ++ crcMark (crcSum xs)
def crcOpen (xs : List UInt8) : Option (List UInt8) :=
  if 4 ≤ xs.length ∧ xs.drop (xs.length - 4) = crcMark (crcSum (xs.take (xs.length - 4))) then some (xs.take (xs.length - 4)) else none
theorem crcOpen_iff {xs : List UInt8} {k : Nat} (h : xs.length = k + 4) (ys : List UInt8) : crcOpen xs = some ys ↔ xs.drop k = crcMark (crcSum (xs.take k)) ∧ xs.take k = ys := by
  unfold crcOpen
  rw [show xs.length - 4 = k from by omega]
  split
  · rename_i hh; simp [hh.2]
  · rename_i hh; simp; intro h1; exact absurd ⟨by omega, h1⟩ hh
theorem crcOpen_none {xs : List UInt8} {k : Nat} (h : xs.length = k + 4) : crcOpen xs = none ↔ ¬ xs.drop k = crcMark (crcSum (xs.take k)) := by
  unfold crcOpen
  rw [show xs.length - 4 = k from by omega]
  split
  · rename_i hh; simp [hh.2]
  · rename_i hh; simp; intro h1; exact hh ⟨by omega, h1⟩
theorem crcOpen_short {xs : List UInt8} (h : xs.length < 4) : crcOpen xs = none := by
  unfold crcOpen; rw [if_neg (by omega)]
theorem crcSeal_length (xs : List UInt8) : (crcSeal xs).length = xs.length + 4 := by simp [crcSeal, crcMark]
theorem crcSeal_take {xs : List UInt8} {k : Nat} : crcSeal (xs.take k) = xs ↔ xs.drop k = crcMark (crcSum (xs.take k)) := by
  unfold crcSeal
  constructor
  · intro h
    have : xs.take k ++ crcMark (crcSum (xs.take k)) = xs.take k ++ xs.drop k := by rw [h, List.take_append_drop]
    exact (List.append_cancel_left this).symm
  · intro h
    rw [← h, List.take_append_drop]
theorem crcOpen_seal (xs : List UInt8) : crcOpen (crcSeal xs) = some xs := by
  rw [crcOpen_iff (crcSeal_length xs)]
  simp [crcSeal]

/-- One bit's step, as the document takes it. -/
def bitStepR (n : UInt32) : UInt32 := if n &&& 1 = 1 then (n >>> 1) ^^^ 0xEDB88320 else n >>> 1
theorem bitStepR_eq (n : UInt32) : bitStepR n = bitStep n := by
  unfold bitStepR bitStep
  have hlt := n.toNat_lt
  have h1 : (n &&& 1).toNat = n.toNat % 2 := by
    rw [UInt32.toNat_and]
    show n.toNat &&& 1 = _
    exact Nat.and_one_is_mod _
  rcases Nat.mod_two_eq_zero_or_one n.toNat with h | h
  · have e : n &&& 1 = 0 := UInt32.toNat_inj.1 (by rw [h1, h]; rfl)
    rw [e, if_neg (by decide)]
    simp
  · have e : n &&& 1 = 1 := UInt32.toNat_inj.1 (by rw [h1, h]; rfl)
    rw [e, if_pos rfl]
    rfl
theorem bits_step (m : UInt32) : bits .xor .u32 ((m.toNat : Int) / 2) (bits .and .u32 3988292384 (-bits .and .u32 (m.toNat : Int) 1 % 4294967296)) = ((bitStep m).toNat : Int) := by
  have e1 : bits .and .u32 (m.toNat : Int) 1 = (((m &&& 1).toNat : Nat) : Int) := bits_and_u32 m 1
  have e2 : ∀ x : UInt32, bits .and .u32 3988292384 (x.toNat : Int) = (((0xEDB88320 &&& x).toNat : Nat) : Int) := bits_and_u32 0xEDB88320
  rw [e1, neg_u32, e2, half_u32, bits_xor_u32]
  rfl
theorem byteStep_eq (t : UInt32) (c : UInt8) : bitSteps 8 (t ^^^ c.toUInt32) = byteStep t c := rfl
theorem bitSteps_succ (q : Nat) (t : UInt32) : bitStep (bitSteps q t) = bitSteps (q + 1) t := rfl
theorem bits_stepR1 (m : UInt32) (h : (bits .and .u32 (m.toNat : Int) 1 == 1) = true) : bits .xor .u32 ((m.toNat : Int) / 2) 3988292384 = ((bitStep m).toNat : Int) := by
  have e1 : bits .and .u32 (m.toNat : Int) 1 = (((m &&& 1).toNat : Nat) : Int) := bits_and_u32 m 1
  rw [e1, beq_iff_eq] at h
  have h1 : m &&& 1 = 1 := UInt32.toNat_inj.1 (by rw [show (1 : UInt32).toNat = 1 from rfl]; omega)
  rw [← bitStepR_eq, bitStepR, if_pos h1, half_u32]
  exact bits_xor_u32 (m >>> 1) 0xEDB88320
theorem bits_stepR0 (m : UInt32) (h : (bits .and .u32 (m.toNat : Int) 1 == 1) = false) : (m.toNat : Int) / 2 = ((bitStep m).toNat : Int) := by
  have e1 : bits .and .u32 (m.toNat : Int) 1 = (((m &&& 1).toNat : Nat) : Int) := bits_and_u32 m 1
  rw [e1, beq_eq_false_iff_ne] at h
  have h1 : ¬ m &&& 1 = 1 := fun e => h (by rw [e]; rfl)
  rw [← bitStepR_eq, bitStepR, if_neg h1, half_u32]
theorem low_u8 (n : UInt32) : (n.toNat : Int) % (256 : Int) = ((n.toUInt8.toNat : Nat) : Int) := by
  rw [UInt32.toNat_toUInt8]; omega
theorem shr8_u32 (n : UInt32) : (n.toNat : Int) / (256 : Int) = (((n >>> 8).toNat : Nat) : Int) := by
  rw [UInt32.toNat_shiftRight]
  show _ = ((n.toNat >>> 8 : Nat) : Int)
  rw [Nat.shiftRight_eq_div_pow]; omega
theorem shr16_u32 (n : UInt32) : (n.toNat : Int) / (65536 : Int) = (((n >>> 16).toNat : Nat) : Int) := by
  rw [UInt32.toNat_shiftRight]
  show _ = ((n.toNat >>> 16 : Nat) : Int)
  rw [Nat.shiftRight_eq_div_pow]; omega
theorem shr24_u32 (n : UInt32) : (n.toNat : Int) / (16777216 : Int) = (((n >>> 24).toNat : Nat) : Int) := by
  rw [UInt32.toNat_shiftRight]
  show _ = ((n.toNat >>> 24 : Nat) : Int)
  rw [Nat.shiftRight_eq_div_pow]; omega
theorem mark_cells (n : UInt32) : (#[Value.int .u8 ((n.toNat : Int) % 256), Value.int .u8 ((n.toNat : Int) / 256 % 256), Value.int .u8 ((n.toNat : Int) / 65536 % 256), Value.int .u8 ((n.toNat : Int) / 16777216 % 256)] : Array Value).toList = enc (crcMark n) := by
  rw [shr8_u32, shr16_u32, shr24_u32, low_u8, low_u8, low_u8, low_u8]
  rfl
theorem foldl_take_succ {α β : Type} (f : β → α → β) (z : β) (xs : List α) (k : Nat) (h : k < xs.length) : (xs.take (k + 1)).foldl f z = f ((xs.take k).foldl f z) xs[k] := by
  rw [List.take_succ_eq_append_getElem h, List.foldl_append]
  rfl
end Go.Proofs.Ytnpkpfcljkekfaa
