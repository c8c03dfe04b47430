/- Plain words for chapter 06: decimal numbers in their form. No program in sight. -/
import Derived.Lib.SlTrimSet
import Derived.Lib.TrimByte
import Derived.Lib.Strings
import Derived.Lib.Atoi
import Derived.Lib.ItoaNum
import Derived.Lib.Small
import Derived.Lib.Bytealg
namespace Go.Proofs.YtafpkecjicphoaaDoor
open Go
set_option linter.unusedVariables false
set_option linter.unusedSimpArgs false

/-- A digit's byte. -/
def isDig (b : UInt8) : Bool := decide (48 ≤ b.toNat) && decide (b.toNat ≤ 57)
/-- The digits of a number, no nought ahead, 800 at most. -/
def natR (l : List UInt8) : Bool := !l.isEmpty && decide (l.length ≤ 800) && !(l.headD 0 == 48 && decide (l ≠ [48])) && l.all isDig
structure Num where
  neg : Bool
  dig : List UInt8
  exp : Int
deriving DecidableEq
/-- A number in its form. -/
def Num.right (n : Num) : Bool := natR n.dig && (if n.dig = [48] then !n.neg && decide (n.exp = 0) else !(n.dig.getLast? == some 48) && decide (-2000 ≤ n.exp) && decide (n.exp ≤ 2000))
def tenDigits : List UInt8 := [48, 49, 50, 51, 52, 53, 54, 55, 56, 57]
theorem contains_ten (b : UInt8) : tenDigits.contains b = isDig b := by
  have : ∀ n : Fin 256, tenDigits.contains (UInt8.ofNat n.val) = isDig (UInt8.ofNat n.val) := by decide +kernel
  have h := this ⟨b.toNat, b.toNat_lt⟩
  simpa using h
theorem dropWhile_nil {p : UInt8 → Bool} : ∀ {l : List UInt8}, l.dropWhile p = [] ↔ l.all p = true
  | [] => by simp
  | a :: r => by
    simp only [List.dropWhile, List.all_cons, Bool.and_eq_true]
    split
    · rename_i h; simp [h, dropWhile_nil (l := r)]
    · rename_i h; simp [h]
theorem takeWhile_mem {p : UInt8 → Bool} {x : UInt8} : ∀ {l : List UInt8}, x ∈ l.takeWhile p → p x = true
  | [], h => by cases h
  | a :: r, h => by
    simp only [List.takeWhile] at h
    split at h
    · rename_i ha
      rcases List.mem_cons.1 h with rfl | h
      · exact ha
      · exact takeWhile_mem h
    · cases h
theorem trimR_all {p : UInt8 → Bool} (l : List UInt8) (h : l.all p = false) : ((l.reverse.dropWhile p).reverse).all p = false := by
  have e : l.reverse = l.reverse.takeWhile p ++ l.reverse.dropWhile p := (List.takeWhile_append_dropWhile).symm
  have h1 : l.reverse.all p = false := by rw [List.all_reverse]; exact h
  rw [e, List.all_append] at h1
  have h2 : (l.reverse.takeWhile p).all p = true := by
    rw [List.all_eq_true]; intro x hx; exact takeWhile_mem hx
  rw [h2] at h1
  rw [List.all_reverse]
  simpa using h1
/-- What Trim leaves of digits alone. -/
theorem trimS_digits (l : List UInt8) : Lib.trimS l tenDigits = [] ↔ l.all isDig = true := by
  have hf : (fun b => tenDigits.contains b) = isDig := funext contains_ten
  unfold Lib.trimS Lib.trimLeftS Lib.trimRightS
  simp only [hf]
  rw [dropWhile_nil]
  constructor
  · intro h
    cases hc : l.all isDig with
    | true => rfl
    | false => rw [trimR_all l hc] at h; cases h
  · intro h
    have h1 : l.reverse.dropWhile isDig = [] := by rw [dropWhile_nil, List.all_reverse]; exact h
    rw [h1]; rfl
theorem natR_pos {l : List UInt8} (h : natR l = true) : l ≠ [] := by
  intro e; subst e; simp [natR] at h
theorem natR_len {l : List UInt8} (h : natR l = true) : l.length ≤ 800 := by
  simp only [natR, Bool.and_eq_true, decide_eq_true_eq] at h; exact h.1.1.2
theorem natR_all {l : List UInt8} (h : natR l = true) : l.all isDig = true := by
  simp only [natR, Bool.and_eq_true, decide_eq_true_eq] at h; exact h.2
def Num.none : Num := ⟨false, [], 0⟩
def Num.nought : Num := ⟨false, [48], 0⟩
/-- What the program makes of digits. -/
def makeA (neg : Bool) (l : List UInt8) (x : Int) : Num × Int :=
  if l = [] ∨ 4096 < l.length ∨ l.all isDig = false then (Num.none, 1)
  else if Lib.trimRightB l 48 = [] then (Num.nought, 0)
  else
    let n : Num := ⟨neg, Lib.trimLeftB (Lib.trimRightB l 48) 48, min (max x (-1048576)) 1048576 + l.length - (Lib.trimRightB l 48).length⟩
    if n.right then (n, 0) else (Num.none, 11)
theorem trimRight_len (l : List UInt8) (c : UInt8) : (Lib.trimRightB l c).length ≤ l.length := by
  unfold Lib.trimRightB
  rw [List.length_reverse]
  exact Nat.le_trans (List.dropWhile_suffix _).length_le (by simp)
theorem trimLeft_len (l : List UInt8) (c : UInt8) : (Lib.trimLeftB l c).length ≤ l.length := (List.dropWhile_suffix _).length_le
/-- The state of a text's look behind a byte: 0 the beginning, 1 behind the sign, 2 a nought, 3 digits, 4 behind the point, 5 digits there, 6 behind the e, 7 behind its sign, 8 digits there, 9 none. -/
def stepB (q : Nat) (c : UInt8) : Nat :=
  if q ≤ 1 then (if c = 45 ∧ q = 0 then 1 else if c = 48 then 2 else if isDig c then 3 else 9)
  else if q = 2 ∨ q = 3 ∨ q = 5 then (if isDig c ∧ q ≠ 2 then q else if c = 46 ∧ q ≠ 5 then 4 else if c = 101 ∨ c = 69 then 6 else 9)
  else if q = 4 then (if isDig c then 5 else 9)
  else (if isDig c then 8 else if q = 6 ∧ (c = 43 ∨ c = 45) then 7 else 9)
/-- The number that digits tell. -/
def valD (l : List UInt8) : Nat := (Lib.decFrom 0 l).getD 0
/-- What is left of an exponent's text behind its sign and its noughts. -/
def expD (t : List UInt8) : List UInt8 := Lib.trimLeftB (Lib.trimPrefix (Lib.trimPrefix t [45]) [43]) 48
/-- What an exponent's text tells. -/
def expN (t : List UInt8) : Int := if 6 < (expD t).length then 1048576 else (valD (expD t) : Int)
def expA (t : List UInt8) : Int := if Lib.hasPrefix t [45] then - expN t else expN t
theorem digitVal_some {b : UInt8} (h : isDig b = true) : Lib.digitVal b = some (b.toNat - 48) := by
  have : 48 ≤ b.toNat ∧ b.toNat ≤ 57 := by simpa [isDig] using h
  simp [Lib.digitVal, this]
theorem decFrom_digits : ∀ (l : List UInt8) (a : Nat), l.all isDig = true → ∃ n, Lib.decFrom a l = some n ∧ n < (a + 1) * 10 ^ l.length
  | [], a, _ => ⟨a, rfl, by simp⟩
  | b :: r, a, h => by
    simp only [List.all_cons, Bool.and_eq_true] at h
    have hb : b.toNat ≤ 57 := by have := h.1; simp [isDig] at this; omega
    obtain ⟨n, h1, h2⟩ := decFrom_digits r (a * 10 + (b.toNat - 48)) h.2
    refine ⟨n, by simp only [Lib.decFrom, digitVal_some h.1]; exact h1, Nat.lt_of_lt_of_le h2 ?_⟩
    rw [List.length_cons, Nat.pow_succ, Nat.mul_comm (10 ^ r.length) 10, ← Nat.mul_assoc]
    exact Nat.mul_le_mul_right _ (by omega)
theorem valD_lt {l : List UInt8} (h : l.all isDig = true) : valD l < 10 ^ l.length := by
  obtain ⟨n, h1, h2⟩ := decFrom_digits l 0 h
  unfold valD; rw [h1]; simpa using h2
theorem atoi_digits {l : List UInt8} (h : l.all isDig = true) (hn : l ≠ []) : Lib.atoi l = some (valD l : Int) := by
  obtain ⟨n, h1, -⟩ := decFrom_digits l 0 h
  have hv : valD l = n := by unfold valD; rw [h1]; rfl
  cases l with
  | nil => exact absurd rfl hn
  | cons b r =>
    have hb : 48 ≤ b.toNat ∧ b.toNat ≤ 57 := by
      simp only [List.all_cons, Bool.and_eq_true] at h; simpa [isDig] using h.1
    have h45 : (b == 45) = false := by rw [beq_eq_false_iff_ne]; rintro rfl; simp at hb
    have h43 : (b == 43) = false := by rw [beq_eq_false_iff_ne]; rintro rfl; simp at hb
    simp [Lib.atoi, h45, h43, Lib.decNat, h1, hv]
theorem expN_bound (t : List UInt8) (h : (expD t).all isDig = true) : 0 ≤ expN t ∧ expN t ≤ 1048576 := by
  unfold expN
  split
  · omega
  · have h1 := valD_lt h
    have h2 : 10 ^ (expD t).length ≤ 10 ^ 6 := Nat.pow_le_pow_right (by decide) (by omega)
    omega
theorem expA_bound (t : List UInt8) (h : (expD t).all isDig = true) : -1048576 ≤ expA t ∧ expA t ≤ 1048576 := by
  have := expN_bound t h
  unfold expA; split <;> omega
/-- A number's text. -/
def textA (n : Num) : List UInt8 := if n.right then (if n.neg then [45] else []) ++ n.dig ++ (if n.exp = 0 then [] else 101 :: Lib.itoa n.exp) else []
/-- A whole number's digits. -/
def wholeA (n : Num) : List UInt8 × Bool := if n.right = true ∧ 0 ≤ n.exp ∧ n.exp ≤ 800 - n.dig.length then (n.dig ++ List.replicate n.exp.toNat 48, true) else ([], false)
def b2iB (b : Bool) : Int := if b then 1 else 0
def orI (x y : Int) : Int := if x ≠ 0 then x else y
/-- How two numbers stand, their signs aside. -/
def sizeA (x y : Num) : Int :=
  if x.dig = [48] ∨ y.dig = [48] then Lib.compareInt (b2iB (decide (x.dig ≠ [48]))) (b2iB (decide (y.dig ≠ [48])))
  else orI (Lib.compareInt ((x.dig.length : Int) + x.exp) ((y.dig.length : Int) + y.exp)) (Lib.compareBytes x.dig y.dig)
def orderA (a b : Num) : Int × Int :=
  if a.right = false ∨ b.right = false then (0, 1)
  else if a.neg ≠ b.neg then (if a.neg then -1 else 1, 0)
  else (if a.neg then sizeA b a else sizeA a b, 0)
theorem Num.right_len {n : Num} (h : n.right = true) : n.dig.length ≤ 800 := by
  simp only [Num.right, Bool.and_eq_true] at h; exact natR_len h.1
theorem Num.right_exp {n : Num} (h : n.right = true) : -2000 ≤ n.exp ∧ n.exp ≤ 2000 := by
  simp only [Num.right, Bool.and_eq_true] at h
  have := h.2
  split at this
  · simp at this; omega
  · simp at this; omega
end Go.Proofs.YtafpkecjicphoaaDoor
