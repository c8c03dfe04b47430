/- Plainly: the tokens of a JSON text. -/
import Derived.Test.YtafpkecjicphoaaDoorJlexP
import Derived.Test.YtafpkecjicphoaaDoorDecS
namespace Go.Proofs.YtafpkecjicphoaaDoor
open Go Go.RowKit
set_option linter.unusedVariables false
set_option linter.unusedSimpArgs false

structure Tok where
  kind : Nat
  frm : Nat
  til : Nat
  text : List UInt8
deriving DecidableEq
/-- A digit of base 16. -/
def hexV (c : UInt8) : Option Nat :=
  if 48 ≤ c.toNat ∧ c.toNat ≤ 57 then some (c.toNat - 48) else if 97 ≤ c.toNat ∧ c.toNat ≤ 102 then some (c.toNat - 87) else if 65 ≤ c.toNat ∧ c.toNat ≤ 70 then some (c.toNat - 55) else none
/-- A digit that may not stand there, though it is one; n: the number with it. -/
def unitBad (low : Bool) (i n d : Nat) : Bool := (low && i == 0 && d != 13) || (low && i == 1 && decide (n < 220)) || (!low && i == 1 && decide (220 ≤ n ∧ n ≤ 223))
/-- k more digits of four: their number, or where it goes wrong. -/
def unitL (low : Bool) : Nat → Nat → Nat → List UInt8 → Except Nat Nat
  | 0, _, n, _ => .ok n
  | _ + 1, i, _, [] => .error i
  | k + 1, i, n, c :: t =>
    match hexV c with
    | none => .error i
    | some d => if unitBad low i (n * 16 + d) d then .error i else unitL low k (i + 1) (n * 16 + d) t
/-- What a sign behind a backslash means; 0: nothing. -/
def shortD (c : UInt8) : Nat := if c = 34 then 34 else if c = 92 then 92 else if c = 47 then 47 else if c = 98 then 8 else if c = 102 then 12 else if c = 110 then 10 else if c = 114 then 13 else if c = 116 then 9 else 0
/-- What stands behind a backslash: its character and its length, or where it goes wrong. -/
def escL : List UInt8 → Except Nat (Nat × Nat)
  | [] => .error 0
  | c :: t =>
    if shortD c ≠ 0 then .ok (shortD c, 1)
    else if c = 117 then
      match unitL false 4 0 0 t with
      | .error o => .error (1 + o)
      | .ok n =>
        if n < 55296 ∨ 57343 < n then .ok (n, 5)
        else if (t.drop 4).head? ≠ some 92 then .error 5
        else if (t.drop 5).head? ≠ some 117 then .error 6
        else match unitL true 4 0 0 (t.drop 6) with
          | .error o => .error (7 + o)
          | .ok m => .ok (65536 + (n - 55296) * 1024 + (m - 56320), 11)
    else .error 0
/-- With what stands ahead. -/
def addS (s : List UInt8) (k : Nat) : Except (Bool × Nat) (List UInt8 × Nat) → Except (Bool × Nat) (List UInt8 × Nat)
  | .ok (x, n) => .ok (s ++ x, k + n)
  | .error (u, o) => .error (u, k + o)
/-- A string behind its first quote: what it means, and its length; or where it goes wrong (true: it is no text there). -/
def strL : Nat → List UInt8 → Except (Bool × Nat) (List UInt8 × Nat)
  | 0, _ => .error (false, 0)
  | _ + 1, [] => .error (false, 0)
  | f + 1, c :: l =>
    if c = 34 then .ok ([], 1)
    else if c.toNat < 32 then .error (false, 0)
    else if c = 92 then
      match escL l with
      | .error o => .error (false, 1 + o)
      | .ok (r, n) => addS (Lib.encodeRune r) (1 + n) (strL f (l.drop n))
    else
      if (oneP (c :: l)).2.1 ≤ 0 then .error (true, (oneP (c :: l)).2.2.toNat)
      else addS ((c :: l).take (oneP (c :: l)).2.1.toNat) (oneP (c :: l)).2.1.toNat (strL f ((c :: l).drop (oneP (c :: l)).2.1.toNat))
/-- A number's length, or where it goes wrong. -/
def numL (s : List UInt8) : Except Nat Nat :=
  if wholeR (afterSign s) = [] then .error (s.length - (afterSign s).length)
  else if dotR (afterWhole (afterSign s)) = true ∧ partR (afterWhole (afterSign s)) = [] then .error (s.length - ((afterWhole (afterSign s)).drop 1).length)
  else if exR (afterPart (afterWhole (afterSign s))) = true ∧ digsR (afterE (afterPart (afterWhole (afterSign s)))) = [] then .error (s.length - (afterE (afterPart (afterWhole (afterSign s)))).length)
  else .ok (s.length - (endR (afterPart (afterWhole (afterSign s)))).length)
/-- How many bytes of a word stand there. -/
def wordL : List UInt8 → List UInt8 → Nat
  | w :: ws, c :: l => if c = w then 1 + wordL ws l else 0
  | _, _ => 0
def signK (c : UInt8) : Nat := if c = 123 then 1 else if c = 125 then 2 else if c = 91 then 3 else if c = 93 then 4 else if c = 58 then 5 else if c = 44 then 6 else 0
/-- The word that begins with a byte: its kind and its bytes. -/
def wordK (c : UInt8) : Nat × List UInt8 := if c = 116 then (9, [116, 114, 117, 101]) else if c = 102 then (10, [102, 97, 108, 115, 101]) else if c = 110 then (11, [110, 117, 108, 108]) else (0, [])
/-- The token that begins there: kind, length, text; or where it goes wrong. -/
def tokL : List UInt8 → Except (Bool × Nat) (Nat × Nat × List UInt8)
  | [] => .error (false, 0)
  | c :: l =>
    if signK c ≠ 0 then .ok (signK c, 1, [])
    else if c = 34 then
      match strL (l.length + 1) l with
      | .ok (x, n) => .ok (7, 1 + n, x)
      | .error (u, o) => .error (u, 1 + o)
    else if c = 45 ∨ isDig c = true then
      match numL (c :: l) with
      | .ok n => .ok (8, n, (c :: l).take n)
      | .error o => .error (false, o)
    else if (wordK c).1 ≠ 0 then
      if wordL (wordK c).2 (c :: l) = (wordK c).2.length then .ok ((wordK c).1, (wordK c).2.length, []) else .error (false, wordL (wordK c).2 (c :: l))
    else .error (false, 0)
/-- A fault behind p bytes, m being left. -/
def faultL (p m : Nat) (u : Bool) (o : Nat) : Int × Int := if m ≤ o then (3, ((p + m : Nat) : Int)) else (if u then 6 else 5, ((p + o : Nat) : Int))
def gapC (c : UInt8) : Bool := c == 32 || c == 9 || c == 10 || c == 13
def lexL : Nat → Nat → List UInt8 → List Tok × (Int × Int)
  | 0, _, _ => ([], (0, 0))
  | _ + 1, _, [] => ([], (0, 0))
  | f + 1, p, c :: l =>
    if gapC c then lexL f (p + 1) l
    else match tokL (c :: l) with
      | .error (u, o) => ([], faultL p (l.length + 1) u o)
      | .ok (k, n, x) => (⟨k, p, p + n, x⟩ :: (lexL f (p + n) ((c :: l).drop n)).1, (lexL f (p + n) ((c :: l).drop n)).2)
/-- What Lex answers. -/
def lexA (b : List UInt8) : List Tok × (Int × Int) := if 4096 < b.length then ([], (8, 0)) else lexL (b.length + 1) 0 b

/-! ### lengths -/
theorem unitL_len (low : Bool) : ∀ (k i n : Nat) (l : List UInt8), (∀ o, unitL low k i n l = .error o → o < i + k ∧ o ≤ i + l.length) ∧ (∀ m, unitL low k i n l = .ok m → k ≤ l.length)
  | 0, i, n, l => ⟨(fun o h => by cases h), fun m h => Nat.zero_le _⟩
  | k + 1, i, n, [] => ⟨(fun o h => by injection h with h; simp; omega), (fun m h => by cases h)⟩
  | k + 1, i, n, c :: t => by
    have ih := fun d => unitL_len low k (i + 1) (n * 16 + d) t
    rw [unitL]
    cases hexV c with
    | none => exact ⟨(fun o h => by injection h with h; simp; omega), (fun m h => by cases h)⟩
    | some d =>
      simp only
      split
      · exact ⟨(fun o h => by injection h with h; simp; omega), (fun m h => by cases h)⟩
      · refine ⟨fun o h => ?_, fun m h => ?_⟩
        · have := (ih d).1 o h; simp; omega
        · have := (ih d).2 m h; simp; omega
theorem escL_len (l : List UInt8) : (∀ r n, escL l = .ok (r, n) → 1 ≤ n ∧ n ≤ l.length) ∧ (∀ o, escL l = .error o → o ≤ l.length) := by
  cases l with
  | nil => exact ⟨(fun r n h => by cases h), (fun o h => by injection h with h; omega)⟩
  | cons c t =>
    rw [escL]
    split
    · exact ⟨(fun r n h => by injection h with h; injection h with h1 h2; simp; omega), (fun o h => by cases h)⟩
    · split
      · have h1 := unitL_len false 4 0 0 t
        cases hu : unitL false 4 0 0 t with
        | error o => exact ⟨(fun r n h => by cases h), (fun o' h => by injection h with h; have := h1.1 o hu; simp; omega)⟩
        | ok m =>
          have h2 := h1.2 m hu
          simp only
          split
          · exact ⟨(fun r n h => by injection h with h; injection h with h1 h2; simp; omega), (fun o h => by cases h)⟩
          · split
            · exact ⟨(fun r n h => by cases h), (fun o h => by injection h with h; simp; omega)⟩
            · rename_i h92
              have l5 : 5 ≤ t.length := by
                rcases Nat.lt_or_ge t.length 5 with h | h
                · rw [List.drop_eq_nil_of_le (by omega)] at h92; exact absurd (by simp) h92
                · exact h
              split
              · exact ⟨(fun r n h => by cases h), (fun o h => by injection h with h; simp; omega)⟩
              · rename_i h117
                have l6 : 6 ≤ t.length := by
                  rcases Nat.lt_or_ge t.length 6 with h | h
                  · rw [List.drop_eq_nil_of_le (by omega)] at h117; exact absurd (by simp) h117
                  · exact h
                have h3 := unitL_len true 4 0 0 (t.drop 6)
                rw [List.length_drop] at h3
                cases hv : unitL true 4 0 0 (t.drop 6) with
                | error o => exact ⟨(fun r n h => by cases h), (fun o' h => by injection h with h; have := h3.1 o hv; simp; omega)⟩
                | ok m2 =>
                  have := h3.2 m2 hv
                  exact ⟨(fun r n h => by injection h with h; injection h with h1 h2; simp; omega), (fun o h => by cases h)⟩
      · exact ⟨(fun r n h => by cases h), (fun o h => by injection h with h; omega)⟩
end Go.Proofs.YtafpkecjicphoaaDoor
