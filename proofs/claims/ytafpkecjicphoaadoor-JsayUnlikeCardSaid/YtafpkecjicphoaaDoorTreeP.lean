/- Trees in plain Lean: walks over them, sameness, and what may be. -/
import Derived.Test.YtafpkecjicphoaaDoorDecP
import Derived.Test.YtafpkecjicphoaaDoorBase
namespace Go.Proofs.YtafpkecjicphoaaDoor
open Go Go.RowKit
set_option linter.unusedVariables false
set_option linter.unusedSimpArgs false

/-- A node with all that is in it. -/
inductive Tn where
  | mk (kind : Int) (n : UInt64) (neg : Bool) (dig : List UInt8) (exp : Int) (text bytes : List UInt8) (keys kids : List Tn)
namespace Tn
def kind : Tn → Int | mk a _ _ _ _ _ _ _ _ => a
def n : Tn → UInt64 | mk _ a _ _ _ _ _ _ _ => a
def neg : Tn → Bool | mk _ _ a _ _ _ _ _ _ => a
def dig : Tn → List UInt8 | mk _ _ _ a _ _ _ _ _ => a
def exp : Tn → Int | mk _ _ _ _ a _ _ _ _ => a
def text : Tn → List UInt8 | mk _ _ _ _ _ a _ _ _ => a
def bytes : Tn → List UInt8 | mk _ _ _ _ _ _ a _ _ => a
def keys : Tn → List Tn | mk _ _ _ _ _ _ _ a _ => a
def kids : Tn → List Tn | mk _ _ _ _ _ _ _ _ a => a
end Tn
theorem Tn.eta (t : Tn) : Tn.mk t.kind t.n t.neg t.dig t.exp t.text t.bytes t.keys t.kids = t := by cases t; rfl

/-! ### a walk, as a list of acts -/
section
variable {σ : Type}
/-- One behind the other, as long as it goes on. -/
def seqA : List (Nat → σ → σ × Bool) → Nat → σ → σ × Bool
  | [], _, s => (s, true)
  | f :: l, d, s => if (f d s).2 then seqA l d (f d s).1 else f d s
/-- In turn, as long as both have one. -/
def inter {α : Type} : List α → List α → List α
  | a :: l, b :: m => a :: b :: inter l m
  | _, _ => []
mutual
def actT (st : σ → Tn → Nat → σ × Bool) : Tn → Nat → σ → σ × Bool
  | .mk k n ng dg ex tx bs keys kids => fun d s =>
    if (st s (.mk k n ng dg ex tx bs keys kids) d).2 then
      seqA (if k = 8 ∧ keys.length = kids.length then inter (actL st keys) (actL st kids) else actL st keys ++ actL st kids) (d + 1) (st s (.mk k n ng dg ex tx bs keys kids) d).1
    else st s (.mk k n ng dg ex tx bs keys kids) d
def actL (st : σ → Tn → Nat → σ × Bool) : List Tn → List (Nat → σ → σ × Bool)
  | [] => []
  | t :: l => actT st t :: actL st l
end
theorem actL_map (st : σ → Tn → Nat → σ × Bool) : ∀ l, actL st l = l.map (actT st)
  | [] => by rw [actL]; rfl
  | t :: l => by rw [actL, actL_map st l]; rfl
theorem seqA_append : ∀ (l m : List (Nat → σ → σ × Bool)) (d : Nat) (s : σ), seqA (l ++ m) d s = if (seqA l d s).2 then seqA m d (seqA l d s).1 else seqA l d s
  | [], m, d, s => by simp [seqA]
  | f :: l, m, d, s => by
    rw [List.cons_append, seqA, seqA]
    split
    · exact seqA_append l m d _
    · rfl
end

/-! ### the same tree -/
mutual
def sameT : Tn → Tn → Bool
  | .mk k n ng dg ex tx bs keys kids, u => decide (k = u.kind) && decide (n = u.n) && decide (ng = u.neg) && decide (dg = u.dig) && decide (ex = u.exp) && decide (tx = u.text) && decide (bs = u.bytes) && sameL keys u.keys && sameL kids u.kids
def sameL : List Tn → List Tn → Bool
  | [], [] => true
  | t :: l, u :: m => sameT t u && sameL l m
  | _, _ => false
end
mutual
theorem sameT_eq : ∀ (t u : Tn), sameT t u = true ↔ t = u
  | .mk k n ng dg ex tx bs keys kids, .mk k' n' ng' dg' ex' tx' bs' keys' kids' => by
    rw [sameT]
    simp only [Bool.and_eq_true, decide_eq_true_eq]
    simp only [Tn.kind, Tn.n, Tn.neg, Tn.dig, Tn.exp, Tn.text, Tn.bytes, Tn.keys, Tn.kids, sameL_eq keys keys', sameL_eq kids kids', Tn.mk.injEq]
    constructor
    · rintro ⟨⟨⟨⟨⟨⟨⟨⟨h1, h2⟩, h3⟩, h4⟩, h5⟩, h6⟩, h7⟩, h8⟩, h9⟩; exact ⟨h1, h2, h3, h4, h5, h6, h7, h8, h9⟩
    · rintro ⟨h1, h2, h3, h4, h5, h6, h7, h8, h9⟩; exact ⟨⟨⟨⟨⟨⟨⟨⟨h1, h2⟩, h3⟩, h4⟩, h5⟩, h6⟩, h7⟩, h8⟩, h9⟩
theorem sameL_eq : ∀ (l m : List Tn), sameL l m = true ↔ l = m
  | [], [] => by simp [sameL]
  | [], _ :: _ => by simp [sameL]
  | _ :: _, [] => by simp [sameL]
  | t :: l, u :: m => by
    rw [sameL, Bool.and_eq_true, sameT_eq t u, sameL_eq l m]
    simp
end
theorem sameL_append_false : ∀ (l m : List Tn), l.length ≠ m.length → sameL l m = false
  | [], [], h => absurd rfl h
  | [], _ :: _, _ => by simp [sameL]
  | _ :: _, [], _ => by simp [sameL]
  | t :: l, u :: m, h => by rw [sameL, sameL_append_false l m (by simpa using h), Bool.and_false]

/-! ### how many nodes, and how deep -/
mutual
def sizeT : Tn → Nat
  | .mk _ _ _ _ _ _ _ keys kids => 1 + sizeTL keys + sizeTL kids
def sizeTL : List Tn → Nat
  | [] => 0
  | t :: l => sizeT t + sizeTL l
end
mutual
def deepT : Tn → Nat
  | .mk _ _ _ _ _ _ _ keys kids => 1 + max (deepTL keys) (deepTL kids)
def deepTL : List Tn → Nat
  | [] => 0
  | t :: l => max (deepT t) (deepTL l)
end
theorem sizeT_pos : ∀ t, 1 ≤ sizeT t
  | .mk _ _ _ _ _ _ _ keys kids => by rw [sizeT]; omega
theorem deepT_pos : ∀ t, 1 ≤ deepT t
  | .mk _ _ _ _ _ _ _ keys kids => by rw [deepT]; omega
theorem sizeTL_append : ∀ (l m : List Tn), sizeTL (l ++ m) = sizeTL l + sizeTL m
  | [], m => by simp [sizeTL]
  | t :: l, m => by rw [List.cons_append, sizeTL, sizeTL, sizeTL_append l m]; omega
theorem sizeTL_mem {t : Tn} : ∀ {l : List Tn}, t ∈ l → sizeT t ≤ sizeTL l
  | u :: l, h => by
    rw [sizeTL]
    rcases List.mem_cons.1 h with rfl | h
    · omega
    · have := sizeTL_mem h; omega
theorem size_key {t x : Tn} (h : x ∈ t.keys) : sizeT x < sizeT t := by
  cases t with
  | mk a b c d e f g keys kids =>
    have := sizeTL_mem (show x ∈ keys from h)
    rw [sizeT]; omega
theorem size_kid {t x : Tn} (h : x ∈ t.kids) : sizeT x < sizeT t := by
  cases t with
  | mk a b c d e f g keys kids =>
    have := sizeTL_mem (show x ∈ kids from h)
    rw [sizeT]; omega
end Go.Proofs.YtafpkecjicphoaaDoor
