/- What jsay writes, plainly; a text has no byte of a gap outside of strings. -/
import Derived.Test.YtafpkecjicphoaaDoorJlexP
import Derived.Test.YtafpkecjicphoaaDoorTreeC
import Derived.Test.YtafpkecjicphoaaDoorDecS
namespace Go.Proofs.YtafpkecjicphoaaDoor
open Go Go.RowKit
set_option linter.unusedVariables false
set_option linter.unusedSimpArgs false

/-- Things behind one another, with commas; one ahead of the first, if so. -/
def sepB : Bool → List (List UInt8) → List UInt8
  | _, [] => []
  | b, x :: l => (if b then [44] else []) ++ (x ++ sepB true l)
mutual
/-- A tree's text. -/
def sayT : Tn → List UInt8
  | .mk k n ng dg ex tx bs keys kids =>
    if k = 0 then [110, 117, 108, 108]
    else if k = 1 then (if n = 0 then [102, 97, 108, 115, 101] else [116, 114, 117, 101])
    else if k = 2 then (if ng then [45] else []) ++ dg
    else if k = 3 then textA ⟨ng, dg, ex⟩
    else if k = 5 then escT tx
    else if k = 7 then 91 :: (sepB false (sayL kids) ++ [93])
    else if k = 8 then 123 :: (sepB false (sayP keys kids) ++ [125])
    else []
def sayL : List Tn → List (List UInt8)
  | [] => []
  | t :: l => sayT t :: sayL l
def sayP : List Tn → List Tn → List (List UInt8)
  | k :: ks, t :: l => (escT k.text ++ 58 :: sayT t) :: sayP ks l
  | [], _ => []
  | _ :: _, [] => []
end
mutual
/-- May a tree be told? -/
def toldT : Tn → Bool
  | .mk k n ng dg ex tx bs keys kids =>
    if k = 7 then toldL kids
    else if k = 8 then toldP keys kids
    else decide (k = 0 ∨ k = 1 ∨ k = 2 ∨ k = 3 ∨ k = 5)
def toldL : List Tn → Bool
  | [] => true
  | t :: l => toldT t && toldL l
def toldP : List Tn → List Tn → Bool
  | k :: ks, t :: l => decide (k.kind = 5) && toldT t && toldP ks l
  | [], _ => true
  | _ :: _, [] => true
end
mutual
/-- All nodes are well, each alone. -/
def goodT : Tn → Prop
  | .mk k n ng dg ex tx bs keys kids => aloneT (.mk k n ng dg ex tx bs keys kids) = 0 ∧ goodL keys ∧ goodL kids
def goodL : List Tn → Prop
  | [] => True
  | t :: l => goodT t ∧ goodL l
end
mutual
/-- Has a map two keys that are the same? -/
def twT : Tn → Bool
  | .mk k n ng dg ex tx bs keys kids => twinsL keys || twTL keys || twTL kids
def twTL : List Tn → Bool
  | [] => false
  | t :: l => twT t || twTL l
end
theorem goodT_iff (t : Tn) : goodT t ↔ aloneT t = 0 ∧ goodL t.keys ∧ goodL t.kids := by cases t; rw [goodT]; rfl
theorem twT_eq (t : Tn) : twT t = (twinsL t.keys || twTL t.keys || twTL t.kids) := by cases t; rw [twT]; rfl
theorem goodL_mem : ∀ {l : List Tn}, goodL l ↔ ∀ x ∈ l, goodT x
  | [] => by simp [goodL]
  | t :: l => by rw [goodL, goodL_mem (l := l)]; simp
theorem twTL_any : ∀ (l : List Tn), twTL l = l.any twT
  | [] => rfl
  | t :: l => by rw [twTL, twTL_any l]; rfl
theorem inter_iff {α : Type} {x : α} : ∀ {l m : List α}, l.length = m.length → (x ∈ inter l m ↔ x ∈ l ∨ x ∈ m)
  | [], [], _ => by simp [inter]
  | a :: l, b :: m, h => by
    rw [inter, List.mem_cons, List.mem_cons, inter_iff (l := l) (m := m) (by simpa using h)]
    simp only [List.mem_cons]
    constructor
    · rintro (h | h | h | h) <;> simp [h]
    · rintro ((h | h) | (h | h)) <;> simp [h]
theorem below_iff {t x : Tn} : x ∈ below t ↔ x ∈ t.keys ∨ x ∈ t.kids := by
  unfold below
  split
  · rename_i h; exact inter_iff h.2
  · exact List.mem_append
theorem any_below (t : Tn) (p : Tn → Bool) : (below t).any p = (t.keys.any p || t.kids.any p) := by
  rw [Bool.eq_iff_iff]
  simp only [List.any_eq_true, Bool.or_eq_true, below_iff]
  constructor
  · rintro ⟨x, h | h, hp⟩
    · exact .inl ⟨x, h, hp⟩
    · exact .inr ⟨x, h, hp⟩
  · rintro (⟨x, h, hp⟩ | ⟨x, h, hp⟩)
    · exact ⟨x, .inl h, hp⟩
    · exact ⟨x, .inr h, hp⟩
theorem seq_good : ∀ (l : List Tn) (d : Nat) (s : Int × Bool), s.1 = 0 →
    (∀ x ∈ l, ∀ s, (actT chk1 x d s).2 = decide ((actT chk1 x d s).1.1 = 0) ∧ ((actT chk1 x d s).2 = true → goodT x ∧ (actT chk1 x d s).1.2 = (s.2 || twT x))) →
    (seqA (l.map (actT chk1)) d s).2 = decide ((seqA (l.map (actT chk1)) d s).1.1 = 0) ∧ ((seqA (l.map (actT chk1)) d s).2 = true → (∀ x ∈ l, goodT x) ∧ (seqA (l.map (actT chk1)) d s).1.2 = (s.2 || l.any twT))
  | [], d, s, h0, _ => by simp [seqA, h0]
  | x :: l, d, s, h0, hx => by
    obtain ⟨h1, h2⟩ := hx x (List.mem_cons_self ..) s
    rw [List.map_cons, seqA]
    by_cases hg : (actT chk1 x d s).2 = true
    · rw [if_pos hg]
      obtain ⟨h3, h4⟩ := h2 hg
      rw [hg] at h1
      obtain ⟨i1, i2⟩ := seq_good l d (actT chk1 x d s).1 (by simpa using h1.symm) (fun y hy => hx y (List.mem_cons_of_mem _ hy))
      refine ⟨i1, fun h => ?_⟩
      obtain ⟨j1, j2⟩ := i2 h
      refine ⟨fun y hy => ?_, ?_⟩
      · rcases List.mem_cons.1 hy with rfl | hy
        · exact h3
        · exact j1 y hy
      · rw [j2, h4, List.any_cons, Bool.or_assoc]
    · rw [if_neg hg]
      exact ⟨h1, fun h => absurd h hg⟩
theorem act_good : ∀ (N : Nat) (t : Tn), sizeT t ≤ N → ∀ (d : Nat) (s : Int × Bool),
    (actT chk1 t d s).2 = decide ((actT chk1 t d s).1.1 = 0) ∧ ((actT chk1 t d s).2 = true → goodT t ∧ (actT chk1 t d s).1.2 = (s.2 || twT t))
  | 0, t, h, _, _ => by have := sizeT_pos t; omega
  | N + 1, t, h, d, s => by
    rw [actT_eq]
    by_cases ha : aloneT t = 0
    · rw [if_pos (by simp [chk1, ha])]
      obtain ⟨h1, h2⟩ := seq_good (below t) (d + 1) (chk1 s t d).1 (by simp [chk1, ha]) (fun x hx s => act_good N x (by
        rcases below_mem hx with h' | h'
        · have := size_key h'; omega
        · have := size_kid h'; omega) (d + 1) s)
      refine ⟨h1, fun h => ?_⟩
      obtain ⟨h3, h4⟩ := h2 h
      refine ⟨(goodT_iff t).2 ⟨ha, goodL_mem.2 fun x hx => h3 x (below_iff.2 (.inl hx)), goodL_mem.2 fun x hx => h3 x (below_iff.2 (.inr hx))⟩, ?_⟩
      rw [h4, twT_eq, twTL_any, twTL_any, any_below]
      simp [chk1, ha, Bool.or_assoc]
    · rw [if_neg (by simp [chk1, ha])]
      exact ⟨by simp [chk1, ha], fun h => by simp [chk1, ha] at h⟩
/-- A tree that may be. -/
theorem check_zero {t : Tn} (h : checkT t = 0) : sizeT t ≤ 1024 ∧ deepT t ≤ 24 ∧ goodT t ∧ twT t = false := by
  unfold checkT at h
  split at h
  · exact absurd h (by decide)
  · rename_i h1
    split at h
    · exact absurd h (by decide)
    · rename_i h2
      split at h
      · exact absurd h (by decide)
      · rename_i h3
        obtain ⟨g1, g2⟩ := act_good (sizeT t) t (Nat.le_refl _) 1 (0, false)
        rw [h] at g1
        obtain ⟨g3, g4⟩ := g2 (by rw [g1]; rfl)
        have hs : sizeT t ≤ 1024 := by
          unfold sizeM at h1
          split at h1
          · assumption
          · omega
        have hd : deepT t ≤ 24 := by
          unfold deepM at h2
          rw [if_pos hs] at h2
          omega
        refine ⟨hs, hd, g3, ?_⟩
        cases htw : twT t
        · rfl
        · exact absurd ⟨h, by rw [g4, htw]; rfl⟩ h3
theorem check_good {t : Tn} (h1 : sizeT t ≤ 1024) (h2 : deepT t ≤ 24) (h3 : checkT t ≠ 9) (h4 : goodT t) : True := trivial
end Go.Proofs.YtafpkecjicphoaaDoor
