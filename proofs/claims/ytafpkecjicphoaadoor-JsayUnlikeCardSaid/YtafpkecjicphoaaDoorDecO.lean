/- Plain words for chapter 06: how two numbers stand. No program in sight. -/
import Derived.Test.YtafpkecjicphoaaDoorDecP
namespace Go.Proofs.YtafpkecjicphoaaDoor
open Go
set_option linter.unusedVariables false
set_option linter.unusedSimpArgs false

theorem cmpI_anti (x y : Int) : Lib.compareInt y x = - Lib.compareInt x y := by
  unfold Lib.compareInt; split <;> split <;> (try split) <;> omega
theorem cmpI_zero {x y : Int} : Lib.compareInt x y = 0 ↔ x = y := by
  unfold Lib.compareInt; split <;> (try split) <;> omega
theorem cmpI_le {x y : Int} : Lib.compareInt x y ≤ 0 ↔ x ≤ y := by
  unfold Lib.compareInt; split <;> (try split) <;> omega
theorem cmpI_lt {x y : Int} : Lib.compareInt x y < 0 ↔ x < y := by
  unfold Lib.compareInt; split <;> (try split) <;> omega
theorem cmpI_range (x y : Int) : Lib.compareInt x y = -1 ∨ Lib.compareInt x y = 0 ∨ Lib.compareInt x y = 1 := by
  unfold Lib.compareInt; split <;> (try split) <;> omega
theorem cmpB_cons (a b : UInt8) (x y : List UInt8) : Lib.compareBytes (a :: x) (b :: y) = if a.toNat < b.toNat then -1 else if b.toNat < a.toNat then 1 else Lib.compareBytes x y := by
  simp only [Lib.compareBytes, UInt8.lt_iff_toNat_lt]
theorem cmpB_anti : ∀ x y : List UInt8, Lib.compareBytes y x = - Lib.compareBytes x y
  | [], [] => rfl
  | [], _ :: _ => rfl
  | _ :: _, [] => rfl
  | a :: x, b :: y => by
    rw [cmpB_cons, cmpB_cons, cmpB_anti x y]
    split <;> split <;> (try split) <;> omega
theorem u8_toNat {a b : UInt8} (h : a.toNat = b.toNat) : a = b := UInt8.toNat_inj.1 h
theorem cmpB_zero : ∀ {x y : List UInt8}, Lib.compareBytes x y = 0 ↔ x = y
  | [], [] => by simp [Lib.compareBytes]
  | [], _ :: _ => by simp [Lib.compareBytes]
  | _ :: _, [] => by simp [Lib.compareBytes]
  | a :: x, b :: y => by
    rw [cmpB_cons]
    split
    · rename_i h; constructor
      · intro h1; omega
      · intro h1; cases h1; omega
    · split
      · constructor
        · intro h1; omega
        · intro h1; cases h1; omega
      · have hab : a = b := u8_toNat (by omega)
        subst hab
        rw [cmpB_zero]; simp
theorem cmpB_range : ∀ x y : List UInt8, Lib.compareBytes x y = -1 ∨ Lib.compareBytes x y = 0 ∨ Lib.compareBytes x y = 1
  | [], [] => by simp [Lib.compareBytes]
  | [], _ :: _ => by simp [Lib.compareBytes]
  | _ :: _, [] => by simp [Lib.compareBytes]
  | a :: x, b :: y => by
    rw [cmpB_cons]; split
    · omega
    · split
      · omega
      · exact cmpB_range x y
theorem cmpB_trans : ∀ {x y z : List UInt8}, Lib.compareBytes x y ≤ 0 → Lib.compareBytes y z ≤ 0 → Lib.compareBytes x z ≤ 0
  | [], _, [], _, _ => by simp [Lib.compareBytes]
  | [], _, _ :: _, _, _ => by simp [Lib.compareBytes]
  | _ :: _, [], _, h, _ => by simp [Lib.compareBytes] at h
  | _ :: _, _ :: _, [], _, h => by simp [Lib.compareBytes] at h
  | a :: x, b :: y, c :: z, h1, h2 => by
    rw [cmpB_cons] at h1 h2 ⊢
    split at h1
    · split at h2
      · rw [if_pos (by omega)]; omega
      · split at h2
        · omega
        · rw [if_pos (by omega)]; omega
    · split at h1
      · omega
      · split at h2
        · rw [if_pos (by omega)]; omega
        · split at h2
          · omega
          · rw [if_neg (by omega), if_neg (by omega)]
            exact cmpB_trans h1 h2
/-- One behind the other. -/
theorem orI_le {a b : Int} : orI a b ≤ 0 ↔ a < 0 ∨ (a = 0 ∧ b ≤ 0) := by unfold orI; split <;> omega
theorem orI_zero {a b : Int} : orI a b = 0 ↔ a = 0 ∧ b = 0 := by unfold orI; split <;> omega
theorem orI_neg (a b : Int) : orI (-a) (-b) = - orI a b := by unfold orI; split <;> split <;> omega
theorem sizeA_anti (x y : Num) : sizeA y x = - sizeA x y := by
  unfold sizeA
  by_cases h : x.dig = [48] ∨ y.dig = [48]
  · rw [if_pos h, if_pos h.symm, cmpI_anti]
  · rw [if_neg h, if_neg (fun g => h g.symm), cmpI_anti ((x.dig.length : Int) + x.exp), cmpB_anti x.dig, orI_neg]
/-- A number's place in the order, its sign aside: 0 is the first. -/
theorem sizeA_of_zero {x y : Num} (hx : x.dig = [48]) : sizeA x y = if y.dig = [48] then 0 else -1 := by
  unfold sizeA; rw [if_pos (.inl hx)]
  by_cases hy : y.dig = [48] <;> simp [hx, hy, b2iB, Lib.compareInt]
theorem sizeA_to_zero {x y : Num} (hy : y.dig = [48]) : sizeA x y = if x.dig = [48] then 0 else 1 := by
  rw [sizeA_anti y x, sizeA_of_zero hy]; split <;> rfl
theorem sizeA_trans {x y z : Num} (h1 : sizeA x y ≤ 0) (h2 : sizeA y z ≤ 0) : sizeA x z ≤ 0 := by
  by_cases hx : x.dig = [48]
  · rw [sizeA_of_zero hx]; split <;> omega
  by_cases hy : y.dig = [48]
  · rw [sizeA_to_zero hy, if_neg hx] at h1; omega
  by_cases hz : z.dig = [48]
  · rw [sizeA_to_zero hz, if_neg hy] at h2; omega
  unfold sizeA at *
  rw [if_neg (by simp [hx, hy])] at h1
  rw [if_neg (by simp [hy, hz])] at h2
  rw [if_neg (by simp [hx, hz])]
  rw [orI_le, cmpI_lt, cmpI_zero] at *
  rcases h1 with h1 | ⟨h1, g1⟩ <;> rcases h2 with h2 | ⟨h2, g2⟩
  · left; omega
  · left; omega
  · left; omega
  · right; exact ⟨by omega, cmpB_trans g1 g2⟩
theorem Num.right_zero {n : Num} (h : n.right = true) (hd : n.dig = [48]) : n = Num.nought := by
  obtain ⟨s, d, x⟩ := n
  subst hd
  simp [Num.right] at h
  obtain ⟨-, h1, h2⟩ := h
  subst h1; subst h2; rfl
theorem sizeA_zero {x y : Num} (hx : x.right = true) (hy : y.right = true) : sizeA x y = 0 ↔ x.dig = y.dig ∧ x.exp = y.exp := by
  by_cases h : x.dig = [48]
  · rw [sizeA_of_zero h]
    by_cases g : y.dig = [48]
    · rw [if_pos g, Num.right_zero hx h, Num.right_zero hy g]; simp
    · rw [if_neg g, h]; constructor
      · intro h; omega
      · rintro ⟨h1, -⟩; exact absurd h1.symm g
  by_cases g : y.dig = [48]
  · rw [sizeA_to_zero g, if_neg h, g]; constructor
    · intro h; omega
    · rintro ⟨h1, -⟩; exact absurd h1 h
  unfold sizeA
  rw [if_neg (by simp [h, g]), orI_zero, cmpI_zero, cmpB_zero]
  constructor
  · rintro ⟨h1, h2⟩; rw [h2] at h1; exact ⟨h2, by omega⟩
  · rintro ⟨h1, h2⟩; rw [h1, h2]; exact ⟨rfl, rfl⟩
theorem sizeA_range (x y : Num) : sizeA x y = -1 ∨ sizeA x y = 0 ∨ sizeA x y = 1 := by
  unfold sizeA; split
  · exact cmpI_range _ _
  · unfold orI; split
    · exact cmpI_range _ _
    · exact cmpB_range _ _
theorem orderA_ok {a b : Num} : (orderA a b).2 = 0 ↔ a.right = true ∧ b.right = true := by
  unfold orderA
  split
  · rename_i h; constructor
    · intro h1; simp at h1
    · rintro ⟨h1, h2⟩; rcases h with h | h <;> simp_all
  · rename_i h; simp only [not_or, Bool.not_eq_false] at h
    split <;> simp [h]
theorem orderA_err {a b : Num} : (orderA a b).2 = 0 ∨ (orderA a b).2 = 1 := by
  unfold orderA; split
  · exact .inr rfl
  · split <;> exact .inl rfl
/-- The order of two numbers in their form. -/
def ordB (a b : Num) : Int := if a.neg ≠ b.neg then (if a.neg then -1 else 1) else if a.neg then sizeA b a else sizeA a b
theorem orderA_one {a b : Num} (ha : a.right = true) (hb : b.right = true) : orderA a b = (ordB a b, 0) := by
  unfold orderA ordB
  rw [if_neg (by simp [ha, hb])]
  split <;> rfl
theorem ordB_anti (a b : Num) : ordB b a = - ordB a b := by
  obtain ⟨s, d, x⟩ := a
  obtain ⟨t, e, y⟩ := b
  cases s <;> cases t <;> simp [ordB, sizeA_anti ⟨_, d, x⟩ ⟨_, e, y⟩]
theorem ordB_trans {a b c : Num} (h1 : ordB a b ≤ 0) (h2 : ordB b c ≤ 0) : ordB a c ≤ 0 := by
  obtain ⟨s, d, x⟩ := a
  obtain ⟨t, e, y⟩ := b
  obtain ⟨u, f, z⟩ := c
  cases s <;> cases t <;> cases u <;> simp [ordB] at * <;> first | omega | exact sizeA_trans h1 h2 | exact sizeA_trans h2 h1
theorem ordB_zero {a b : Num} (ha : a.right = true) (hb : b.right = true) : ordB a b = 0 ↔ a = b := by
  obtain ⟨s, d, x⟩ := a
  obtain ⟨t, e, y⟩ := b
  cases s <;> cases t <;> simp [ordB]
  · rw [sizeA_zero ha hb]
  · rw [sizeA_zero hb ha]
    constructor
    · rintro ⟨h1, h2⟩; exact ⟨h1.symm, h2.symm⟩
    · rintro ⟨h1, h2⟩; exact ⟨h1.symm, h2.symm⟩
/-- A number with the other sign. -/
def Num.turn (n : Num) : Num := ⟨!n.neg, n.dig, n.exp⟩
theorem Num.turn_right {n : Num} (h : n.right = true) (hd : n.dig ≠ [48]) : n.turn.right = true := by
  obtain ⟨s, d, x⟩ := n
  replace hd : ¬ d = [48] := hd
  rw [← h]
  simp [Num.right, Num.turn, hd]
  rfl
theorem ordB_turn (a b : Num) : ordB a.turn b.turn = - ordB a b := by
  obtain ⟨s, d, x⟩ := a
  obtain ⟨t, e, y⟩ := b
  have h : ∀ p q : Bool, sizeA ⟨p, d, x⟩ ⟨q, e, y⟩ = sizeA ⟨false, d, x⟩ ⟨false, e, y⟩ := fun _ _ => rfl
  have g : ∀ p q : Bool, sizeA ⟨p, e, y⟩ ⟨q, d, x⟩ = - sizeA ⟨false, d, x⟩ ⟨false, e, y⟩ := fun p q => sizeA_anti _ _
  cases s <;> cases t <;> simp [ordB, Num.turn, h, g]

/-! The document's way: noughts behind, then the lengths, then the bytes. -/
def padR (x : Num) (low : Int) : List UInt8 := if x.dig = [48] then [] else x.dig ++ List.replicate (x.exp - low).toNat 48
def sizeR (a b : Num) : Int :=
  let x := padR a (min a.exp b.exp)
  let y := padR b (min a.exp b.exp)
  if x.length < y.length ∨ (x.length = y.length ∧ Lib.compareBytes x y < 0) then -1 else if x = y then 0 else 1
def orderR (a b : Num) : Int × Int :=
  if a.right = false ∨ b.right = false then (0, 1)
  else if a.neg = true ∧ b.neg = false then (-1, 0)
  else if a.neg = false ∧ b.neg = true then (1, 0)
  else if a.neg = true then (sizeR b a, 0)
  else (sizeR a b, 0)
theorem pad_low : ∀ (y : List UInt8) (q : Nat), y.all isDig = true → y ≠ [] → y.getLast? ≠ some 48 → Lib.compareBytes (List.replicate (y.length + q) 48) (y ++ List.replicate q 48) = -1
  | [], _, _, h, _ => absurd rfl h
  | b :: y, q, h1, _, h3 => by
    simp only [List.all_cons, Bool.and_eq_true] at h1
    have hb : 48 ≤ b.toNat := by have := h1.1; simp [isDig] at this; omega
    have e : (b :: y).length + q = (y.length + q) + 1 := by simp; omega
    rw [e, List.replicate_succ, List.cons_append, cmpB_cons]
    have t48 : (48 : UInt8).toNat = 48 := rfl
    rw [t48]
    split
    · rfl
    · have hb' : b = 48 := u8_toNat (by rw [t48]; omega)
      subst hb'
      rw [if_neg (by omega)]
      have hy : y ≠ [] := by rintro rfl; simp at h3
      refine pad_low y q h1.2 hy ?_
      intro h; apply h3
      rw [List.getLast?_cons, h]; rfl
theorem pad_cmp : ∀ (x y : List UInt8) (p q : Nat), x.length + p = y.length + q → x.all isDig = true → y.all isDig = true → x.getLast? ≠ some 48 → y.getLast? ≠ some 48 →
    Lib.compareBytes (x ++ List.replicate p 48) (y ++ List.replicate q 48) = Lib.compareBytes x y
  | [], [], p, q, h, _, _, _, _ => by
    have : p = q := by simpa using h
    subst this
    exact (cmpB_zero.2 rfl).trans (cmpB_zero.2 rfl).symm
  | [], b :: y, p, q, h, _, hy, _, hl => by
    have e : p = (b :: y).length + q := by simpa using h
    rw [e, List.nil_append, pad_low _ _ hy (by simp) hl]; rfl
  | a :: x, [], p, q, h, hx, _, hl, _ => by
    have e : q = (a :: x).length + p := by simpa using h.symm
    rw [cmpB_anti ([] ++ _), e, List.nil_append, pad_low _ _ hx (by simp) hl]; rfl
  | a :: x, b :: y, p, q, h, hx, hy, h3, h4 => by
    simp only [List.all_cons, Bool.and_eq_true] at hx hy
    rw [List.cons_append, List.cons_append, cmpB_cons, cmpB_cons]
    have t : ∀ {c : UInt8} {l : List UInt8}, (c :: l).getLast? ≠ some 48 → l.getLast? ≠ some 48 := by
      intro c l h1 h2; apply h1; rw [List.getLast?_cons, h2]; rfl
    rw [pad_cmp x y p q (by simp at h; omega) hx.2 hy.2 (t h3) (t h4)]
theorem Num.right_last {n : Num} (h : n.right = true) (hd : n.dig ≠ [48]) : n.dig.getLast? ≠ some 48 := by
  simp only [Num.right, Bool.and_eq_true, if_neg hd] at h
  have := h.2.1.1
  simpa using this
theorem Num.right_natR {n : Num} (h : n.right = true) : natR n.dig = true := by
  simp only [Num.right, Bool.and_eq_true] at h; exact h.1
theorem sizeR_eq {a b : Num} (ha : a.right = true) (hb : b.right = true) : sizeR a b = sizeA a b := by
  by_cases h : a.dig = [48]
  · rw [sizeA_of_zero h]
    by_cases g : b.dig = [48]
    · simp [sizeR, padR, h, g, Lib.compareBytes]
    · have : b.dig ≠ [] := natR_pos (Num.right_natR hb)
      have : 0 < b.dig.length := List.length_pos_iff.2 this
      simp only [sizeR, padR, if_pos h, if_neg g]
      rw [if_pos (.inl (by simp; omega))]
  by_cases g : b.dig = [48]
  · rw [sizeA_to_zero g, if_neg h]
    have h0 : a.dig ≠ [] := natR_pos (Num.right_natR ha)
    have : 0 < a.dig.length := List.length_pos_iff.2 h0
    simp only [sizeR, padR, if_neg h, if_pos g]
    rw [if_neg (by rintro (h1 | ⟨h1, -⟩) <;> rw [List.length_append] at h1 <;> simp only [List.length_nil] at h1 <;> omega), if_neg (by simp [h0])]
  simp only [sizeR, padR, if_neg h, if_neg g, sizeA, if_neg (show ¬ (a.dig = [48] ∨ b.dig = [48]) from by simp [h, g])]
  obtain ⟨p, hp⟩ : ∃ p, p = (a.exp - min a.exp b.exp).toNat := ⟨_, rfl⟩
  obtain ⟨q, hq⟩ : ∃ q, q = (b.exp - min a.exp b.exp).toNat := ⟨_, rfl⟩
  rw [← hp, ← hq]
  have hpq : (p : Int) - q = a.exp - b.exp := by omega
  have hlen : ∀ (l : List UInt8) n, (l ++ List.replicate n (48 : UInt8)).length = l.length + n := by intros; simp
  simp only [hlen]
  have ra := natR_all (Num.right_natR ha)
  have rb := natR_all (Num.right_natR hb)
  have la := Num.right_last ha h
  have lb := Num.right_last hb g
  by_cases h1 : a.dig.length + p = b.dig.length + q
  · have hc := pad_cmp a.dig b.dig p q h1 ra rb la lb
    rw [hc]
    have hz : Lib.compareInt ((a.dig.length : Int) + a.exp) ((b.dig.length : Int) + b.exp) = 0 := cmpI_zero.2 (by omega)
    have he : (a.dig ++ List.replicate p (48 : UInt8) = b.dig ++ List.replicate q 48) ↔ Lib.compareBytes a.dig b.dig = 0 := by
      rw [← hc]; exact cmpB_zero.symm
    rw [hz]
    simp only [he]
    unfold orI
    rcases cmpB_range a.dig b.dig with h2 | h2 | h2 <;> rw [h2] <;> simp [h1]
  · have hz : Lib.compareInt ((a.dig.length : Int) + a.exp) ((b.dig.length : Int) + b.exp) ≠ 0 := fun h2 => by have := cmpI_zero.1 h2; omega
    have hne : ¬ (a.dig ++ List.replicate p (48 : UInt8) = b.dig ++ List.replicate q 48) := by
      intro h2; have := congrArg List.length h2; rw [hlen, hlen] at this; exact h1 this
    unfold orI
    rw [if_pos hz, if_neg hne]
    unfold Lib.compareInt
    by_cases h2 : a.dig.length + p < b.dig.length + q
    · rw [if_pos (.inl h2), if_pos (by omega)]
    · rw [if_neg (by omega), if_neg (by omega), if_pos (by omega)]
theorem orderR_eq (a b : Num) : orderR a b = orderA a b := by
  unfold orderR orderA
  by_cases h : a.right = false ∨ b.right = false
  · rw [if_pos h, if_pos h]
  · rw [if_neg h, if_neg h]
    simp only [not_or, Bool.not_eq_false] at h
    have h1 := sizeR_eq h.1 h.2
    have h2 := sizeR_eq h.2 h.1
    cases hn : a.neg <;> cases hm : b.neg <;> simp [h1, h2]
end Go.Proofs.YtafpkecjicphoaaDoor
