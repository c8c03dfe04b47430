/- Plainly: what is told as a number or a string is read as it. -/
import Derived.Test.YtafpkecjicphoaaDoorJparP
import Derived.Test.YtafpkecjicphoaaDoorUtfQ
import Derived.Test.YtafpkecjicphoaaDoorJsayG
namespace Go.Proofs.YtafpkecjicphoaaDoor
open Go Go.RowKit
set_option linter.unusedVariables false
set_option linter.unusedSimpArgs false

/-! ### strings -/
theorem hexV_hexD {k : Nat} (h : k < 16) : hexV (hexD k) = some k := by
  have : ∀ n : Fin 16, hexV (hexD n.val) = some n.val := by decide +kernel
  exact this ⟨k, h⟩
theorem escL_u {r : Nat} (h : r < 32) (X : List UInt8) : escL (117 :: 48 :: 48 :: hexD (r / 16) :: hexD (r % 16) :: X) = .ok (r, 5) := by
  have e : unitL false 4 0 0 (48 :: 48 :: hexD (r / 16) :: hexD (r % 16) :: X) = .ok r := by
    have z : hexV 48 = some 0 := by decide
    rw [unitL, z]
    simp only
    rw [if_neg (by decide), unitL, z]
    simp only
    rw [if_neg (by decide), unitL, hexV_hexD (by omega)]
    simp only
    rw [if_neg (by simp [unitBad]), unitL, hexV_hexD (by omega)]
    simp only
    rw [if_neg (by simp [unitBad]), unitL]
    congr 1
    omega
  rw [escL, if_neg (by decide), if_pos rfl, e]
  simp only
  rw [if_pos (by omega)]
theorem escL_short {r : Nat} (h : shortE r ≠ 0) (X : List UInt8) : escL (shortE r :: X) = .ok (r, 1) ∧ r < 128 := by
  have hr : r = 34 ∨ r = 92 ∨ r = 8 ∨ r = 9 ∨ r = 10 ∨ r = 12 ∨ r = 13 := by
    refine Classical.byContradiction fun hn => h ?_
    unfold shortE
    repeat rw [if_neg (by omega)]
  rcases hr with rfl | rfl | rfl | rfl | rfl | rfl | rfl <;> exact ⟨rfl, by decide⟩
theorem str_one (f : Nat) (c : UInt8) (l X : List UInt8) (h : decL (c :: l) ≠ (65533, 1)) :
    strL (f + 1) (esc1 (decL (c :: l)).1 ++ X) = addS ((c :: l).take (decL (c :: l)).2) (esc1 (decL (c :: l)).1).length (strL f X) := by
  obtain ⟨h1, h2⟩ := utf_char c l h
  have hw := decL_width c l
  have hle : ((c :: l).take (decL (c :: l)).2).length = (decL (c :: l)).2 := by rw [List.length_take]; simp; omega
  have h3 := h2 X
  generalize (c :: l).take (decL (c :: l)).2 = B at *
  generalize decL (c :: l) = D at *
  obtain ⟨r, n⟩ := D
  simp only at *
  unfold esc1
  by_cases hs : shortE r ≠ 0
  · rw [if_pos hs]
    show strL (f + 1) (92 :: shortE r :: X) = _
    rw [strL, if_neg (by decide), if_neg (by decide), if_pos rfl, (escL_short hs X).1]
    simp only
    rw [h1]
    rfl
  · rw [if_neg hs]
    have hs0 : shortE r = 0 := by simpa using hs
    by_cases h32 : r < 32
    · rw [if_pos h32]
      show strL (f + 1) (92 :: 117 :: 48 :: 48 :: hexD (r / 16) :: hexD (r % 16) :: X) = _
      rw [strL, if_neg (by decide), if_neg (by decide), if_pos rfl, escL_u h32]
      simp only
      rw [h1]
      rfl
    · rw [if_neg h32, h1]
      have hne := short_ne hs0
      have hbyte : ∀ b ∈ B, b.toNat ≠ 34 ∧ ¬ b.toNat < 32 ∧ b.toNat ≠ 92 := by
        intro b hb
        rw [← h1] at hb
        rcases Nat.lt_or_ge r 128 with g | g
        · rw [enc_low g] at hb
          have : b = UInt8.ofNat r := by simpa using hb
          subst this
          rw [UInt8.toNat_ofNat']
          omega
        · have := enc_high (r := r) (by omega) b hb
          omega
      cases B with
      | nil => simp at hle; omega
      | cons b B =>
        obtain ⟨g1, g2, g3⟩ := hbyte b (List.mem_cons_self ..)
        obtain ⟨wr, -, ho⟩ := one_is b (B ++ X)
        have hD : decL (b :: (B ++ X)) = (r, n) := h3
        rw [hD, if_neg h] at ho
        show strL (f + 1) (b :: (B ++ X)) = _
        rw [strL, if_neg (fun e => g1 (by rw [e]; rfl)), if_neg g2, if_neg (fun e => g3 (by rw [e]; rfl)), ho]
        simp only
        rw [if_neg (by omega)]
        have hn : ((n : Nat) : Int).toNat = (b :: B).length := by rw [hle]; simp
        rw [hn]
        rw [show b :: (B ++ X) = (b :: B) ++ X from rfl, List.take_left, List.drop_left]
theorem str_esc : ∀ (g : Nat) (l : List UInt8), utfR g l = true → l.length ≤ g → ∀ (f : Nat) (rest : List UInt8), (escR g l).length < f → strL f (escR g l ++ 34 :: rest) = .ok (l, (escR g l).length + 1)
  | g, [], _, _, f, rest, hf => by
    have e : escR g [] = [] := by cases g <;> rfl
    rw [e] at hf ⊢
    obtain ⟨f, rfl⟩ : ∃ k, f = k + 1 := ⟨f - 1, by simp at hf; omega⟩
    rw [List.nil_append, strL, if_pos rfl]
    rfl
  | 0, c :: l, _, h, _, _, _ => by simp at h
  | g + 1, c :: l, hu, hl, f, rest, hf => by
    rw [utfR] at hu
    have hd : decL (c :: l) ≠ (65533, 1) := fun e => by rw [if_pos e] at hu; cases hu
    rw [if_neg hd] at hu
    have hw := decL_width c l
    have h1 : 1 ≤ (esc1 (decL (c :: l)).1).length := by
      unfold esc1
      split
      · simp
      · split
        · simp
        · have := Lib.encodeRuneZ_length (((decL (c :: l)).1 : Nat) : Int)
          rw [Lib.encodeRune, List.length_map]; omega
    rw [escR] at hf ⊢
    rw [List.length_append] at hf ⊢
    obtain ⟨f, rfl⟩ : ∃ k, f = k + 1 := ⟨f - 1, by omega⟩
    rw [List.append_assoc, str_one f c l _ hd, str_esc g _ hu (by rw [List.length_drop]; simp at hl ⊢; omega) f rest (by omega)]
    simp only [addS]
    rw [List.take_append_drop, Nat.add_assoc]

/-! ### numbers -/
/-- Behind a value stands a sign, or nothing. -/
def Delim (r : List UInt8) : Prop := ∀ c, r.head? = some c → c = 44 ∨ c = 93 ∨ c = 125
theorem Delim.nil : Delim [] := fun c h => by cases h
theorem Delim.cons {c : UInt8} (h : c = 44 ∨ c = 93 ∨ c = 125) (l : List UInt8) : Delim (c :: l) := fun x e => by
  have : x = c := by simpa using e.symm
  subst this
  exact h
theorem Delim.not {r : List UInt8} (h : Delim r) {c : UInt8} (hc : c ≠ 44 ∧ c ≠ 93 ∧ c ≠ 125) : r.head? ≠ some c := fun e => by
  rcases h c e with h | h | h
  · exact hc.1 h
  · exact hc.2.1 h
  · exact hc.2.2 h
theorem digs_stop {r : List UInt8} (h : ∀ c, r.head? = some c → isDig c = false) : digsR r = [] ∧ restR r = r := by
  unfold digsR restR
  cases r with
  | nil => exact ⟨rfl, rfl⟩
  | cons c t =>
    have := h c rfl
    exact ⟨List.takeWhile_cons_of_neg (by simp [this]), List.dropWhile_cons_of_neg (by simp [this])⟩
theorem Delim.digs {r : List UInt8} (h : Delim r) : digsR r = [] ∧ restR r = r := digs_stop fun c e => by rcases h c e with rfl | rfl | rfl <;> decide
theorem head_app {a b : List UInt8} (h : a ≠ []) : (a ++ b).head? = a.head? := by
  cases a with
  | nil => exact absurd rfl h
  | cons x t => rfl
/-- A number's text. -/
def numTx (neg : Bool) (dig ex : List UInt8) : List UInt8 := (if neg then [45] else []) ++ (dig ++ ex)
theorem num_parts {neg : Bool} {dig : List UInt8} (hd : natR dig = true) {s : List UInt8} (hs : ∀ c, s.head? = some c → isDig c = false) :
    afterSign (numTx neg dig s) = dig ++ s ∧ wholeR (dig ++ s) = dig ∧ afterWhole (dig ++ s) = s ∧ ((numTx neg dig s).head? = some 45 ↔ neg = true) := by
  have hall := natR_all hd
  have hne := natR_pos hd
  have h1 : ∀ s : List UInt8, (numTx neg dig s).head? = some 45 ↔ neg = true := by
    intro s
    unfold numTx
    cases neg with
    | true => simp
    | false =>
      rcases hx : dig with _ | ⟨c, r⟩
      · exact absurd hx hne
      · rw [hx] at hall
        simp only [List.all_cons, Bool.and_eq_true] at hall
        have := (dig_ne hall.1).1
        simp [this]
  have h2 : afterSign (numTx neg dig s) = dig ++ s := by
    unfold afterSign
    by_cases hneg : neg = true
    · rw [if_pos ((h1 s).2 hneg)]; unfold numTx; rw [hneg]; rfl
    · rw [if_neg (fun g => hneg ((h1 s).1 g))]; unfold numTx; simp [hneg]
  obtain ⟨e3, e4⟩ := digs_stop hs
  refine ⟨h2, ?_, ?_, h1 s⟩
  · unfold wholeR
    by_cases hx : dig = [48]
    · rw [hx]; simp
    · have hh : (dig ++ s).head? ≠ some 48 := by
        have := natR_head hd hx
        rcases hd2 : dig with _ | ⟨c, r⟩
        · exact absurd hd2 hne
        · rw [hd2] at this; simpa using this
      rw [if_neg hh, (digsR_app hall s).1, e3, List.append_nil]
  · unfold afterWhole
    by_cases hx : dig = [48]
    · rw [hx]; simp
    · have hh : (dig ++ s).head? ≠ some 48 := by
        have := natR_head hd hx
        rcases hd2 : dig with _ | ⟨c, r⟩
        · exact absurd hd2 hne
        · rw [hd2] at this; simpa using this
      rw [if_neg hh, (digsR_app hall s).2, e4]
/-- An Int's text is a number's token. -/
theorem numL_int {neg : Bool} {dig r : List UInt8} (hd : natR dig = true) (hr : Delim r) : numL (numTx neg dig [] ++ r) = .ok (numTx neg dig []).length := by
  have e : numTx neg dig [] ++ r = numTx neg dig r := by unfold numTx; simp
  have hdig : ∀ c, r.head? = some c → isDig c = false := fun c h => by rcases hr c h with rfl | rfl | rfl <;> decide
  obtain ⟨h1, h2, h3, -⟩ := num_parts (neg := neg) hd hdig
  have h4 : dotR r = false := by unfold dotR; exact decide_eq_false (hr.not (by decide))
  have h5 : afterPart r = r := by unfold afterPart; rw [h4]; rfl
  have h6 : exR r = false := by
    unfold exR
    rw [decide_eq_false (hr.not (by decide)), decide_eq_false (hr.not (by decide))]; rfl
  rw [e]
  unfold numL
  rw [h1, h2, h3, h4, h5, h6, if_neg (natR_pos hd), if_neg (by simp), if_neg (by simp)]
  unfold endR
  rw [h6]
  unfold numTx
  simp
  omega
/-- A Dec's, too. -/
theorem numL_dec {neg : Bool} {dig r : List UInt8} {x : Int} (hd : natR dig = true) (hr : Delim r) : numL (numTx neg dig (101 :: Lib.itoa x) ++ r) = .ok (numTx neg dig (101 :: Lib.itoa x)).length := by
  have e : numTx neg dig (101 :: Lib.itoa x) ++ r = numTx neg dig (101 :: (Lib.itoa x ++ r)) := by unfold numTx; simp
  obtain ⟨h1, h2, h3, -⟩ := num_parts (neg := neg) hd (s := 101 :: (Lib.itoa x ++ r)) (fun c h => by
    have : c = 101 := by simpa using h.symm
    subst this; decide)
  have h4 : dotR (101 :: (Lib.itoa x ++ r)) = false := by simp [dotR]
  have h5 : afterPart (101 :: (Lib.itoa x ++ r)) = 101 :: (Lib.itoa x ++ r) := by unfold afterPart; rw [h4]; rfl
  have h6 : exR (101 :: (Lib.itoa x ++ r)) = true := by simp [exR]
  have h7 : digsR (afterE (101 :: (Lib.itoa x ++ r))) ≠ [] ∧ restR (afterE (101 :: (Lib.itoa x ++ r))) = r := by
    unfold Lib.itoa
    by_cases hneg : x < 0
    · rw [if_pos hneg]
      obtain ⟨d1, d2, d3⟩ := decDigits_all x.natAbs
      have e1 : downR (101 :: (45 :: Lib.decDigits x.natAbs ++ r)) = true := by simp [downR]
      have e2 : afterE (101 :: (45 :: Lib.decDigits x.natAbs ++ r)) = Lib.decDigits x.natAbs ++ r := by unfold afterE; rw [e1, if_pos (.inl rfl)]; rfl
      rw [e2, (digsR_app d1 r).1, (digsR_app d1 r).2, hr.digs.1, hr.digs.2, List.append_nil]
      exact ⟨d3, rfl⟩
    · rw [if_neg hneg]
      obtain ⟨d1, d2, d3⟩ := decDigits_all x.toNat
      have g1 : (Lib.decDigits x.toNat ++ r).head? ≠ some 45 := by
        rw [head_app d3]; exact digs_head d1 (c := 45) (by simp)
      have g2 : (Lib.decDigits x.toNat ++ r).head? ≠ some 43 := by
        rw [head_app d3]; exact digs_head d1 (c := 43) (by simp)
      have e1 : downR (101 :: (Lib.decDigits x.toNat ++ r)) = false := by simpa [downR] using g1
      have e2 : afterE (101 :: (Lib.decDigits x.toNat ++ r)) = Lib.decDigits x.toNat ++ r := by
        unfold afterE
        rw [e1, if_neg (by simpa using g2)]
        rfl
      rw [e2, (digsR_app d1 r).1, (digsR_app d1 r).2, hr.digs.1, hr.digs.2, List.append_nil]
      exact ⟨d3, rfl⟩
  rw [e]
  unfold numL
  rw [h1, h2, h3, h4, h5, h6, if_neg (natR_pos hd), if_neg (by simp), if_neg (by simp [h7.1])]
  unfold endR
  rw [h6, if_pos rfl, h7.2]
  unfold numTx
  simp
  omega
end Go.Proofs.YtafpkecjicphoaaDoor
