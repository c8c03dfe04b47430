/- Plain words for chapter 06: a number's text is read back as the number; what Make makes is in its form. No program in sight. -/
import Derived.Test.YtafpkecjicphoaaDoorDecR
namespace Go.Proofs.YtafpkecjicphoaaDoor
open Go
set_option linter.unusedVariables false
set_option linter.unusedSimpArgs false

theorem valF_app (a : Nat) (l r : List UInt8) : valF a (l ++ r) = valF (valF a l) r := by simp only [valF, List.foldl_append]
theorem dig_of {d : Nat} (h : d < 10) : (UInt8.ofNat (48 + d)).toNat = 48 + d := by simp; omega
theorem decDigits_all (u : Nat) : (Lib.decDigits u).all isDig = true ∧ valF 0 (Lib.decDigits u) = u ∧ Lib.decDigits u ≠ [] := by
  induction u using Nat.strongRecOn with
  | _ u ih =>
    by_cases h : u < 10
    · rw [Lib.decDigits_one h]
      have e := dig_of h
      refine ⟨?_, ?_, by simp⟩
      · simp only [List.all_cons, List.all_nil, isDig, e, Bool.and_true]; simp; omega
      · rw [valF_cons, e]; simp [valF]
    · rw [Lib.decDigits, dif_neg h]
      obtain ⟨h1, h2, h3⟩ := ih (u / 10) (by omega)
      have e := dig_of (d := u % 10) (by omega)
      refine ⟨?_, ?_, by simp⟩
      · rw [List.all_append, h1]; simp only [List.all_cons, List.all_nil, isDig, e, Bool.and_true, Bool.true_and]; simp; omega
      · rw [valF_app, h2, valF_cons, e]; simp [valF]; omega
theorem digsR_app {l : List UInt8} (h : l.all isDig = true) (r : List UInt8) : digsR (l ++ r) = l ++ digsR r ∧ restR (l ++ r) = restR r := by
  unfold digsR restR
  induction l with
  | nil => exact ⟨rfl, rfl⟩
  | cons c t ih =>
    simp only [List.all_cons, Bool.and_eq_true] at h
    obtain ⟨h1, h2⟩ := ih h.2
    constructor
    · rw [List.cons_append, List.takeWhile_cons_of_pos h.1, h1]; rfl
    · rw [List.cons_append, List.dropWhile_cons_of_pos h.1, h2]
theorem digsR_all_eq {l : List UInt8} (h : l.all isDig = true) : digsR l = l ∧ restR l = [] := by
  have := digsR_app h []
  simpa [digsR, restR] using this
theorem natR_head {l : List UInt8} (h : natR l = true) (h2 : l ≠ [48]) : l.head? ≠ some 48 := by
  simp only [natR, Bool.and_eq_true] at h
  have h3 := h.1.2
  cases l with
  | nil => simp
  | cons a r =>
    intro e
    have e : a = 48 := by simpa using e
    subst e
    simp [h2] at h3
theorem trimRight_id {l : List UInt8} (h : l.getLast? ≠ some 48) : Lib.trimRightB l 48 = l := by
  unfold Lib.trimRightB
  rw [List.getLast?_eq_head?_reverse] at h
  have : l.reverse.dropWhile (· == (48 : UInt8)) = l.reverse := by
    cases hx : l.reverse with
    | nil => rfl
    | cons a r =>
      rw [hx] at h
      have : ¬ a = 48 := by simpa using h
      rw [List.dropWhile_cons_of_neg (by simpa using this)]
  rw [this, List.reverse_reverse]
theorem trimLeft_id {l : List UInt8} (h : l.head? ≠ some 48) : Lib.trimLeftB l 48 = l := by
  unfold Lib.trimLeftB
  cases l with
  | nil => rfl
  | cons a r =>
    have : ¬ a = 48 := by simpa using h
    rw [List.dropWhile_cons_of_neg (by simpa using this)]
/-- Digits in their form are made into the number. -/
theorem makeR_right {n : Num} (h : n.right = true) : makeR n.neg n.dig n.exp = (n, 0) := by
  have hn := Num.right_natR h
  unfold makeR
  have h1 := natR_pos hn
  have h2 := natR_len hn
  have h3 := natR_all hn
  rw [if_neg (by simp [h1, h3]; omega)]
  by_cases hd : n.dig = [48]
  · rw [hd]
    have : Lib.trimRightB [48] 48 = [] := by decide
    rw [if_pos this, Num.right_zero h hd]
  · rw [trimRight_id (Num.right_last h hd), if_neg h1]
    have hx := Num.right_exp h
    rw [if_neg (by omega), trimLeft_id (natR_head hn hd)]
    have e : n.exp + (n.dig.length : Int) - n.dig.length = n.exp := by omega
    simp only [e]
    rw [if_pos h]
theorem text_len {n : Num} (h : n.right = true) : (textA n).length ≤ 4096 := by
  have h1 := natR_len (Num.right_natR h)
  have h2 := Num.right_exp h
  have h3 : (Lib.itoa n.exp).length ≤ 5 := by
    unfold Lib.itoa
    have small : ∀ (k u : Nat), u < 10 ^ (k + 1) → Lib.nDigits u ≤ k + 1 := by
      intro k
      induction k with
      | zero => intro u h; rw [Lib.nDigits_small (by simpa using h)]; exact Nat.le_refl _
      | succ k ih =>
        intro u h
        by_cases hu : u < 10
        · rw [Lib.nDigits_small hu]; omega
        · rw [Lib.nDigits_big hu]
          have := ih (u / 10) (by rw [Nat.pow_succ] at h; omega)
          omega
    split
    · rw [List.length_cons, Lib.decDigits_length]
      have := small 3 n.exp.natAbs (by omega)
      omega
    · rw [Lib.decDigits_length]
      have := small 3 n.exp.toNat (by omega)
      omega
  unfold textA
  rw [if_pos h]
  simp only [List.length_append]
  have : (if n.neg = true then [(45 : UInt8)] else []).length ≤ 1 := by split <;> simp
  have : (if n.exp = 0 then [] else (101 : UInt8) :: Lib.itoa n.exp).length ≤ 6 := by split <;> simp; omega
  omega
theorem text_parse {n : Num} (h : n.right = true) : parseR (textA n) = (n, 0, 0) := by
  have hl := text_len h
  have hn := Num.right_natR h
  have hall := natR_all hn
  have hx := Num.right_exp h
  unfold parseR
  rw [if_neg (by omega)]
  obtain ⟨ex, hex⟩ : ∃ ex : List UInt8, ex = if n.exp = 0 then [] else 101 :: Lib.itoa n.exp := ⟨_, rfl⟩
  have ht : textA n = (if n.neg then [45] else []) ++ (n.dig ++ ex) := by unfold textA; rw [if_pos h, hex, List.append_assoc]
  have h1 : (textA n).head? = some 45 ↔ n.neg = true := by
    rw [ht]
    cases n.neg with
    | true => simp
    | false =>
      rcases hd : n.dig with _ | ⟨c, r⟩
      · exact absurd hd (natR_pos hn)
      · rw [hd] at hall
        simp only [List.all_cons, Bool.and_eq_true] at hall
        have := (dig_ne hall.1).1
        simp [this]
  have h2 : afterSign (textA n) = n.dig ++ ex := by
    unfold afterSign
    by_cases hneg : n.neg = true
    · rw [if_pos (h1.2 hneg), ht, hneg]; rfl
    · rw [if_neg (fun g => hneg (h1.1 g)), ht]; simp [hneg]
  have hexd : digsR ex = [] ∧ restR ex = ex := by
    rw [hex]; split
    · exact ⟨rfl, rfl⟩
    · have hne : ¬ isDig 101 = true := by decide
      exact ⟨List.takeWhile_cons_of_neg hne, List.dropWhile_cons_of_neg hne⟩
  have h3 : wholeR (n.dig ++ ex) = n.dig ∧ afterWhole (n.dig ++ ex) = ex := by
    unfold wholeR afterWhole
    by_cases hd : n.dig = [48]
    · rw [hd]; simp
    · have hh : (n.dig ++ ex).head? ≠ some 48 := by
        have := natR_head hn hd
        rcases hd2 : n.dig with _ | ⟨c, r⟩
        · exact absurd hd2 (natR_pos hn)
        · rw [hd2] at this; simpa using this
      rw [if_neg hh, if_neg hh]
      obtain ⟨e1, e2⟩ := digsR_app hall ex
      rw [e1, e2, hexd.1, hexd.2, List.append_nil]
      exact ⟨rfl, rfl⟩
  have hdot : dotR ex = false := by rw [hex]; split <;> simp [dotR]
  have h4 : partR ex = [] ∧ afterPart ex = ex := by unfold partR afterPart; simp [hdot]
  rw [h2, h3.1, h3.2, h4.1, h4.2, if_neg (natR_pos hn), if_neg (by simp [hdot])]
  have h5 : (exR ex = true → digsR (afterE ex) ≠ []) ∧ endR ex = [] ∧ expR ex = n.exp := by
    rw [hex]
    by_cases he : n.exp = 0
    · rw [if_pos he]; exact ⟨by simp [exR], by simp [endR, exR], by simp [expR, exR, he]⟩
    · rw [if_neg he]
      have hE : exR (101 :: Lib.itoa n.exp) = true := by simp [exR]
      unfold endR expR
      rw [if_pos hE, if_pos hE]
      unfold Lib.itoa
      by_cases hneg : n.exp < 0
      · rw [if_pos hneg]
        obtain ⟨d1, d2, d3⟩ := decDigits_all n.exp.natAbs
        have e1 : downR (101 :: 45 :: Lib.decDigits n.exp.natAbs) = true := by simp [downR]
        have e2 : afterE (101 :: 45 :: Lib.decDigits n.exp.natAbs) = Lib.decDigits n.exp.natAbs := by simp [afterE, e1]
        rw [e1, e2, (digsR_all_eq d1).1, (digsR_all_eq d1).2, if_pos rfl, satD_zero d1, d2]
        exact ⟨fun _ => d3, rfl, by omega⟩
      · rw [if_neg hneg]
        obtain ⟨d1, d2, d3⟩ := decDigits_all n.exp.toNat
        have g1 := digs_head d1 (c := 45) (by simp)
        have g2 := digs_head d1 (c := 43) (by simp)
        have e1 : downR (101 :: Lib.decDigits n.exp.toNat) = false := by simpa [downR] using g1
        have e2 : afterE (101 :: Lib.decDigits n.exp.toNat) = Lib.decDigits n.exp.toNat := by
          unfold afterE; rw [if_neg (by simp [e1]; simpa using g2)]; rfl
        rw [e1, e2, (digsR_all_eq d1).1, (digsR_all_eq d1).2, if_neg (by simp), satD_zero d1, d2]
        exact ⟨fun _ => d3, rfl, by omega⟩
  rw [if_neg (fun g => h5.1 g.1 g.2), if_neg (by simp [h5.2.1]), h5.2.2]
  have hs : decide ((textA n).head? = some 45) = n.neg := by rw [Bool.eq_iff_iff]; simp [h1]
  have e : n.exp - (([] : List UInt8).length : Int) = n.exp := by simp
  rw [hs, List.append_nil, e, makeR_right h]
  rfl
/-- P6.5. -/
theorem back {n : Num} (h : n.right = true) : parseA (textA n) = (n, 0, 0) := by rw [← parse_eq]; exact text_parse h
theorem makeA_right {neg : Bool} {l : List UInt8} {x : Int} (h : (makeA neg l x).2 = 0) : (makeA neg l x).1.right = true := by
  unfold makeA at *
  split at h
  · simp at h
  · rename_i h1
    rw [if_neg h1]
    split at h
    · rename_i h2; rw [if_pos h2]; decide
    · rename_i h2; rw [if_neg h2]
      simp only at h ⊢
      split at h
      · rename_i h3; rw [if_pos h3]; exact h3
      · simp at h
/-- The probe: a number is read and written. -/
def one5 : Num := ⟨true, [49, 53], 2⟩
theorem probe_parse : parseA [45, 49, 46, 53, 48, 101, 51] = (one5, 0, 0) := by decide +kernel
theorem probe_text : textA one5 = [45, 49, 53, 101, 50] := by decide +kernel
theorem probe_right : one5.right = true := by decide +kernel
end Go.Proofs.YtafpkecjicphoaaDoor
