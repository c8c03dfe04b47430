/- Plainly: what is printed is read as the tree. -/
import Derived.Test.YtafpkecjicphoaaDoorJbackL
namespace Go.Proofs.YtafpkecjicphoaaDoor
open Go Go.RowKit
set_option linter.unusedVariables false
set_option linter.unusedSimpArgs false

/-! ### an Int's text is read as it -/
theorem takeWhile_rep (c : UInt8) : ∀ l : List UInt8, l.takeWhile (· == c) = List.replicate (l.takeWhile (· == c)).length c
  | [] => rfl
  | a :: l => by
    by_cases h : a = c
    · subst h
      rw [List.takeWhile_cons_of_pos (by simp), List.length_cons, List.replicate_succ, ← takeWhile_rep a l]
    · rw [List.takeWhile_cons_of_neg (by simpa using h)]; rfl
theorem trimR_rep (l : List UInt8) : Lib.trimRightB l 48 ++ List.replicate (l.length - (Lib.trimRightB l 48).length) 48 = l := by
  have h : l.reverse.takeWhile (· == (48 : UInt8)) ++ l.reverse.dropWhile (· == 48) = l.reverse := List.takeWhile_append_dropWhile
  have h2 := congrArg List.reverse h
  rw [List.reverse_append, List.reverse_reverse] at h2
  unfold Lib.trimRightB
  have h3 : (l.reverse.takeWhile (· == (48 : UInt8))).length = l.length - (l.reverse.dropWhile (· == (48 : UInt8))).reverse.length := by
    have := congrArg List.length h
    rw [List.length_append, List.length_reverse] at this
    rw [List.length_reverse]
    omega
  rw [← h3]
  conv => rhs; rw [← h2]
  congr 1
  rw [takeWhile_rep 48 l.reverse, List.reverse_replicate]
  simp
theorem trimR_last (l : List UInt8) : (Lib.trimRightB l 48).getLast? ≠ some 48 := by
  unfold Lib.trimRightB
  rw [List.getLast?_reverse]
  intro e
  cases h : l.reverse.dropWhile (· == (48 : UInt8)) with
  | nil => rw [h] at e; cases e
  | cons a t =>
    rw [h] at e
    have : a = 48 := by simpa using e
    subst this
    have := List.head_dropWhile_not (· == (48 : UInt8)) (l := l.reverse) (by rw [h]; simp)
    simp [h] at this
theorem makeR_int {neg : Bool} {dig : List UInt8} (hd : natR dig = true) (hz : ¬ (neg = true ∧ dig = [48])) : ∃ N, makeR neg dig 0 = (N, 0) ∧ numT N = intT neg dig := by
  have hl := natR_len hd
  have hall := natR_all hd
  have hne := natR_pos hd
  unfold makeR
  rw [if_neg (fun h => by
    rcases h with h | h | h
    · exact hne h
    · omega
    · rw [hall] at h; cases h)]
  by_cases ht : Lib.trimRightB dig 48 = []
  · rw [if_pos ht]
    have hr := trimR_rep dig
    rw [ht, List.nil_append] at hr
    have h48 : dig = [48] := by
      refine Classical.byContradiction fun hx => natR_head hd hx ?_
      rw [← hr]
      cases dig with
      | nil => exact absurd rfl hne
      | cons a t => simp [List.replicate_succ]
    subst h48
    cases neg
    · refine ⟨_, rfl, ?_⟩
      have : wholeA Num.nought = ([48], true) := by decide +kernel
      unfold numT
      rw [this]
      rfl
    · exact absurd ⟨rfl, rfl⟩ hz
  · rw [if_neg ht]
    have h48 : dig ≠ [48] := fun e => ht (by rw [e]; decide)
    have hhead : (Lib.trimRightB dig 48).head? ≠ some 48 := by
      have hr := trimR_rep dig
      intro e
      refine natR_head hd h48 ?_
      rw [← hr, head_app ht]
      exact e
    have hT := trimRight_len dig 48
    have hall2 : (Lib.trimRightB dig 48).all isDig = true := by
      have hr := trimR_rep dig
      rw [← hr, List.all_append, Bool.and_eq_true] at hall
      exact hall.1
    have hlast := trimR_last dig
    have hr := trimR_rep dig
    rw [trimLeft_id hhead]
    generalize Lib.trimRightB dig 48 = T at *
    have hT48 : T ≠ [48] := fun e => hhead (by rw [e]; rfl)
    have hnat : natR T = true := by
      unfold natR
      simp only [Bool.and_eq_true, Bool.not_eq_true', decide_eq_true_eq]
      refine ⟨⟨⟨?_, by omega⟩, ?_⟩, hall2⟩
      · cases T with
        | nil => exact absurd rfl ht
        | cons a t => rfl
      · cases T with
        | nil => rfl
        | cons a t =>
          have : a ≠ 48 := fun e => hhead (by rw [e]; rfl)
          simp [this]
    have hright : (Num.mk neg T (0 + (dig.length : Int) - (T.length : Int))).right = true := by
      unfold Num.right
      simp only [hnat, Bool.true_and]
      rw [if_neg hT48]
      simp only [Bool.and_eq_true, Bool.not_eq_true', decide_eq_true_eq, beq_eq_false_iff_ne]
      exact ⟨⟨hlast, by omega⟩, by omega⟩
    rw [if_neg (by omega)]
    simp only
    rw [if_pos hright]
    refine ⟨_, rfl, ?_⟩
    have hw : wholeA (Num.mk neg T (0 + (dig.length : Int) - (T.length : Int))) = (dig, true) := by
      unfold wholeA
      rw [if_pos ⟨hright, by simp only; omega, by simp only; omega⟩]
      simp only
      rw [show (0 + (dig.length : Int) - (T.length : Int)).toNat = dig.length - T.length by omega, hr]
    unfold numT
    rw [hw]
    rfl
theorem int_parse {neg : Bool} {dig : List UInt8} (hd : natR dig = true) (hz : ¬ (neg = true ∧ dig = [48])) : (parseA (numTx neg dig [])).2.1 = 0 ∧ numT (parseA (numTx neg dig [])).1 = intT neg dig := by
  obtain ⟨h1, h2, h3, h4⟩ := num_parts (neg := neg) hd (s := []) (fun c h => by cases h)
  have hl := natR_len hd
  have hne := natR_pos hd
  have hlen : (numTx neg dig []).length ≤ 801 := by unfold numTx; cases neg <;> simp <;> omega
  have hneg : decide ((numTx neg dig []).head? = some 45) = neg := by
    cases neg
    · exact decide_eq_false (fun e => by have := h4.1 e; cases this)
    · exact decide_eq_true (h4.2 rfl)
  rw [← parse_eq]
  unfold parseR
  rw [if_neg (by omega), h1, h2, h3, hneg, if_neg hne]
  have e1 : dotR [] = false := by simp [dotR]
  have e2 : exR [] = false := by simp [exR]
  have e3 : partR [] = [] := by simp [partR, e1]
  have e4 : afterPart [] = [] := by simp [afterPart, e1]
  have e5 : endR [] = [] := by simp [endR, e2]
  have e6 : expR [] = 0 := by simp [expR, e2]
  rw [e1, e3, e4, e2, e5, e6, if_neg (by simp), if_neg (by simp), if_neg (by simp), List.append_nil]
  obtain ⟨N, hN, hT⟩ := makeR_int hd hz
  simp only [List.length_nil, Int.ofNat_zero, Int.natCast_zero, Int.sub_zero, hN, if_true]
  exact ⟨trivial, hT⟩
/-- A Dec's text is read as it. -/
theorem dec_parse {n : Num} (h : n.right = true) (hw : (wholeA n).2 = false) : (parseA (textA n)).2.1 = 0 ∧ numT (parseA (textA n)).1 = decT n := by
  rw [back h]
  refine ⟨rfl, ?_⟩
  unfold numT
  simp only
  rw [hw]
  rfl
theorem textA_dec {n : Num} (h : n.right = true) (hw : (wholeA n).2 = false) : textA n = numTx n.neg n.dig (101 :: Lib.itoa n.exp) := by
  have hx : n.exp ≠ 0 := by
    intro e
    have hl := n.right_len h
    unfold wholeA at hw
    rw [if_pos ⟨h, by omega, by omega⟩] at hw
    cases hw
  unfold textA numTx
  rw [if_pos h, if_neg hx, List.append_assoc]

/-! ### the form of a node that is well -/
theorem alone_empty {t : Tn} (ha : aloneT t = 0) : emptyT (plainT t) = true := by
  unfold aloneT at ha
  split at ha
  · exact absurd ha ‹_›
  · split at ha
    · exact absurd ha (by decide)
    · rename_i hb
      cases h : emptyT (plainT t)
      · exact absurd (.inr (.inr (.inr h))) hb
      · rfl
theorem good_form {t : Tn} (ha : aloneT t = 0) : (t.kind = 0 → t = nullT) ∧ (t.kind = 1 → t = boolT t.n) ∧ (t.kind = 2 → t = intT t.neg t.dig) ∧ (t.kind = 3 → t = decT t.num) ∧ (t.kind = 5 → t = textT t.text) ∧ (t.kind = 7 → t = arrT t.kids) ∧
    (t.kind = 8 → t = .mk 8 0 false [] 0 [] [] t.keys t.kids) := by
  have he := alone_empty ha
  clear ha
  obtain ⟨k, n, ng, dg, ex, tx, bs, keys, kids⟩ := t
  simp only [Tn.kind, Tn.n, Tn.neg, Tn.dig, Tn.text, Tn.keys, Tn.kids, Tn.num, Tn.exp]
  refine ⟨?_, ?_, ?_, ?_, ?_, ?_, ?_⟩
  all_goals
    rintro rfl
    simp [plainT, emptyT, Tn.kind, Tn.n, Tn.neg, Tn.dig, Tn.exp, Tn.text, Tn.bytes, Tn.keys, Tn.kids] at he
    simp [nullT, boolT, intT, decT, textT, arrT, he]
end Go.Proofs.YtafpkecjicphoaaDoor
