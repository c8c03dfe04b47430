/- Package frame in plain Lean: frames are found; a scan of two parts. -/
import Derived.Test.YtnpkpfcljkekfaaFrameP
namespace Go.Proofs.Ytnpkpfcljkekfaa
open Go Go.RowKit
set_option linter.unusedVariables false
set_option linter.unusedSimpArgs false

theorem look_frame (l r : List UInt8) (h : l.length ≤ 1200) : lookB (frameB l ++ r) = .whole l := by
  have hb1 : (UInt8.ofNat (l.length / 256)).toNat = l.length / 256 := by rw [UInt8.toNat_ofNat']; omega
  have hb2 : (UInt8.ofNat (l.length % 256)).toNat = l.length % 256 := by rw [UInt8.toNat_ofNat']; omega
  have hcs : (crcSeal (UInt8.ofNat (l.length / 256) :: UInt8.ofNat (l.length % 256) :: l)).length = l.length + 6 := by rw [crcSeal_length]; simp
  have hf : frameB l = 165 :: 90 :: crcSeal (UInt8.ofNat (l.length / 256) :: UInt8.ofNat (l.length % 256) :: l) := rfl
  have hf2 : frameB l ++ r = 165 :: 90 :: UInt8.ofNat (l.length / 256) :: UInt8.ofNat (l.length % 256) :: (l ++ crcMark (crcSum (UInt8.ofNat (l.length / 256) :: UInt8.ofNat (l.length % 256) :: l)) ++ r) := by
    rw [hf]; simp [crcSeal]
  have hlen : (frameB l ++ r).length = l.length + 8 + r.length := by rw [hf]; simp [hcs]; omega
  have hN : frameN (frameB l ++ r) = l.length := by
    unfold frameN
    rw [if_pos (by omega), if_pos (by omega), hf2]
    show (UInt8.ofNat (l.length / 256)).toNat * 256 + (UInt8.ofNat (l.length % 256)).toNat = _
    rw [hb1, hb2]; omega
  have hh : headOk (frameB l ++ r) = true := by
    unfold headOk
    rw [show min (frameB l ++ r).length 2 = 2 from by omega, hf2]
    rfl
  unfold lookB
  rw [if_neg (by rw [hh]; simp), hN, if_neg (by omega), if_neg (by omega)]
  have : ((frameB l ++ r).take (l.length + 8)).drop 2 = crcSeal (UInt8.ofNat (l.length / 256) :: UInt8.ofNat (l.length % 256) :: l) := by
    rw [List.take_append_of_le_length (by rw [hf]; simp [hcs]), List.take_of_length_le (by rw [hf]; simp [hcs]), hf]
    rfl
  rw [this, crcOpen_seal]
  rfl
theorem frameB_ne (l r : List UInt8) : frameB l ++ r ≠ [] := by simp [frameB]
theorem frameB_len (l : List UInt8) : (frameB l).length = l.length + 8 := by simp [frameB, crcSeal, crcMark]
theorem scan_frame (l r : List UInt8) (h : l.length ≤ 1200) : scan (frameB l ++ r) = (l :: (scan r).1, (scan r).2 + (l.length + 8)) := by
  rw [scan_eq _ (frameB_ne l r), look_frame l r h]
  simp only
  rw [List.drop_append_of_le_length (by rw [frameB_len]; omega), List.drop_eq_nil_of_le (by rw [frameB_len]; omega), List.nil_append]
theorem look_not (c : UInt8) (r : List UInt8) (h : c ≠ 165) : lookB (c :: r) = .nothing := by
  unfold lookB
  rw [if_pos]
  unfold headOk
  rw [decide_eq_false_iff_not]
  cases r with
  | nil => simpa using h
  | cons d r => simp [h]
theorem scan_not (c : UInt8) (r : List UInt8) (h : c ≠ 165) : scan (c :: r) = ((scan r).1, (scan r).2 + 1) := by
  rw [scan_eq _ (by simp), look_not c r h]
  rfl
theorem look_nil : lookB [] = .few := by unfold lookB headOk frameN; simp
theorem headOk_append (b r : List UInt8) (hb : b ≠ []) (h : headOk b = false) : headOk (b ++ r) = false := by
  unfold headOk at h ⊢
  rw [decide_eq_false_iff_not] at h ⊢
  match b, hb with
  | [x], _ =>
    have hx : x ≠ 165 := by simpa using h
    cases r with
    | nil => simpa using hx
    | cons d r => simp [hx]
  | x :: y :: b, _ => simpa using h
theorem frameN_append (b r : List UInt8) : frameN b ≤ frameN (b ++ r) := by
  unfold frameN
  have e : ∀ k, k < b.length → (b ++ r).getD k 0 = b.getD k 0 := fun k hk => by
    rw [List.getD_eq_getElem?_getD, List.getD_eq_getElem?_getD, List.getElem?_append_left hk]
  by_cases h2 : 2 < b.length
  · rw [if_pos h2, if_pos (show 2 < (b ++ r).length by simp; omega), e 2 h2]
    by_cases h3 : 3 < b.length
    · rw [if_pos h3, if_pos (show 3 < (b ++ r).length by simp; omega), e 3 h3]
      omega
    · rw [if_neg h3]; omega
  · rw [if_neg h2, if_neg (show ¬ 3 < b.length by omega)]; omega
theorem frameN_same (b r : List UInt8) (h : 4 ≤ b.length) : frameN (b ++ r) = frameN b := by
  unfold frameN
  have e : ∀ k, k < b.length → (b ++ r).getD k 0 = b.getD k 0 := fun k hk => by
    rw [List.getD_eq_getElem?_getD, List.getD_eq_getElem?_getD, List.getElem?_append_left hk]
  rw [if_pos (show 2 < (b ++ r).length by simp; omega), if_pos (show 3 < (b ++ r).length by simp; omega), if_pos (show 2 < b.length by omega), if_pos (show 3 < b.length by omega), e 2 (by omega), e 3 (by omega)]
theorem headOk_same (b r : List UInt8) (h : 2 ≤ b.length) : headOk (b ++ r) = headOk b := by
  unfold headOk
  rw [List.take_append_of_le_length h, show min (b ++ r).length 2 = 2 from by simp; omega, show min b.length 2 = 2 from by omega]
/-- What is told of bytes is told with more behind, unless there were too few. -/
theorem look_append (b r : List UInt8) (h : lookB b ≠ .few) : lookB (b ++ r) = lookB b := by
  by_cases hb : b = []
  · subst hb; exact absurd look_nil h
  by_cases hh : headOk b = false
  · have h2 := headOk_append b r hb hh
    unfold lookB; rw [if_pos hh, if_pos h2]
  · by_cases hn : 1200 < frameN b
    · have h2 := frameN_append b r
      have e1 : lookB b = .nothing := by unfold lookB; rw [if_neg hh, if_pos hn]
      rw [e1]
      unfold lookB
      split
      · rfl
      · rw [if_pos (by omega)]
    · by_cases hf : b.length < 4 ∨ b.length < frameN b + 8
      · exfalso; apply h; unfold lookB; rw [if_neg hh, if_neg hn, if_pos hf]
      · have h4 : 4 ≤ b.length := by omega
        have e1 := frameN_same b r h4
        have e2 := headOk_same b r (by omega)
        unfold lookB
        rw [e1, e2, if_neg hh, if_neg hh, if_neg hn, if_neg hn, if_neg hf, if_neg (by simp; omega), List.take_append_of_le_length (by omega)]
theorem scan_append : ∀ (n : Nat) (a b : List UInt8), a.length ≤ n → scan (a ++ b) = ((scan a).1 ++ (scan (a.drop (scan a).2 ++ b)).1, (scan a).2 + (scan (a.drop (scan a).2 ++ b)).2)
  | 0, a, b, h => by
    obtain rfl : a = [] := List.eq_nil_of_length_eq_zero (by omega)
    simp [scan_nil]
  | n + 1, a, b, h => by
    by_cases ha : a = []
    · subst ha; simp [scan_nil]
    · have hl : 0 < a.length := List.length_pos_iff.2 ha
      rw [scan_eq a ha]
      cases hk : lookB a with
      | few => simp
      | nothing =>
        have hk2 : lookB (a ++ b) = .nothing := by rw [look_append a b (by rw [hk]; intro h; cases h), hk]
        rw [scan_eq (a ++ b) (by simp [ha]), hk2]
        simp only
        rw [List.drop_append_of_le_length (by omega), scan_append n (a.drop 1) b (by simp; omega), List.drop_drop, Nat.add_comm 1]
        simp only [Prod.mk.injEq, true_and]
        omega
      | whole l =>
        have hk2 : lookB (a ++ b) = .whole l := by rw [look_append a b (by rw [hk]; intro h; cases h), hk]
        obtain ⟨h1, h2, -⟩ := look_whole hk
        rw [scan_eq (a ++ b) (by simp [ha]), hk2]
        simp only
        rw [List.drop_append_of_le_length (by omega), scan_append n (a.drop (l.length + 8)) b (by simp; omega), List.drop_drop, Nat.add_comm (l.length + 8)]
        simp only [Prod.mk.injEq, List.cons_append, true_and]
        omega
/-- What a stream has found, has lost and keeps, once these bytes came. -/
def found (pre : List UInt8) : List (List UInt8) := (scan pre).1
def keeps (pre : List UInt8) : List UInt8 := pre.drop (scan pre).2
def lostB (pre : List UInt8) : Nat := (scan pre).2 - sizeL (scan pre).1
theorem found_append (a b : List UInt8) : found (a ++ b) = found a ++ (scan (keeps a ++ b)).1 := by
  unfold found keeps; rw [scan_append a.length a b (Nat.le_refl _)]
theorem keeps_append (a b : List UInt8) : keeps (a ++ b) = (keeps a ++ b).drop (scan (keeps a ++ b)).2 := by
  have hle := (scan_le a.length a (Nat.le_refl _)).1
  have e : keeps a ++ b = (a ++ b).drop (scan a).2 := by unfold keeps; rw [List.drop_append_of_le_length hle]
  conv => lhs; unfold keeps; rw [scan_append a.length a b (Nat.le_refl _)]
  simp only
  show List.drop ((scan a).2 + (scan (keeps a ++ b)).2) (a ++ b) = _
  rw [← List.drop_drop, ← e]
theorem sizeL_cat (a b : List (List UInt8)) : sizeL (a ++ b) = sizeL a + sizeL b := by simp [sizeL]
theorem lost_append (a b : List UInt8) : lostB (a ++ b) = lostB a + (scan (keeps a ++ b)).2 - sizeL (scan (keeps a ++ b)).1 := by
  have h1 := (scan_le a.length a (Nat.le_refl _)).2.1
  have h2 := (scan_le (keeps a ++ b).length (keeps a ++ b) (Nat.le_refl _)).2.1
  unfold lostB
  rw [scan_append a.length a b (Nat.le_refl _)]
  simp only
  rw [show a.drop (scan a).2 ++ b = keeps a ++ b from rfl, sizeL_cat]
  omega
theorem balance (a : List UInt8) : (keeps a).length + lostB a + sizeL (found a) = a.length := by
  obtain ⟨h1, h2, -⟩ := scan_le a.length a (Nat.le_refl _)
  unfold keeps lostB found
  rw [List.length_drop]; omega
theorem keeps_few : ∀ (n : Nat) (a : List UInt8), a.length ≤ n → lookB (keeps a) = .few
  | 0, a, h => by
    obtain rfl : a = [] := List.eq_nil_of_length_eq_zero (by omega)
    exact look_nil
  | n + 1, a, h => by
    by_cases ha : a = []
    · subst ha; exact look_nil
    · have hl : 0 < a.length := List.length_pos_iff.2 ha
      unfold keeps
      rw [scan_eq a ha]
      cases hk : lookB a with
      | few => simpa using hk
      | nothing =>
        have := keeps_few n (a.drop 1) (by simp; omega)
        unfold keeps at this
        rw [List.drop_drop] at this
        simp only
        rw [Nat.add_comm]; exact this
      | whole l =>
        have := keeps_few n (a.drop (l.length + 8)) (by simp; omega)
        unfold keeps at this
        rw [List.drop_drop] at this
        simp only
        rw [Nat.add_comm]; exact this
theorem few_short {b : List UInt8} (h : lookB b = .few) : b.length < 1208 := by
  unfold lookB at h
  split at h
  · cases h
  · split at h
    · cases h
    · rename_i h1
      split at h
      · omega
      · cases hc : crcOpen ((b.take (frameN b + 8)).drop 2) with
        | none => rw [hc] at h; cases h
        | some x => rw [hc] at h; cases h
theorem keeps_short (a : List UInt8) : (keeps a).length < 1208 := few_short (keeps_few a.length a (Nat.le_refl _))
end Go.Proofs.Ytnpkpfcljkekfaa
