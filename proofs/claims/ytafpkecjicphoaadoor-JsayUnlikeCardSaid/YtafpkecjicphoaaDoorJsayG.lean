/- Plainly: a text has no byte of a gap outside of strings. -/
import Derived.Test.YtafpkecjicphoaaDoorJsayR
namespace Go.Proofs.YtafpkecjicphoaaDoor
open Go Go.RowKit
set_option linter.unusedVariables false
set_option linter.unusedSimpArgs false

/-- A look over a text: inside of a string? is the next byte passed over? -/
def scanT : Bool → Bool → List UInt8 → Option Bool
  | ins, _, [] => some ins
  | ins, true, _ :: l => scanT ins false l
  | ins, false, c :: l =>
    if ins = true ∧ c.toNat = 92 then scanT ins true l
    else if c.toNat = 34 then scanT (!ins) false l
    else if ins = false ∧ (c.toNat ≤ 32 ∨ 126 < c.toNat) then none
    else scanT ins false l
theorem scan_quiet : ∀ (l rest : List UInt8), (∀ c ∈ l, 33 ≤ c.toNat ∧ c.toNat ≤ 126 ∧ c.toNat ≠ 34) → scanT false false (l ++ rest) = scanT false false rest
  | [], rest, _ => rfl
  | c :: l, rest, h => by
    have hc := h c (List.mem_cons_self ..)
    rw [List.cons_append, scanT, if_neg (by simp), if_neg hc.2.2, if_neg (by omega)]
    exact scan_quiet l rest (fun x hx => h x (List.mem_cons_of_mem _ hx))
theorem scan_in : ∀ (l rest : List UInt8), (∀ c ∈ l, c.toNat ≠ 92 ∧ c.toNat ≠ 34) → scanT true false (l ++ rest) = scanT true false rest
  | [], rest, _ => rfl
  | c :: l, rest, h => by
    have hc := h c (List.mem_cons_self ..)
    rw [List.cons_append, scanT, if_neg (by simp [hc.1]), if_neg hc.2, if_neg (by simp)]
    exact scan_in l rest (fun x hx => h x (List.mem_cons_of_mem _ hx))
theorem scan_esc (x : UInt8) (rest : List UInt8) : scanT true false (92 :: x :: rest) = scanT true false rest := by
  rw [scanT, if_pos (by simp), scanT]
theorem hexD_in (n : Nat) : (hexD n).toNat ≠ 92 ∧ (hexD n).toNat ≠ 34 := by
  unfold hexD
  rcases Nat.lt_or_ge n 16 with h | h
  · have : ∀ k : Fin 16, (([48, 49, 50, 51, 52, 53, 54, 55, 56, 57, 97, 98, 99, 100, 101, 102] : List UInt8).getD k.val 0).toNat ≠ 92 ∧ (([48, 49, 50, 51, 52, 53, 54, 55, 56, 57, 97, 98, 99, 100, 101, 102] : List UInt8).getD k.val 0).toNat ≠ 34 := by decide +kernel
    exact this ⟨n, h⟩
  · have e : ([48, 49, 50, 51, 52, 53, 54, 55, 56, 57, 97, 98, 99, 100, 101, 102] : List UInt8)[n]? = none := List.getElem?_eq_none (by simpa using h)
    rw [List.getD_eq_getElem?_getD, e]
    decide
theorem byte_nat {x : Int} (h0 : 0 ≤ x) (h1 : x < 256) : (x.toNat.toUInt8).toNat = x.toNat := by
  simp [Nat.toUInt8]; omega
/-- The bytes of a character from 128 on are from 128 on, too. -/
theorem enc_high {r : Int} (h : 128 ≤ r) : ∀ c ∈ Lib.encodeRune r, 128 ≤ c.toNat := by
  intro c hc
  unfold Lib.encodeRune at hc
  obtain ⟨x, hx, rfl⟩ := List.mem_map.1 hc
  have hb := Lib.encodeRuneZ_byte r x hx
  rw [byte_nat hb.1 hb.2]
  rcases Int.lt_or_le 1114111 r with h4 | h4
  · rw [Lib.encodeRuneZ_bad (.inr (.inr h4))] at hx
    simp at hx; omega
  rcases Int.lt_or_le r 2048 with h2 | h2
  · rw [Lib.encodeRuneZ_two h (by omega)] at hx
    simp at hx; omega
  rcases Int.lt_or_le 65535 r with h3 | h3
  · rw [Lib.encodeRuneZ_four (by omega) h4] at hx
    simp at hx; omega
  by_cases hs : 55296 ≤ r ∧ r ≤ 57343
  · rw [Lib.encodeRuneZ_bad (.inr (.inl hs))] at hx
    simp at hx; omega
  · rw [Lib.encodeRuneZ_three (by omega)] at hx
    simp at hx; omega
theorem enc_low {r : Nat} (h : r < 128) : Lib.encodeRune (r : Int) = [UInt8.ofNat r] := by
  unfold Lib.encodeRune
  rw [Lib.encodeRuneZ_one (by omega) (by omega)]
  simp [Nat.toUInt8]
theorem short_ne {r : Nat} (h : shortE r = 0) : r ≠ 34 ∧ r ≠ 92 := by
  constructor <;> (rintro rfl; revert h; decide)
theorem scan_esc1 (r : Nat) (rest : List UInt8) : scanT true false (esc1 r ++ rest) = scanT true false rest := by
  unfold esc1
  split
  · exact scan_esc _ rest
  · rename_i h
    have h0 : shortE r = 0 := by simpa using h
    have h1 := short_ne h0
    split
    · show scanT true false (92 :: 117 :: ([48, 48, hexD (r / 16), hexD (r % 16)] ++ rest)) = _
      rw [scan_esc]
      refine scan_in _ rest (fun c hc => ?_)
      have a := hexD_in (r / 16)
      have b := hexD_in (r % 16)
      simp only [List.mem_cons, List.not_mem_nil, or_false] at hc
      rcases hc with rfl | rfl | rfl | rfl
      · decide
      · decide
      · exact a
      · exact b
    · refine scan_in _ rest (fun c hc => ?_)
      rcases Nat.lt_or_ge r 128 with h2 | h2
      · rw [enc_low h2] at hc
        have : c = UInt8.ofNat r := by simpa using hc
        subst this
        rw [UInt8.toNat_ofNat']
        omega
      · have := enc_high (r := r) (by omega) c hc
        omega
theorem scan_escR : ∀ (f : Nat) (l rest : List UInt8), scanT true false (escR f l ++ rest) = scanT true false rest
  | 0, l, rest => by simp [escR]
  | f + 1, [], rest => by simp [escR]
  | f + 1, c :: l, rest => by rw [escR, List.append_assoc, scan_esc1, scan_escR f]
theorem scan_escT (l rest : List UInt8) : scanT false false (escT l ++ rest) = scanT false false rest := by
  unfold escT
  split
  · show scanT false false (34 :: (escR l.length l ++ [34] ++ rest)) = _
    rw [scanT, if_neg (by simp), if_pos (by decide), List.append_assoc]
    show scanT true false _ = _
    rw [scan_escR]
    show scanT true false (34 :: rest) = _
    rw [scanT, if_neg (by decide), if_pos (by decide)]
    rfl
  · rfl
theorem dig_quiet {l : List UInt8} (h : l.all isDig = true) : ∀ c ∈ l, 33 ≤ c.toNat ∧ c.toNat ≤ 126 ∧ c.toNat ≠ 34 := by
  intro c hc
  have := List.all_eq_true.1 h c hc
  unfold isDig at this
  simp at this
  omega
theorem itoa_quiet (n : Int) : ∀ c ∈ Lib.itoa n, 33 ≤ c.toNat ∧ c.toNat ≤ 126 ∧ c.toNat ≠ 34 := by
  intro c hc
  unfold Lib.itoa at hc
  split at hc
  · rcases List.mem_cons.1 hc with rfl | hc
    · decide
    · exact dig_quiet (decDigits_all _).1 c hc
  · exact dig_quiet (decDigits_all _).1 c hc
theorem textA_quiet (n : Num) : ∀ c ∈ textA n, 33 ≤ c.toNat ∧ c.toNat ≤ 126 ∧ c.toNat ≠ 34 := by
  intro c hc
  unfold textA at hc
  split at hc
  · rename_i h
    have hd : n.dig.all isDig = true := natR_all (by
      unfold Num.right at h
      simp only [Bool.and_eq_true] at h
      exact h.1)
    rcases List.mem_append.1 hc with hc | hc
    · rcases List.mem_append.1 hc with hc | hc
      · split at hc
        · have : c = 45 := by simpa using hc
          subst this; decide
        · cases hc
      · exact dig_quiet hd c hc
    · split at hc
      · cases hc
      · rcases List.mem_cons.1 hc with rfl | hc
        · decide
        · exact itoa_quiet _ c hc
  · cases hc
theorem scan_sep : ∀ (l : List (List UInt8)) (b : Bool) (rest : List UInt8), (∀ x ∈ l, ∀ rest, scanT false false (x ++ rest) = scanT false false rest) → scanT false false (sepB b l ++ rest) = scanT false false rest
  | [], b, rest, _ => by simp [sepB]
  | x :: l, b, rest, h => by
    rw [sepB, List.append_assoc, List.append_assoc]
    have h1 : scanT false false (x ++ (sepB true l ++ rest)) = scanT false false rest := by
      rw [h x (List.mem_cons_self ..), scan_sep l true rest (fun y hy => h y (List.mem_cons_of_mem _ hy))]
    cases b
    · exact h1
    · show scanT false false (44 :: _) = _
      rw [scanT, if_neg (by simp), if_neg (by decide), if_neg (by decide)]
      exact h1
mutual
theorem scan_say : ∀ (t : Tn), goodT t → ∀ rest, scanT false false (sayT t ++ rest) = scanT false false rest
  | .mk k n ng dg ex tx bs keys kids, hg, rest => by
    obtain ⟨ha, hk, hi⟩ := goodT_out hg
    have h2 : k = 2 → dg.all isDig = true := fun e => natR_all (alone_int (t := .mk k n ng dg ex tx bs keys kids) e ha).1
    have h7 := scan_sayL kids hi
    have h8 := scan_sayP keys kids hi
    rw [sayT]
    split
    · exact scan_quiet _ rest (by decide)
    · split
      · split
        · exact scan_quiet _ rest (by decide)
        · exact scan_quiet _ rest (by decide)
      · split
        · refine scan_quiet _ rest (fun c hc => ?_)
          rcases List.mem_append.1 hc with hc | hc
          · split at hc
            · have : c = 45 := by simpa using hc
              subst this; decide
            · cases hc
          · exact dig_quiet (h2 ‹_›) c hc
        · split
          · exact scan_quiet _ rest (textA_quiet _)
          · split
            · exact scan_escT tx rest
            · split
              · show scanT false false (91 :: (sepB false (sayL kids) ++ [93] ++ rest)) = _
                rw [scanT, if_neg (by simp), if_neg (by decide), if_neg (by decide), List.append_assoc, scan_sep _ _ _ h7]
                exact scan_quiet [93] rest (by decide)
              · split
                · show scanT false false (123 :: (sepB false (sayP keys kids) ++ [125] ++ rest)) = _
                  rw [scanT, if_neg (by simp), if_neg (by decide), if_neg (by decide), List.append_assoc, scan_sep _ _ _ h8]
                  exact scan_quiet [125] rest (by decide)
                · rfl
theorem scan_sayL : ∀ (l : List Tn), goodL l → ∀ x ∈ sayL l, ∀ rest, scanT false false (x ++ rest) = scanT false false rest
  | [], _, x, hx => by rw [sayL] at hx; cases hx
  | t :: l, hg, x, hx => by
    rw [goodL] at hg
    have h1 := scan_say t hg.1
    have h2 := scan_sayL l hg.2
    rw [sayL] at hx
    rcases List.mem_cons.1 hx with rfl | hx
    · exact h1
    · exact h2 x hx
theorem scan_sayP : ∀ (ks l : List Tn), goodL l → ∀ x ∈ sayP ks l, ∀ rest, scanT false false (x ++ rest) = scanT false false rest
  | k :: ks, t :: l, hg, x, hx => by
    rw [goodL] at hg
    have h1 := scan_say t hg.1
    have h2 := scan_sayP ks l hg.2
    rw [sayP] at hx
    rcases List.mem_cons.1 hx with rfl | hx
    · intro rest
      rw [List.append_assoc, scan_escT]
      show scanT false false (58 :: (sayT t ++ rest)) = _
      rw [scanT, if_neg (by simp), if_neg (by decide), if_neg (by decide), h1]
    · exact h2 x hx
  | [], l, _, x, hx => by rw [sayP] at hx; cases hx
  | k :: ks, [], _, x, hx => by rw [sayP] at hx; cases hx
end
theorem say_tight {t : Tn} (h : goodT t) : scanT false false (sayT t) = some false := by
  have := scan_say t h []
  rw [List.append_nil] at this
  rw [this]; rfl
end Go.Proofs.YtafpkecjicphoaaDoor
