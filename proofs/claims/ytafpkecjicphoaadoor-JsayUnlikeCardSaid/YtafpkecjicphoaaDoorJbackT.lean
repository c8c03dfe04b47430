/- Plainly: a printed tree is read as it: tokens, and their tree. -/
import Derived.Test.YtafpkecjicphoaaDoorJbackP
namespace Go.Proofs.YtafpkecjicphoaaDoor
open Go Go.RowKit
set_option linter.unusedVariables false
set_option linter.unusedSimpArgs false

/-! ### the lexer, whatever its fuel -/
theorem restR_len (l : List UInt8) : (restR l).length ≤ l.length := (List.dropWhile_suffix _).length_le
theorem afterPart_len (s : List UInt8) : (afterPart s).length ≤ s.length := by
  unfold afterPart
  split
  · have h1 := restR_len (s.drop 1)
    rw [List.length_drop] at h1
    omega
  · exact Nat.le_refl _
theorem afterE_len (s : List UInt8) : (afterE s).length ≤ s.length := by
  unfold afterE
  split <;> simp
theorem endR_len (s : List UInt8) : (endR s).length ≤ s.length := by
  unfold endR
  split
  · have h1 := restR_len (afterE s); have h2 := afterE_len s; omega
  · exact Nat.le_refl _
theorem afterWhole_lt {s : List UInt8} (h : wholeR s ≠ []) : (afterWhole s).length < s.length := by
  unfold wholeR at h
  unfold afterWhole
  split
  · rename_i h48
    cases s with
    | nil => cases h48
    | cons a t => simp
  · rename_i h48
    rw [if_neg h48] at h
    have := congrArg List.length (digs_rest s)
    rw [List.length_append] at this
    have : (digsR s).length ≠ 0 := fun e => h (List.eq_nil_of_length_eq_zero e)
    omega
theorem afterSign_len (s : List UInt8) : (afterSign s).length ≤ s.length := by
  unfold afterSign
  split <;> simp
theorem numL_pos {s : List UInt8} {n : Nat} (h : numL s = .ok n) : 1 ≤ n ∧ n ≤ s.length := by
  unfold numL at h
  split at h
  · cases h
  · rename_i h0
    split at h
    · cases h
    · split at h
      · cases h
      · injection h with h
        have h1 := afterWhole_lt h0
        have h2 := afterSign_len s
        have h3 := afterPart_len (afterWhole (afterSign s))
        have h4 := endR_len (afterPart (afterWhole (afterSign s)))
        omega
theorem strL_len : ∀ (f : Nat) (l : List UInt8) (x : List UInt8) (n : Nat), strL f l = .ok (x, n) → 1 ≤ n
  | 0, l, x, n, h => by cases h
  | f + 1, [], x, n, h => by cases h
  | f + 1, c :: l, x, n, h => by
    have key : ∀ (s : List UInt8) (k : Nat) (l2 : List UInt8), addS s k (strL f l2) = .ok (x, n) → 1 ≤ n := by
      intro s k l2 h
      cases hs : strL f l2 with
      | error e => rw [hs] at h; cases h
      | ok y =>
        obtain ⟨y, m⟩ := y
        have := strL_len f l2 y m hs
        rw [hs] at h
        simp only [addS] at h
        injection h with h
        injection h with h1 h2
        omega
    rw [strL] at h
    split at h
    · injection h with h; injection h with h1 h2; omega
    · split at h
      · cases h
      · split at h
        · cases he : escL l with
          | error o => rw [he] at h; cases h
          | ok y =>
            obtain ⟨r, m⟩ := y
            rw [he] at h
            exact key _ _ _ h
        · split at h
          · cases h
          · exact key _ _ _ h
theorem wordK_len {c : UInt8} (h : (wordK c).1 ≠ 0) : 1 ≤ (wordK c).2.length := by
  unfold wordK at *
  by_cases a : c = 116
  · rw [if_pos a]; decide
  rw [if_neg a] at h ⊢
  by_cases b : c = 102
  · rw [if_pos b]; decide
  rw [if_neg b] at h ⊢
  by_cases d : c = 110
  · rw [if_pos d]; decide
  rw [if_neg d] at h
  exact absurd rfl h
theorem tokL_pos {l : List UInt8} {k n : Nat} {x : List UInt8} (h : tokL l = .ok (k, n, x)) : 1 ≤ n := by
  cases l with
  | nil => cases h
  | cons c l =>
    rw [tokL] at h
    split at h
    · injection h with h; injection h with h1 h2; injection h2 with h2 h3; omega
    · split at h
      · cases hs : strL (l.length + 1) l with
        | error e => rw [hs] at h; obtain ⟨u, o⟩ := e; cases h
        | ok y =>
          obtain ⟨y, m⟩ := y
          rw [hs] at h
          injection h with h; injection h with h1 h2; injection h2 with h2 h3; omega
      · split at h
        · cases hs : numL (c :: l) with
          | error e => rw [hs] at h; cases h
          | ok m =>
            have := (numL_pos hs).1
            rw [hs] at h
            injection h with h; injection h with h1 h2; injection h2 with h2 h3; omega
        · split at h
          · split at h
            · injection h with h; injection h with h1 h2; injection h2 with h2 h3
              have := wordK_len ‹(wordK c).1 ≠ 0›
              omega
            · cases h
          · cases h
theorem lexL_fuel : ∀ (f g p : Nat) (l : List UInt8), l.length < f → l.length < g → lexL f p l = lexL g p l
  | 0, g, p, l, h, _ => by omega
  | f + 1, 0, p, l, _, h => by omega
  | f + 1, g + 1, p, [], _, _ => rfl
  | f + 1, g + 1, p, c :: l, h1, h2 => by
    simp only [List.length_cons] at h1 h2
    rw [lexL, lexL]
    split
    · exact lexL_fuel f g (p + 1) l (by omega) (by omega)
    · cases ht : tokL (c :: l) with
      | error e => rfl
      | ok y =>
        obtain ⟨k, n, x⟩ := y
        have hn := tokL_pos ht
        have hl : ((c :: l).drop n).length < f ∧ ((c :: l).drop n).length < g := by rw [List.length_drop, List.length_cons]; omega
        simp only
        rw [lexL_fuel f g (p + n) _ hl.1 hl.2]
def lexN (p : Nat) (l : List UInt8) : List Tok × (Int × Int) := lexL (l.length + 1) p l
theorem lexN_nil (p : Nat) : lexN p [] = ([], (0, 0)) := rfl
theorem lexN_tok {p k : Nat} {A r x : List UInt8} {c : UInt8} {t : List UInt8} (hA : A = c :: t) (hg : gapC c = false) (h : tokL (A ++ r) = .ok (k, A.length, x)) : lexN p (A ++ r) = (⟨k, p, p + A.length, x⟩ :: (lexN (p + A.length) r).1, (lexN (p + A.length) r).2) := by
  subst hA
  unfold lexN
  rw [List.cons_append] at h ⊢
  rw [lexL, if_neg (by simp [hg]), h]
  simp only
  have hd : (c :: (t ++ r)).drop (c :: t).length = r := by rw [← List.cons_append, List.drop_left]
  rw [hd, lexL_fuel _ (r.length + 1) _ _ (by simp; omega) (by omega)]
/-- From p on, ahead of r, these bytes are these tokens. -/
def LexTo (p : Nat) (A r : List UInt8) (ts : List Tok) : Prop := lexN p (A ++ r) = (ts ++ (lexN (p + A.length) r).1, (lexN (p + A.length) r).2)
theorem LexTo.trans {p : Nat} {A B r : List UInt8} {ts us : List Tok} (h : LexTo p A (B ++ r) ts) (k : LexTo (p + A.length) B r us) : LexTo p (A ++ B) r (ts ++ us) := by
  unfold LexTo at *
  rw [List.append_assoc, h, k]
  simp [Nat.add_assoc]
theorem LexTo.one {p k : Nat} {A r x : List UInt8} {c : UInt8} {t : List UInt8} (hA : A = c :: t) (hg : gapC c = false) (h : tokL (A ++ r) = .ok (k, A.length, x)) : LexTo p A r [⟨k, p, p + A.length, x⟩] := lexN_tok hA hg h
theorem LexTo.sign (p : Nat) (c : UInt8) (r : List UInt8) (h : signK c ≠ 0) (hg : gapC c = false) : LexTo p [c] r [⟨signK c, p, p + 1, []⟩] := by
  refine LexTo.one (k := signK c) (A := [c]) (t := []) rfl hg ?_
  show tokL (c :: r) = _
  rw [tokL, if_pos h]
  rfl

theorem LexTo.sig (p : Nat) (c : UInt8) (k : Nat) (r : List UInt8) (hk : signK c = k) (h : k ≠ 0) (hg : gapC c = false) : LexTo p [c] r [⟨k, p, p + 1, []⟩] := by
  subst hk
  exact LexTo.sign p c r h hg
/-! ### leaves -/
theorem lex_word (p : Nat) (w : List UInt8) (k : Nat) (c : UInt8) (t r : List UInt8) (hw : w = c :: t) (hk : wordK c = (k, w)) (h0 : k ≠ 0) (hc : signK c = 0 ∧ c ≠ 34 ∧ c ≠ 45 ∧ isDig c = false ∧ gapC c = false) : LexTo p w r [⟨k, p, p + w.length, []⟩] := by
  have hwl : ∀ (w r : List UInt8), wordL w (w ++ r) = w.length := by
    intro w
    induction w with
    | nil => intro r; cases r <;> rfl
    | cons a w ih => intro r; rw [List.cons_append, wordL, if_pos rfl, ih]; simp; omega
  refine LexTo.one hw hc.2.2.2.2 ?_
  have h1 := hwl w r
  rw [hw, List.cons_append] at h1 ⊢
  rw [tokL, if_neg (by simp [hc.1]), if_neg hc.2.1, if_neg (by simp [hc.2.2.1, hc.2.2.2.1]), hk, if_pos h0, hw]
  simp only
  rw [if_pos h1]
theorem lex_text (p : Nat) (s r : List UInt8) (hu : utfOk s = true) : LexTo p (escT s) r [⟨7, p, p + (escT s).length, s⟩] := by
  have e : escT s = 34 :: (escR s.length s ++ [34]) := by unfold escT; rw [if_pos hu]
  refine LexTo.one (k := 7) e (by decide) ?_
  have hs := str_esc s.length s hu (Nat.le_refl _) ((escR s.length s ++ 34 :: r).length + 1) r (by simp; omega)
  rw [e]
  show tokL (34 :: (escR s.length s ++ [34] ++ r)) = _
  rw [tokL, if_neg (by decide), if_pos rfl, List.append_assoc]
  show (match strL ((escR s.length s ++ 34 :: r).length + 1) (escR s.length s ++ 34 :: r) with | .ok (x, n) => (Except.ok (7, 1 + n, x) : Except (Bool × Nat) (Nat × Nat × List UInt8)) | .error (u, o) => .error (u, 1 + o)) = _
  rw [hs]
  simp only
  congr 2
  simp; omega
theorem numTx_head {neg : Bool} {dig ex : List UInt8} (hd : natR dig = true) : ∃ c t, numTx neg dig ex = c :: t ∧ (c = 45 ∨ isDig c = true) := by
  have hall := natR_all hd
  unfold numTx
  cases neg with
  | true => exact ⟨45, _, rfl, .inl rfl⟩
  | false =>
    cases dig with
    | nil => exact absurd rfl (natR_pos hd)
    | cons c t =>
      simp only [List.all_cons, Bool.and_eq_true] at hall
      exact ⟨c, t ++ ex, rfl, .inr hall.1⟩
theorem lex_num (p : Nat) {neg : Bool} {dig ex r : List UInt8} (hd : natR dig = true) (h : numL (numTx neg dig ex ++ r) = .ok (numTx neg dig ex).length) :
    LexTo p (numTx neg dig ex) r [⟨8, p, p + (numTx neg dig ex).length, numTx neg dig ex⟩] := by
  obtain ⟨c, t, e, hc⟩ := numTx_head (neg := neg) (ex := ex) hd
  have hne : signK c = 0 ∧ c ≠ 34 ∧ gapC c = false := by
    rcases hc with rfl | hc
    · decide
    · unfold isDig at hc
      simp at hc
      have h1 : ∀ x : UInt8, x.toNat < 48 ∨ 57 < x.toNat → c ≠ x := by
        intro x hn e
        subst e
        omega
      refine ⟨?_, h1 34 (by decide), ?_⟩
      · unfold signK
        rw [if_neg (h1 123 (by decide)), if_neg (h1 125 (by decide)), if_neg (h1 91 (by decide)), if_neg (h1 93 (by decide)), if_neg (h1 58 (by decide)), if_neg (h1 44 (by decide))]
      · unfold gapC
        rw [beq_eq_false_iff_ne.2 (h1 32 (by decide)), beq_eq_false_iff_ne.2 (h1 9 (by decide)), beq_eq_false_iff_ne.2 (h1 10 (by decide)), beq_eq_false_iff_ne.2 (h1 13 (by decide))]
        rfl
  refine LexTo.one e hne.2.2 ?_
  have h2 := h
  rw [e, List.cons_append] at h2 ⊢
  rw [tokL, if_neg (by simp [hne.1]), if_neg hne.2.1, if_pos hc, h2]
  simp only
  rw [← List.cons_append, List.take_left]
end Go.Proofs.YtafpkecjicphoaaDoor
