/- Plain words for chapter 06: how a text is read, by states and by parts; what is made of digits. No program in sight. -/
import Derived.Test.YtafpkecjicphoaaDoorDecP
import Derived.Lib.Replace
import Derived.Lib.SplitLaws
import Derived.Lib.IndexBytes
import Derived.Lib.IndexLaws
namespace Go.Proofs.YtafpkecjicphoaaDoor
open Go
set_option linter.unusedVariables false
set_option linter.unusedSimpArgs false

/-! ### What the library's words are at one byte -/
def before (c : UInt8) (l : List UInt8) : List UInt8 := l.takeWhile (· != c)
def behind (c : UInt8) (l : List UInt8) : List UInt8 := (l.dropWhile (· != c)).drop 1
theorem index_cons (a c : UInt8) (l : List UInt8) : Lib.index (a :: l) [c] = if a = c then 0 else if Lib.index l [c] = -1 then -1 else Lib.index l [c] + 1 := by
  rw [Lib.index_one, Lib.index_one, Lib.indexByte]
  simp only [beq_iff_eq]
theorem index_low (l : List UInt8) (c : UInt8) : -1 ≤ Lib.index l [c] := by rw [Lib.index_one]; exact Lib.indexByte_ge l c
theorem cut_one (c : UInt8) : ∀ l : List UInt8, (Lib.cut l [c]).1 = before c l ∧ (Lib.cut l [c]).2.1 = behind c l
  | [] => by simp [Lib.cut, Lib.index, before, behind]
  | a :: l => by
    have ih := cut_one c l
    have hl := index_low l c
    unfold Lib.cut at ih ⊢
    rw [index_cons]
    by_cases h : a = c
    · subst h; simp [before, behind]
    · rw [if_neg h]
      have hb : before c (a :: l) = a :: before c l := by simp [before, h]
      have hd : behind c (a :: l) = behind c l := by simp [behind, h]
      rw [hb, hd]
      by_cases hm : Lib.index l [c] = -1
      · rw [if_pos hm]
        rw [hm] at ih
        simp at ih
        simp [← ih.1, ← ih.2]
      · rw [if_neg hm, if_pos (by omega)]
        rw [if_pos (by omega)] at ih
        have e : (Lib.index l [c] + 1).toNat = (Lib.index l [c]).toNat + 1 := by omega
        have e2 : (Lib.index l [c]).toNat + 1 + [c].length = ((Lib.index l [c]).toNat + [c].length) + 1 := by simp
        simp only [e, e2, List.take_succ_cons, List.drop_succ_cons]
        exact ⟨by rw [← ih.1], ih.2⟩
def swap (c d : UInt8) (b : UInt8) : UInt8 := if b = c then d else b
theorem replaceK_one (c d : UInt8) : ∀ (l : List UInt8), Lib.replaceK [c] [d] (l.count c) l = l.map (swap c d)
  | [] => by simp [Lib.replaceK]
  | a :: l => by
    have ih := replaceK_one c d l
    by_cases h : a = c
    · subst h
      rw [List.count_cons_self, Lib.replaceK_hit [a] [d] (l.count a) (a :: l) 0 (by rw [index_cons, if_pos rfl]; rfl)]
      simp [ih, swap]
    · have hc : (a :: l).count c = l.count c := by rw [List.count_cons]; simp [h]
      rw [hc]
      have hs : (a :: l).map (swap c d) = a :: l.map (swap c d) := by simp [swap, h]
      rw [hs, ← ih]
      rcases hk : l.count c with _ | k
      · rfl
      · have hl := index_low l c
        have hm : Lib.index l [c] ≠ -1 := by
          intro hm
          have := Lib.count_miss hm
          rw [Lib.count_one] at this
          omega
        have e : (Lib.index l [c] + 1).toNat = (Lib.index l [c]).toNat + 1 := by omega
        obtain ⟨i, hi⟩ : ∃ i : Nat, Lib.index l [c] = i := ⟨(Lib.index l [c]).toNat, by omega⟩
        rw [Lib.replaceK_hit [c] [d] k (a :: l) (i + 1) (by rw [index_cons, if_neg h, if_neg hm, hi]; rfl), Lib.replaceK_hit [c] [d] k l i hi]
        simp
theorem replace_one (c d : UInt8) (h : c ≠ d) (l : List UInt8) : Lib.replaceAll l [c] [d] = l.map (swap c d) := by
  unfold Lib.replaceAll Lib.replace
  rw [if_neg (by simpa using h)]
  unfold Lib.replaceNum
  rw [if_pos (.inl (by decide)), Lib.count_one, replaceK_one]

/-! ### The program's way -/
/-- The look over a text: the state behind it (9: none), and how many bytes were passed. -/
def lookD : Nat → List UInt8 → Nat × Nat
  | q, [] => (q, 0)
  | q, c :: r => if stepB q c = 9 then (9, 0) else ((lookD (stepB q c) r).1, (lookD (stepB q c) r).2 + 1)
def lastQ (q : Nat) : Bool := q = 2 || q = 3 || q = 5 || q = 8
/-- The parts of a text that may be. -/
def leftP (s : List UInt8) : List UInt8 := before 46 (before 101 ((Lib.trimPrefix s [45]).map (swap 69 101)))
def rightP (s : List UInt8) : List UInt8 := behind 46 (before 101 ((Lib.trimPrefix s [45]).map (swap 69 101)))
def tailP (s : List UInt8) : List UInt8 := behind 101 ((Lib.trimPrefix s [45]).map (swap 69 101))
def partsA (s : List UInt8) : Num × Int := makeA (Lib.hasPrefix s [45]) (leftP s ++ rightP s) (expA (tailP s) - (rightP s).length)
def parseA (s : List UInt8) : Num × Int × Int :=
  if 4096 < s.length then (Num.none, 11, 0)
  else if (lookD 0 s).1 = 9 then (Num.none, 5, (lookD 0 s).2)
  else if lastQ (lookD 0 s).1 = false then (Num.none, 3, s.length)
  else if (partsA s).2 = 0 then ((partsA s).1, 0, 0) else (Num.none, (partsA s).2, 0)

/-! ### The document's way -/
def far : Int := 100000
def makeR (neg : Bool) (l : List UInt8) (x : Int) : Num × Int :=
  if l = [] ∨ 4096 < l.length ∨ l.all isDig = false then (Num.none, 1)
  else if Lib.trimRightB l 48 = [] then (Num.nought, 0)
  else if x < -100000 ∨ 100000 < x then (Num.none, 11)
  else
    let n : Num := ⟨neg, Lib.trimLeftB (Lib.trimRightB l 48) 48, x + l.length - (Lib.trimRightB l 48).length⟩
    if n.right then (n, 0) else (Num.none, 11)
theorem trimLeft_head (l : List UInt8) (c : UInt8) : (Lib.trimLeftB l c).head? ≠ some c := by
  unfold Lib.trimLeftB
  intro h
  have := List.head?_dropWhile_not (· == c) l
  rw [h] at this
  simp at this
theorem makeR_eq (neg : Bool) (l : List UInt8) (x : Int) : makeR neg l x = makeA neg l x := by
  unfold makeR makeA
  by_cases h : l = [] ∨ 4096 < l.length ∨ l.all isDig = false
  · rw [if_pos h, if_pos h]
  · rw [if_neg h, if_neg h]
    by_cases h2 : Lib.trimRightB l 48 = []
    · rw [if_pos h2, if_pos h2]
    · rw [if_neg h2, if_neg h2]
      have hl : l.length ≤ 4096 := by
        simp only [not_or] at h; omega
      have hs := trimRight_len l 48
      by_cases h3 : x < -100000 ∨ 100000 < x
      · rw [if_pos h3]
        have hz : Lib.trimLeftB (Lib.trimRightB l 48) 48 ≠ [48] := fun e => trimLeft_head (Lib.trimRightB l 48) 48 (by rw [e]; rfl)
        have hr : Num.right ⟨neg, Lib.trimLeftB (Lib.trimRightB l 48) 48, min (max x (-1048576)) 1048576 + l.length - (Lib.trimRightB l 48).length⟩ = false := by
          cases hc : Num.right ⟨neg, Lib.trimLeftB (Lib.trimRightB l 48) 48, min (max x (-1048576)) 1048576 + l.length - (Lib.trimRightB l 48).length⟩ with
          | false => rfl
          | true =>
            have := Num.right_exp hc
            simp only at this
            omega
        simp [hr]
      · rw [if_neg h3]
        have e : min (max x (-1048576)) 1048576 = x := by omega
        rw [e]
/-- What is wrong at a rest: nothing stands there, or something that may not. -/
def wrongR (s rest : List UInt8) : Num × Int × Int := (Num.none, if rest = [] then 3 else 5, ((s.length - rest.length : Nat) : Int))
/-- The number of digits; 1000000, if it is greater. -/
def satD (a : Int) : List UInt8 → Int
  | [] => a
  | c :: r => satD (min (a * 10 + ((c.toNat : Int) - 48)) 1000000) r
def digsR (l : List UInt8) : List UInt8 := l.takeWhile isDig
def restR (l : List UInt8) : List UInt8 := l.dropWhile isDig
/-- The parts that stand in a row: the sign, the whole digits, the part's, the exponent's. -/
def afterSign (s : List UInt8) : List UInt8 := if s.head? = some 45 then s.drop 1 else s
def wholeR (s1 : List UInt8) : List UInt8 := if s1.head? = some 48 then [48] else digsR s1
def afterWhole (s1 : List UInt8) : List UInt8 := if s1.head? = some 48 then s1.drop 1 else restR s1
def dotR (s2 : List UInt8) : Bool := s2.head? = some 46
def partR (s2 : List UInt8) : List UInt8 := if dotR s2 then digsR (s2.drop 1) else []
def afterPart (s2 : List UInt8) : List UInt8 := if dotR s2 then restR (s2.drop 1) else s2
def exR (s3 : List UInt8) : Bool := s3.head? = some 101 || s3.head? = some 69
def downR (s3 : List UInt8) : Bool := (s3.drop 1).head? = some 45
def afterE (s3 : List UInt8) : List UInt8 := if downR s3 ∨ (s3.drop 1).head? = some 43 then s3.drop 2 else s3.drop 1
def expR (s3 : List UInt8) : Int := if exR s3 then (if downR s3 then - satD 0 (digsR (afterE s3)) else satD 0 (digsR (afterE s3))) else 0
def endR (s3 : List UInt8) : List UInt8 := if exR s3 then restR (afterE s3) else s3
def parseR (s : List UInt8) : Num × Int × Int :=
  if 4096 < s.length then (Num.none, 11, 0)
  else if wholeR (afterSign s) = [] then wrongR s (afterSign s)
  else if dotR (afterWhole (afterSign s)) = true ∧ partR (afterWhole (afterSign s)) = [] then wrongR s (afterPart (afterWhole (afterSign s)))
  else if exR (afterPart (afterWhole (afterSign s))) = true ∧ digsR (afterE (afterPart (afterWhole (afterSign s)))) = [] then wrongR s (afterE (afterPart (afterWhole (afterSign s))))
  else if endR (afterPart (afterWhole (afterSign s))) ≠ [] then wrongR s (endR (afterPart (afterWhole (afterSign s))))
  else
    let r := makeR (decide (s.head? = some 45)) (wholeR (afterSign s) ++ partR (afterWhole (afterSign s))) (expR (afterPart (afterWhole (afterSign s))) - (partR (afterWhole (afterSign s))).length)
    if r.2 = 0 then (r.1, 0, 0) else (Num.none, 11, 0)

/-! ### Both are the same -/
theorem lookD_app (q : Nat) : ∀ (a b : List UInt8), (lookD q a).1 ≠ 9 → lookD q (a ++ b) = ((lookD (lookD q a).1 b).1, a.length + (lookD (lookD q a).1 b).2)
  | [], b, _ => by simp [lookD]
  | c :: a, b, h => by
    simp only [lookD, List.cons_append] at h ⊢
    by_cases hs : stepB q c = 9
    · rw [if_pos hs] at h; exact absurd rfl h
    · rw [if_neg hs] at h ⊢
      rw [if_neg hs]
      have ih := lookD_app (stepB q c) a b h
      rw [ih]
      simp; omega
theorem stepB_dig {q : Nat} {c : UInt8} (h : isDig c = true) (hq : q = 3 ∨ q = 5 ∨ q = 8) : stepB q c = q := by
  rcases hq with rfl | rfl | rfl <;> simp [stepB, h]
theorem lookD_digs {q : Nat} (hq : q = 3 ∨ q = 5 ∨ q = 8) : ∀ (l : List UInt8), l.all isDig = true → (lookD q l).1 = q
  | [], _ => rfl
  | c :: r, h => by
    simp only [List.all_cons, Bool.and_eq_true] at h
    have hs := stepB_dig h.1 hq
    simp only [lookD, hs]
    rw [if_neg (by omega)]
    exact lookD_digs hq r h.2
theorem digsR_all (l : List UInt8) : (digsR l).all isDig = true := by
  rw [List.all_eq_true]; intro x hx; exact takeWhile_mem hx
theorem digs_rest (l : List UInt8) : digsR l ++ restR l = l := List.takeWhile_append_dropWhile
theorem rest_head {l : List UInt8} {c : UInt8} {r : List UInt8} (h : restR l = c :: r) : isDig c = false := by
  have := List.head?_dropWhile_not isDig l
  unfold restR at h
  rw [h] at this
  simpa using this
theorem dig_ne {c : UInt8} (h : isDig c = true) : c ≠ 45 ∧ c ≠ 43 ∧ c ≠ 46 ∧ c ≠ 101 ∧ c ≠ 69 := by
  refine ⟨?_, ?_, ?_, ?_, ?_⟩ <;> (rintro rfl; exact absurd h (by decide))

theorem sgn_split (s : List UInt8) : ∃ sg, s = sg ++ afterSign s ∧ (lookD 0 sg).1 = (if s.head? = some 45 then 1 else 0) ∧ (s.head? = some 45 → sg = [45]) ∧ (s.head? ≠ some 45 → sg = []) := by
  unfold afterSign
  by_cases h : s.head? = some 45
  · rw [if_pos h, if_pos h]
    cases s with
    | nil => simp at h
    | cons c r =>
      simp at h; subst h
      exact ⟨[45], rfl, rfl, fun _ => rfl, fun h => absurd rfl h⟩
  · rw [if_neg h, if_neg h]
    exact ⟨[], rfl, rfl, fun g => absurd g h, fun _ => rfl⟩
theorem stepB_first {q : Nat} {c : UInt8} (hq : q ≤ 1) (h : c = 45 → q ≠ 0) : stepB q c = if c = 48 then 2 else if isDig c then 3 else 9 := by
  unfold stepB
  rw [if_pos hq, if_neg (fun g => h g.1 g.2)]
/-- The whole digits. -/
theorem whole_split {q : Nat} {s1 : List UInt8} (hq : q ≤ 1) (h0 : q = 0 → s1.head? ≠ some 45) (hw : wholeR s1 ≠ []) :
    s1 = wholeR s1 ++ afterWhole s1 ∧ ((lookD q (wholeR s1)).1 = 2 ∨ ((lookD q (wholeR s1)).1 = 3 ∧ ∀ c r, afterWhole s1 = c :: r → isDig c = false)) := by
  unfold wholeR afterWhole at *
  cases s1 with
  | nil => exact absurd rfl hw
  | cons c r =>
    have h45 : c = 45 → q ≠ 0 := by rintro rfl h; exact h0 h rfl
    by_cases h : c = 48
    · subst h
      simp only [List.head?_cons, if_pos]
      refine ⟨rfl, .inl ?_⟩
      simp [lookD, stepB_first hq h45]
    · simp only [List.head?_cons, Option.some.injEq, if_neg h] at hw ⊢
      refine ⟨(digs_rest _).symm, .inr ⟨?_, fun c' r' he => rest_head he⟩⟩
      by_cases hd : isDig c = true
      · have e : digsR (c :: r) = c :: digsR r := by simp [digsR, hd]
        rw [e]
        simp only [lookD, stepB_first hq h45, if_neg h, if_pos hd]
        rw [if_neg (by decide)]
        exact lookD_digs (.inl rfl) _ (digsR_all r)
      · exact absurd (by simp [digsR, hd]) hw
theorem whole_none {q : Nat} {s1 : List UInt8} (hq : q ≤ 1) (h0 : q = 0 → s1.head? ≠ some 45) (hw : wholeR s1 = []) : s1 = [] ∨ ∃ c r, s1 = c :: r ∧ stepB q c = 9 := by
  unfold wholeR at hw
  cases s1 with
  | nil => exact .inl rfl
  | cons c r =>
    have h45 : c = 45 → q ≠ 0 := by rintro rfl h; exact h0 h rfl
    right; refine ⟨c, r, rfl, ?_⟩
    by_cases h : c = 48
    · subst h; simp at hw
    · simp only [List.head?_cons, Option.some.injEq, if_neg h] at hw
      rw [stepB_first hq h45, if_neg h, if_neg]
      intro hd; simp [digsR, hd] at hw
/-- What a look answers: what is wrong, and where; none: nothing. -/
def errA (q : Nat) (r : List UInt8) : Option (Int × Nat) :=
  if (lookD q r).1 = 9 then some (5, (lookD q r).2) else if lastQ (lookD q r).1 = false then some (3, r.length) else none
theorem errA_app {q q' : Nat} {a b : List UInt8} (h : (lookD q a).1 = q') (h9 : q' ≠ 9) : errA q (a ++ b) = (errA q' b).map fun p => (p.1, p.2 + a.length) := by
  unfold errA
  rw [lookD_app q a b (by rw [h]; exact h9), h]
  dsimp only
  by_cases h1 : (lookD q' b).1 = 9
  · rw [if_pos h1, if_pos h1]; simp; omega
  · rw [if_neg h1, if_neg h1]
    by_cases h2 : lastQ (lookD q' b).1 = false
    · rw [if_pos h2, if_pos h2]; simp; omega
    · rw [if_neg h2, if_neg h2]; rfl
theorem errA_wrong {q : Nat} {r : List UInt8} (hq : q ≠ 9) (hl : lastQ q = false) (h : r = [] ∨ ∃ c t, r = c :: t ∧ stepB q c = 9) : errA q r = some (if r = [] then 3 else 5, 0) := by
  rcases h with rfl | ⟨c, t, rfl, h⟩
  · simp [errA, lookD, hq, hl]
  · simp [errA, lookD, h]
theorem errA_bad {q : Nat} {c : UInt8} {t : List UInt8} (h : stepB q c = 9) : errA q (c :: t) = some (5, 0) := by simp [errA, lookD, h]
theorem errA_none {q : Nat} (hq : q ≠ 9) (hl : lastQ q = true) : errA q [] = none := by simp [errA, lookD, hq, hl]
theorem part_split {q : Nat} {s2 : List UInt8} (hq : q = 2 ∨ q = 3) (hd : q = 3 → ∀ c r, s2 = c :: r → isDig c = false) (hp : dotR s2 = true → partR s2 ≠ []) :
    ∃ pt, s2 = pt ++ afterPart s2 ∧ ((lookD q pt).1 = q ∧ pt = [] ∧ dotR s2 = false ∧ partR s2 = [] ∨ (lookD q pt).1 = 5 ∧ pt = 46 :: partR s2 ∧ dotR s2 = true ∧ ∀ c r, afterPart s2 = c :: r → isDig c = false) := by
  unfold partR afterPart at *
  cases hdot : dotR s2 with
  | false => exact ⟨[], by simp, .inl ⟨rfl, rfl, by simp, by simp⟩⟩
  | true =>
    have hp := hp hdot
    simp only [hdot, if_pos] at hp ⊢
    cases s2 with
    | nil => simp [dotR] at hdot
    | cons c r =>
      have hc : c = 46 := by simpa [dotR] using hdot
      subst hc
      simp only [List.drop_succ_cons, List.drop_zero] at hp ⊢
      refine ⟨46 :: digsR r, by simp [digs_rest], .inr ⟨?_, rfl, trivial, fun c' r' he => rest_head he⟩⟩
      have h4 : stepB q 46 = 4 := by rcases hq with rfl | rfl <;> decide
      simp only [lookD, h4]
      rw [if_neg (by decide)]
      have hall := digsR_all r
      rcases hx : digsR r with _ | ⟨d, t⟩
      · exact absurd hx hp
      · rw [hx] at hall
        simp only [List.all_cons, Bool.and_eq_true] at hall
        have h5 : stepB 4 d = 5 := by simp [stepB, hall.1]
        simp only [lookD, h5]
        rw [if_neg (by decide)]
        exact lookD_digs (.inr (.inl rfl)) _ hall.2
theorem part_none {q : Nat} {s2 : List UInt8} (hq : q = 2 ∨ q = 3) (h1 : dotR s2 = true) (h2 : partR s2 = []) : ∃ r, s2 = 46 :: r ∧ afterPart s2 = r ∧ stepB q 46 = 4 ∧ (r = [] ∨ ∃ c t, r = c :: t ∧ stepB 4 c = 9) := by
  unfold partR afterPart at *
  rw [if_pos h1] at h2 ⊢
  cases s2 with
  | nil => simp [dotR] at h1
  | cons c r =>
    have hc : c = 46 := by simpa [dotR] using h1
    subst hc
    simp only [List.drop_succ_cons, List.drop_zero] at h2 ⊢
    have hr : restR r = r := by have := digs_rest r; rw [h2] at this; simpa using this
    refine ⟨r, rfl, hr, by rcases hq with rfl | rfl <;> decide, ?_⟩
    cases r with
    | nil => exact .inl rfl
    | cons d t =>
      right; refine ⟨d, t, rfl, ?_⟩
      have hd := rest_head hr
      simp [stepB, hd]
/-- The exponent's sign. -/
def sgnR (s3 : List UInt8) : List UInt8 := if downR s3 then [45] else if (s3.drop 1).head? = some 43 then [43] else []
theorem exp_split {q : Nat} {s3 : List UInt8} (hq : q = 2 ∨ q = 3 ∨ q = 5) (h : exR s3 = true) :
    ∃ e, (e = 101 ∨ e = 69) ∧ s3 = e :: (sgnR s3 ++ afterE s3) ∧ ((lookD q (e :: sgnR s3)).1 = 6 ∧ sgnR s3 = [] ∧ (afterE s3).head? ≠ some 45 ∧ (afterE s3).head? ≠ some 43 ∨ (lookD q (e :: sgnR s3)).1 = 7) := by
  cases s3 with
  | nil => simp [exR] at h
  | cons e r =>
    have he : e = 101 ∨ e = 69 := by simpa [exR] using h
    have h6 : stepB q e = 6 := by rcases hq with rfl | rfl | rfl <;> rcases he with rfl | rfl <;> decide
    refine ⟨e, he, ?_⟩
    unfold sgnR afterE downR
    simp only [List.drop_succ_cons, List.drop_zero, decide_eq_true_eq]
    by_cases h1 : r.head? = some 45
    · cases r with
      | nil => simp at h1
      | cons c t =>
        have hc : c = 45 := by simpa using h1
        subst hc
        have h7 : stepB 6 45 = 7 := by decide
        simp [lookD, h6, h7]
    · by_cases h2 : r.head? = some 43
      · cases r with
        | nil => simp at h2
        | cons c t =>
          have hc : c = 43 := by simpa using h2
          subst hc
          have h7 : stepB 6 43 = 7 := by decide
          simp [lookD, h6, h7]
      · simp [h1, h2, lookD, h6]
theorem exp_digs {q : Nat} {x : List UInt8} (hq : q = 6 ∧ x.head? ≠ some 45 ∧ x.head? ≠ some 43 ∨ q = 7) :
    (digsR x = [] → errA q x = some (if x = [] then 3 else 5, 0)) ∧ (digsR x ≠ [] → errA q x = if restR x = [] then none else some (5, (digsR x).length)) := by
  have h9 : q ≠ 9 := by omega
  have hl : lastQ q = false := by rcases hq with ⟨rfl, -⟩ | rfl <;> rfl
  constructor
  · intro h
    refine errA_wrong h9 hl ?_
    have hr : restR x = x := by have := digs_rest x; rw [h] at this; simpa using this
    cases x with
    | nil => exact .inl rfl
    | cons c t =>
      right; refine ⟨c, t, rfl, ?_⟩
      have hd := rest_head hr
      rcases hq with ⟨rfl, h1, h2⟩ | rfl
      · simp at h1 h2; simp [stepB, hd, h1, h2]
      · simp [stepB, hd]
  · intro h
    have hall := digsR_all x
    have h8 : (lookD q (digsR x)).1 = 8 := by
      rcases hx : digsR x with _ | ⟨d, t⟩
      · exact absurd hx h
      · rw [hx] at hall
        simp only [List.all_cons, Bool.and_eq_true] at hall
        have h5 : stepB q d = 8 := by rcases hq with ⟨rfl, -⟩ | rfl <;> simp [stepB, hall.1]
        simp only [lookD, h5]
        rw [if_neg (by decide)]
        exact lookD_digs (.inr (.inr rfl)) _ hall.2
    have e := errA_app (b := restR x) h8 (by decide)
    rw [digs_rest] at e
    rw [e]
    cases hr : restR x with
    | nil => rw [errA_none (by decide) rfl]; rfl
    | cons c t =>
      have hd := rest_head hr
      rw [errA_bad (by simp [stepB, hd])]
      simp
/-- What the document's reading finds wrong. -/
def errR (s : List UInt8) : Option (Int × Nat) :=
  let w := fun rest : List UInt8 => some ((if rest = [] then (3 : Int) else 5), s.length - rest.length)
  if wholeR (afterSign s) = [] then w (afterSign s)
  else if dotR (afterWhole (afterSign s)) = true ∧ partR (afterWhole (afterSign s)) = [] then w (afterPart (afterWhole (afterSign s)))
  else if exR (afterPart (afterWhole (afterSign s))) = true ∧ digsR (afterE (afterPart (afterWhole (afterSign s)))) = [] then w (afterE (afterPart (afterWhole (afterSign s))))
  else if endR (afterPart (afterWhole (afterSign s))) ≠ [] then w (endR (afterPart (afterWhole (afterSign s))))
  else none
theorem err_end {s a rest : List UInt8} {q : Nat} (e : s = a ++ rest) (h : (lookD 0 a).1 = q) (h9 : q ≠ 9) {x : Int} (hx : errA q rest = some (x, 0)) : errA 0 s = some (x, s.length - rest.length) := by
  have h1 := errA_app (b := rest) h h9
  rw [← e, hx] at h1
  have hl := congrArg List.length e
  simp at hl
  rw [h1]; simp; omega
theorem look_app {a b : List UInt8} {q q' : Nat} (h : (lookD 0 a).1 = q) (h9 : q ≠ 9) (h2 : (lookD q b).1 = q') : (lookD 0 (a ++ b)).1 = q' := by
  rw [lookD_app 0 a b (by rw [h]; exact h9), h]; exact h2
/-- The parts of a text in a row, where nothing is wrong up to there. -/
theorem err_eq (s : List UInt8) : errA 0 s = errR s := by
  obtain ⟨sg, e1, q1, hs1, hs2⟩ := sgn_split s
  obtain ⟨n1, hn1⟩ : ∃ n, n = (if s.head? = some 45 then 1 else 0) := ⟨_, rfl⟩
  rw [← hn1] at q1
  have hn : n1 ≤ 1 := by rw [hn1]; split <;> omega
  have h0 : n1 = 0 → (afterSign s).head? ≠ some 45 := by
    intro h
    by_cases g : s.head? = some 45
    · rw [if_pos g] at hn1; omega
    · unfold afterSign; rw [if_neg g]; exact g
  have last1 : lastQ n1 = false := by rcases (by omega : n1 = 0 ∨ n1 = 1) with h | h <;> rw [h] <;> rfl
  unfold errR
  by_cases hw : wholeR (afterSign s) = []
  · simp only [if_pos hw]
    exact err_end e1 q1 (by omega) (errA_wrong (by omega) last1 (whole_none hn h0 hw))
  · simp only [if_neg hw]
    obtain ⟨e2, q2⟩ := whole_split hn h0 hw
    obtain ⟨n2, hn2, hq2, hd2⟩ : ∃ n2, (lookD n1 (wholeR (afterSign s))).1 = n2 ∧ (n2 = 2 ∨ n2 = 3) ∧ (n2 = 3 → ∀ c r, afterWhole (afterSign s) = c :: r → isDig c = false) := by
      rcases q2 with h | ⟨h, hd⟩
      · exact ⟨2, h, .inl rfl, by omega⟩
      · exact ⟨3, h, .inr rfl, fun _ => hd⟩
    have q2' := look_app q1 (by omega) hn2
    have e2' : s = (sg ++ wholeR (afterSign s)) ++ afterWhole (afterSign s) := by rw [List.append_assoc, ← e2]; exact e1
    generalize hg2 : afterWhole (afterSign s) = s2 at *
    generalize ha2 : sg ++ wholeR (afterSign s) = a2 at *
    by_cases hp : dotR s2 = true ∧ partR s2 = []
    · simp only [if_pos hp]
      obtain ⟨r, er, ear, h4, hb⟩ := part_none hq2 hp.1 hp.2
      have q3 : (lookD 0 (a2 ++ [46])).1 = 4 := look_app q2' (by omega) (by simp [lookD, h4])
      rw [ear]
      exact err_end (by rw [List.append_assoc, List.singleton_append, ← er]; exact e2') q3 (by decide) (errA_wrong (by decide) rfl hb)
    · simp only [if_neg hp]
      obtain ⟨pt, e3, hpt⟩ := part_split hq2 hd2 (fun h g => hp ⟨h, g⟩)
      obtain ⟨n3, hn3, hq3, hl3, hd3⟩ : ∃ n3, (lookD n2 pt).1 = n3 ∧ (n3 = 2 ∨ n3 = 3 ∨ n3 = 5) ∧ lastQ n3 = true ∧ (∀ c r, afterPart s2 = c :: r → isDig c = false ∨ n3 = 2) ∧ (∀ c r, afterPart s2 = c :: r → c = 46 → n3 = 5) := by
        rcases hpt with ⟨h, rfl, hdd, -⟩ | ⟨h, -, -, hd⟩
        · refine ⟨n2, h, by omega, by rcases hq2 with h | h <;> rw [h] <;> rfl, ?_, ?_⟩
          · intro c r hc
            rcases hq2 with h2 | h2
            · exact .inr h2
            · exact .inl (hd2 h2 c r (by rw [e3]; exact hc))
          · intro c r hc h46
            exfalso
            have : s2 = c :: r := by rw [e3]; exact hc
            rw [this, h46] at hdd
            simp [dotR] at hdd
        · exact ⟨5, h, by omega, rfl, fun c r hc => .inl (hd c r hc), fun _ _ _ _ => rfl⟩
      obtain ⟨hd3, hd4⟩ := hd3
      have q3 := look_app q2' (by omega) hn3
      have e3' : s = (a2 ++ pt) ++ afterPart s2 := by rw [List.append_assoc, ← e3]; exact e2'
      generalize hg3 : afterPart s2 = s3 at *
      generalize ha3 : a2 ++ pt = a3 at *
      have h9 : n3 ≠ 9 := by omega
      cases hx : exR s3 with
      | false =>
        have hE : endR s3 = s3 := by simp [endR, hx]
        rw [if_neg (show ¬ (false = true ∧ digsR (afterE s3) = []) from by simp), hE]
        cases h3 : s3 with
        | nil =>
          rw [if_neg (show ¬ (([] : List UInt8) ≠ []) from by simp)]
          have := errA_app (b := s3) q3 h9
          rw [← e3', h3, errA_none h9 hl3] at this
          exact this
        | cons c r =>
          rw [if_pos (show (c :: r) ≠ [] from by simp), if_neg (show ¬ (c :: r) = [] from by simp)]
          rw [h3] at e3'
          refine err_end e3' q3 h9 (errA_bad ?_)
          have hc : c ≠ 101 ∧ c ≠ 69 := by rw [h3] at hx; simpa [exR] using hx
          have h46 := hd4 c r h3
          rcases hd3 c r h3 with hd | hd
          · rcases hq3 with rfl | rfl | rfl
            · have : c ≠ 46 := fun h => by have := h46 h; omega
              simp [stepB, hd, hc, this]
            · have : c ≠ 46 := fun h => by have := h46 h; omega
              simp [stepB, hd, hc, this]
            · simp [stepB, hd, hc]
          · subst hd
            have : c ≠ 46 := fun h => by have := h46 h; omega
            simp [stepB, hc, this]
      | true =>
        obtain ⟨e, he, e4, h4⟩ := exp_split hq3 hx
        obtain ⟨n4, hn4, hq4⟩ : ∃ n4, (lookD n3 (e :: sgnR s3)).1 = n4 ∧ (n4 = 6 ∧ (afterE s3).head? ≠ some 45 ∧ (afterE s3).head? ≠ some 43 ∨ n4 = 7) := by
          rcases h4 with ⟨h, -, g1, g2⟩ | h
          · exact ⟨6, h, .inl ⟨rfl, g1, g2⟩⟩
          · exact ⟨7, h, .inr rfl⟩
        have q4 := look_app q3 h9 hn4
        have h94 : n4 ≠ 9 := by omega
        have e4' : s = (a3 ++ (e :: sgnR s3)) ++ afterE s3 := by rw [List.append_assoc, List.cons_append, ← e4]; exact e3'
        obtain ⟨x1, x2⟩ := exp_digs (x := afterE s3) hq4
        by_cases hdg : digsR (afterE s3) = []
        · rw [if_pos ⟨rfl, hdg⟩]
          exact err_end e4' q4 h94 (x1 hdg)
        · rw [if_neg (fun h => hdg h.2), endR, if_pos hx]
          have hA := errA_app (b := afterE s3) q4 h94
          rw [← e4', x2 hdg] at hA
          rw [hA]
          by_cases hr : restR (afterE s3) = []
          · rw [if_pos hr, if_neg (by simp [hr])]; rfl
          · rw [if_neg hr, if_pos hr, if_neg hr]
            have hl := congrArg List.length e4'
            have hl2 := congrArg List.length (digs_rest (afterE s3))
            simp at hl hl2 ⊢
            omega
end Go.Proofs.YtafpkecjicphoaaDoor
