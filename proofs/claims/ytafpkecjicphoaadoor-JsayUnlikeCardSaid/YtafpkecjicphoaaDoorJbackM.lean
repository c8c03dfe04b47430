/- Plainly: a printed tree is read as it. -/
import Derived.Test.YtafpkecjicphoaaDoorJbackT
namespace Go.Proofs.YtafpkecjicphoaaDoor
open Go Go.RowKit
set_option linter.unusedVariables false
set_option linter.unusedSimpArgs false

/-- A tree's text is its tokens, ahead of a sign or nothing, and these are its tree. -/
def BackT (t : Tn) : Prop := ∀ (p : Nat) (r : List UInt8), Delim r → ∃ u ts, u.kind ≠ 2 ∧ u.kind ≠ 4 ∧ LexTo p (sayT t) r (u :: ts) ∧ ∀ (f d m : Nat) (rest : List Tok), 2 * (ts.length + 1) + 1 ≤ f → m + sizeT t ≤ 1024 → d + deepT t ≤ 25 →
  valP false f d m (u :: ts ++ rest) = .ok (t, m + sizeT t, rest)
def BackL (l : List Tn) : Prop := ∀ (p : Nat) (r : List UInt8), ∃ u ts, u.kind ≠ 4 ∧ LexTo p (sepB false (sayL l) ++ [93]) r (u :: ts) ∧ ∀ (f d m : Nat) (rest : List Tok), 2 * (ts.length + 1) + 2 ≤ f → m + sizeTL l ≤ 1024 → d + 1 + deepTL l ≤ 25 →
  itmP false f d m (u :: ts ++ rest) = .ok (l, m + sizeTL l, rest)
def NoTw : List (List UInt8) → List Tn → Prop
  | _, [] => True
  | seen, k :: ks => k.text ∉ seen ∧ NoTw (seen ++ [k.text]) ks
def BackP (ks l : List Tn) : Prop := ∀ (p : Nat) (r : List UInt8), ∃ u ts, u.kind ≠ 2 ∧ LexTo p (sepB false (sayP ks l) ++ [125]) r (u :: ts) ∧ ∀ (f d m : Nat) (seen : List (List UInt8)) (rest : List Tok), NoTw seen ks → 2 * (ts.length + 1) + 1 ≤ f → m + (sizeTL ks + sizeTL l) ≤ 1024 → d + 1 + max (deepTL ks) (deepTL l) ≤ 25 →
  memP false f d m seen (u :: ts ++ rest) = .ok (ks.map Tn.text, l, m + (sizeTL ks + sizeTL l), rest)
theorem begin_ok {d m : Nat} (hd : d ≤ 24) (hm : m ≤ 1024) : beginE false d m = 0 := by
  unfold beginE
  rw [if_neg (by simp), if_neg (by omega), if_neg (by omega)]
theorem back_one {t : Tn} {k : Nat} {x : List UInt8} (hl : ∀ p r, Delim r → LexTo p (sayT t) r [⟨k, p, p + (sayT t).length, x⟩]) (hp : ∀ p q, leafP false ⟨k, p, q, x⟩ = .ok t) (hk : 7 ≤ k) (hs : sizeT t = 1) (hd : deepT t = 1) : BackT t := by
  intro p r hr
  refine ⟨_, [], by simp only; omega, by simp only; omega, hl p r hr, fun f d m rest hf hm hdd => ?_⟩
  obtain ⟨f, rfl⟩ : ∃ k, f = k + 1 := ⟨f - 1, by omega⟩
  rw [hs] at hm ⊢
  rw [hd] at hdd
  show valP false (f + 1) d m (⟨k, p, p + (sayT t).length, x⟩ :: rest) = _
  rw [valP.eq_def]
  simp only
  rw [if_neg (by omega), if_neg (by rw [begin_ok (by omega) (by omega)]; simp), if_neg (by omega), if_neg (by omega), hp]
theorem leaf_sizes {k : Int} {n : UInt64} {ng : Bool} {dg : List UInt8} {ex : Int} {tx bs : List UInt8} : sizeT (.mk k n ng dg ex tx bs [] []) = 1 ∧ deepT (.mk k n ng dg ex tx bs [] []) = 1 := by
  constructor
  · rw [sizeT, sizeTL]
  · rw [deepT, deepTL]; rfl
theorem alone_txt {t : Tn} (h : t.kind = 5) (ha : aloneT t = 0) : utfOk t.text = true := by
  unfold aloneT at ha
  split at ha
  · exact absurd ha ‹_›
  · rename_i hf
    unfold firstT at hf
    rw [if_pos h] at hf
    split at hf
    · exact absurd (show (8 : Int) ≠ 0 by decide) hf
    · split at hf
      · assumption
      · exact absurd (show (6 : Int) ≠ 0 by decide) hf
theorem alone_num {t : Tn} (h : t.kind = 3) (ha : aloneT t = 0) : t.num.right = true ∧ (wholeA t.num).2 = false := by
  unfold aloneT at ha
  split at ha
  · exact absurd ha ‹_›
  · rename_i hf
    unfold firstT at hf
    rw [if_neg (by omega), if_neg (by omega), if_neg (by omega), if_pos h] at hf
    split at hf
    · exact absurd (show (11 : Int) ≠ 0 by decide) hf
    · rename_i hn
      constructor
      · cases hr : t.num.right
        · exact absurd (.inr hr) hn
        · rfl
      · cases hr : (wholeA t.num).2
        · rfl
        · exact absurd (.inl hr) hn
/-- A leaf. -/
theorem back_leaf {t : Tn} (ha : aloneT t = 0) (hk : t.kind = 0 ∨ t.kind = 1 ∨ t.kind = 2 ∨ t.kind = 3 ∨ t.kind = 5) : BackT t := by
  obtain ⟨f0, f1, f2, f3, f5, -, -⟩ := good_form ha
  rcases hk with h | h | h | h | h
  · have e := f0 h
    have es := (say_0 h).1
    refine back_one (k := 11) (x := []) (fun p r _ => by rw [es]; exact lex_word p _ 11 110 _ r rfl rfl (by decide) (by decide)) (fun p q => by rw [e]; rfl) (by decide) (by rw [e]; exact leaf_sizes.1) (by rw [e]; exact leaf_sizes.2)
  · have e := f1 h
    have es := (say_1 h).1
    rcases alone_bool h ha with hn | hn
    · rw [hn] at e es
      rw [if_pos rfl] at es
      exact back_one (k := 10) (x := []) (fun p r _ => by rw [es]; exact lex_word p _ 10 102 _ r rfl rfl (by decide) (by decide)) (fun p q => by rw [e]; rfl) (by decide) (by rw [e]; exact leaf_sizes.1) (by rw [e]; exact leaf_sizes.2)
    · rw [hn] at e es
      rw [if_neg (by decide)] at es
      exact back_one (k := 9) (x := []) (fun p r _ => by rw [es]; exact lex_word p _ 9 116 _ r rfl rfl (by decide) (by decide)) (fun p q => by rw [e]; rfl) (by decide) (by rw [e]; exact leaf_sizes.1) (by rw [e]; exact leaf_sizes.2)
  · have e := f2 h
    obtain ⟨hd, hz⟩ := alone_int h ha
    have es : sayT t = numTx t.neg t.dig [] := by rw [(say_2 h).1]; unfold numTx; simp
    obtain ⟨q1, q2⟩ := int_parse hd hz
    refine back_one (k := 8) (x := numTx t.neg t.dig []) (fun p r hr => by rw [es]; exact lex_num p hd (numL_int hd hr)) (fun p q => ?_) (by decide) (by rw [e]; exact leaf_sizes.1) (by rw [e]; exact leaf_sizes.2)
    unfold leafP
    simp only
    rw [if_neg (show ¬ (8 : Nat) = 7 by decide), if_pos trivial, if_neg (by simp [q1]), q2, ← e]
  · have e := f3 h
    obtain ⟨hd, hw⟩ := alone_num h ha
    have hn : natR t.num.dig = true := by
      unfold Num.right at hd
      simp only [Bool.and_eq_true] at hd
      exact hd.1
    have es : sayT t = numTx t.num.neg t.num.dig (101 :: Lib.itoa t.num.exp) := by rw [(say_3 h).1, textA_dec hd hw]
    obtain ⟨q1, q2⟩ := dec_parse hd hw
    rw [textA_dec hd hw] at q1 q2
    refine back_one (k := 8) (x := numTx t.num.neg t.num.dig (101 :: Lib.itoa t.num.exp)) (fun p r hr => by rw [es]; exact lex_num p hn (numL_dec hn hr)) (fun p q => ?_) (by decide) (by rw [e]; exact leaf_sizes.1) (by rw [e]; exact leaf_sizes.2)
    unfold leafP
    simp only
    rw [if_neg (show ¬ (8 : Nat) = 7 by decide), if_pos trivial, if_neg (by simp [q1]), q2, ← e]
  · have e := f5 h
    have es := (say_5 h).1
    refine back_one (k := 7) (x := t.text) (fun p r _ => by rw [es]; exact lex_text p t.text r (alone_txt h ha)) (fun p q => ?_) (by decide) (by rw [e]; exact leaf_sizes.1) (by rw [e]; exact leaf_sizes.2)
    unfold leafP
    rw [if_pos rfl, ← e]
theorem back_one_item {t : Tn} (h : BackT t) : BackL [t] := by
  intro p r
  obtain ⟨u, ts, -, h4, hl, hp⟩ := h p (93 :: r) (Delim.cons (by decide) r)
  refine ⟨u, ts ++ [⟨4, p + (sayT t).length, p + (sayT t).length + 1, []⟩], h4, ?_, fun f d m rest hf hm hd => ?_⟩
  · have hs := LexTo.sig (p + (sayT t).length) 93 4 r rfl (by decide) (by decide)
    have := LexTo.trans (B := [93]) hl hs
    simpa [sayL, sepB] using this
  · obtain ⟨f, rfl⟩ : ∃ k, f = k + 1 := ⟨f - 1, by omega⟩
    simp only [List.length_append, List.length_cons, List.length_nil] at hf
    simp only [sizeTL, deepTL] at hm hd ⊢
    have := hp f (d + 1) m (⟨4, p + (sayT t).length, p + (sayT t).length + 1, []⟩ :: rest) (by omega) (by omega) (by omega)
    rw [itmP]
    rw [show u :: (ts ++ [⟨4, p + (sayT t).length, p + (sayT t).length + 1, []⟩]) ++ rest = u :: ts ++ ⟨4, p + (sayT t).length, p + (sayT t).length + 1, []⟩ :: rest by simp, this]
    simp
theorem sep_true (x : List UInt8) (l : List (List UInt8)) : sepB true (x :: l) = 44 :: sepB false (x :: l) := by simp [sepB]
theorem back_items {t y : Tn} {l : List Tn} (h : BackT t) (hl : BackL (y :: l)) : BackL (t :: y :: l) := by
  intro p r
  obtain ⟨u, ts, -, h4, hlx, hp⟩ := h p (44 :: (sepB false (sayL (y :: l)) ++ [93] ++ r)) (Delim.cons (by decide) _)
  obtain ⟨v, us, v4, hly, hq⟩ := hl (p + (sayT t).length + 1) r
  refine ⟨u, ts ++ ⟨6, p + (sayT t).length, p + (sayT t).length + 1, []⟩ :: v :: us, h4, ?_, fun f d m rest hf hm hd => ?_⟩
  · have hs := LexTo.sig (p + (sayT t).length) 44 6 (sepB false (sayL (y :: l)) ++ [93] ++ r) rfl (by decide) (by decide)
    have h1 := LexTo.trans (B := [44]) hlx hs
    have h2 := LexTo.trans h1 (by simpa [Nat.add_assoc] using hly)
    have e : sepB false (sayL (t :: y :: l)) ++ [93] = sayT t ++ [44] ++ (sepB false (sayL (y :: l)) ++ [93]) := by
      rw [sayL, sayL, sepB, sep_true]; simp
    rw [e]
    simpa using h2
  · obtain ⟨f, rfl⟩ : ∃ k, f = k + 1 := ⟨f - 1, by omega⟩
    simp only [List.length_append, List.length_cons] at hf
    rw [sizeTL] at hm ⊢
    rw [deepTL] at hd
    have g1 := hp f (d + 1) m (⟨6, p + (sayT t).length, p + (sayT t).length + 1, []⟩ :: v :: us ++ rest) (by omega) (by omega) (by omega)
    have g2 := hq f d (m + sizeT t) rest (by omega) (by omega) (by omega)
    rw [itmP]
    rw [show u :: (ts ++ ⟨6, p + (sayT t).length, p + (sayT t).length + 1, []⟩ :: v :: us) ++ rest = u :: ts ++ (⟨6, p + (sayT t).length, p + (sayT t).length + 1, []⟩ :: v :: us ++ rest) by simp, g1]
    rw [List.cons_append] at g2
    simp only [List.cons_append, if_true, g2, Nat.add_assoc]
/-- A key with its colon. -/
theorem lex_key (p : Nat) (k : Tn) (r : List UInt8) (hk : k.kind = 5) (ha : aloneT k = 0) : LexTo p (escT k.text ++ [58]) r [⟨7, p, p + (escT k.text).length, k.text⟩, ⟨5, p + (escT k.text).length, p + (escT k.text).length + 1, []⟩] :=
  LexTo.trans (lex_text p k.text ([58] ++ r) (alone_txt hk ha)) (LexTo.sig _ 58 5 r rfl (by decide) (by decide))
theorem key_sizes {k : Tn} (hk : k.kind = 5) (ha : aloneT k = 0) : sizeT k = 1 ∧ deepT k = 1 := by
  rw [(good_form ha).2.2.2.2.1 hk]
  exact leaf_sizes
theorem back_one_pair {k t : Tn} (hk : k.kind = 5) (ha : aloneT k = 0) (h : BackT t) : BackP [k] [t] := by
  intro p r
  obtain ⟨u, ts, -, -, hl, hp⟩ := h (p + (escT k.text).length + 1) (125 :: r) (Delim.cons (by decide) r)
  obtain ⟨s1, s2⟩ := key_sizes hk ha
  refine ⟨⟨7, p, p + (escT k.text).length, k.text⟩, ⟨5, p + (escT k.text).length, p + (escT k.text).length + 1, []⟩ :: u :: (ts ++ [⟨2, p + (escT k.text).length + 1 + (sayT t).length, p + (escT k.text).length + 1 + (sayT t).length + 1, []⟩]), by simp, ?_, fun f d m seen rest hn hf hm hd => ?_⟩
  · have h1 := lex_key p k (sayT t ++ (125 :: r)) hk ha
    have hs := LexTo.sig (p + (escT k.text).length + 1 + (sayT t).length) 125 2 r rfl (by decide) (by decide)
    have h2 := LexTo.trans (B := [125]) hl hs
    have h3 := LexTo.trans (A := escT k.text ++ [58]) (B := sayT t ++ [125]) (by simpa using h1) (by simpa [Nat.add_assoc] using h2)
    have e : sepB false (sayP [k] [t]) ++ [125] = escT k.text ++ [58] ++ (sayT t ++ [125]) := by rw [sayP, sayP]; simp [sepB]
    rw [e]
    simpa [Nat.add_assoc] using h3
  · obtain ⟨f, rfl⟩ : ∃ k, f = k + 1 := ⟨f - 1, by omega⟩
    simp only [List.length_append, List.length_cons, List.length_nil] at hf
    simp only [sizeTL, deepTL, s1, s2] at hm hd ⊢
    have g := hp f (d + 1) (m + 1) (⟨2, p + (escT k.text).length + 1 + (sayT t).length, p + (escT k.text).length + 1 + (sayT t).length + 1, []⟩ :: rest) (by omega) (by omega) (by omega)
    have hns : ¬ (k.text ∈ seen) := hn.1
    rw [List.cons_append] at g
    rw [memP.eq_def]
    simp only [List.cons_append, List.append_assoc, List.nil_append]
    rw [if_neg (by simp), if_neg (by rw [begin_ok (by omega) (by omega)]; simp), if_neg (fun e => hns e.2), if_neg (by simp)]
    simp only [g]
    rw [if_neg (by decide), if_pos trivial]
    simp [Nat.add_assoc, Nat.add_comm]
theorem back_pairs {k k2 t y : Tn} {ks l : List Tn} (hk : k.kind = 5) (ha : aloneT k = 0) (h : BackT t) (hl : BackP (k2 :: ks) (y :: l)) : BackP (k :: k2 :: ks) (t :: y :: l) := by
  intro p r
  obtain ⟨u, ts, -, -, hlx, hp⟩ := h (p + (escT k.text).length + 1) (44 :: (sepB false (sayP (k2 :: ks) (y :: l)) ++ [125] ++ r)) (Delim.cons (by decide) _)
  obtain ⟨v, us, -, hly, hq⟩ := hl (p + (escT k.text).length + 1 + (sayT t).length + 1) r
  obtain ⟨s1, s2⟩ := key_sizes hk ha
  refine ⟨⟨7, p, p + (escT k.text).length, k.text⟩, ⟨5, p + (escT k.text).length, p + (escT k.text).length + 1, []⟩ :: u :: (ts ++ ⟨6, p + (escT k.text).length + 1 + (sayT t).length, p + (escT k.text).length + 1 + (sayT t).length + 1, []⟩ :: v :: us), by simp, ?_, fun f d m seen rest hn hf hm hd => ?_⟩
  · have h1 := lex_key p k (sayT t ++ (44 :: (sepB false (sayP (k2 :: ks) (y :: l)) ++ [125] ++ r))) hk ha
    have hs := LexTo.sig (p + (escT k.text).length + 1 + (sayT t).length) 44 6 (sepB false (sayP (k2 :: ks) (y :: l)) ++ [125] ++ r) rfl (by decide) (by decide)
    have h2 := LexTo.trans (B := [44]) hlx hs
    have h3 := LexTo.trans h2 (by simpa [Nat.add_assoc] using hly)
    have h4 := LexTo.trans (A := escT k.text ++ [58]) (B := sayT t ++ [44] ++ (sepB false (sayP (k2 :: ks) (y :: l)) ++ [125])) (by simpa using h1) (by simpa [Nat.add_assoc] using h3)
    have e : sepB false (sayP (k :: k2 :: ks) (t :: y :: l)) ++ [125] = escT k.text ++ [58] ++ (sayT t ++ [44] ++ (sepB false (sayP (k2 :: ks) (y :: l)) ++ [125])) := by
      rw [sayP, sayP, sepB, sep_true]; simp
    rw [e]
    simpa [Nat.add_assoc] using h4
  · obtain ⟨f, rfl⟩ : ∃ k, f = k + 1 := ⟨f - 1, by omega⟩
    simp only [List.length_append, List.length_cons] at hf
    have z1 : sizeTL (t :: y :: l) = sizeT t + sizeTL (y :: l) := by rw [sizeTL]
    have z2 : sizeTL (k :: k2 :: ks) = sizeT k + sizeTL (k2 :: ks) := by rw [sizeTL]
    have z3 : deepTL (t :: y :: l) = max (deepT t) (deepTL (y :: l)) := by rw [deepTL]
    have z4 : deepTL (k :: k2 :: ks) = max (deepT k) (deepTL (k2 :: ks)) := by rw [deepTL]
    rw [z1, z2] at hm ⊢
    rw [z3, z4] at hd
    rw [s1] at hm ⊢
    rw [s2] at hd
    have g := hp f (d + 1) (m + 1) (⟨6, p + (escT k.text).length + 1 + (sayT t).length, p + (escT k.text).length + 1 + (sayT t).length + 1, []⟩ :: v :: us ++ rest) (by omega) (by omega) (by omega)
    have hns : ¬ (k.text ∈ seen) := hn.1
    have g2 := hq f d (m + 1 + sizeT t) (seen ++ [k.text]) rest hn.2 (by omega) (by omega) (by omega)
    rw [List.cons_append] at g g2
    rw [memP.eq_def]
    simp only [List.cons_append, List.append_assoc, List.nil_append] at g ⊢
    rw [if_neg (by simp), if_neg (by rw [begin_ok (by omega) (by omega)]; simp), if_neg (fun e => hns e.2), if_neg (by simp)]
    simp only [g]
    rw [if_pos trivial]
    simp only [g2, List.map_cons]
    congr 4
    omega
theorem noTw_of : ∀ (ks pre : List Tn), (∀ x ∈ pre, x = textT x.text) → (∀ x ∈ ks, x = textT x.text) → twR pre ks = false → NoTw (pre.map Tn.text) ks
  | [], pre, _, _, _ => trivial
  | k :: ks, pre, hp, hk, h => by
    rw [twR, Bool.or_eq_false_iff] at h
    refine ⟨fun hm => ?_, ?_⟩
    · obtain ⟨x, hx, e⟩ := List.mem_map.1 hm
      have : x = k := by rw [hp x hx, hk k (List.mem_cons_self ..), e]
      have h1 := h.1
      unfold hasT at h1
      rw [List.any_eq_false] at h1
      exact h1 x hx ((sameT_eq x k).2 this)
    · have := noTw_of ks (pre ++ [k]) (fun x hx => by
        rcases List.mem_append.1 hx with hx | hx
        · exact hp x hx
        · have : x = k := by simpa using hx
          subst this; exact hk x (List.mem_cons_self ..)) (fun x hx => hk x (List.mem_cons_of_mem _ hx)) h.2
      simpa using this
mutual
theorem back_T : ∀ t : Tn, goodT t → toldT t = true → twT t = false → BackT t
  | .mk k n ng dg ex tx bs keys kids, hg, ht, hw => by
    obtain ⟨ha, hgk, hgi⟩ := goodT_out hg
    rw [twT, Bool.or_eq_false_iff, Bool.or_eq_false_iff] at hw
    have hL := back_L kids hgi
    have hP := back_P keys kids hgk hgi
    by_cases h7 : k = 7
    · subst h7
      have e := (good_form ha).2.2.2.2.2.1 rfl
      simp only [Tn.kids] at e
      rw [toldT, if_pos rfl] at ht
      rw [e]
      have es : sayT (arrT kids) = 91 :: (sepB false (sayL kids) ++ [93]) := by unfold arrT; rw [sayT]; rfl
      have ez : sizeT (arrT kids) = 1 + sizeTL kids := by unfold arrT; rw [sizeT, sizeTL]; try omega
      have ed : deepT (arrT kids) = 1 + deepTL kids := by unfold arrT; rw [deepT, deepTL]; try omega
      intro p r hr
      cases kids with
      | nil =>
        refine ⟨⟨3, p, p + 1, []⟩, [⟨4, p + 1, p + 1 + 1, []⟩], by simp, by simp, ?_, fun f d m rest hf hm hd => ?_⟩
        · rw [es, sayL]
          exact LexTo.trans (A := [91]) (B := [93]) (LexTo.sig p 91 3 _ rfl (by decide) (by decide)) (LexTo.sig (p + 1) 93 4 r rfl (by decide) (by decide))
        · obtain ⟨f, rfl⟩ : ∃ k, f = k + 1 := ⟨f - 1, by omega⟩
          rw [ez, sizeTL] at hm ⊢
          rw [ed, deepTL] at hd
          rw [valP.eq_def]
          simp only [List.cons_append, List.nil_append]
          rw [if_neg (by decide), if_neg (by rw [begin_ok (by omega) (by omega)]; simp), if_neg (by decide), if_pos trivial, if_pos trivial]
      | cons x l =>
        obtain ⟨u, ts, h4, hl, hp⟩ := hL (by simp) (by simpa using ht) hw.2 (p + 1) r
        refine ⟨⟨3, p, p + 1, []⟩, u :: ts, by simp, by simp, ?_, fun f d m rest hf hm hd => ?_⟩
        · rw [es]
          exact LexTo.trans (A := [91]) (LexTo.sig p 91 3 _ rfl (by decide) (by decide)) hl
        · obtain ⟨f, rfl⟩ : ∃ k, f = k + 1 := ⟨f - 1, by omega⟩
          simp only [List.length_cons] at hf
          rw [ez] at hm ⊢
          rw [ed] at hd
          have g := hp f d (m + 1) rest (by omega) (by omega) (by omega)
          rw [List.cons_append] at g
          rw [valP.eq_def]
          simp only [List.cons_append]
          rw [if_neg (by decide), if_neg (by rw [begin_ok (by omega) (by omega)]; simp), if_neg (by decide), if_pos trivial, if_neg h4, g]
          simp [Nat.add_assoc]
    by_cases h8 : k = 8
    · subst h8
      have e := (good_form ha).2.2.2.2.2.2 rfl
      simp only [Tn.kids, Tn.keys] at e
      rw [toldT, if_neg (by decide), if_pos rfl] at ht
      have hkl : keys.length = kids.length := alone_map (t := .mk 8 n ng dg ex tx bs keys kids) rfl ha
      rw [e]
      have es : sayT (.mk 8 0 false [] 0 [] [] keys kids) = 123 :: (sepB false (sayP keys kids) ++ [125]) := by rw [sayT]; rfl
      have ez : sizeT (.mk 8 0 false [] 0 [] [] keys kids) = 1 + (sizeTL keys + sizeTL kids) := by rw [sizeT]; try omega
      have ed : deepT (.mk 8 0 false [] 0 [] [] keys kids) = 1 + max (deepTL keys) (deepTL kids) := by rw [deepT]
      intro p r hr
      cases keys with
      | nil =>
        obtain rfl : kids = [] := List.eq_nil_of_length_eq_zero hkl.symm
        refine ⟨⟨1, p, p + 1, []⟩, [⟨2, p + 1, p + 1 + 1, []⟩], by simp, by simp, ?_, fun f d m rest hf hm hd => ?_⟩
        · rw [es, sayP]
          exact LexTo.trans (A := [123]) (B := [125]) (LexTo.sig p 123 1 _ rfl (by decide) (by decide)) (LexTo.sig (p + 1) 125 2 r rfl (by decide) (by decide))
        · obtain ⟨f, rfl⟩ : ∃ k, f = k + 1 := ⟨f - 1, by omega⟩
          rw [ez, sizeTL] at hm ⊢
          rw [ed, deepTL] at hd
          rw [valP.eq_def]
          simp only [List.cons_append, List.nil_append]
          rw [if_neg (by decide), if_neg (by rw [begin_ok (by omega) (by omega)]; simp), if_pos trivial, if_pos trivial]
          rfl
      | cons x ks =>
        have hne : kids ≠ [] := fun e => by rw [e] at hkl; simp at hkl
        obtain ⟨hkk, hP2⟩ := hP hne hkl ht hw.2
        obtain ⟨u, ts, h2, hl, hp⟩ := hP2 (p + 1) r
        have hform : ∀ y ∈ x :: ks, y = textT y.text := fun y hy => (good_form ((goodT_iff y).1 (goodL_mem.1 hgk y hy)).1).2.2.2.2.1 (hkk y hy)
        have hnt := noTw_of (x :: ks) [] (fun y hy => by cases hy) hform hw.1.1
        have hmap : (x :: ks).map (fun y => textT y.text) = x :: ks := by
          conv => rhs; rw [← List.map_id (x :: ks)]
          exact List.map_congr_left fun y hy => (hform y hy).symm
        refine ⟨⟨1, p, p + 1, []⟩, u :: ts, by simp, by simp, ?_, fun f d m rest hf hm hd => ?_⟩
        · rw [es]
          exact LexTo.trans (A := [123]) (LexTo.sig p 123 1 _ rfl (by decide) (by decide)) hl
        · obtain ⟨f, rfl⟩ : ∃ k, f = k + 1 := ⟨f - 1, by omega⟩
          simp only [List.length_cons] at hf
          rw [ez] at hm ⊢
          rw [ed] at hd
          have g := hp f d (m + 1) [] rest hnt (by omega) (by omega) (by omega)
          rw [List.cons_append] at g
          rw [valP.eq_def]
          simp only [List.cons_append]
          rw [if_neg (by decide), if_neg (by rw [begin_ok (by omega) (by omega)]; simp), if_pos trivial, if_neg h2, g]
          simp only [mapT, List.map_map, Function.comp_def, hmap, Nat.add_assoc]
    · rw [toldT, if_neg h7, if_neg h8] at ht
      exact back_leaf ha (by
        simp only [decide_eq_true_eq] at ht
        exact ht)
theorem back_L : ∀ l : List Tn, goodL l → l ≠ [] → toldL l = true → twTL l = false → BackL l
  | [], _, h, _, _ => absurd rfl h
  | [t], hg, _, ht, hw => by
    rw [goodL] at hg
    rw [toldL, Bool.and_eq_true] at ht
    rw [twTL, Bool.or_eq_false_iff] at hw
    exact back_one_item (back_T t hg.1 ht.1 hw.1)
  | t :: y :: l, hg, _, ht, hw => by
    rw [goodL] at hg
    rw [toldL, Bool.and_eq_true] at ht
    rw [twTL, Bool.or_eq_false_iff] at hw
    exact back_items (back_T t hg.1 ht.1 hw.1) (back_L (y :: l) hg.2 (by simp) ht.2 hw.2)
theorem back_P : ∀ (ks l : List Tn), goodL ks → goodL l → l ≠ [] → ks.length = l.length → toldP ks l = true → twTL l = false → (∀ y ∈ ks, y.kind = 5) ∧ BackP ks l
  | _, [], _, _, h, _, _, _ => absurd rfl h
  | [], _ :: _, _, _, _, h, _, _ => by simp at h
  | [k], [t], hk, hg, _, _, ht, hw => by
    rw [goodL] at hk hg
    rw [toldP, Bool.and_eq_true, Bool.and_eq_true, decide_eq_true_eq] at ht
    rw [twTL, Bool.or_eq_false_iff] at hw
    exact ⟨fun y hy => by have : y = k := by simpa using hy
                          subst this; exact ht.1.1, back_one_pair ht.1.1 ((goodT_iff k).1 hk.1).1 (back_T t hg.1 ht.1.2 hw.1)⟩
  | [k], _ :: _ :: _, _, _, _, h, _, _ => by simp at h
  | _ :: _ :: _, [t], _, _, _, h, _, _ => by simp at h
  | k :: k2 :: ks, t :: y :: l, hk, hg, _, h, ht, hw => by
    rw [goodL] at hk hg
    rw [toldP, Bool.and_eq_true, Bool.and_eq_true, decide_eq_true_eq] at ht
    rw [twTL, Bool.or_eq_false_iff] at hw
    obtain ⟨h1, h2⟩ := back_P (k2 :: ks) (y :: l) hk.2 hg.2 (by simp) (by simpa using h) ht.2 hw.2
    exact ⟨fun z hz => by
      rcases List.mem_cons.1 hz with rfl | hz
      · exact ht.1.1
      · exact h1 z hz, back_pairs ht.1.1 ((goodT_iff k).1 hk.1).1 (back_T t hg.1 ht.1.2 hw.1) h2⟩
end
/-- What is printed is read as the tree. -/
theorem read_say {t : Tn} (hc : checkT t = 0) (ht : toldT t = true) (hl : (sayT t).length ≤ 4096) : readA false (sayT t) = (t, (0, 0)) := by
  obtain ⟨h1, h2, h3, h4⟩ := check_zero hc
  obtain ⟨u, ts, -, -, hx, hp⟩ := back_T t h3 ht h4 0 [] Delim.nil
  unfold LexTo at hx
  rw [List.append_nil, lexN_nil, List.append_nil] at hx
  have hA : lexA (sayT t) = (u :: ts, (0, 0)) := by unfold lexA; rw [if_neg (by omega)]; exact hx
  unfold readA
  rw [if_neg (by omega), hA]
  have := hp (2 * (u :: ts).length + 1) 1 0 [] (by simp) (by omega) (by omega)
  rw [List.append_nil] at this
  rw [this]
  rfl
/-- Trees that are told alike are the same. -/
theorem say_inj {t u : Tn} (hc : checkT t = 0) (ht : toldT t = true) (hl : (sayT t).length ≤ 4096) (hd : checkT u = 0) (hu : toldT u = true) (he : sayT t = sayT u) : t = u := by
  have h1 := read_say hc ht hl
  have h2 := read_say hd hu (by rw [← he]; exact hl)
  rw [he, h2] at h1
  exact (congrArg Prod.fst h1).symm
end Go.Proofs.YtafpkecjicphoaaDoor
