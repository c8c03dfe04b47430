/- Plain words for chapter 06: the document's reading is the program's; a text is read back. No program in sight. -/
import Derived.Test.YtafpkecjicphoaaDoorDecQ
import Derived.Test.YtafpkecjicphoaaDoorDecO
namespace Go.Proofs.YtafpkecjicphoaaDoor
open Go
set_option linter.unusedVariables false
set_option linter.unusedSimpArgs false

/-! ### The number that digits tell -/
def valF (a : Nat) (l : List UInt8) : Nat := l.foldl (fun n c => n * 10 + (c.toNat - 48)) a
theorem valF_cons (a : Nat) (c : UInt8) (l : List UInt8) : valF a (c :: l) = valF (a * 10 + (c.toNat - 48)) l := by simp only [valF, List.foldl_cons]
theorem decFrom_valF (l : List UInt8) : ∀ (a : Nat), l.all isDig = true → Lib.decFrom a l = some (valF a l) := by
  induction l with
  | nil => intro a _; simp only [Lib.decFrom, valF, List.foldl_nil]
  | cons c r ih =>
    intro a h
    simp only [List.all_cons, Bool.and_eq_true] at h
    rw [valF_cons, ← ih _ h.2]
    simp only [Lib.decFrom, digitVal_some h.1]
theorem valD_valF {l : List UInt8} (h : l.all isDig = true) : valD l = valF 0 l := by unfold valD; rw [decFrom_valF l 0 h]; rfl
theorem valF_ge : ∀ (l : List UInt8) (a : Nat), a * 10 ^ l.length ≤ valF a l
  | [], a => by simp [valF]
  | c :: r, a => by
    rw [valF_cons]
    refine Nat.le_trans ?_ (valF_ge r _)
    rw [List.length_cons, Nat.pow_succ, Nat.mul_comm (10 ^ r.length) 10, ← Nat.mul_assoc]
    exact Nat.mul_le_mul_right _ (by omega)
theorem valF_self (l : List UInt8) (a : Nat) : a ≤ valF a l := Nat.le_trans (Nat.le_mul_of_pos_right _ (Nat.pow_pos (by decide))) (valF_ge l a)
theorem satD_valF : ∀ (l : List UInt8) (a : Nat), l.all isDig = true → satD (min (a : Int) 1000000) l = min (valF a l : Int) 1000000
  | [], a, _ => rfl
  | c :: r, a, h => by
    simp only [List.all_cons, Bool.and_eq_true] at h
    have hc : 48 ≤ c.toNat := by have := h.1; simp [isDig] at this; omega
    rw [satD, valF_cons, ← satD_valF r (a * 10 + (c.toNat - 48)) h.2]
    congr 1
    omega
theorem satD_zero {l : List UInt8} (h : l.all isDig = true) : satD 0 l = min (valF 0 l : Int) 1000000 := satD_valF l 0 h
theorem valF_trim : ∀ l : List UInt8, valF 0 (Lib.trimLeftB l 48) = valF 0 l
  | [] => rfl
  | c :: r => by
    by_cases h : c = 48
    · subst h
      have e : Lib.trimLeftB (48 :: r) 48 = Lib.trimLeftB r 48 := by simp [Lib.trimLeftB]
      rw [e, valF_trim r]; rfl
    · have e : Lib.trimLeftB (c :: r) 48 = c :: r := by simp [Lib.trimLeftB, h]
      rw [e]
theorem trimLeft_all {l : List UInt8} (h : l.all isDig = true) : (Lib.trimLeftB l 48).all isDig = true := by
  rw [List.all_eq_true] at *
  intro x hx
  exact h x ((List.dropWhile_suffix _).subset hx)
/-- What an exponent's digits tell, both ways. -/
theorem sat_exp {l : List UInt8} (h : l.all isDig = true) : (if 6 < (Lib.trimLeftB l 48).length then (1048576 : Int) else (valD (Lib.trimLeftB l 48) : Int)) = satD 0 l ∨
    (1000000 ≤ (if 6 < (Lib.trimLeftB l 48).length then (1048576 : Int) else (valD (Lib.trimLeftB l 48) : Int)) ∧ satD 0 l = 1000000) := by
  rw [satD_zero h]
  have ht := trimLeft_all h
  have hv := valF_trim l
  split
  · rename_i h6
    right
    refine ⟨by omega, ?_⟩
    have hge : 1000000 ≤ valF 0 l := by
      rw [← hv]
      rcases hx : Lib.trimLeftB l 48 with _ | ⟨c, r⟩
      · rw [hx] at h6; simp at h6
      · have hne := trimLeft_head l 48
        rw [hx] at hne ht h6
        simp at hne
        simp only [List.all_cons, Bool.and_eq_true] at ht
        have hc : 49 ≤ c.toNat := by
          have h1 := ht.1; simp [isDig] at h1
          rcases Nat.lt_or_ge 48 c.toNat with h2 | h2
          · exact h2
          · exact absurd (u8_toNat (a := c) (b := 48) (by have : (48 : UInt8).toNat = 48 := rfl; omega)) hne
        rw [valF_cons]
        have h1 := valF_ge r (0 * 10 + (c.toNat - 48))
        have h2 : 10 ^ 6 ≤ 10 ^ r.length := Nat.pow_le_pow_right (by decide) (by simp at h6; omega)
        have h3 : 10 ^ r.length ≤ (0 * 10 + (c.toNat - 48)) * 10 ^ r.length := Nat.le_mul_of_pos_left _ (by omega)
        omega
    omega
  · rename_i h6
    left
    rw [valD_valF ht, hv]
    have := valD_lt ht
    rw [valD_valF ht, hv] at this
    have h2 : 10 ^ (Lib.trimLeftB l 48).length ≤ 10 ^ 6 := Nat.pow_le_pow_right (by decide) (by omega)
    omega

/-! ### The parts -/
theorem before_app {c : UInt8} : ∀ {a b : List UInt8}, (∀ x ∈ a, x ≠ c) → before c (a ++ b) = a ++ before c b ∧ behind c (a ++ b) = behind c b
  | [], b, _ => ⟨rfl, rfl⟩
  | x :: a, b, h => by
    have hx : x ≠ c := h x (List.mem_cons_self ..)
    have ih := before_app (c := c) (a := a) (b := b) fun y hy => h y (List.mem_cons_of_mem _ hy)
    unfold before behind at ih ⊢
    simp [hx, ih.1, ih.2]
theorem before_all {c : UInt8} {a : List UInt8} (h : ∀ x ∈ a, x ≠ c) : before c a = a ∧ behind c a = [] := by
  have := before_app (c := c) (a := a) (b := []) h
  simpa [before, behind] using this
theorem swap_digs {l : List UInt8} (h : l.all isDig = true) : l.map (swap 69 101) = l := by
  rw [List.all_eq_true] at h
  conv => rhs; rw [← List.map_id l]
  refine List.map_congr_left fun x hx => ?_
  have := (dig_ne (h x hx)).2.2.2.2
  simp [swap, this]
theorem digs_ne {l : List UInt8} (h : l.all isDig = true) {c : UInt8} (hc : c = 45 ∨ c = 43 ∨ c = 46 ∨ c = 101 ∨ c = 69) : ∀ x ∈ l, x ≠ c := by
  intro x hx
  have := dig_ne (List.all_eq_true.1 h x hx)
  rcases hc with rfl | rfl | rfl | rfl | rfl
  · exact this.1
  · exact this.2.1
  · exact this.2.2.1
  · exact this.2.2.2.1
  · exact this.2.2.2.2
theorem trimPre_ne {c : UInt8} {l : List UInt8} (h : l.head? ≠ some c) : Lib.trimPrefix l [c] = l := by
  unfold Lib.trimPrefix Lib.hasPrefix
  cases l with
  | nil => simp [List.isPrefixOf]
  | cons a r => simp at h; simp [List.isPrefixOf, Ne.symm h]
theorem trimPre_eq (c : UInt8) (l : List UInt8) : Lib.trimPrefix (c :: l) [c] = l := by simp [Lib.trimPrefix, Lib.hasPrefix, List.isPrefixOf]
theorem hasPre (c : UInt8) (l : List UInt8) : Lib.hasPrefix l [c] = decide (l.head? = some c) := by
  unfold Lib.hasPrefix
  cases l with
  | nil => rfl
  | cons a r => rw [Bool.eq_iff_iff]; simp [List.isPrefixOf]; exact eq_comm
theorem after_trim (s : List UInt8) : Lib.trimPrefix s [45] = afterSign s := by
  unfold afterSign
  by_cases h : s.head? = some 45
  · rw [if_pos h]
    cases s with
    | nil => simp at h
    | cons c r => simp at h; subst h; exact trimPre_eq 45 r
  · rw [if_neg h, trimPre_ne h]
theorem digs_head {l : List UInt8} (h : l.all isDig = true) {c : UInt8} (hc : c = 45 ∨ c = 43 ∨ c = 46 ∨ c = 101 ∨ c = 69) : l.head? ≠ some c := by
  cases l with
  | nil => simp
  | cons a r => intro e; simp at e; exact digs_ne h hc a (List.mem_cons_self ..) e
theorem whole_all (s1 : List UInt8) : (wholeR s1).all isDig = true := by
  unfold wholeR; split
  · rfl
  · exact digsR_all _
theorem part_all (s2 : List UInt8) : (partR s2).all isDig = true := by
  unfold partR; split
  · exact digsR_all _
  · rfl
/-- Where nothing is wrong, the parts are the same. -/
theorem parts_eq {s : List UInt8} (h : errR s = none) : leftP s = wholeR (afterSign s) ∧ rightP s = partR (afterWhole (afterSign s)) ∧
    (expD (tailP s)).all isDig = true ∧ (expA (tailP s) = expR (afterPart (afterWhole (afterSign s))) ∨ (1000000 ≤ expA (tailP s) ∧ 1000000 ≤ expR (afterPart (afterWhole (afterSign s)))) ∨ (expA (tailP s) ≤ -1000000 ∧ expR (afterPart (afterWhole (afterSign s))) ≤ -1000000)) := by
  unfold errR at h
  by_cases hw : wholeR (afterSign s) = []
  · simp [hw] at h
  simp only [if_neg hw] at h
  by_cases hp : dotR (afterWhole (afterSign s)) = true ∧ partR (afterWhole (afterSign s)) = []
  · simp [hp] at h
  simp only [if_neg hp] at h
  by_cases hx : exR (afterPart (afterWhole (afterSign s))) = true ∧ digsR (afterE (afterPart (afterWhole (afterSign s)))) = []
  · simp [hx] at h
  simp only [if_neg hx] at h
  by_cases he : endR (afterPart (afterWhole (afterSign s))) ≠ []
  · simp [he] at h
  clear h
  have he : endR (afterPart (afterWhole (afterSign s))) = [] := by simpa using he
  unfold leftP rightP tailP
  rw [after_trim]
  generalize afterSign s = s1 at *
  have e2 : s1 = wholeR s1 ++ afterWhole s1 := by
    unfold wholeR afterWhole
    by_cases h : s1.head? = some 48
    · rw [if_pos h, if_pos h]
      cases s1 with
      | nil => simp at h
      | cons c r => simp at h; subst h; rfl
    · rw [if_neg h, if_neg h, digs_rest]
  have wa := whole_all s1
  generalize hwd : wholeR s1 = wd at *
  generalize afterWhole s1 = s2 at *
  have pa := part_all s2
  obtain ⟨pt, e3, hpt⟩ : ∃ pt, s2 = pt ++ afterPart s2 ∧ (pt = [] ∧ partR s2 = [] ∨ pt = 46 :: partR s2) := by
    unfold partR afterPart
    cases hd : dotR s2 with
    | false => exact ⟨[], by simp, .inl ⟨rfl, by simp⟩⟩
    | true =>
      cases s2 with
      | nil => simp [dotR] at hd
      | cons c r =>
        have hc : c = 46 := by simpa [dotR] using hd
        subst hc
        exact ⟨46 :: digsR r, by simp [digs_rest], .inr (by simp)⟩
  generalize partR s2 = pd at *
  generalize afterPart s2 = s3 at *
  have hpt1 : ∀ x ∈ pt, x ≠ 101 := by
    rcases hpt with ⟨rfl, -⟩ | rfl
    · simp
    · intro x hx
      rcases List.mem_cons.1 hx with rfl | hx
      · decide
      · exact digs_ne pa (by simp) x hx
  have hptm : pt.map (swap 69 101) = pt := by
    rcases hpt with ⟨rfl, -⟩ | rfl
    · rfl
    · rw [List.map_cons, swap_digs pa]; rfl
  have hlr : before 46 (wd ++ pt) = wd ∧ behind 46 (wd ++ pt) = pd := by
    have h1 := before_app (c := 46) (a := wd) (b := pt) (digs_ne wa (by simp))
    rcases hpt with ⟨rfl, rfl⟩ | rfl
    · rw [h1.1, h1.2]; simp [before, behind]
    · rw [h1.1, h1.2]; simp [before, behind]
  have hu : s1.map (swap 69 101) = wd ++ pt ++ s3.map (swap 69 101) := by
    rw [e2, e3, List.map_append, List.map_append, swap_digs wa, hptm, List.append_assoc]
  have hwp : ∀ x ∈ wd ++ pt, x ≠ 101 := by
    intro x hx
    rcases List.mem_append.1 hx with hx | hx
    · exact digs_ne wa (by simp) x hx
    · exact hpt1 x hx
  have hb := before_app (c := 101) (a := wd ++ pt) (b := s3.map (swap 69 101)) hwp
  rw [hu, hb.1, hb.2]
  unfold endR at he
  cases hxx : exR s3 with
  | false =>
    rw [if_neg (by simp [hxx])] at he
    subst he
    simp only [List.map_nil]
    have n1 : before 101 ([] : List UInt8) = [] := rfl
    have n2 : behind 101 ([] : List UInt8) = [] := rfl
    rw [n1, n2, List.append_nil, hlr.1, hlr.2]
    exact ⟨rfl, rfl, by decide, .inl (by simp [expR, hxx]; decide)⟩
  | true =>
    rw [if_pos hxx] at he
    have hdg : digsR (afterE s3) ≠ [] := fun g => hx ⟨hxx, g⟩
    have hae : afterE s3 = digsR (afterE s3) := by
      have := digs_rest (afterE s3); rw [he] at this; simpa using this.symm
    have da : (afterE s3).all isDig = true := by rw [hae]; exact digsR_all _
    have hs : sat_exp da = sat_exp da := rfl
    obtain ⟨e, hee, e4, -⟩ := exp_split (q := 5) (by simp) hxx
    have hsgn : sgnR s3 = [45] ∨ sgnR s3 = [43] ∨ sgnR s3 = [] := by unfold sgnR; split; · simp
                                                                     · split <;> simp
    have hm : s3.map (swap 69 101) = 101 :: (sgnR s3 ++ afterE s3) := by
      conv => lhs; rw [e4]
      rw [List.map_cons, List.map_append, swap_digs da]
      have h1 : swap 69 101 e = 101 := by rcases hee with rfl | rfl <;> decide
      have h2 : (sgnR s3).map (swap 69 101) = sgnR s3 := by rcases hsgn with h | h | h <;> rw [h] <;> decide
      rw [h1, h2]
    have hbb : before 101 (s3.map (swap 69 101)) = [] ∧ behind 101 (s3.map (swap 69 101)) = sgnR s3 ++ afterE s3 := by
      rw [hm]; simp [before, behind]
    rw [hbb.1, hbb.2, List.append_nil, hlr.1, hlr.2]
    have hdD : expD (sgnR s3 ++ afterE s3) = Lib.trimLeftB (afterE s3) 48 := by
      unfold expD
      have h43 := trimPre_ne (digs_head da (c := 43) (by simp))
      have h45 := trimPre_ne (digs_head da (c := 45) (by simp))
      rcases hsgn with h | h | h <;> rw [h]
      · rw [List.singleton_append, trimPre_eq, h43]
      · rw [List.singleton_append, trimPre_ne (c := 45) (l := 43 :: afterE s3) (by simp), trimPre_eq]
      · rw [List.nil_append, h45, h43]
    have hneg : Lib.hasPrefix (sgnR s3 ++ afterE s3) [45] = downR s3 := by
      rw [hasPre]
      unfold sgnR
      cases hd : downR s3 with
      | true => simp
      | false =>
        simp only [Bool.false_eq_true, if_false]
        split
        · simp
        · have := digs_head da (c := 45) (by simp)
          simpa using this
    have hb := expN_bound (sgnR s3 ++ afterE s3) (by rw [hdD]; exact trimLeft_all da)
    refine ⟨rfl, rfl, by rw [hdD]; exact trimLeft_all da, ?_⟩
    have hsx := sat_exp da
    have hN : expN (sgnR s3 ++ afterE s3) = (if 6 < (Lib.trimLeftB (afterE s3) 48).length then (1048576 : Int) else (valD (Lib.trimLeftB (afterE s3) 48) : Int)) := by unfold expN; rw [hdD]
    rw [← hN] at hsx
    unfold expA expR
    rw [if_pos hxx, hneg, ← hae]
    cases downR s3 <;> simp <;> omega
theorem makeR_far {neg : Bool} {l : List UInt8} {x y : Int} (h : x = y ∨ (100000 < x ∧ 100000 < y) ∨ (x < -100000 ∧ y < -100000)) : makeR neg l x = makeR neg l y := by
  rcases h with rfl | h | h
  · rfl
  · unfold makeR; rw [if_pos (show x < -100000 ∨ 100000 < x by omega), if_pos (show y < -100000 ∨ 100000 < y by omega)]
  · unfold makeR; rw [if_pos (show x < -100000 ∨ 100000 < x by omega), if_pos (show y < -100000 ∨ 100000 < y by omega)]
/-- Why Make refuses digits. -/
theorem makeA_err {neg : Bool} {l : List UInt8} {x : Int} (h1 : l ≠ []) (h2 : l.length ≤ 4096) (h3 : l.all isDig = true) : (makeA neg l x).2 = 0 ∨ (makeA neg l x).2 = 11 := by
  unfold makeA
  rw [if_neg (by simp [h1, h3]; omega)]
  split
  · exact .inl rfl
  · simp only; split
    · exact .inl rfl
    · exact .inr rfl
theorem errR_ok {s : List UInt8} (h : errR s = none) : wholeR (afterSign s) ≠ [] := by
  intro hw; unfold errR at h; simp [hw] at h
theorem sub_len (s : List UInt8) : (wholeR (afterSign s)).length + (partR (afterWhole (afterSign s))).length ≤ s.length := by
  have h1 : (afterSign s).length ≤ s.length := by unfold afterSign; split <;> simp
  have h2 : ∀ s1 : List UInt8, (wholeR s1).length + (afterWhole s1).length = s1.length := by
    intro s1; unfold wholeR afterWhole
    by_cases h : s1.head? = some 48
    · rw [if_pos h, if_pos h]
      cases s1 with
      | nil => simp at h
      | cons c r => simp; omega
    · rw [if_neg h, if_neg h, ← List.length_append, digs_rest]
  have h3 : ∀ s2 : List UInt8, (partR s2).length ≤ s2.length := by
    intro s2; unfold partR; split
    · have := congrArg List.length (digs_rest (s2.drop 1)); rw [List.length_append, List.length_drop] at this; omega
    · simp
  have := h2 (afterSign s)
  have := h3 (afterWhole (afterSign s))
  omega
theorem makeR_parts {s : List UInt8} (h : errR s = none) (hl : s.length ≤ 4096) :
    makeR (decide (s.head? = some 45)) (wholeR (afterSign s) ++ partR (afterWhole (afterSign s))) (expR (afterPart (afterWhole (afterSign s))) - (partR (afterWhole (afterSign s))).length) = partsA s ∧ ((partsA s).2 = 0 ∨ (partsA s).2 = 11) := by
  obtain ⟨h1, h2, h3, h4⟩ := parts_eq h
  have hs := sub_len s
  unfold partsA
  rw [h1, h2, hasPre]
  constructor
  · rw [← makeR_eq]
    refine makeR_far ?_
    omega
  · refine makeA_err (by simp [errR_ok h]) (by simp; omega) (by rw [List.all_append, whole_all, part_all]; rfl)
theorem errA_some {s : List UInt8} {x : Int} {n : Nat} (h : errA 0 s = some (x, n)) (hl : s.length ≤ 4096) : parseA s = (Num.none, x, (n : Int)) := by
  unfold parseA
  rw [if_neg (by omega)]
  unfold errA at h
  by_cases h1 : (lookD 0 s).1 = 9
  · rw [if_pos h1] at h ⊢
    cases h; rfl
  · rw [if_neg h1] at h ⊢
    by_cases h2 : lastQ (lookD 0 s).1 = false
    · rw [if_pos h2] at h ⊢; cases h; rfl
    · rw [if_neg h2] at h; cases h
theorem errA_no {s : List UInt8} (h : errA 0 s = none) (hl : s.length ≤ 4096) : parseA s = if (partsA s).2 = 0 then ((partsA s).1, 0, 0) else (Num.none, (partsA s).2, 0) := by
  unfold parseA
  rw [if_neg (by omega)]
  unfold errA at h
  by_cases h1 : (lookD 0 s).1 = 9
  · rw [if_pos h1] at h; cases h
  · rw [if_neg h1] at h ⊢
    by_cases h2 : lastQ (lookD 0 s).1 = false
    · rw [if_pos h2] at h; cases h
    · rw [if_neg h2]
theorem parse_eq (s : List UInt8) : parseR s = parseA s := by
  by_cases hl : 4096 < s.length
  · unfold parseR parseA; rw [if_pos hl, if_pos hl]
  have hl' : s.length ≤ 4096 := by omega
  have he := err_eq s
  cases hR : errR s with
  | some p =>
    obtain ⟨x, n⟩ := p
    rw [hR] at he
    rw [errA_some he hl']
    unfold parseR
    unfold errR at hR
    rw [if_neg hl]
    unfold wrongR
    by_cases h1 : wholeR (afterSign s) = []
    · rw [if_pos h1] at hR ⊢; cases hR; rfl
    · rw [if_neg h1] at hR ⊢
      by_cases h2 : dotR (afterWhole (afterSign s)) = true ∧ partR (afterWhole (afterSign s)) = []
      · rw [if_pos h2] at hR ⊢; cases hR; rfl
      · rw [if_neg h2] at hR ⊢
        by_cases h3 : exR (afterPart (afterWhole (afterSign s))) = true ∧ digsR (afterE (afterPart (afterWhole (afterSign s)))) = []
        · rw [if_pos h3] at hR ⊢; cases hR; rfl
        · rw [if_neg h3] at hR ⊢
          by_cases h4 : endR (afterPart (afterWhole (afterSign s))) ≠ []
          · rw [if_pos h4] at hR ⊢; cases hR; rfl
          · rw [if_neg h4] at hR; cases hR
  | none =>
    rw [hR] at he
    rw [errA_no he hl']
    obtain ⟨m1, m2⟩ := makeR_parts hR hl'
    unfold parseR
    rw [if_neg hl]
    unfold errR at hR
    by_cases h1 : wholeR (afterSign s) = []
    · rw [if_pos h1] at hR; cases hR
    · rw [if_neg h1] at hR ⊢
      by_cases h2 : dotR (afterWhole (afterSign s)) = true ∧ partR (afterWhole (afterSign s)) = []
      · rw [if_pos h2] at hR; cases hR
      · rw [if_neg h2] at hR ⊢
        by_cases h3 : exR (afterPart (afterWhole (afterSign s))) = true ∧ digsR (afterE (afterPart (afterWhole (afterSign s)))) = []
        · rw [if_pos h3] at hR; cases hR
        · rw [if_neg h3] at hR ⊢
          by_cases h4 : endR (afterPart (afterWhole (afterSign s))) ≠ []
          · rw [if_pos h4] at hR; cases hR
          · rw [if_neg h4]
            simp only [m1]
            rcases m2 with h | h <;> simp [h]
/-- The texts of the parts are digits where the look ends well. -/
theorem parts_good {s : List UInt8} (h : errA 0 s = none) : (expD (tailP s)).all isDig = true := (parts_eq (by rw [← err_eq]; exact h)).2.2.1
end Go.Proofs.YtafpkecjicphoaaDoor
