/- The document's reading step by step is its reading by parts; the law DecReads. -/
import Derived.Test.YtkplgndcbngjoaaGreatDoorDecY
namespace Go.Proofs.YtkplgndcbngjoaaGreatDoor
open Go Go.RowKit
set_option linter.unusedVariables false
set_option maxRecDepth 100000
set_option linter.unusedSimpArgs false

structure AtR (s : List UInt8) (r : Rd) (rest : List UInt8) : Prop where
  why : r.why = 0
  drop : s.drop r.k = rest
  le : r.k ≤ s.length
theorem AtR.is {s : List UInt8} {r : Rd} {rest : List UInt8} (h : AtR s r rest) (c : UInt8) : rIs s c r = decide (rest.head? = some c) := by
  unfold rIs; rw [h.why, h.drop]; simp
theorem AtR.step {s : List UInt8} {r : Rd} {rest : List UInt8} (h : AtR s r rest) (hn : rest ≠ []) : AtR s ⟨r.k + 1, r.why, r.fa⟩ (rest.drop 1) := by
  have h1 : r.k < s.length := by
    rcases Nat.lt_or_ge r.k s.length with h1 | h1
    · exact h1
    · exact absurd (by rw [← h.drop]; exact List.drop_eq_nil_of_le h1) hn
  exact ⟨h.why, by rw [← h.drop, List.drop_drop], h1⟩
theorem head_ne {l : List UInt8} {c : UInt8} (h : l.head? = some c) : l ≠ [] := by rintro rfl; simp at h
theorem AtR.may {s : List UInt8} {r : Rd} {rest : List UInt8} (h : AtR s r rest) (c : UInt8) : AtR s (rMay s c r) (if rest.head? = some c then rest.drop 1 else rest) := by
  unfold rMay; rw [h.is c]
  by_cases hc : rest.head? = some c
  · rw [if_pos (by simpa using hc), if_pos hc]; exact h.step (head_ne hc)
  · rw [if_neg (by simpa using hc), if_neg hc]; exact h
theorem AtR.digs {s : List UInt8} {r : Rd} {rest : List UInt8} (h : AtR s r rest) : rDigs s r = digsR rest := by
  unfold rDigs; rw [if_pos h.why, h.drop]
theorem AtR.digits {s : List UInt8} {r : Rd} {rest : List UInt8} (h : AtR s r rest) (hd : digsR rest ≠ []) : AtR s (rDigits s r) (restR rest) := by
  unfold rDigits
  rw [if_pos h.why, h.drop, if_neg hd]
  have hl := digs_len h.le
  rw [h.drop] at hl
  refine ⟨rfl, ?_, hl⟩
  have := rest_drop s r.k
  rw [h.drop] at this
  exact this.symm
theorem AtR.digits_none {s : List UInt8} {r : Rd} {rest : List UInt8} (h : AtR s r rest) (hd : digsR rest = []) : rDigits s r = rWrong s r := by
  unfold rDigits; rw [if_pos h.why, h.drop, if_pos hd]
theorem AtR.wrong {s : List UInt8} {r : Rd} {rest : List UInt8} (h : AtR s r rest) : (rWrong s r).why ≠ 0 ∧ ((Num.none, (rWrong s r).why, (rWrong s r).fa) : Num × Int × Int) = wrongR s rest := by
  have hl : rest.length = s.length - r.k := by rw [← h.drop, List.length_drop]
  have hle := h.le
  unfold rWrong wrongR
  rw [if_pos h.why]
  by_cases hk : s.length ≤ r.k
  · have hn : rest = [] := by rw [← h.drop]; exact List.drop_eq_nil_of_le hk
    rw [if_pos hk, if_pos hn, hn]
    exact ⟨by simp, by simp⟩
  · have hn : rest ≠ [] := by intro h0; rw [h0] at hl; simp at hl; omega
    rw [if_neg hk, if_neg hn, hl]
    have e : s.length - (s.length - r.k) = r.k := by omega
    rw [e]
    exact ⟨by simp, rfl⟩
theorem bad_is {s : List UInt8} {r : Rd} (h : r.why ≠ 0) (c : UInt8) : rIs s c r = false := by unfold rIs; simp [h]
theorem bad_may {s : List UInt8} {r : Rd} (h : r.why ≠ 0) (c : UInt8) : rMay s c r = r := by unfold rMay; rw [bad_is h]; simp
theorem bad_digs {s : List UInt8} {r : Rd} (h : r.why ≠ 0) : rDigs s r = [] := by unfold rDigs; rw [if_neg h]
theorem bad_wrong {s : List UInt8} {r : Rd} (h : r.why ≠ 0) : rWrong s r = r := by unfold rWrong; rw [if_neg h]
theorem bad9 {s : List UInt8} (h : (st9 s).why ≠ 0) : stF s = st9 s := by
  unfold stF; split
  · exact bad_wrong h
  · rfl
theorem bad5 {s : List UInt8} (h : (st5 s).why ≠ 0) : stF s = st5 s := by
  have he : stE s = false := by unfold stE; rw [bad_is h, bad_is h]; rfl
  have h9 : st9 s = st5 s := by unfold st9; rw [he]; simp
  rw [← h9] at h ⊢
  exact bad9 h
theorem bad3 {s : List UInt8} (h : (st3 s).why ≠ 0) : stF s = st3 s := by
  have h4 : st4 s = st3 s := bad_may h 46
  have hd : stD s = false := bad_is h 46
  have h5 : st5 s = st3 s := by unfold st5; rw [hd, h4]; simp
  rw [← h5] at h ⊢
  exact bad5 h
theorem parse_bad {s : List UInt8} {r : Rd} {rest : List UInt8} (hl : s.length ≤ 4096) (h : stF s = rWrong s r) (hr : AtR s r rest) : parseS s = wrongR s rest := by
  unfold parseS
  rw [if_neg (by omega), h, if_pos hr.wrong.1]
  exact hr.wrong.2
theorem parseS_eq (s : List UInt8) : parseS s = parseR s := by
  by_cases hl : 4096 < s.length
  · unfold parseS parseR; rw [if_pos hl, if_pos hl]
  have hl' : s.length ≤ 4096 := by omega
  have a0 : AtR s ⟨0, 0, 0⟩ s := ⟨rfl, rfl, Nat.zero_le _⟩
  have a1 : AtR s (st1 s) (afterSign s) := a0.may 45
  have hN : stN s = decide (s.head? = some 45) := a0.is 45
  have hZ : stZ s = decide ((afterSign s).head? = some 48) := a1.is 48
  have a2 := a1.may 48
  unfold parseR
  rw [if_neg hl]
  -- the whole digits
  by_cases hw : wholeR (afterSign s) = []
  · rw [if_pos hw]
    have hz : ¬ (afterSign s).head? = some 48 := by intro h; unfold wholeR at hw; rw [if_pos h] at hw; simp at hw
    have hz2 : stZ s = false := by rw [hZ]; simpa using hz
    have hd : digsR (afterSign s) = [] := by unfold wholeR at hw; rwa [if_neg hz] at hw
    rw [if_neg hz] at a2
    have h3 : st3 s = rWrong s (st2 s) := by unfold st3; rw [hz2]; simp only [Bool.false_eq_true, if_false]; exact a2.digits_none hd
    have hb := a2.wrong
    exact parse_bad hl' ((bad3 (by rw [h3]; exact hb.1)).trans h3) a2
  rw [if_neg hw]
  have hW : stW s = wholeR (afterSign s) ∧ AtR s (st3 s) (afterWhole (afterSign s)) := by
    unfold stW st3 wholeR afterWhole
    by_cases hz : (afterSign s).head? = some 48
    · have hz2 : stZ s = true := by rw [hZ]; simpa using hz
      rw [if_pos hz] at a2
      rw [hz2, if_pos hz, if_pos hz]
      exact ⟨rfl, a2⟩
    · have hz2 : stZ s = false := by rw [hZ]; simpa using hz
      rw [if_neg hz] at a2
      have hd : digsR (afterSign s) ≠ [] := by intro h; apply hw; unfold wholeR; rw [if_neg hz]; exact h
      rw [hz2, if_neg hz, if_neg hz]
      exact ⟨a2.digs, a2.digits hd⟩
  obtain ⟨hW, a3⟩ := hW
  generalize afterWhole (afterSign s) = t3 at *
  have hD : stD s = dotR t3 := a3.is 46
  have a4 := a3.may 46
  by_cases hp : dotR t3 = true ∧ partR t3 = []
  · rw [if_pos hp]
    have hh : t3.head? = some 46 := by have := hp.1; simpa [dotR] using this
    rw [if_pos hh] at a4
    have hd : digsR (t3.drop 1) = [] := by have := hp.2; unfold partR at this; rwa [if_pos hp.1] at this
    have hap : afterPart t3 = t3.drop 1 := by
      unfold afterPart; rw [if_pos hp.1]
      have := digs_rest (t3.drop 1); rw [hd] at this; simpa using this
    have h5 : st5 s = rWrong s (st4 s) := by unfold st5; rw [hD, hp.1, if_pos rfl]; exact a4.digits_none hd
    rw [hap]
    exact parse_bad hl' ((bad5 (by rw [h5]; exact a4.wrong.1)).trans h5) a4
  rw [if_neg hp]
  have hP : stP s = partR t3 ∧ AtR s (st5 s) (afterPart t3) := by
    unfold stP st5 partR afterPart
    rw [hD]
    cases hdt : dotR t3 with
    | true =>
      have hh : t3.head? = some 46 := by simpa [dotR] using hdt
      rw [if_pos hh] at a4
      have hd : digsR (t3.drop 1) ≠ [] := by intro h; apply hp; refine ⟨hdt, ?_⟩; unfold partR; rw [if_pos hdt]; exact h
      exact ⟨a4.digs, a4.digits hd⟩
    | false =>
      have hh : ¬ t3.head? = some 46 := by simpa [dotR] using hdt
      rw [if_neg hh] at a4
      exact ⟨rfl, a4⟩
  obtain ⟨hP, a5⟩ := hP
  generalize afterPart t3 = t5 at *
  have hE : stE s = exR t5 := by unfold stE exR; rw [a5.is, a5.is]
  cases hx : exR t5 with
  | false =>
    have h9 : st9 s = st5 s := by unfold st9; rw [hE, hx]; simp
    have hX : stX s = expR t5 := by unfold stX expR; rw [hE, hx]; simp
    have hend : endR t5 = t5 := by unfold endR; rw [hx]; simp
    rw [if_neg (by simp), hend]
    by_cases ht : t5 ≠ []
    · rw [if_pos ht]
      have hk : (st9 s).k < s.length := by
        rw [h9]
        rcases Nat.lt_or_ge (st5 s).k s.length with h1 | h1
        · exact h1
        · exact absurd (by rw [← a5.drop]; exact List.drop_eq_nil_of_le h1) ht
      exact parse_bad hl' (by unfold stF; rw [if_pos hk, h9]) a5
    · rw [if_neg ht]
      have ht : t5 = [] := by simpa using ht
      have hk : ¬ (st9 s).k < s.length := by
        rw [h9]; intro h1
        have := congrArg List.length a5.drop
        rw [ht, List.length_drop] at this; simp at this; omega
      have hF : stF s = st5 s := by unfold stF; rw [if_neg hk, h9]
      unfold parseS
      rw [if_neg hl, hF, if_neg (by simp [a5.why]), hN, hW, hP, hX]
  | true =>
    have hne : t5 ≠ [] := by rintro rfl; simp [exR] at hx
    have a6 : AtR s (st6 s) (t5.drop 1) := a5.step hne
    have hM : stM s = downR t5 := by unfold stM downR; rw [a6.is]
    have hU : stU s = decide ((t5.drop 1).head? = some 43) := a6.is 43
    have a7 : AtR s (st7 s) (afterE t5) := by
      unfold st7 afterE
      rw [hM, hU]
      by_cases hc : downR t5 = true ∨ (t5.drop 1).head? = some 43
      · have hn6 : t5.drop 1 ≠ [] := by
          rcases hc with h | h
          · unfold downR at h; exact head_ne (by simpa using h)
          · exact head_ne h
        rw [if_pos (by rw [Bool.or_eq_true, decide_eq_true_eq]; exact hc), if_pos hc]
        have := a6.step hn6
        rwa [List.drop_drop] at this
      · rw [if_neg (by rw [Bool.or_eq_true, decide_eq_true_eq]; exact hc), if_neg hc]
        exact a6
    have hG : stG s = digsR (afterE t5) := a7.digs
    have h9 : st9 s = st8 s := by unfold st9; rw [hE, hx]; simp
    by_cases hd : digsR (afterE t5) = []
    · rw [if_pos ⟨rfl, hd⟩]
      have h8 : st8 s = rWrong s (st7 s) := a7.digits_none hd
      exact parse_bad hl' ((bad9 (by rw [h9, h8]; exact a7.wrong.1)).trans (h9.trans h8)) a7
    · rw [if_neg (fun h => hd h.2)]
      have a8 : AtR s (st8 s) (restR (afterE t5)) := a7.digits hd
      have hend : endR t5 = restR (afterE t5) := by unfold endR; rw [hx]; simp
      have hX : stX s = expR t5 := by unfold stX expR; rw [hE, hx, hM, hG]
      rw [hend]
      by_cases ht : restR (afterE t5) ≠ []
      · rw [if_pos ht]
        have hk : (st9 s).k < s.length := by
          rw [h9]
          rcases Nat.lt_or_ge (st8 s).k s.length with h1 | h1
          · exact h1
          · exact absurd (by rw [← a8.drop]; exact List.drop_eq_nil_of_le h1) ht
        exact parse_bad hl' (by unfold stF; rw [if_pos hk, h9]) a8
      · rw [if_neg ht]
        have ht : restR (afterE t5) = [] := by simpa using ht
        have hk : ¬ (st9 s).k < s.length := by
          rw [h9]; intro h1
          have := congrArg List.length a8.drop
          rw [ht, List.length_drop] at this; simp at this; omega
        have hF : stF s = st8 s := by unfold stF; rw [if_neg hk, h9]
        unfold parseS
        rw [if_neg hl, hF, if_neg (by simp [a8.why]), hN, hW, hP, hX]
set_option maxHeartbeats 2000000 in
theorem law_DecReads (s : List UInt8) (w : World) (hs : s.length ≤ 9223372036854775807) (he : Env w) :
    Calls Tryz.prog 3 #[.string ⟨s.toArray⟩] w fun e w' => e = .returned (.bool true) ∧ Chg Pure' w w' := by
  have hP := fun w he => parse_of s w hs he
  have hR := fun w => rparse_of s w hs
  rw [parseS_eq, parse_eq] at hR
  generalize parseA s = P at *
  obtain ⟨⟨pn, pd, px⟩, y, at'⟩ := P
  have HP := Lib.hid hP
  have HR := Lib.hid hR
  clear hP hR
  dsimp only [Num.val, Flt] at HP HR
  go_enter Tryz.func3, Tryz.ntmps3
  go_wp2_with (first
    | (go_at_call 6; refine (HP.out _ he).mono ?_; rintro e w1 ⟨rfl, z1⟩)
    | (go_at_call 7; refine (HR.out _).mono ?_; rintro e w2 ⟨rfl, z2⟩
       obtain ⟨k1, k2⟩ := two_cells z2; obtain ⟨n0, n1, n2, -⟩ := blk_cells k1; obtain ⟨f0, f1, -⟩ := blk_cells2 k2; clear k1 k2
       have N0 : ∀ o o', ((w2.alloc o).alloc o').cell? ⟨w1.heap.size, 0, none⟩ = some (.bool pn) := fun o o' => (((Chg.refl Pure' w2).alloc o).alloc o').cell n0 (fun h => h)
       have N1 : ∀ o o', ((w2.alloc o).alloc o').cell? ⟨w1.heap.size, 1, none⟩ = some (.string ⟨pd.toArray⟩) := fun o o' => (((Chg.refl Pure' w2).alloc o).alloc o').cell n1 (fun h => h)
       have N2 : ∀ o o', ((w2.alloc o).alloc o').cell? ⟨w1.heap.size, 2, none⟩ = some (.int .i64 px) := fun o o' => (((Chg.refl Pure' w2).alloc o).alloc o').cell n2 (fun h => h)
       have M0 : ∀ o o', ((w2.alloc o).alloc o').cell? ⟨w1.heap.size + 1, 0, none⟩ = some (.int .i64 y) := fun o o' => (((Chg.refl Pure' w2).alloc o).alloc o').cell f0 (fun h => h)
       have M1 : ∀ o o', ((w2.alloc o).alloc o').cell? ⟨w1.heap.size + 1, 1, none⟩ = some (.int .i64 at') := fun o o' => (((Chg.refl Pure' w2).alloc o).alloc o').cell f1 (fun h => h)
       clear n0 n1 n2 f0 f1)
    | (go_at_call 8; refine (alive06 _ (he.pure ((((z1.alloc _).alloc _).trans' z2).trans' (((Chg.refl Pure' w2).alloc _).alloc _)))).mono ?_; rintro e w3 ⟨rfl, z3⟩))
  go_ret
  exact ⟨rfl, ((((z1.alloc _).alloc _).trans' z2).trans' (((Chg.refl Pure' w2).alloc _).alloc _)).trans' z3⟩
end Go.Proofs.YtkplgndcbngjoaaGreatDoor
