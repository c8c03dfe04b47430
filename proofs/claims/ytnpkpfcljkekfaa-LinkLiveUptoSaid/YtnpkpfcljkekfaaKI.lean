/- Deliver, Drop, Twice and Turn at any net and place. -/
import Derived.Test.YtnpkpfcljkekfaaLinkU
import Derived.Test.YtnpkpfcljkekfaaLinkS
import Derived.Test.YtnpkpfcljkekfaaLinkR
import Derived.Test.YtnpkpfcljkekfaaKH
import Derived.Test.YtnpkpfcljkekfaaLinkX
import Derived.Test.YtnpkpfcljkekfaaLinkV
import Derived.Test.YtnpkpfcljkekfaaLinkY
namespace Go.Proofs.Ytnpkpfcljkekfaa
open Go Go.RowKit
set_option linter.unusedVariables false
set_option maxRecDepth 100000
set_option linter.unusedSimpArgs false

theorem ldeliver_err {w : World} {p : Nat} (n i k : Int) (hk : k ≠ 0) (h : Calls Try.prog 63 #[.pointer (some ⟨p, 0, none⟩), .int .i64 n, .int .i64 i] w fun e w' => e = .returned (.tuple #[.pointer none, .int .i64 k]) ∧ w = w') :
    Calls Try.prog 26 #[.pointer (some ⟨p, 0, none⟩), .int .i64 n, .int .i64 i] w fun e w' => e = .returned (.int .i64 k) ∧ w = w' := by
  have H := Lib.hid h
  have i1 : (k != 0) = true := by rw [bne_iff_ne]; exact hk
  have i2 : (k == 0) = false := by rw [beq_eq_false_iff_ne]; exact hk
  have i3 : (k = 0) = False := eq_false hk
  clear h hk
  go_enter Try.func26, Try.ntmps26
  go_wp2_with (fail)
  refine H.out.mono ?_
  rintro e w1 ⟨rfl, rfl⟩
  go_wp2
  go_ret
  exact ⟨rfl, rfl⟩
theorem ldrop_err {w : World} {p : Nat} (n i k : Int) (hk : k ≠ 0) (h : Calls Try.prog 63 #[.pointer (some ⟨p, 0, none⟩), .int .i64 n, .int .i64 i] w fun e w' => e = .returned (.tuple #[.pointer none, .int .i64 k]) ∧ w = w') :
    Calls Try.prog 53 #[.pointer (some ⟨p, 0, none⟩), .int .i64 n, .int .i64 i] w fun e w' => e = .returned (.int .i64 k) ∧ w = w' := by
  have H := Lib.hid h
  have i1 : (k != 0) = true := by rw [bne_iff_ne]; exact hk
  have i2 : (k == 0) = false := by rw [beq_eq_false_iff_ne]; exact hk
  have i3 : (k = 0) = False := eq_false hk
  clear h hk
  go_enter Try.func53, Try.ntmps53
  go_wp2_with (fail)
  refine H.out.mono ?_
  rintro e w1 ⟨rfl, rfl⟩
  go_wp2
  go_ret
  exact ⟨rfl, rfl⟩
theorem ltwice_err {w : World} {p : Nat} (n i k : Int) (hk : k ≠ 0) (h : Calls Try.prog 63 #[.pointer (some ⟨p, 0, none⟩), .int .i64 n, .int .i64 i] w fun e w' => e = .returned (.tuple #[.pointer none, .int .i64 k]) ∧ w = w') :
    Calls Try.prog 54 #[.pointer (some ⟨p, 0, none⟩), .int .i64 n, .int .i64 i] w fun e w' => e = .returned (.int .i64 k) ∧ w = w' := by
  have H := Lib.hid h
  have i1 : (k != 0) = true := by rw [bne_iff_ne]; exact hk
  have i2 : (k == 0) = false := by rw [beq_eq_false_iff_ne]; exact hk
  have i3 : (k = 0) = False := eq_false hk
  clear h hk
  go_enter Try.func54, Try.ntmps54
  go_wp2_with (fail)
  refine H.out.mono ?_
  rintro e w1 ⟨rfl, rfl⟩
  go_wp2
  go_ret
  exact ⟨rfl, rfl⟩
theorem lturn_err {w : World} {p : Nat} (n i k : Int) (hk : k ≠ 0) (a : Int) (b : UInt32) (h : Calls Try.prog 63 #[.pointer (some ⟨p, 0, none⟩), .int .i64 n, .int .i64 i] w fun e w' => e = .returned (.tuple #[.pointer none, .int .i64 k]) ∧ w = w') :
    Calls Try.prog 55 #[.pointer (some ⟨p, 0, none⟩), .int .i64 n, .int .i64 i, .int .i64 a, .int .u32 (b.toNat : Int)] w fun e w' => e = .returned (.int .i64 k) ∧ w = w' := by
  have H := Lib.hid h
  have i1 : (k != 0) = true := by rw [bne_iff_ne]; exact hk
  have i2 : (k == 0) = false := by rw [beq_eq_false_iff_ne]; exact hk
  have i3 : (k = 0) = False := eq_false hk
  clear h hk
  go_enter Try.func55, Try.ntmps55
  go_wp2_with (fail)
  refine H.out.mono ?_
  rintro e w1 ⟨rfl, rfl⟩
  go_wp2
  go_ret
  exact ⟨rfl, rfl⟩
/-- What find answers where there is no datagram. -/
def findE (s : Lp) (n i : Int) : Int :=
  if n = 0 then (if 0 ≤ i ∧ i < s.G0.length then 0 else 15) else if n = 1 then (if 0 ≤ i ∧ i < s.G1.length then 0 else 15) else 1
theorem lfind_err {w : World} {B : Base} {p : Nat} {s : Lp} (h : LinkIn w B p s) (n i : Int) (he : findE s n i ≠ 0) :
    Calls Try.prog 63 #[.pointer (some ⟨p, 0, none⟩), .int .i64 n, .int .i64 i] w fun e w' => e = .returned (.tuple #[.pointer none, .int .i64 (findE s n i)]) ∧ w = w' := by
  obtain ⟨m, col, rfl, rfl, h⟩ := h
  have l0 : m.pl.G0.length = m.G0.length := by simp [Lm.pl]
  have l1 : m.pl.G1.length = m.G1.length := by simp [Lm.pl]
  unfold findE at he ⊢
  by_cases h0 : n = 0
  · subst h0
    rw [if_pos rfl] at he ⊢
    by_cases hi : 0 ≤ i ∧ i < m.pl.G0.length
    · rw [if_pos hi] at he; exact absurd rfl he
    · rw [if_neg hi]; exact lfind_none0 h i (by rw [← l0]; exact hi)
  · rw [if_neg h0] at he ⊢
    by_cases h1 : n = 1
    · subst h1
      rw [if_pos rfl] at he ⊢
      by_cases hi : 0 ≤ i ∧ i < m.pl.G1.length
      · rw [if_pos hi] at he; exact absurd rfl he
      · rw [if_neg hi]; exact lfind_none1 h i (by rw [← l1]; exact hi)
    · rw [if_neg h1]; exact lfind_net h n i (by rintro (h | h); exact h0 h; exact h1 h)
theorem getD_get {α : Type} (G : List α) (i : Nat) (d : α) (h : i < G.length) : G[i]? = some (G.getD i d) := by
  rw [List.getD_eq_getElem?_getD, List.getElem?_eq_getElem h]; rfl
theorem ldeliver_any {w : World} {B : Base} {p : Nat} {s : Lp} (h : LinkIn w B p s) (n i : Int) (hT : s.T ≤ 4611686018427387904) :
    Calls Try.prog 26 #[.pointer (some ⟨p, 0, none⟩), .int .i64 n, .int .i64 i] w (delivPost w B p (deliverL s n i)) := by
  by_cases he : findE s n i = 0
  · unfold findE at he
    unfold deliverL
    by_cases h0 : n = 0
    · subst h0
      rw [if_pos rfl] at he ⊢
      by_cases hi : 0 ≤ i ∧ i < s.G0.length
      · rw [if_pos hi]
        obtain ⟨k, rfl⟩ : ∃ k : Nat, i = k := ⟨i.toNat, by omega⟩
        have hk : k < s.G0.length := by omega
        have := ldeliver_in0 h k (s.G0.getD k ([], false)).1 (s.G0.getD k ([], false)).2 (getD_get _ _ _ hk) hT
        exact this
      · rw [if_neg hi] at he; omega
    · rw [if_neg h0] at he ⊢
      by_cases h1 : n = 1
      · subst h1
        rw [if_pos rfl] at he ⊢
        by_cases hi : 0 ≤ i ∧ i < s.G1.length
        · rw [if_pos hi]
          obtain ⟨k, rfl⟩ : ∃ k : Nat, i = k := ⟨i.toNat, by omega⟩
          have hk : k < s.G1.length := by omega
          have := ldeliver_in1 h k (s.G1.getD k ([], false)).1 (s.G1.getD k ([], false)).2 (getD_get _ _ _ hk) hT
          exact this
        · rw [if_neg hi] at he; omega
      · rw [if_neg h1] at he; omega
  · refine (ldeliver_err n i _ he (lfind_err h n i he)).mono ?_
    rintro e w' ⟨rfl, rfl⟩
    have e2 : deliverL s n i = (findE s n i, s) := by
      unfold findE at he ⊢
      unfold deliverL
      by_cases h0 : n = 0
      · rw [if_pos h0] at he ⊢
        rw [if_pos h0]
        by_cases hi : 0 ≤ i ∧ i < s.G0.length
        · rw [if_pos hi] at he; exact absurd rfl he
        · rw [if_neg hi, if_neg hi]
      · rw [if_neg h0] at he ⊢
        rw [if_neg h0]
        by_cases h1 : n = 1
        · rw [if_pos h1] at he ⊢
          rw [if_pos h1]
          by_cases hi : 0 ≤ i ∧ i < s.G1.length
          · rw [if_pos hi] at he; exact absurd rfl he
          · rw [if_neg hi, if_neg hi]
        · rw [if_neg h1, if_neg h1]
    rw [e2]
    exact ⟨rfl, h, Chg.refl _ _⟩
end Go.Proofs.Ytnpkpfcljkekfaa
namespace Go.Proofs.Ytnpkpfcljkekfaa
open Go Go.RowKit
set_option linter.unusedVariables false
set_option maxRecDepth 100000
set_option linter.unusedSimpArgs false

theorem pl_at0 (m : Lm) (k : Nat) (hk : k < m.G0.length) : m.pl.G0.getD k ([], false) = ((m.G0[k]).xs, (m.G0[k]).sp) := by
  show (m.G0.map fun g => (g.xs, g.sp)).getD k ([], false) = _
  rw [List.getD_eq_getElem?_getD, List.getElem?_map, List.getElem?_eq_getElem hk]
  rfl
theorem pl_at1 (m : Lm) (k : Nat) (hk : k < m.G1.length) : m.pl.G1.getD k ([], false) = ((m.G1[k]).xs, (m.G1[k]).sp) := by
  show (m.G1.map fun g => (g.xs, g.sp)).getD k ([], false) = _
  rw [List.getD_eq_getElem?_getD, List.getElem?_map, List.getElem?_eq_getElem hk]
  rfl
theorem ldrop_any {w : World} {B : Base} {p : Nat} {s : Lp} (h : LinkIn w B p s) (n i : Int) :
    Calls Try.prog 53 #[.pointer (some ⟨p, 0, none⟩), .int .i64 n, .int .i64 i] w (outPost w B p (dropL s n i)) := by
  by_cases he : findE s n i = 0
  · unfold findE at he
    unfold dropL
    by_cases h0 : n = 0
    · subst h0
      rw [if_pos rfl] at he ⊢
      have hi : 0 ≤ i ∧ i < s.G0.length := by
        apply Classical.byContradiction; intro hi; rw [if_neg hi] at he; omega
      obtain ⟨m, col, rfl, rfl, h⟩ := h
      obtain ⟨k, rfl⟩ : ∃ k : Nat, i = k := ⟨i.toNat, by omega⟩
      have l0 : m.pl.G0.length = m.G0.length := by simp [Lm.pl]
      have hk : k < m.G0.length := by omega
      have H := ldrop_ok0 h k hk
      rw [if_pos (show 0 ≤ (k : Int) ∧ (k : Int) < m.pl.G0.length from by omega), Int.toNat_natCast]
      exact H
    · rw [if_neg h0] at he ⊢
      have h1 : n = 1 := by
        apply Classical.byContradiction; intro h1; rw [if_neg h1] at he; omega
      subst h1
      rw [if_pos rfl] at he ⊢
      have hi : 0 ≤ i ∧ i < s.G1.length := by
        apply Classical.byContradiction; intro hi; rw [if_neg hi] at he; omega
      obtain ⟨m, col, rfl, rfl, h⟩ := h
      obtain ⟨k, rfl⟩ : ∃ k : Nat, i = k := ⟨i.toNat, by omega⟩
      have l0 : m.pl.G1.length = m.G1.length := by simp [Lm.pl]
      have hk : k < m.G1.length := by omega
      have H := ldrop_ok1 h k hk
      rw [if_pos (show 0 ≤ (k : Int) ∧ (k : Int) < m.pl.G1.length from by omega), Int.toNat_natCast]
      exact H
  · refine (ldrop_err n i _ he (lfind_err h n i he)).mono ?_
    rintro e w' ⟨rfl, rfl⟩
    have e2 : dropL s n i = (findE s n i, s) := by
      unfold findE at he ⊢
      unfold dropL
      by_cases h0 : n = 0
      · rw [if_pos h0] at he ⊢
        rw [if_pos h0]
        by_cases hi : 0 ≤ i ∧ i < s.G0.length
        · rw [if_pos hi] at he; exact absurd rfl he
        · rw [if_neg hi, if_neg hi]
      · rw [if_neg h0] at he ⊢
        rw [if_neg h0]
        by_cases h1 : n = 1
        · rw [if_pos h1] at he ⊢
          rw [if_pos h1]
          by_cases hi : 0 ≤ i ∧ i < s.G1.length
          · rw [if_pos hi] at he; exact absurd rfl he
          · rw [if_neg hi, if_neg hi]
        · rw [if_neg h1, if_neg h1]
    rw [e2]
    exact ⟨rfl, h, Chg.refl _ _⟩
theorem ltwice_any {w : World} {B : Base} {p : Nat} {s : Lp} (h : LinkIn w B p s) (n i : Int) :
    Calls Try.prog 54 #[.pointer (some ⟨p, 0, none⟩), .int .i64 n, .int .i64 i] w (outPost w B p (twiceL s n i)) := by
  by_cases he : findE s n i = 0
  · unfold findE at he
    unfold twiceL
    by_cases h0 : n = 0
    · subst h0
      rw [if_pos rfl] at he ⊢
      have hi : 0 ≤ i ∧ i < s.G0.length := by
        apply Classical.byContradiction; intro hi; rw [if_neg hi] at he; omega
      obtain ⟨m, col, rfl, rfl, h⟩ := h
      obtain ⟨k, rfl⟩ : ∃ k : Nat, i = k := ⟨i.toNat, by omega⟩
      have l0 : m.pl.G0.length = m.G0.length := by simp [Lm.pl]
      have hk : k < m.G0.length := by omega
      have H := ltwice_ok0 h k hk
      rw [if_pos (show 0 ≤ (k : Int) ∧ (k : Int) < m.pl.G0.length from by omega), Int.toNat_natCast]
      rw [pl_at0 m k hk]
      exact H
    · rw [if_neg h0] at he ⊢
      have h1 : n = 1 := by
        apply Classical.byContradiction; intro h1; rw [if_neg h1] at he; omega
      subst h1
      rw [if_pos rfl] at he ⊢
      have hi : 0 ≤ i ∧ i < s.G1.length := by
        apply Classical.byContradiction; intro hi; rw [if_neg hi] at he; omega
      obtain ⟨m, col, rfl, rfl, h⟩ := h
      obtain ⟨k, rfl⟩ : ∃ k : Nat, i = k := ⟨i.toNat, by omega⟩
      have l0 : m.pl.G1.length = m.G1.length := by simp [Lm.pl]
      have hk : k < m.G1.length := by omega
      have H := ltwice_ok1 h k hk
      rw [if_pos (show 0 ≤ (k : Int) ∧ (k : Int) < m.pl.G1.length from by omega), Int.toNat_natCast]
      rw [pl_at1 m k hk]
      exact H
  · refine (ltwice_err n i _ he (lfind_err h n i he)).mono ?_
    rintro e w' ⟨rfl, rfl⟩
    have e2 : twiceL s n i = (findE s n i, s) := by
      unfold findE at he ⊢
      unfold twiceL
      by_cases h0 : n = 0
      · rw [if_pos h0] at he ⊢
        rw [if_pos h0]
        by_cases hi : 0 ≤ i ∧ i < s.G0.length
        · rw [if_pos hi] at he; exact absurd rfl he
        · rw [if_neg hi, if_neg hi]
      · rw [if_neg h0] at he ⊢
        rw [if_neg h0]
        by_cases h1 : n = 1
        · rw [if_pos h1] at he ⊢
          rw [if_pos h1]
          by_cases hi : 0 ≤ i ∧ i < s.G1.length
          · rw [if_pos hi] at he; exact absurd rfl he
          · rw [if_neg hi, if_neg hi]
        · rw [if_neg h1, if_neg h1]
    rw [e2]
    exact ⟨rfl, h, Chg.refl _ _⟩
end Go.Proofs.Ytnpkpfcljkekfaa
namespace Go.Proofs.Ytnpkpfcljkekfaa
open Go Go.RowKit
set_option linter.unusedVariables false
set_option maxRecDepth 100000
set_option linter.unusedSimpArgs false

/-- What is on its way and was not turned has eight bytes or more. -/
structure Framed (s : Lp) : Prop where
  f0 : ∀ (i : Nat) (b : List UInt8), s.G0[i]? = some (b, false) → 8 ≤ b.length
  f1 : ∀ (i : Nat) (b : List UInt8), s.G1[i]? = some (b, false) → 8 ≤ b.length
theorem At.framed {N : Nat} {s : Lp} {S : List (List UInt8)} (h : At N s S) (hN : N ≤ 4611686018427386000) : Framed s := by
  refine ⟨fun i b hi => ?_, fun i b hi => ?_⟩
  · obtain ⟨l, rfl⟩ := frame0 h.good (h.fit hN).near i b hi
    rw [frameB_len]; omega
  · obtain ⟨l, rfl⟩ := frame1 h.good (h.fit hN).near i b hi
    rw [frameB_len]; omega
theorem pl_get0 (m : Lm) (k : Nat) (hk : k < m.G0.length) (hs : (m.G0[k]).sp = false) : m.pl.G0[k]? = some ((m.G0[k]).xs, false) := by
  show (m.G0.map fun g => (g.xs, g.sp))[k]? = _
  rw [List.getElem?_map, List.getElem?_eq_getElem hk, ← hs]
  rfl
theorem pl_get1 (m : Lm) (k : Nat) (hk : k < m.G1.length) (hs : (m.G1[k]).sp = false) : m.pl.G1[k]? = some ((m.G1[k]).xs, false) := by
  show (m.G1.map fun g => (g.xs, g.sp))[k]? = _
  rw [List.getElem?_map, List.getElem?_eq_getElem hk, ← hs]
  rfl
theorem lturn_any {w : World} {B : Base} {p : Nat} {s : Lp} (h : LinkIn w B p s) (n i : Int) (at_ : Int) (hat : -9223372036854775808 ≤ at_ ∧ at_ ≤ 9223372036854775807) (b : UInt32) (h8 : Framed s) :
    Calls Try.prog 55 #[.pointer (some ⟨p, 0, none⟩), .int .i64 n, .int .i64 i, .int .i64 at_, .int .u32 (b.toNat : Int)] w (outPost w B p (turnL s n i at_ b)) := by
  by_cases he : findE s n i = 0
  · unfold findE at he
    unfold turnL
    by_cases h0 : n = 0
    · subst h0
      rw [if_pos rfl] at he ⊢
      have hi : 0 ≤ i ∧ i < s.G0.length := by
        apply Classical.byContradiction; intro hi; rw [if_neg hi] at he; omega
      obtain ⟨m, col, rfl, rfl, h⟩ := h
      obtain ⟨k, rfl⟩ : ∃ k : Nat, i = k := ⟨i.toNat, by omega⟩
      have l0 : m.pl.G0.length = m.G0.length := by simp [Lm.pl]
      have hk : k < m.G0.length := by omega
      have H := lturn_ok0 h k hk at_ hat b (fun hs => h8.f0 k _ (pl_get0 m k hk hs))
      rw [if_pos (show 0 ≤ (k : Int) ∧ (k : Int) < m.pl.G0.length from by omega), Int.toNat_natCast]
      rw [pl_at0 m k hk]
      exact H
    · rw [if_neg h0] at he ⊢
      have h1 : n = 1 := by
        apply Classical.byContradiction; intro h1; rw [if_neg h1] at he; omega
      subst h1
      rw [if_pos rfl] at he ⊢
      have hi : 0 ≤ i ∧ i < s.G1.length := by
        apply Classical.byContradiction; intro hi; rw [if_neg hi] at he; omega
      obtain ⟨m, col, rfl, rfl, h⟩ := h
      obtain ⟨k, rfl⟩ : ∃ k : Nat, i = k := ⟨i.toNat, by omega⟩
      have l0 : m.pl.G1.length = m.G1.length := by simp [Lm.pl]
      have hk : k < m.G1.length := by omega
      have H := lturn_ok1 h k hk at_ hat b (fun hs => h8.f1 k _ (pl_get1 m k hk hs))
      rw [if_pos (show 0 ≤ (k : Int) ∧ (k : Int) < m.pl.G1.length from by omega), Int.toNat_natCast]
      rw [pl_at1 m k hk]
      exact H
  · refine (lturn_err n i _ he at_ b (lfind_err h n i he)).mono ?_
    rintro e w' ⟨rfl, rfl⟩
    have e2 : turnL s n i at_ b = (findE s n i, s) := by
      unfold findE at he ⊢
      unfold turnL
      by_cases h0 : n = 0
      · rw [if_pos h0] at he ⊢
        rw [if_pos h0]
        by_cases hi : 0 ≤ i ∧ i < s.G0.length
        · rw [if_pos hi] at he; exact absurd rfl he
        · rw [if_neg hi, if_neg hi]
      · rw [if_neg h0] at he ⊢
        rw [if_neg h0]
        by_cases h1 : n = 1
        · rw [if_pos h1] at he ⊢
          rw [if_pos h1]
          by_cases hi : 0 ≤ i ∧ i < s.G1.length
          · rw [if_pos hi] at he; exact absurd rfl he
          · rw [if_neg hi, if_neg hi]
        · rw [if_neg h1, if_neg h1]
    rw [e2]
    exact ⟨rfl, h, Chg.refl _ _⟩
end Go.Proofs.Ytnpkpfcljkekfaa
namespace Go.Proofs.Ytnpkpfcljkekfaa
open Go Go.RowKit
set_option linter.unusedVariables false
set_option maxRecDepth 100000
set_option linter.unusedSimpArgs false

theorem lforge_net {w : World} {B : Base} {col : Nat → Nat} {L : Lm} (h : LinkAt w B col L) (n : Int) (hn : ¬ (n = 0 ∨ n = 1)) (A : Option Addr) (k c : Nat) :
    Calls Try.prog 56 #[.pointer (some ⟨L.p, 0, none⟩), .int .i64 n, .slice A k c] w fun e w' => e = .returned (.int .i64 1) ∧ w = w' := by
  have H := Lib.hid (lok_any h)
  have x5 := h.lk.c5
  clear h
  by_cases h0 : n < 0
  · clear hn
    go_enter Try.func56, Try.ntmps56
    go_wp2_with (fail)
    refine H.out.mono ?_
    rintro e w1 ⟨rfl, rfl⟩
    go_wp2
    go_ret
    exact ⟨rfl, rfl⟩
  · have h1 : 2 ≤ n := by omega
    have h2 : (n < 0) = False := eq_false h0
    clear hn h0
    go_enter Try.func56, Try.ntmps56
    go_wp2_with (fail)
    refine H.out.mono ?_
    rintro e w1 ⟨rfl, rfl⟩
    go_wp2
    go_ret
    exact ⟨rfl, rfl⟩
theorem lforge_any {w : World} {B : Base} {p : Nat} {s : Lp} (h : LinkIn w B p s) (k : Int) (A : Option Addr) (n c : Nat) (xs : List UInt8) (hA : Bytes w A n xs) (hc : n ≤ c) :
    Calls Try.prog 56 #[.pointer (some ⟨p, 0, none⟩), .int .i64 k, .slice A n c] w (outPost w B p (forgeL s k xs)) := by
  have hl := hA.len
  by_cases hk : k = 0 ∨ k = 1
  · obtain ⟨m, col, rfl, rfl, h⟩ := h
    unfold forgeL
    rw [if_neg (fun hh => hh hk), hl]
    rcases hk with rfl | rfl
    · rw [if_pos rfl]
      exact lforge_ok0 h A n c xs hA hc
    · rw [if_neg (show ¬ (1 : Int) = 0 from by decide)]
      exact lforge_ok1 h A n c xs hA hc
  · have h1 := h
    obtain ⟨m, col, rfl, rfl, h⟩ := h
    refine (lforge_net h k hk A n c).mono ?_
    rintro e w' ⟨rfl, rfl⟩
    rw [show forgeL m.pl k xs = (1, m.pl) from by unfold forgeL; rw [if_pos hk]]
    exact ⟨rfl, h1, Chg.refl _ _⟩
end Go.Proofs.Ytnpkpfcljkekfaa
namespace Go.Proofs.Ytnpkpfcljkekfaa
open Go Go.RowKit
set_option linter.unusedVariables false
set_option maxRecDepth 100000
set_option linter.unusedSimpArgs false

/-- What does answers, and the link behind it. -/
def doesPost (w : World) (B : Base) (p : Nat) (r : (List UInt8 × Bool × Int) × Lp) (e : Ending) (w' : World) : Prop :=
  LinkIn w' B p r.2 ∧ Chg (fun k => B.ok k) w w' ∧ ∃ A n c, e = .returned (.tuple #[.slice A n c, .bool r.1.2.1, .int .i64 r.1.2.2]) ∧ n ≤ c ∧ n ≤ 1200 ∧ Bytes w' A n r.1.1
/-- Numbers that are far from the bounds. -/
structure Room (s : Lp) : Prop where
  T : s.T ≤ 4611686018427380000
  got : s.got ≤ 4611686018427380000
  cnt : s.cnt ≤ 4611686018427380000
  sent : s.sent ≤ 4611686018427380000
  epoch : s.epoch ≤ 4611686018427380000
set_option maxHeartbeats 4000000 in
theorem ldoes_0 {w : World} {B : Base} {p : Nat} {s : Lp} (h : LinkIn w B p s) (hb : Room s) (net i at_ : Int) (hat : -9223372036854775808 ≤ at_ ∧ at_ ≤ 9223372036854775807) (b : UInt32) (h8 : Framed s) (A : Option Addr) (n c : Nat) (xs : List UInt8) (hA : Bytes w A n xs) (hc : n ≤ c) (hn : n ≤ 140737488351232) :
    Calls Try.prog 22 #[.pointer (some ⟨p, 0, none⟩), .agg (actV 0 net i at_ b A n c)] w (doesPost w B p (actL s 0 net i at_ b xs)) := by
  have ca : Chg Pure' w (w.alloc (.cells (actV 0 net i at_ b A n c) 49)) := (Chg.refl _ _).alloc _
  have h1 := h.pure ca
  have H := Lib.hid (lsend_any h1 A n c xs (hA.pure ca) hn (by have := hb.cnt; omega) (by have := hb.sent; omega))
  have HR : actL s 0 net i at_ b xs = (([], false, (sendL s xs).1), (sendL s xs).2) := by unfold actL; rw [if_pos rfl]
  rw [HR]
  have CA := Lib.hid ca
  clear h h1 HR ca h8 hA
  unfold actV at *
  go_enter Try.func22, Try.ntmps22
  go_wp2_with (fail)
  refine H.out.mono ?_
  rintro e w1 ⟨rfl, h2, c2⟩
  go_wp2
  go_ret3
  exact ⟨h2, CA.out.of_pure.trans' c2, none, 0, 0, rfl, Nat.le_refl _, by decide, Bytes.nil _ _⟩
set_option maxHeartbeats 4000000 in
theorem ldoes_1 {w : World} {B : Base} {p : Nat} {s : Lp} (h : LinkIn w B p s) (hb : Room s) (net i at_ : Int) (hat : -9223372036854775808 ≤ at_ ∧ at_ ≤ 9223372036854775807) (b : UInt32) (h8 : Framed s) (A : Option Addr) (n c : Nat) (xs : List UInt8) (hA : Bytes w A n xs) (hc : n ≤ c) (hn : n ≤ 140737488351232) :
    Calls Try.prog 22 #[.pointer (some ⟨p, 0, none⟩), .agg (actV 1 net i at_ b A n c)] w (doesPost w B p (actL s 1 net i at_ b xs)) := by
  have ca : Chg Pure' w (w.alloc (.cells (actV 1 net i at_ b A n c) 49)) := (Chg.refl _ _).alloc _
  have h1 := h.pure ca
  have H := Lib.hid (lpoll_any h1 (by have := hb.T; omega) (by have := hb.got; omega))
  have HR : actL s 1 net i at_ b xs = (((pollL s).1.getD [], (pollL s).1.isSome, 0), (pollL s).2) := by unfold actL; rw [if_neg (by decide), if_pos rfl]
  rw [HR]
  have CA := Lib.hid ca
  clear h h1 HR ca h8 hA
  unfold actV at *
  go_enter Try.func22, Try.ntmps22
  go_wp2_with (fail)
  refine H.out.mono ?_
  rintro e w1 ⟨h2, c2, hq⟩
  obtain ⟨q, hqE⟩ : ∃ q, (pollL s).1 = q := ⟨_, rfl⟩
  rw [hqE] at hq
  have HQ := Lib.hid hqE
  clear hqE
  cases q with
  | none =>
    simp only at hq
    subst hq
    go_wp2
    go_ret3
    exact ⟨h2, CA.out.of_pure.trans' c2, none, 0, 0, by rw [HQ.out]; rfl, Nat.le_refl _, by decide, by rw [HQ.out]; exact Bytes.nil _ _⟩
  | some ys =>
    simp only at hq
    obtain ⟨A2, n2, c3, rfl, k1, k2, k3⟩ := hq
    go_wp2
    go_ret3
    exact ⟨h2, CA.out.of_pure.trans' c2, A2, n2, c3, by rw [HQ.out]; rfl, k1, k2, by rw [HQ.out]; exact k3⟩
set_option maxHeartbeats 4000000 in
theorem ldoes_2 {w : World} {B : Base} {p : Nat} {s : Lp} (h : LinkIn w B p s) (hb : Room s) (net i at_ : Int) (hat : -9223372036854775808 ≤ at_ ∧ at_ ≤ 9223372036854775807) (b : UInt32) (h8 : Framed s) (A : Option Addr) (n c : Nat) (xs : List UInt8) (hA : Bytes w A n xs) (hc : n ≤ c) (hn : n ≤ 140737488351232) :
    Calls Try.prog 22 #[.pointer (some ⟨p, 0, none⟩), .agg (actV 2 net i at_ b A n c)] w (doesPost w B p (actL s 2 net i at_ b xs)) := by
  have ca : Chg Pure' w (w.alloc (.cells (actV 2 net i at_ b A n c) 49)) := (Chg.refl _ _).alloc _
  have h1 := h.pure ca
  have H := Lib.hid (ltick_any h1 (by have := hb.T; omega))
  have HR : actL s 2 net i at_ b xs = (([], false, 0), tickL s) := by unfold actL; rw [if_neg (by decide), if_neg (by decide), if_pos rfl]
  rw [HR]
  have CA := Lib.hid ca
  clear h h1 HR ca h8 hA
  unfold actV at *
  go_enter Try.func22, Try.ntmps22
  go_wp2_with (fail)
  refine H.out.mono ?_
  rintro e w1 ⟨rfl, h2, c2⟩
  go_wp2
  go_ret3
  exact ⟨h2, CA.out.of_pure.trans' c2, none, 0, 0, rfl, Nat.le_refl _, by decide, Bytes.nil _ _⟩
set_option maxHeartbeats 4000000 in
theorem ldoes_3 {w : World} {B : Base} {p : Nat} {s : Lp} (h : LinkIn w B p s) (hb : Room s) (net i at_ : Int) (hat : -9223372036854775808 ≤ at_ ∧ at_ ≤ 9223372036854775807) (b : UInt32) (h8 : Framed s) (A : Option Addr) (n c : Nat) (xs : List UInt8) (hA : Bytes w A n xs) (hc : n ≤ c) (hn : n ≤ 140737488351232) :
    Calls Try.prog 22 #[.pointer (some ⟨p, 0, none⟩), .agg (actV 3 net i at_ b A n c)] w (doesPost w B p (actL s 3 net i at_ b xs)) := by
  have ca : Chg Pure' w (w.alloc (.cells (actV 3 net i at_ b A n c) 49)) := (Chg.refl _ _).alloc _
  have h1 := h.pure ca
  have H := Lib.hid (ldeliver_any h1 net i (by have := hb.T; omega))
  have HR : actL s 3 net i at_ b xs = (([], false, (deliverL s net i).1), (deliverL s net i).2) := by unfold actL; rw [if_neg (by decide), if_neg (by decide), if_neg (by decide), if_pos rfl]
  rw [HR]
  have CA := Lib.hid ca
  clear h h1 HR ca h8 hA
  unfold actV at *
  go_enter Try.func22, Try.ntmps22
  go_wp2_with (fail)
  refine H.out.mono ?_
  rintro e w1 ⟨rfl, h2, c2⟩
  go_wp2
  go_ret3
  exact ⟨h2, CA.out.of_pure.trans' c2, none, 0, 0, rfl, Nat.le_refl _, by decide, Bytes.nil _ _⟩
set_option maxHeartbeats 4000000 in
theorem ldoes_4 {w : World} {B : Base} {p : Nat} {s : Lp} (h : LinkIn w B p s) (hb : Room s) (net i at_ : Int) (hat : -9223372036854775808 ≤ at_ ∧ at_ ≤ 9223372036854775807) (b : UInt32) (h8 : Framed s) (A : Option Addr) (n c : Nat) (xs : List UInt8) (hA : Bytes w A n xs) (hc : n ≤ c) (hn : n ≤ 140737488351232) :
    Calls Try.prog 22 #[.pointer (some ⟨p, 0, none⟩), .agg (actV 4 net i at_ b A n c)] w (doesPost w B p (actL s 4 net i at_ b xs)) := by
  have ca : Chg Pure' w (w.alloc (.cells (actV 4 net i at_ b A n c) 49)) := (Chg.refl _ _).alloc _
  have h1 := h.pure ca
  have H := Lib.hid (ldrop_any h1 net i)
  have HR : actL s 4 net i at_ b xs = (([], false, (dropL s net i).1), (dropL s net i).2) := by unfold actL; rw [if_neg (by decide), if_neg (by decide), if_neg (by decide), if_neg (by decide), if_pos rfl]
  rw [HR]
  have CA := Lib.hid ca
  clear h h1 HR ca h8 hA
  unfold actV at *
  go_enter Try.func22, Try.ntmps22
  go_wp2_with (fail)
  refine H.out.mono ?_
  rintro e w1 ⟨rfl, h2, c2⟩
  go_wp2
  go_ret3
  exact ⟨h2, CA.out.of_pure.trans' c2, none, 0, 0, rfl, Nat.le_refl _, by decide, Bytes.nil _ _⟩
set_option maxHeartbeats 4000000 in
theorem ldoes_5 {w : World} {B : Base} {p : Nat} {s : Lp} (h : LinkIn w B p s) (hb : Room s) (net i at_ : Int) (hat : -9223372036854775808 ≤ at_ ∧ at_ ≤ 9223372036854775807) (b : UInt32) (h8 : Framed s) (A : Option Addr) (n c : Nat) (xs : List UInt8) (hA : Bytes w A n xs) (hc : n ≤ c) (hn : n ≤ 140737488351232) :
    Calls Try.prog 22 #[.pointer (some ⟨p, 0, none⟩), .agg (actV 5 net i at_ b A n c)] w (doesPost w B p (actL s 5 net i at_ b xs)) := by
  have ca : Chg Pure' w (w.alloc (.cells (actV 5 net i at_ b A n c) 49)) := (Chg.refl _ _).alloc _
  have h1 := h.pure ca
  have H := Lib.hid (ltwice_any h1 net i)
  have HR : actL s 5 net i at_ b xs = (([], false, (twiceL s net i).1), (twiceL s net i).2) := by unfold actL; rw [if_neg (by decide), if_neg (by decide), if_neg (by decide), if_neg (by decide), if_neg (by decide), if_pos rfl]
  rw [HR]
  have CA := Lib.hid ca
  clear h h1 HR ca h8 hA
  unfold actV at *
  go_enter Try.func22, Try.ntmps22
  go_wp2_with (fail)
  refine H.out.mono ?_
  rintro e w1 ⟨rfl, h2, c2⟩
  go_wp2
  go_ret3
  exact ⟨h2, CA.out.of_pure.trans' c2, none, 0, 0, rfl, Nat.le_refl _, by decide, Bytes.nil _ _⟩
set_option maxHeartbeats 4000000 in
theorem ldoes_6 {w : World} {B : Base} {p : Nat} {s : Lp} (h : LinkIn w B p s) (hb : Room s) (net i at_ : Int) (hat : -9223372036854775808 ≤ at_ ∧ at_ ≤ 9223372036854775807) (b : UInt32) (h8 : Framed s) (A : Option Addr) (n c : Nat) (xs : List UInt8) (hA : Bytes w A n xs) (hc : n ≤ c) (hn : n ≤ 140737488351232) :
    Calls Try.prog 22 #[.pointer (some ⟨p, 0, none⟩), .agg (actV 6 net i at_ b A n c)] w (doesPost w B p (actL s 6 net i at_ b xs)) := by
  have ca : Chg Pure' w (w.alloc (.cells (actV 6 net i at_ b A n c) 49)) := (Chg.refl _ _).alloc _
  have h1 := h.pure ca
  have H := Lib.hid (lturn_any h1 net i at_ hat b h8)
  have HR : actL s 6 net i at_ b xs = (([], false, (turnL s net i at_ b).1), (turnL s net i at_ b).2) := by unfold actL; rw [if_neg (by decide), if_neg (by decide), if_neg (by decide), if_neg (by decide), if_neg (by decide), if_neg (by decide), if_pos rfl]
  rw [HR]
  have CA := Lib.hid ca
  clear h h1 HR ca h8 hA
  unfold actV at *
  go_enter Try.func22, Try.ntmps22
  go_wp2_with (fail)
  refine H.out.mono ?_
  rintro e w1 ⟨rfl, h2, c2⟩
  go_wp2
  go_ret3
  exact ⟨h2, CA.out.of_pure.trans' c2, none, 0, 0, rfl, Nat.le_refl _, by decide, Bytes.nil _ _⟩
set_option maxHeartbeats 4000000 in
theorem ldoes_7 {w : World} {B : Base} {p : Nat} {s : Lp} (h : LinkIn w B p s) (hb : Room s) (net i at_ : Int) (hat : -9223372036854775808 ≤ at_ ∧ at_ ≤ 9223372036854775807) (b : UInt32) (h8 : Framed s) (A : Option Addr) (n c : Nat) (xs : List UInt8) (hA : Bytes w A n xs) (hc : n ≤ c) (hn : n ≤ 140737488351232) :
    Calls Try.prog 22 #[.pointer (some ⟨p, 0, none⟩), .agg (actV 7 net i at_ b A n c)] w (doesPost w B p (actL s 7 net i at_ b xs)) := by
  have ca : Chg Pure' w (w.alloc (.cells (actV 7 net i at_ b A n c) 49)) := (Chg.refl _ _).alloc _
  have h1 := h.pure ca
  have H := Lib.hid (lforge_any h1 net A n c xs (hA.pure ca) hc)
  have HR : actL s 7 net i at_ b xs = (([], false, (forgeL s net xs).1), (forgeL s net xs).2) := by unfold actL; rw [if_neg (by decide), if_neg (by decide), if_neg (by decide), if_neg (by decide), if_neg (by decide), if_neg (by decide), if_neg (by decide), if_pos rfl]
  rw [HR]
  have CA := Lib.hid ca
  clear h h1 HR ca h8 hA
  unfold actV at *
  go_enter Try.func22, Try.ntmps22
  go_wp2_with (fail)
  refine H.out.mono ?_
  rintro e w1 ⟨rfl, h2, c2⟩
  go_wp2
  go_ret3
  exact ⟨h2, CA.out.of_pure.trans' c2, none, 0, 0, rfl, Nat.le_refl _, by decide, Bytes.nil _ _⟩
set_option maxHeartbeats 4000000 in
theorem ldoes_8 {w : World} {B : Base} {p : Nat} {s : Lp} (h : LinkIn w B p s) (hb : Room s) (net i at_ : Int) (hat : -9223372036854775808 ≤ at_ ∧ at_ ≤ 9223372036854775807) (b : UInt32) (h8 : Framed s) (A : Option Addr) (n c : Nat) (xs : List UInt8) (hA : Bytes w A n xs) (hc : n ≤ c) (hn : n ≤ 140737488351232) :
    Calls Try.prog 22 #[.pointer (some ⟨p, 0, none⟩), .agg (actV 8 net i at_ b A n c)] w (doesPost w B p (actL s 8 net i at_ b xs)) := by
  have ca : Chg Pure' w (w.alloc (.cells (actV 8 net i at_ b A n c) 49)) := (Chg.refl _ _).alloc _
  have h1 := h.pure ca
  have H := Lib.hid (lrecon_any h1 (by have := hb.T; omega) (by have := hb.epoch; omega))
  have HR : actL s 8 net i at_ b xs = (([], false, 0), reconL s) := by unfold actL; rw [if_neg (by decide), if_neg (by decide), if_neg (by decide), if_neg (by decide), if_neg (by decide), if_neg (by decide), if_neg (by decide), if_neg (by decide), if_pos rfl]
  rw [HR]
  have CA := Lib.hid ca
  clear h h1 HR ca h8 hA
  unfold actV at *
  go_enter Try.func22, Try.ntmps22
  go_wp2_with (fail)
  refine H.out.mono ?_
  rintro e w1 ⟨rfl, h2, c2⟩
  go_wp2
  go_ret3
  exact ⟨h2, CA.out.of_pure.trans' c2, none, 0, 0, rfl, Nat.le_refl _, by decide, Bytes.nil _ _⟩
set_option maxHeartbeats 4000000 in
theorem ldoes_9 {w : World} {B : Base} {p : Nat} {s : Lp} (h : LinkIn w B p s) (kind net i at_ : Int) (hk : kind < 0 ∨ 8 < kind) (b : UInt32) (A : Option Addr) (n c : Nat) (xs : List UInt8) :
    Calls Try.prog 22 #[.pointer (some ⟨p, 0, none⟩), .agg (actV kind net i at_ b A n c)] w (doesPost w B p (actL s kind net i at_ b xs)) := by
  have ca : Chg Pure' w (w.alloc (.cells (actV kind net i at_ b A n c) 49)) := (Chg.refl _ _).alloc _
  have h1 := Lib.hid (h.pure ca)
  have HR : actL s kind net i at_ b xs = (([], false, 0), s) := by unfold actL; rw [if_neg (by omega), if_neg (by omega), if_neg (by omega), if_neg (by omega), if_neg (by omega), if_neg (by omega), if_neg (by omega), if_neg (by omega), if_neg (by omega)]
  rw [HR]
  have CA := Lib.hid ca
  have e0 : kind ≠ 0 := by omega
  have e1 : kind ≠ 1 := by omega
  have e2 : kind ≠ 2 := by omega
  have e3 : kind ≠ 3 := by omega
  have e4 : kind ≠ 4 := by omega
  have e5 : kind ≠ 5 := by omega
  have e6 : kind ≠ 6 := by omega
  have e7 : kind ≠ 7 := by omega
  have e8 : kind ≠ 8 := by omega
  clear h HR ca hk
  unfold actV at *
  go_enter Try.func22, Try.ntmps22
  go_wp2
  go_ret3
  exact ⟨h1.out, CA.out.of_pure, none, 0, 0, rfl, Nat.le_refl _, by decide, Bytes.nil _ _⟩
theorem ldoes_any {w : World} {B : Base} {p : Nat} {s : Lp} (h : LinkIn w B p s) (hb : Room s) (kind net i at_ : Int) (hat : -9223372036854775808 ≤ at_ ∧ at_ ≤ 9223372036854775807) (b : UInt32) (h8 : Framed s) (A : Option Addr) (n c : Nat) (xs : List UInt8) (hA : Bytes w A n xs) (hc : n ≤ c) (hn : n ≤ 140737488351232) :
    Calls Try.prog 22 #[.pointer (some ⟨p, 0, none⟩), .agg (actV kind net i at_ b A n c)] w (doesPost w B p (actL s kind net i at_ b xs)) := by
  by_cases hk : kind < 0 ∨ 8 < kind
  · exact ldoes_9 h kind net i at_ hk b A n c xs
  · rcases (by omega : kind = 0 ∨ kind = 1 ∨ kind = 2 ∨ kind = 3 ∨ kind = 4 ∨ kind = 5 ∨ kind = 6 ∨ kind = 7 ∨ kind = 8) with rfl | rfl | rfl | rfl | rfl | rfl | rfl | rfl | rfl
    · exact ldoes_0 h hb net i at_ hat b h8 A n c xs hA hc hn
    · exact ldoes_1 h hb net i at_ hat b h8 A n c xs hA hc hn
    · exact ldoes_2 h hb net i at_ hat b h8 A n c xs hA hc hn
    · exact ldoes_3 h hb net i at_ hat b h8 A n c xs hA hc hn
    · exact ldoes_4 h hb net i at_ hat b h8 A n c xs hA hc hn
    · exact ldoes_5 h hb net i at_ hat b h8 A n c xs hA hc hn
    · exact ldoes_6 h hb net i at_ hat b h8 A n c xs hA hc hn
    · exact ldoes_7 h hb net i at_ hat b h8 A n c xs hA hc hn
    · exact ldoes_8 h hb net i at_ hat b h8 A n c xs hA hc hn
end Go.Proofs.Ytnpkpfcljkekfaa
