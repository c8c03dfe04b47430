/- A frame turned in up to four bytes that stand together tells nothing, in plain Lean. -/
import Derived.Test.YtnpkpfcljkekfaaCurP
import Derived.Test.YtnpkpfcljkekfaaCrcP
namespace Go.Proofs.Ytnpkpfcljkekfaa
open Go Go.RowKit
set_option linter.unusedVariables false
set_option linter.unusedSimpArgs false
set_option maxRecDepth 100000

theorem four_word (l : List UInt8) (h : l.length = 4) : ∃ W : UInt32, crcMark W = l := by
  match l, h with
  | [a, b, c, d], _ =>
    refine ⟨UInt32.ofNat (a.toNat + b.toNat * 256 + c.toNat * 65536 + d.toNat * 16777216), ?_⟩
    have ha := a.toNat_lt; have hb := b.toNat_lt; have hc := c.toNat_lt; have hd := d.toNat_lt
    have e : (UInt32.ofNat (a.toNat + b.toNat * 256 + c.toNat * 65536 + d.toNat * 16777216)).toNat = a.toNat + b.toNat * 256 + c.toNat * 65536 + d.toNat * 16777216 := by
      rw [UInt32.toNat_ofNat']; omega
    generalize UInt32.ofNat (a.toNat + b.toNat * 256 + c.toNat * 65536 + d.toNat * 16777216) = N at e
    have s8 := shr8_u32 N; have s16 := shr16_u32 N; have s24 := shr24_u32 N
    unfold crcMark
    congr 1
    · apply UInt8.toNat_inj.1; rw [UInt32.toNat_toUInt8]; omega
    congr 1
    · apply UInt8.toNat_inj.1; rw [UInt32.toNat_toUInt8]; omega
    congr 1
    · apply UInt8.toNat_inj.1; rw [UInt32.toNat_toUInt8]; omega
    congr 1
    · apply UInt8.toNat_inj.1; rw [UInt32.toNat_toUInt8]; omega
theorem window (s : List UInt8) (p : Nat) (h : p + 4 ≤ s.length) : ∃ pre W post, s = pre ++ crcMark W ++ post ∧ pre.length = p ∧ crcMark W = (s.drop p).take 4 := by
  obtain ⟨W, hW⟩ := four_word ((s.drop p).take 4) (by simp; omega)
  refine ⟨s.take p, W, s.drop (p + 4), ?_, by simp; omega, hW⟩
  rw [hW, List.append_assoc, ← List.drop_drop, List.take_append_drop, List.take_append_drop]
theorem mark_inj {a b : UInt32} (h : crcMark a = crcMark b) : a = b := by
  have ha := shr8_u32 a; have ha2 := shr16_u32 a; have ha3 := shr24_u32 a
  have hb := shr8_u32 b; have hb2 := shr16_u32 b; have hb3 := shr24_u32 b
  have la := a.toNat_lt; have lb := b.toNat_lt
  unfold crcMark at h
  simp only [List.cons.injEq] at h
  obtain ⟨h0, h1, h2, h3, -⟩ := h
  have g0 := congrArg UInt8.toNat h0
  have g1 := congrArg UInt8.toNat h1
  have g2 := congrArg UInt8.toNat h2
  have g3 := congrArg UInt8.toNat h3
  simp only [UInt32.toNat_toUInt8] at g0 g1 g2 g3
  apply UInt32.toNat_inj.1
  omega

theorem frame_seal (l : List UInt8) : ∃ X, frameB l = [165, 90] ++ crcSeal X ∧ X.length = l.length + 2 := ⟨[UInt8.ofNat (l.length / 256), UInt8.ofNat (l.length % 256)] ++ l, rfl, by simp⟩
theorem seal_opens (X : List UInt8) : crcOpen (crcSeal X) ≠ none := by
  have hl : (crcSeal X).length = X.length + 4 := by simp [crcSeal, crcMark]
  intro h
  refine (crcOpen_none hl).1 h ?_
  unfold crcSeal
  rw [List.drop_left' rfl, List.take_left' rfl]
/-- Two frames of one length are not apart in four bytes alone. -/
theorem burst_one (l l2 : List UInt8) (hl : l2.length = l.length) (p : Nat) (h1 : (frameB l2).take p = (frameB l).take p) (h2 : (frameB l2).drop (p + 4) = (frameB l).drop (p + 4)) (hp : p ≤ l.length + 4) : frameB l2 = frameB l := by
  obtain ⟨X, hX, xl⟩ := frame_seal l
  obtain ⟨Y, hY, yl⟩ := frame_seal l2
  have hXl : (crcSeal X).length = X.length + 4 := by simp [crcSeal, crcMark]
  have hYl : (crcSeal Y).length = Y.length + 4 := by simp [crcSeal, crcMark]
  -- the place within what is sealed
  obtain ⟨q, hq⟩ : ∃ q, q = p - 2 := ⟨_, rfl⟩
  have t1 : (crcSeal Y).take q = (crcSeal X).take q := by
    have := congrArg (List.drop 2) h1
    rw [hX, hY, List.drop_take, List.drop_take] at this
    simpa [hq] using this
  have t2 : (crcSeal Y).drop (q + 4) = (crcSeal X).drop (q + 4) := by
    have h4 : ∀ Z : List UInt8, ([165, 90] ++ Z).drop (2 + (q + 4)) = Z.drop (q + 4) := fun Z => by rw [← List.drop_drop]; rfl
    have h3 := congrArg (List.drop (q + 6 - (p + 4))) h2
    rw [List.drop_drop, List.drop_drop, show p + 4 + (q + 6 - (p + 4)) = 2 + (q + 4) from by omega, hX, hY, h4, h4] at h3
    exact h3
  obtain ⟨pre, W, post, e1, e2, e3⟩ := window (crcSeal X) q (by omega)
  obtain ⟨pre2, W2, post2, f1, f2, f3⟩ := window (crcSeal Y) q (by omega)
  have c4 : ∀ n : UInt32, (crcMark n).length = 4 := fun n => rfl
  have hpre : pre2 = pre := by
    rw [e1, f1, List.append_assoc, List.append_assoc, List.take_left' f2, List.take_left' e2] at t1
    exact t1
  have hpost : post2 = post := by
    rw [e1, f1, List.drop_left' (by simp [f2, c4]), List.drop_left' (by simp [e2, c4])] at t2
    exact t2
  subst hpre hpost
  by_cases hW : W2 = W
  · rw [hX, hY, e1, f1, hW]
  · exfalso
    have hne : W ^^^ W2 ≠ 0 := by
      intro h0
      apply hW
      have h4 : W ^^^ (W ^^^ W2) = W ^^^ 0 := by rw [h0]
      rwa [← UInt32.xor_assoc, UInt32.xor_self, UInt32.zero_xor, UInt32.xor_zero] at h4
    have hn := turned_none pre2 post2 W (W ^^^ W2) hne X.length (by rw [← e1]; exact hXl) (by rw [← e1]; exact seal_opens X)
    rw [← UInt32.xor_assoc, UInt32.xor_self, UInt32.zero_xor, ← f1] at hn
    exact seal_opens Y hn
/-- A frame of which up to four bytes that stand together are others tells nothing. -/
theorem burst_none (l b : List UInt8) (hl : b.length = l.length + 8) (p : Nat) (h1 : b.take p = (frameB l).take p) (h2 : b.drop (p + 4) = (frameB l).drop (p + 4)) (hp : p ≤ l.length + 4) (hne : b ≠ frameB l) : ∃ k, unpackB b = .error k ∧ k ≠ 0 := by
  unfold unpackB
  split
  · rename_i l2 hk
    split
    · rename_i hl2
      have e := whole_frame hk hl2.symm
      exfalso
      apply hne
      rw [e] at h1 h2 ⊢
      exact burst_one l l2 (by omega) p h1 h2 hp
    · exact ⟨4, rfl, by decide⟩
  · exact ⟨4, rfl, by decide⟩
end Go.Proofs.Ytnpkpfcljkekfaa
