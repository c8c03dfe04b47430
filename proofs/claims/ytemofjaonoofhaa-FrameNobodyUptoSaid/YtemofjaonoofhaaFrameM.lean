/- Package gantlineref03: a stream. -/
import Derived.Test.YtemofjaonoofhaaFrameL
import Derived.StillTailTactics
namespace Go.Proofs.Ytemofjaonoofhaa
open Go Go.RowKit
set_option linter.unusedVariables false
set_option linter.unusedSimpArgs false

set_option maxHeartbeats 4000000 in
theorem size_any (B : Nat) (A : Option Addr) (q : Nat) (ls : List (List UInt8)) (w : World) (h : Loads w B (.slice A ls.length q) ls) (hb : sizeL ls ≤ 1152921504606846976) :
    Calls Try.prog 31 #[.slice A ls.length q] w fun e w' => e = .returned (.int .i64 (sizeL ls : Nat)) ∧ w = w' := by
  have hll := sizeL_len ls
  obtain ⟨N, hN⟩ : ∃ N, ls.length = N := ⟨_, rfl⟩
  have HN := Lib.hid hN
  rw [hN] at h hll ⊢
  clear hN
  go_enter Try.func31, Try.ntmps31
  go_wp2_with (fail)
  go_loop [3, 4] (fun s i => ∃ k : Nat, k ≤ N ∧ i = .int .i64 k ∧ s = .int .i64 (sizeL (ls.take k) : Nat)) (fun _ i => N - (intOf i).toNat)
  case atStart => exact ⟨0, Nat.zero_le _, rfl, by simp [sizeL]⟩
  case round =>
    obtain ⟨k, hk, rfl, rfl⟩ := hrel
    by_cases hlt : k < N
    · have hkl : k < ls.length := by rw [HN.out]; exact hlt
      obtain ⟨g, Ai, ci, rfl, -, hcell, -, -⟩ := h.get hkl
      have hsz := sizeL_succ ls k hkl
      have hszl := sizeL_take ls (k + 1)
      obtain ⟨cur, hcur⟩ : ∃ cur, sizeL (ls.take k) = cur := ⟨_, rfl⟩
      obtain ⟨len, hlen⟩ : ∃ m, (ls[k]'hkl).length = m := ⟨_, rfl⟩
      rw [hlen] at hcell hsz
      rw [hcur] at hsz ⊢
      have hnew : (((cur : Int) + ((len : Int) + 8))) = ((sizeL (ls.take (k + 1)) : Nat) : Int) := by omega
      have HNEW := Lib.hid hnew
      have b1 : len + 8 ≤ 1152921504606846976 := by omega
      have b2 : cur ≤ 1152921504606846976 := by omega
      clear hsz hszl hcur hlen hnew hkl
      go_wp2
      go_round
      case rel => exact ⟨k + 1, by omega, by go_num, by rw [← HNEW.out]⟩
      case measure => simp [intOf]; omega
    · have hkn : k = N := by omega
      have ht : sizeL (ls.take k) = sizeL ls := by rw [hkn, ← HN.out, List.take_length]
      have HT := Lib.hid ht
      have hnl : ((k : Int) < (N : Int)) = False := eq_false (by omega)
      clear hkn ht hlt
      go_wp2
      go_ret
      exact ⟨by rw [HT.out]; rfl, rfl⟩

/-- The document's stream in memory: at p its two cells; the bytes that wait lie in block q. -/
structure RStr (w : World) (p q : Nat) (rest : List UInt8) (lost : Nat) : Prop where
  pq : p ≠ q
  blk : ∃ cs, w.heap[p]? = some (.cells cs 41 (0, 0))
  c0 : ∃ A c, w.cell? ⟨p, 0, none⟩ = some (.slice A rest.length c) ∧ rest.length ≤ c ∧ Bytes w A rest.length rest ∧ (∀ a, A = some a → a.block = q)
  c1 : w.cell? ⟨p, 1, none⟩ = some (.int .i64 lost)
theorem RStr.frame {S : Nat → Prop} {w w' : World} {p q : Nat} {rest : List UInt8} {lost : Nat} (h : RStr w p q rest lost) (hc : Chg S w w') (h1 : ¬ S p) (h2 : ¬ S q) : RStr w' p q rest lost := by
  obtain ⟨A, c, e1, e2, e3, e4⟩ := h.c0
  obtain ⟨cc, e5⟩ := h.blk
  exact ⟨h.pq, ⟨cc, (hc.block _ (Array.getElem?_eq_some_iff.1 e5).1 h1).trans e5⟩, ⟨A, c, hc.cell e1 h1, e2, e3.chg hc (fun a ha => by rw [e4 a ha]; exact h2), e4⟩, hc.cell h.c1 h1⟩
theorem RStr.pure {w w' : World} {p q : Nat} {rest : List UInt8} {lost : Nat} (h : RStr w p q rest lost) (hc : Chg Pure' w w') : RStr w' p q rest lost := h.frame hc (fun h => h) (fun h => h)
theorem RStr.plt {w : World} {p q : Nat} {rest : List UInt8} {lost : Nat} (h : RStr w p q rest lost) : p < w.heap.size := cell_lt h.c1
/-- A row of the call's own bytes, in words of its slice. -/
theorem own_bytes {w : World} {B n : Nat} {v : Value} {xs : List UInt8} (h : w.ownsRow B 5 1 v n (enc xs)) : ∃ A c, v = .slice A n c ∧ n ≤ c ∧ Bytes w A n xs ∧ ((A = none ∧ c = 0) ∨ ∃ g, A = some ⟨g, 0, none⟩ ∧ B ≤ g ∧ g < w.heap.size) := by
  obtain ⟨A, c, rfl, h1, -, h2⟩ := own_slice h
  obtain ⟨A', c', e, h3, h4, h5⟩ := Bytes.of_own h
  cases e
  refine ⟨A, c, rfl, h1, h4, ?_⟩
  rcases h.2 with ⟨e, -⟩ | ⟨g, cap, cur, e, -⟩
  · cases e; exact .inl ⟨rfl, rfl⟩
  · cases e; exact .inr ⟨g, rfl, h2 _ rfl⟩
set_option maxRecDepth 100000 in
set_option maxHeartbeats 4000000 in
theorem rfeed_any {w : World} {p q : Nat} {rest : List UInt8} {lost : Nat} (h : RStr w p q rest lost) (A : Option Addr) (n c : Nat) (xs : List UInt8) (hA : Bytes w A n xs) (hc : n ≤ c) (hn : (rest.length + n) * 3 + 24 ≤ 140737488351232) (hlost : lost ≤ 1152921504606846976) :
    Calls Try.prog 22 #[.pointer (some ⟨p, 0, none⟩), .slice A n c] w fun e w' => ∃ v q', e = .returned v ∧ w.heap.size ≤ q' ∧ Loads w' w.heap.size v (scan (rest ++ xs)).1 ∧
      RStr w' p q' ((rest ++ xs).drop (scan (rest ++ xs)).2) (lost + (scan (rest ++ xs)).2 - sizeL (scan (rest ++ xs)).1) ∧ Chg (fun k => k = p) w w' := by
  have hplt := h.plt
  have hAl := hA.len
  obtain ⟨A0, k0, hb, hk0, hb0, hq0⟩ := h.c0
  have h1 := h.c1
  have H := Lib.hid h
  clear h
  obtain ⟨v1, w1, hr1, ho1, hg1, -⟩ := app_own (P := Try.prog) w w.heap.size 22 22 5 Try.underlying22 infoU8 rfl (by decide) _ _ _ (World.ownsRow_nil w w.heap.size 5 1) A0 rest.length k0 (enc rest) hb0.row (by rw [enc_length, Nat.mul_one]) (enc_one _) (by decide) (by omega) (Nat.le_refl _)
  have C1 : Chg Pure' w w1 := (Chg.refl _ w).grown hg1 (fun k hk => by cases hk)
  rw [Nat.zero_add, List.nil_append] at ho1
  have hA1 := hA.pure C1
  obtain ⟨v2, w2, hr2, ho2, hg2, -⟩ := app_own (P := Try.prog) w1 w.heap.size 22 22 5 Try.underlying22 infoU8 rfl (by decide) _ _ _ ho1 A n c (enc xs) hA1.row (by rw [enc_length, Nat.mul_one, hAl]) (enc_one _) (by decide) (by omega) C1.size
  have C2 : Chg Pure' w w2 := C1.grown hg2 (fun k hk => .inl (ho1.lt k hk).1)
  rw [← enc_append] at ho2
  obtain ⟨B, qc, rfl, hqc, hAll, hB0⟩ := own_bytes ho2
  obtain ⟨B1, q1, rfl, -, -, -⟩ := own_bytes ho1
  have hlen : (rest ++ xs).length = rest.length + n := by simp; omega
  obtain ⟨all, hall⟩ : ∃ l, rest ++ xs = l := ⟨_, rfl⟩
  have HALL := Lib.hid hall
  rw [hall] at hlen hAll ⊢
  have HLEN := Lib.hid hlen
  have hw2 := C2.size
  have x0 := C2.cell hb (fun h => h)
  have x1 := C2.cell h1 (fun h => h)
  obtain ⟨cs, hblk⟩ := H.out.blk
  have hblk2 := (C2.block _ hplt (fun h => h)).trans hblk
  clear hg1 hg2 ho1 ho2 hall hlen hA1 C1 hAl hb0 hq0 hA hblk h1 H
  generalize hN : rest.length + n = N at *
  have HN := Lib.hid hN
  clear hN
  go_enter Try.func22, Try.ntmps22
  have tok1 : True := trivial
  go_wp2_with (first
    | (at_builtin; have _t := tok1; refine Lib.wpList_append_run _ rfl _ _ _ _ rfl _ _ rfl rfl _ _ hr1 ?_; clear tok1 hr1)
    | (at_builtin; refine Lib.wpList_append_run _ rfl _ _ _ _ rfl _ _ rfl rfl _ _ hr2 ?_; clear hr2)
    | fail)
  refine (rscan_any B N qc all w2 hAll hqc (by omega)).mono ?_
  rintro e w3 ⟨vo, rfl, hlo, c3⟩
  obtain ⟨z1, z2, -⟩ := scan_le all.length all (Nat.le_refl _)
  rw [HLEN.out] at z1
  have hsc := Lib.hid (Prod.eta (scan all)).symm
  generalize (scan all).2 = ats at *
  generalize (scan all).1 = ls at *
  have x0 := c3.cell x0 (fun h => h)
  have x1 := c3.cell x1 (fun h => h)
  have hblk3 := (c3.block _ (by omega) (fun h => h)).trans hblk2
  have hf : ∀ i, w3.frozen? ⟨p, i, none⟩ = false := fun i => free_at hblk3
  have hAll3 := hAll.pure c3
  have C3 := C2.pure c3
  have hz3 := c3.size
  clear c3 C2 hAll hblk2 hb
  obtain ⟨Bo, qo, rfl, hBo⟩ := hlo.val
  have L3 := Lib.hid hlo
  have hll : ls.length ≤ 140737488351232 := by have := sizeL_len ls; omega
  obtain ⟨sz, hsz⟩ : ∃ s, sizeL ls = s := ⟨_, rfl⟩
  have HSZ := Lib.hid hsz
  rw [hsz] at z2
  have hsize : ∀ wr, Chg Pure' w3 wr → Calls Try.prog 31 #[.slice Bo ls.length qo] wr fun e w' => e = .returned (.int .i64 (sz : Nat)) ∧ wr = w' := by
    intro wr hc
    have := size_any _ Bo qo ls wr (L3.out.pure hc) (by omega)
    rwa [hsz] at this
  have HSIZE := Lib.hid hsize
  clear hlo hsz hsize
  have b1 : sz ≤ 140737488351232 := by omega
  have b2 : ats ≤ 140737488351232 := by omega
  have b3 : (lost : Int) + ((ats : Int) - (sz : Int)) = ((lost + ats - sz : Nat) : Int) := by omega
  have HLO := Lib.hid b3
  have X0 := Lib.hid x0
  clear b3 hf x0
  have HF := Lib.hid (And.intro hblk3 hAll3)
  have hend : ∀ (B' : Option Addr) (k' : Nat) (w9 : World), w9 = (w3.drew.setCell ⟨p, 1, none⟩ (.int .i64 ((lost : Int) + ((ats : Int) - (sz : Int))))).setCell ⟨p, 0, none⟩ (.slice B' (N - ats) k') → N - ats ≤ k' → ((B = none ∧ B' = none) ∨ ∃ g o, B = some ⟨g, 0, none⟩ ∧ B' = some ⟨g, o, none⟩ ∧ (o = ats ∨ N = ats)) →
      ∃ q', w.heap.size ≤ q' ∧ Loads w9 w.heap.size (.slice Bo ls.length qo) (scan all).1 ∧ RStr w9 p q' (all.drop (scan all).2) (lost + (scan all).2 - sizeL (scan all).1) ∧ Chg (fun k => k = p) w w9 := by
    intro B' k' w9 e hk' hBB
    subst e
    rw [hsc.out]
    simp only
    rw [HSZ.out]
    have cd : Chg Pure' w3 w3.drew := (Chg.refl _ w3).drew
    have c1 : Chg (fun k => k = p) w3.drew (w3.drew.setCell ⟨p, 1, none⟩ (.int .i64 ((lost : Int) + ((ats : Int) - (sz : Int))))) := Chg.setCell (S := fun k => k = p) (Chg.refl _ _) (p := ⟨p, 1, none⟩) (.inr rfl) _
    have c2 := Chg.setCell (S := fun k => k = p) c1 (p := ⟨p, 0, none⟩) (.inr rfl) (.slice B' (N - ats) k')
    have c3 := (cd.of_pure (S := fun k => k = p)).trans' c2
    have hdl : (all.drop ats).length = N - ats := by rw [List.length_drop, HLEN.out]
    have hblk4 : w3.drew.heap[p]? = some (.cells cs 41 (0, 0)) := hblk3
    have g1 : w3.drew.cell? ⟨p, 1, none⟩ = some (.int .i64 lost) := x1
    have g0 : w3.drew.cell? ⟨p, 0, none⟩ = some (.slice A0 rest.length k0) := X0.out
    have hb1 := heap_setCell_same _ p 1 _ 41 (.int .i64 ((lost : Int) + ((ats : Int) - (sz : Int)))) hblk4
    have hb2 := heap_setCell_same _ p 0 _ 41 (.slice B' (N - ats) k') hb1
    have g2 : (w3.drew.setCell ⟨p, 1, none⟩ (.int .i64 ((lost : Int) + ((ats : Int) - (sz : Int))))).cell? ⟨p, 0, none⟩ = some (.slice A0 rest.length k0) := by rw [set_far (by decide)]; exact g0
    have hby : Bytes ((w3.drew.setCell ⟨p, 1, none⟩ (.int .i64 ((lost : Int) + ((ats : Int) - (sz : Int))))).setCell ⟨p, 0, none⟩ (.slice B' (N - ats) k')) B' (all.drop ats).length (all.drop ats) := by
      refine Bytes.chg (S := fun k => k = p) ?_ c3 ?_
      · rw [hdl]
        rcases hBB with ⟨rfl, rfl⟩ | ⟨g, o, rfl, rfl, ho⟩
        · rcases hB0 with ⟨-, h0⟩ | ⟨g, h0, -⟩
          · have : all.drop ats = [] := by rw [List.drop_eq_nil_iff, HLEN.out]; omega
            rw [this, show N - ats = 0 from by omega]
            exact Bytes.nil _ _
          · cases h0
        · rcases ho with rfl | rfl
          · have := hAll3.part o N (by omega) (Nat.le_refl _)
            rw [Nat.zero_add, List.take_of_length_le (by rw [HLEN.out]; omega)] at this
            exact this
          · have : all.drop N = [] := by rw [List.drop_eq_nil_iff, HLEN.out]; omega
            rw [this, Nat.sub_self]
            exact Bytes.nil _ _
      · intro a ha e
        rcases hBB with ⟨rfl, rfl⟩ | ⟨g, o, rfl, rfl, ho⟩
        · cases ha
        · cases ha
          rcases hB0 with ⟨h0, -⟩ | ⟨g', h0, h1, -⟩
          · cases h0
          · cases h0
            simp only at e; omega
    have hL : Loads ((w3.drew.setCell ⟨p, 1, none⟩ (.int .i64 ((lost : Int) + ((ats : Int) - (sz : Int))))).setCell ⟨p, 0, none⟩ (.slice B' (N - ats) k')) w.heap.size (.slice Bo ls.length qo) ls := (L3.out.keep c3 (fun k hk e => by omega)).low hw2
    have hC : Chg (fun k => k = p) w ((w3.drew.setCell ⟨p, 1, none⟩ (.int .i64 ((lost : Int) + ((ats : Int) - (sz : Int))))).setCell ⟨p, 0, none⟩ (.slice B' (N - ats) k')) := (C3.of_pure).trans' c3
    have d1 : ((w3.drew.setCell ⟨p, 1, none⟩ (.int .i64 ((lost : Int) + ((ats : Int) - (sz : Int))))).setCell ⟨p, 0, none⟩ (.slice B' (N - ats) k')).cell? ⟨p, 1, none⟩ = some (.int .i64 ((lost + ats - sz : Nat) : Int)) := by
      rw [set_far (by decide), set_at g1, HLO.out]
    have d0 : ((w3.drew.setCell ⟨p, 1, none⟩ (.int .i64 ((lost : Int) + ((ats : Int) - (sz : Int))))).setCell ⟨p, 0, none⟩ (.slice B' (N - ats) k')).cell? ⟨p, 0, none⟩ = some (.slice B' (all.drop ats).length k') := by
      rw [hdl]; exact set_at g2
    rcases hBB with ⟨rfl, rfl⟩ | ⟨g, o, rfl, rfl, ho⟩
    · exact ⟨w.heap.size, Nat.le_refl _, hL, ⟨by omega, ⟨_, hb2⟩, ⟨_, _, d0, by rw [hdl]; exact hk', hby, fun a h => by cases h⟩, d1⟩, hC⟩
    · rcases hB0 with ⟨h0, -⟩ | ⟨g', h0, h1, -⟩
      · cases h0
      · cases h0
        exact ⟨g, h1, hL, ⟨by omega, ⟨_, hb2⟩, ⟨_, _, d0, by rw [hdl]; exact hk', hby, fun a h => by cases h; rfl⟩, d1⟩, hC⟩
  have HEND := Lib.hid hend
  have hf1 : w3.drew.frozen? ⟨p, 1, none⟩ = false := free_at (w := w3.drew) hblk3
  have hf0 : w3.drew.frozen? ⟨p, 0, none⟩ = false := free_at (w := w3.drew) hblk3
  have hg0 : w3.drew.cell? ⟨p, 0, none⟩ = some (.slice A0 rest.length k0) := X0.out
  have hg1 : w3.drew.cell? ⟨p, 1, none⟩ = some (.int .i64 lost) := x1
  have s1 : (ats : Int) ≤ (N : Int) := by omega
  have s2 : (ats : Int) ≤ (qc : Int) := by omega
  clear hend hblk3 hAll3 X0
  go_wp2_with (fail)
  refine wp_region_still_tail 11 (by kernel_rfl) (by kernel_rfl) ?_
  simp only [List.take_succ_cons, List.take_zero, List.drop_succ_cons, List.drop_zero]
  change wpStill _ _ w3.drew _ _ _
  repeat still_step
  still_call ((HSIZE.out _ (Chg.refl _ w3).drew).mono (fun e w' h => ⟨h.1, h.2.symm⟩))
  repeat still_step
  refine wpStill_nil ?_
  change wpList _ _ _ _ _ w3.drew
  generalize w3.drew = w5 at *
  rcases hB0 with ⟨rfl, rfl⟩ | ⟨g, rfl, -⟩
  · have HE := Lib.hid (fun w9 h => HEND.out none 0 w9 h (by omega) (.inl ⟨rfl, rfl⟩))
    obtain rfl : N = 0 := by omega
    obtain rfl : ats = 0 := by omega
    obtain rfl : sz = 0 := by omega
    clear HEND
    go_wp2
    go_ret
    obtain ⟨q', h1, h2, h3, h4⟩ := HE.out _ rfl
    exact ⟨_, q', rfl, h1, h2, h3, h4⟩
  · by_cases hq : qc = ats
    · have hq1 := eq_true hq
      have HE := Lib.hid (fun w9 h => HEND.out (some ⟨g, 0, none⟩) (qc - ats) w9 h (by omega) (.inr ⟨g, 0, rfl, rfl, .inr (by omega)⟩))
      clear HEND hq
      go_wp2
      go_ret
      obtain ⟨q', h1, h2, h3, h4⟩ := HE.out _ rfl
      exact ⟨_, q', rfl, h1, h2, h3, h4⟩
    · have hq1 := eq_false hq
      have HE := Lib.hid (fun w9 h => HEND.out (some ⟨g, ats, none⟩) (qc - ats) w9 h (by omega) (.inr ⟨g, ats, rfl, rfl, .inl rfl⟩))
      clear HEND hq
      go_wp2
      go_ret
      obtain ⟨q', h1, h2, h3, h4⟩ := HE.out _ rfl
      exact ⟨_, q', rfl, h1, h2, h3, h4⟩
end Go.Proofs.Ytemofjaonoofhaa
