/- The laws of layer 18: their contracts. -/
import Derived.Test.YtnkdlilccfclbaaRecvB
namespace Go.Proofs.Ytnkdlilccfclbaa
open Go Go.RowKit
set_option linter.unusedVariables false
set_option linter.unusedSimpArgs false
set_option maxHeartbeats 1000000 in
theorem alive18 (w : World) : Calls Try.prog 10 #[] w fun e w' => e = .returned (.bool true) ∧ Chg Pure' w w' := by
  have kc := fun (w : World) (C : Array Value) (n c : Nat) => Lib.run_convert_bytes_const (P := Try.prog) w 29 5 C n c Try.underlying29 Try.underlying5
  go_enter Try.func10, Try.ntmps10
  go_wp2_with (fail)
  refine (new_ok 4 w (by omega) (by omega)).mono ?_
  rintro e w1 ⟨rfl, c1, r1⟩
  go_wp2_with (fail)
  have r2 := r1.pure ((Chg.refl _ w1).alloc (.cells #[.int .u8 98] 5 (1, 2)))
  have hb := Bytes.alloc_mark w1 #[.int .u8 98] 5 (1, 2) [98] rfl 1 rfl
  refine (data_any _ _ _ _ _ 2 _ 1 1 [98] _ r2 (by omega) (by omega) hb (by omega)).mono ?_
  rintro e w2 ⟨rfl, c2, r3⟩
  rw [show dataR 4 0 (List.replicate 4 none) 2 [98] = (0, [none, some [98], none, none]) from rfl] at r3 ⊢
  go_wp2_with (fail)
  have r4 := r3.pure ((Chg.refl _ w2).alloc (.cells #[.int .u8 97] 5 (1, 2)))
  have hb := Bytes.alloc_mark w2 #[.int .u8 97] 5 (1, 2) [97] rfl 1 rfl
  refine (data_any _ _ _ _ _ 1 _ 1 1 [97] _ r4 (by omega) (by omega) hb (by omega)).mono ?_
  rintro e w3 ⟨rfl, c3, r5⟩
  rw [show dataR 4 0 [none, some [98], none, none] 1 [97] = (0, [some [97], some [98], none, none]) from rfl] at r5 ⊢
  go_wp2_with (fail)
  refine (data_any _ _ _ _ _ 1 _ 0 0 [] _ r5 (by omega) (by omega) (Bytes.nil _ _) (by omega)).mono ?_
  rintro e w4 ⟨rfl, c4, r6⟩
  rw [show dataR 4 0 [some [97], some [98], none, none] 1 [] = (17, [some [97], some [98], none, none]) from rfl] at r6 ⊢
  go_wp2_with (fail)
  refine (ack_any _ _ _ _ _ _ r6 (by omega)).mono ?_
  rintro e w5 ⟨rfl, c5⟩
  rw [show lead [some [97], some [98], none, none] = 2 from rfl, show ackTo [some [97], some [98], none, none] 2 4 = 0 from rfl]
  have r7 := r6.pure c5
  go_wp2_with (fail)
  refine (take_some _ _ _ _ _ _ _ r7 (by omega)).mono ?_
  rintro e w6 ⟨A1, n1, q1, rfl, hl1, hm1, hb1, ha1, c6, r8⟩
  go_wp2_with (fail)
  refine (take_some _ _ _ _ _ _ _ r8 (by omega)).mono ?_
  rintro e w7 ⟨A2, n2, q2, rfl, hl2, hm2, hb2, ha2, c7, r9⟩
  have hb1' := hb1.chg c7 (fun a ha => (ha1 a ha).2)
  have s1 := hb1'.run_string (P := Try.prog) 29 9 5 Try.underlying29 Try.underlying5 Try.underlying9 q1
  have s2 := hb2.run_string (P := Try.prog) 29 9 5 Try.underlying29 Try.underlying5 Try.underlying9 q2
  go_wp2_with (fail)
  refine (taken_any _ _ _ _ _ _ r9).mono ?_
  rintro e w8 ⟨rfl, rfl⟩
  go_wp2
  go_ret
  have f : ∀ i, i < w.heap.size → i = w.heap.size → Pure' i := fun i hi e => by omega
  exact ⟨rfl, ((((((((c1.alloc _).trans c2 f).alloc _).trans c3 f).trans c4 f).pure c5).trans c6 f).trans c7 f)⟩

/-- A script that came in: at A lie these acts, each a number and its load. -/
structure ActsAt (w : World) (A : Option Addr) (n : Nat) (acts : List (Int × List UInt8)) : Prop where
  len : acts.length = n
  wf : ∀ x ∈ acts, -9223372036854775808 ≤ x.1 ∧ x.1 ≤ 9223372036854775807
  cells : 0 < n → ∃ b off, A = some ⟨b, off, none⟩ ∧ b < w.heap.size ∧ ∀ j (h : j < acts.length), w.cell? ⟨b, off + j * 2, none⟩ = some (.int .i64 (acts[j]'h).1) ∧
    ∃ Aj nj cj, w.cell? ⟨b, off + j * 2 + 1, none⟩ = some (.slice Aj nj cj) ∧ nj ≤ cj ∧ nj ≤ 140737488351232 ∧ Bytes w Aj nj (acts[j]'h).2
theorem ActsAt.pure {w w' : World} {A : Option Addr} {n : Nat} {acts : List (Int × List UInt8)} (h : ActsAt w A n acts) (hc : Chg Pure' w w') : ActsAt w' A n acts := by
  refine ⟨h.len, h.wf, fun hn => ?_⟩
  obtain ⟨b, off, e, hb, hcell⟩ := h.cells hn
  refine ⟨b, off, e, Nat.lt_of_lt_of_le hb hc.size, fun j hj => ?_⟩
  obtain ⟨h1, Aj, nj, cj, h2, h3, h4, h5⟩ := hcell j hj
  exact ⟨hc.cell h1 (fun h => h), Aj, nj, cj, hc.cell h2 (fun h => h), h3, h4, h5.pure hc⟩

theorem data_twice (W T : Nat) (L : List (Option (List UInt8))) (s : Int) (xs ys : List UInt8) (hW : L.length = W) (hy : ys.length ≤ 1200) :
    ((dataR W T L s xs).1 = 0 ∧ dataR W T (dataR W T L s xs).2 s ys = (17, (dataR W T L s xs).2)) ∨
    ((dataR W T L s xs).1 = 17 ∧ dataR W T (dataR W T L s xs).2 s ys = (17, (dataR W T L s xs).2)) ∨
    ((dataR W T L s xs).1 = 13 ∧ dataR W T (dataR W T L s xs).2 s ys = (13, (dataR W T L s xs).2)) ∨
    ((dataR W T L s xs).1 = 1 ∧ dataR W T (dataR W T L s xs).2 s ys = (1, (dataR W T L s xs).2)) ∨
    (dataR W T L s xs).1 = 8 := by
  by_cases c1 : s < 1
  · right; right; right; left; simp [dataR, c1]
  by_cases c2 : 1200 < xs.length
  · right; right; right; right; simp [dataR, c1, c2]
  have cy : ¬ 1200 < ys.length := by omega
  by_cases c3 : s ≤ T
  · right; left; simp only [dataR, if_neg c1, if_neg c2, if_pos c3, if_neg cy]; simp
  by_cases c4 : (W : Int) < s - T
  · right; right; left; simp only [dataR, if_neg c1, if_neg c2, if_neg c3, if_pos c4, if_neg cy]; simp
  by_cases c5 : (L.getD (s.toNat - T - 1) none).isSome = true
  · right; left; simp only [dataR, if_neg c1, if_neg c2, if_neg c3, if_neg c4, if_pos c5, if_neg cy]; simp
  · left
    have hk : s.toNat - T - 1 < L.length := by omega
    have e : ((L.set (s.toNat - T - 1) (some xs)).getD (s.toNat - T - 1) none).isSome = true := by
      rw [List.getD_eq_getElem?_getD, List.getElem?_set_self hk]; rfl
    simp only [dataR, if_neg c1, if_neg c2, if_neg c3, if_neg c4, if_neg c5, if_neg cy, if_pos e]
    simp

/-- What a round of a law over a receiver may lean on: the receiver, in memory of the law's own. -/
def Held18 (w wr : World) (p W k : Nat) : Prop := ∃ (T : Nat) (L : List (Option (List UInt8))) (F : Nat → Prop), T ≤ k ∧ RecvAt wr F p W T L ∧ (∀ i, F i → w.heap.size ≤ i)

set_option maxRecDepth 100000 in
set_option maxHeartbeats 2000000 in
theorem law_RecvTwice (a : Int) (A : Option Addr) (n c : Nat) (acts : List (Int × List UInt8)) (w : World) (ha : -9223372036854775808 ≤ a ∧ a ≤ 9223372036854775807) (hA : ActsAt w A n acts) (hn : n ≤ 140737488351232) :
    Calls Try.prog 5 #[.int .i64 a, .slice A n c] w fun e w' => e = .returned (.bool true) ∧ Chg Pure' w w' := by
  by_cases hbad : a < 1 ∨ 32 < a
  · go_enter Try.func5, Try.ntmps5
    go_wp2_with (fail)
    refine (new_bad _ _ hbad).mono ?_
    rintro e w1 ⟨rfl, rfl⟩
    go_wp2_with (fail)
    refine (alive18 _).mono ?_
    rintro e w2 ⟨rfl, hg⟩
    go_wp2
    go_ret
    exact ⟨rfl, hg⟩
  · obtain ⟨W, rfl⟩ : ∃ W : Nat, a = W := ⟨a.toNat, by omega⟩
    have h1 : 1 ≤ W := by omega
    have h2 : W ≤ 32 := by omega
    clear hbad ha
    go_enter Try.func5, Try.ntmps5
    go_wp2_with (fail)
    refine (new_ok W _ h1 h2).mono ?_
    rintro e w1 ⟨rfl, c1, r1⟩
    go_wp2_with (fail)
    refine (alive18 _).mono ?_
    rintro e w2 ⟨rfl, c2⟩
    have r2 := r1.pure c2
    have C2 := c1.pure c2
    clear r1 c1 c2
    go_wp2_with (fail)
    go_loopw [35] (fun i wr => ∃ k : Nat, k ≤ n ∧ i = .int .i64 k ∧ Held18 w wr w.heap.size W k ∧ Chg Pure' w wr) (fun i _ => n - (intOf i).toNat)
    case atStart => exact ⟨0, Nat.zero_le _, rfl, ⟨0, _, _, Nat.le_refl _, r2, fun i hi => by rw [hi]; exact Nat.le_refl _⟩, C2⟩
    case round =>
      obtain ⟨k, hk, rfl, ⟨T, L, F, hT, r, hF⟩, hc⟩ := hrel
      by_cases hlt : k < n
      · obtain ⟨b, off, rfl, hbl, hcell⟩ := (hA.pure hc).cells (by omega)
        have hkx : k < acts.length := by have := hA.len; omega
        obtain ⟨e1, Aj, nj, cj, e2, hle, hnj, hbj⟩ := hcell k hkx
        have hwf := hA.wf _ (List.getElem_mem hkx)
        generalize acts[k].1 = s at e1 hwf
        generalize acts[k].2 = xs at hbj
        clear hcell
        have hTb : T ≤ 4611686018427387904 := by omega
        have fz : ∀ i, i < w.heap.size → i = w.heap.size → Pure' i := fun i hi e => by omega
        by_cases hs7 : s = -7
        · subst hs7
          have ca : Chg Pure' wr (wr.alloc (.cells #[.int .i64 (-7), .slice Aj nj cj] 31)) := (Chg.refl _ wr).alloc _
          have r' := r.pure ca
          have hF' := hF
          match L, r' with
          | [], r' => exact absurd r'.len (by have := r'.w1; simp; omega)
          | none :: L, r' =>
            clear r
            go_wp2_with (fail)
            refine (take_none _ _ _ _ _ _ r' hTb).mono ?_
            rintro e w3 ⟨rfl, rfl⟩
            go_wp2
            go_roundw
            case rel => exact ⟨k + 1, by omega, by go_num, ⟨T, _, F, by omega, r', hF⟩, hc.pure ca⟩
            case measure => simp [intOf]; omega
          | some ys :: L, r' =>
            clear r
            go_wp2_with (fail)
            refine (take_some _ _ _ _ _ _ _ r' hTb).mono ?_
            rintro e w3 ⟨A3, n3, q3, rfl, -, -, -, -, c3, r3⟩
            go_wp2
            go_roundw
            case rel => exact ⟨k + 1, by omega, by go_num, ⟨T + 1, _, F, by omega, r3, hF⟩, (hc.pure ca).trans c3 fz⟩
            case measure => simp [intOf]; omega
        · have hs7' : (s == -7) = false := by rw [beq_eq_false_iff_ne]; exact hs7
          have ca : Chg Pure' wr (wr.alloc (.cells #[.int .i64 s, .slice Aj nj cj] 31)) := (Chg.refl _ wr).alloc _
          have r' := r.pure ca
          have hpw : w.heap.size < wr.heap.size := r.lt _ r.own
          have hv0 : (wr.alloc (.cells #[.int .i64 s, .slice Aj nj cj] 31)).cell? ⟨wr.heap.size, 0, none⟩ = some (.int .i64 s) := by rw [cellAt_alloc_lit]; rfl
          have HT := Lib.hid (data_twice W T L s xs [1, 2, 3] r.len (by decide))
          clear r hs7
          go_wp2_with (fail)
          refine (data_any F w.heap.size W T L s Aj nj cj xs _ r' hTb hwf (hbj.pure ca) hnj).mono ?_
          rintro e w3 ⟨rfl, c3, r3⟩
          generalize hr1 : dataR W T L s xs = R1 at HT r3
          have HR1 := Lib.hid hr1
          clear hr1
          obtain ⟨f, L1⟩ := R1
          simp only at HT r3
          go_wp2_with (fail)
          refine (ack_any _ _ _ _ _ _ r3 hTb).mono ?_
          rintro e w4 ⟨rfl, c4⟩
          have r4 := r3.pure c4
          have hv4 : w4.cell? ⟨wr.heap.size, 0, none⟩ = some (.int .i64 s) := c4.cell (c3.cell hv0 (fun e => by simp at e; omega)) (fun h => h)
          clear hv0
          go_wp2_with (fail)
          have ca2 : Chg Pure' w4 (w4.alloc (.cells #[.int .u8 1, .int .u8 2, .int .u8 3] 5)) := (Chg.refl _ w4).alloc _
          have hb2 := Bytes.alloc_lit w4 #[.int .u8 1, .int .u8 2, .int .u8 3] 5 [1, 2, 3] rfl 3 rfl
          refine (data_any _ w.heap.size W T L1 s _ 3 3 [1, 2, 3] _ (r4.pure ca2) hTb hwf hb2 (by omega)).mono ?_
          rintro e w5 ⟨rfl, c5, r5⟩
          go_wp2_with (fail)
          refine (ack_any _ _ _ _ _ _ r5 hTb).mono ?_
          rintro e w6 ⟨rfl, c6⟩
          have r6 := r5.pure c6
          have C6 : Chg Pure' w w6 := ((((hc.pure ca).trans c3 fz).pure c4).pure ca2 |>.trans c5 fz).pure c6
          have hF6 : ∀ i, Ext (Ext F (wr.alloc (.cells #[.int .i64 s, .slice Aj nj cj] 31)) w3) (w4.alloc (.cells #[.int .u8 1, .int .u8 2, .int .u8 3] 5)) w5 i → w.heap.size ≤ i := by
            rintro i ((h | h) | h)
            · exact hF i h
            · have := hc.size; have := h.1; simp at this; omega
            · have h9 := ((((hc.pure ca).trans c3 fz).pure c4).pure ca2).size; have := h.1; omega
          have HEND : Held18 w w6 w.heap.size W (k + 1) := ⟨T, _, _, by omega, r6, hF6⟩
          clear r' r3 r4 r5 r6 hF6
          rcases HT.out with ⟨h1, h2⟩ | ⟨h1, h2⟩ | ⟨h1, h2⟩ | ⟨h1, h2⟩ | h1
          · subst h1
            rw [h2]
            clear h2
            go_wp2
            go_roundw
            case rel => exact ⟨k + 1, by omega, by go_num, HEND, C6⟩
            case measure => simp [intOf]; omega
          · subst h1
            rw [h2]
            clear h2
            go_wp2
            go_roundw
            case rel => exact ⟨k + 1, by omega, by go_num, HEND, C6⟩
            case measure => simp [intOf]; omega
          · subst h1
            rw [h2]
            clear h2
            go_wp2
            go_roundw
            case rel => exact ⟨k + 1, by omega, by go_num, HEND, C6⟩
            case measure => simp [intOf]; omega
          · subst h1
            rw [h2]
            clear h2
            go_wp2
            go_roundw
            case rel => exact ⟨k + 1, by omega, by go_num, HEND, C6⟩
            case measure => simp [intOf]; omega
          · subst h1
            generalize dataR W T L1 s [1, 2, 3] = R2
            go_wp2
            go_roundw
            case rel => exact ⟨k + 1, by omega, by go_num, HEND, C6⟩
            case measure => simp [intOf]; omega
      · go_wp2
        go_ret
        exact ⟨rfl, hc⟩
end Go.Proofs.Ytnkdlilccfclbaa
