/- Package frame: FrameCuts. -/
import Derived.Test.YtemofjaonoofhaaFrameI
namespace Go.Proofs.Ytemofjaonoofhaa
open Go Go.RowKit
set_option linter.unusedVariables false
set_option linter.unusedSimpArgs false

theorem Bytes.sliced {w : World} {A : Option Addr} {n c lo hi : Nat} {xs : List UInt8} (h : Bytes w A n xs) (h1 : lo ≤ hi) (h2 : hi ≤ n) (h3 : n ≤ c) (A' : Option Addr) (e : (if c = lo then A else A.map fun x => x.add lo) = A') : Bytes w A' (hi - lo) ((xs.take hi).drop lo) := by
  have hl := h.len
  by_cases hz : lo = hi
  · subst hz
    rw [Nat.sub_self, List.drop_eq_nil_of_le (by simp; omega)]
    exact Bytes.nil _ _
  · obtain ⟨b, off, rfl, -⟩ := h.cells (by omega)
    rw [if_neg (by omega)] at e
    subst e
    have e1 : (⟨b, off, none⟩ : Addr).add lo = ⟨b, off + lo, none⟩ := by unfold Addr.add; split <;> simp_all
    rw [Option.map_some, e1]
    exact h.part lo hi h1 h2
theorem keepW {w w' : World} {B : Nat} {v : Value} {ls : List (List UInt8)} {p : Nat} (h : Loads w B v ls) (hc : Chg (fun k => k = p) w w') (hp : p < B) : Loads w' B v ls := h.keep hc (fun k hk e => by omega)
theorem found_cat (pre x : List UInt8) (ls : List (List UInt8)) (h : found (pre ++ x) = found pre ++ ls) (k : Nat) (hk : found (pre ++ x) = found (pre ++ x)) : (found pre).length + ls.length = (found (pre ++ x)).length := by rw [h]; simp
theorem found_len (pre : List UInt8) : (found pre).length * 8 ≤ pre.length := by
  have h1 := sizeL_len (found pre)
  have h2 := balance pre
  omega
set_option maxRecDepth 100000 in
set_option maxHeartbeats 4000000 in
theorem law_FrameCuts (A : Option Addr) (n c : Nat) (xs : List UInt8) (B : Option Addr) (m d : Nat) (cs : List UInt8) (w : World) (hA : Bytes w A n xs) (hc : n ≤ c) (hn0 : n ≤ 140737488351232) (hB : Bytes w B m cs) (hd : m ≤ d) (hm0 : m ≤ 140737488351232) (hn : n ≤ 1048576 ∧ m ≤ 1048576) :
    Calls Try.prog 5 #[.slice A n c, .slice B m d] w fun e w' => e = .returned (.bool true) ∧ Chg Pure' w w' := by
  obtain ⟨hn, hm⟩ := hn
  clear hn0 hm0
  have HL := Lib.hid hA.len
  go_enter Try.func5, Try.ntmps5
  go_wp2_with (fail)
  refine (fnew_of w).mono ?_
  rintro e w1 ⟨rfl, h1, c1⟩
  go_wp2_with (fail)
  refine (fnew_of w1).mono ?_
  rintro e w2 ⟨rfl, h2, c2⟩
  have hp12 : w.heap.size < w1.heap.size := StrAt.plt h1
  go_wp2_with (fail)
  refine (alive03 w2).mono ?_
  rintro e w3 ⟨rfl, c3⟩
  have h1' : StrOf w3 w.heap.size (w.heap.size + 1) [] := StrAt.pure h1 (c2.pure c3)
  have h2' : StrOf w3 w1.heap.size (w1.heap.size + 1) [] := StrAt.pure h2 c3
  have C3 := (c1.pure c2).pure c3
  have hp23 : w1.heap.size < w3.heap.size := StrAt.plt h2'
  clear h1 h2 c1 c2 c3
  generalize hp1 : w.heap.size = p1 at *
  generalize hp2 : w1.heap.size = p2 at *
  clear hp2
  go_wp2_with (fail)
  refine (feed_pre h1' A n c xs (hA.pure C3) hc (by omega) (by decide)).mono ?_
  rintro e w4 ⟨va, q1, ls, rfl, hq1, hall, hfo, hs4, c4⟩
  rw [List.nil_append] at hfo hs4
  rw [show found [] = [] from rfl, List.nil_append] at hfo
  have ht4 : StrOf w4 p2 (p2 + 1) [] := StrAt.frame h2' c4 (by omega) (by omega)
  have C4 : Chg Pure' w w4 := C3.trans c4 (fun i hi e => by omega)
  have hz4 := c4.size
  obtain ⟨Aa, ca, rfl, hba⟩ := hall.val
  have HFO := Lib.hid hfo
  clear hfo
  have HA4 := Lib.hid hall
  have HS4 := Lib.hid hs4
  have HC4 := Lib.hid C4
  clear h1' h2' C3 c4 hall hs4 C4
  go_wp2_with (fail)
  go_loopw [8, 9, 30] (fun v at_ i wr => ∃ (k a q : Nat), k ≤ m ∧ a ≤ n ∧ i = .int .i64 k ∧ at_ = .int .i64 a ∧ Hid (Loads wr w4.heap.size v (found (xs.take a)) ∧ StrOf wr p2 q (xs.take a) ∧ Chg (fun k => k = p2) w4 wr)) (fun _ _ i _ => m - (intOf i).toNat)
  case atStart => exact ⟨0, 0, p2 + 1, Nat.zero_le _, Nat.zero_le _, rfl, rfl, Lib.hid ⟨Loads.nil _ _, ht4, Chg.refl _ _⟩⟩
  case round =>
    obtain ⟨k, a, q, hk, ha, rfl, rfl, HS⟩ := hrel
    clear ht4
    have s0 : (a : Int) ≤ (n : Int) := by omega
    have HCALL : ∀ (mm : Nat) (A' : Option Addr) (c' : Nat), a + mm ≤ n → mm ≤ c' → Bytes wr A' mm ((xs.take (a + mm)).drop a) → Calls Try.prog 19 #[.pointer (some ⟨p2, 0, none⟩), .slice A' mm c'] wr fun e w' =>
        ∃ A5 l5 c5 v6 w6 q6, e = .returned (.slice A5 l5 c5) ∧ (Builtin.append_ #[31, 31] 31 #[u8, .slice A5 l5 c5]).run Try.prog w' = .ok v6 w6 ∧ Hid (Loads w6 w4.heap.size v6 (found (xs.take (a + mm))) ∧ StrOf w6 p2 q6 (xs.take (a + mm)) ∧ Chg (fun k => k = p2) w4 w6) := by
      intro mm A' c' h1 h2 h3
      obtain ⟨g1, g2, g3⟩ := HS.out
      refine (feed_pre g2 A' mm c' _ h3 h2 (by omega) (by simp; omega)).mono ?_
      rintro e w5 ⟨v5, q5, l5, rfl, hq5, hl5, hf5, hs5, c5⟩
      have hcat : xs.take a ++ (xs.take (a + mm)).drop a = xs.take (a + mm) := by
        conv => rhs; rw [← List.take_append_drop a (xs.take (a + mm))]
        rw [List.take_take, Nat.min_eq_left (by omega)]
      rw [hcat] at hf5 hs5
      obtain ⟨A5, c5', rfl, -⟩ := hl5.val
      have hw4 : p2 < w4.heap.size := by omega
      have L5 := keepW g1 c5 hw4
      have f1 := found_len (xs.take (a + mm))
      have f2 : (found (xs.take a)).length + l5.length = (found (xs.take (a + mm))).length := by rw [hf5]; simp
      have f3 : (xs.take (a + mm)).length ≤ 1048576 := by simp; omega
      have C5 := g3.trans' c5
      obtain ⟨v6, w6, hr6, hl6, c6⟩ := L5.cat hl5 (by have := g3.size; omega) (by have := C5.size; omega) (by omega)
      rw [← hf5] at hl6
      refine ⟨A5, l5.length, c5', v6, w6, q5, rfl, hr6, Lib.hid ⟨hl6, hs5.frame c6 (fun e => by have := L5.own e; omega) (fun e => ?_), C5.trans c6 (fun i hi e => by have := L5.own e; omega)⟩⟩
      have := g1.own e
      omega
    have hA4 := hA.pure (HC4.out.trans HS.out.2.2 (fun i hi e => by omega))
    have HSL := Lib.hid (fun (mm : Nat) (A' : Option Addr) (h1 : a + mm ≤ n) (e : (if c = a then A else A.map fun x => x.add a) = A') => (show Bytes wr A' mm ((xs.take (a + mm)).drop a) by
      have := hA4.sliced (lo := a) (hi := a + mm) (by omega) h1 hc A' e
      rwa [Nat.add_sub_cancel_left] at this))
    have HCALL := Lib.hid HCALL
    clear hA4
    have HEND := Lib.hid (fun (w6 : World) (hch : Chg (fun k => k = p2) w4 w6) => (show StrOf w6 p1 q1 xs ∧ Loads w6 (q1 + 1) (.slice Aa ls.length ca) ls ∧ Chg Pure' w w6 from
      ⟨StrAt.frame HS4.out hch (by omega) (by omega), HA4.out.keep hch (fun k hk e => by omega), HC4.out.trans hch (fun i hi e => by omega)⟩))
    by_cases hlt : k < m
    · have hlc := hB.len
      obtain ⟨bb, boff, rfl, hcell⟩ := hB.cells (by omega)
      have hkc : k < cs.length := by omega
      have x1 := (HC4.out.trans HS.out.2.2 (fun i hi e => by omega)).cell (hcell k hkc) (fun h => h)
      have hcc := (cs[k]'hkc).toNat_lt
      generalize (cs[k]'hkc).toNat = cc at *
      clear hcell hlc hkc
      have HCALL := HCALL.out
      clear HS HEND
      by_cases hca : c = a
      · by_cases hmin : cc ≤ n - a
        · have m1 : (cc : Int) ≤ (n : Int) - (a : Int) := by omega
          have m2 : (a : Int) + (cc : Int) ≤ (c : Int) := by omega
          have HX := Lib.hid (HCALL cc A (c - a) (by omega) (by omega) (HSL.out cc _ (by omega) (if_pos hca)))
          have hcT := eq_true hca
          have HM := Lib.hid (show a + cc ≤ n by omega)
          clear hca hmin HCALL
          go_wp2_with (fail)
          refine HX.out.mono ?_
          rintro e w5 ⟨A5, l5, c5, v6, w6, q6, rfl, hr6, hN⟩
          clear HX
          go_wp2_with (first
            | (at_builtin; refine Lib.wpList_append_run _ rfl _ _ _ _ rfl _ _ rfl rfl _ _ hr6 ?_)
            | fail)
          clear hr6
          go_wp2
          go_roundw
          case rel => exact ⟨k + 1, a + cc, q6, by omega, HM.out, by go_num, by go_num, hN⟩
          case measure => simp [intOf]; omega
        · obtain ⟨d, hd⟩ : ∃ d : Nat, (n : Int) - (a : Int) = (d : Int) := ⟨n - a, by omega⟩
          have m0 : a + d = n := by omega
          have m1 : (d < cc) = True := eq_true (by omega)
          have m2 : (a : Int) + (d : Int) ≤ (c : Int) := by omega
          have m3 : d ≤ 1048576 := by omega
          have HX := Lib.hid (HCALL d A (c - a) (by omega) (by omega) (HSL.out d _ (by omega) (if_pos hca)))
          have hcT := eq_true hca
          have HM := Lib.hid (show a + d ≤ n by omega)
          clear hca hmin HCALL m0
          go_wp2_with (fail)
          refine HX.out.mono ?_
          rintro e w5 ⟨A5, l5, c5, v6, w6, q6, rfl, hr6, hN⟩
          clear HX
          go_wp2_with (first
            | (at_builtin; refine Lib.wpList_append_run _ rfl _ _ _ _ rfl _ _ rfl rfl _ _ hr6 ?_)
            | fail)
          clear hr6
          go_wp2
          go_roundw
          case rel => exact ⟨k + 1, a + d, q6, by omega, HM.out, by go_num, by go_num, hN⟩
          case measure => simp [intOf]; omega
      · by_cases hmin : cc ≤ n - a
        · have m1 : (cc : Int) ≤ (n : Int) - (a : Int) := by omega
          have m2 : (a : Int) + (cc : Int) ≤ (c : Int) := by omega
          have HX := Lib.hid (HCALL cc (A.map fun x => x.add a) (c - a) (by omega) (by omega) (HSL.out cc _ (by omega) (if_neg hca)))
          have hcT := eq_false hca
          have HM := Lib.hid (show a + cc ≤ n by omega)
          clear hca hmin HCALL
          go_wp2_with (fail)
          refine HX.out.mono ?_
          rintro e w5 ⟨A5, l5, c5, v6, w6, q6, rfl, hr6, hN⟩
          clear HX
          go_wp2_with (first
            | (at_builtin; refine Lib.wpList_append_run _ rfl _ _ _ _ rfl _ _ rfl rfl _ _ hr6 ?_)
            | fail)
          clear hr6
          go_wp2
          go_roundw
          case rel => exact ⟨k + 1, a + cc, q6, by omega, HM.out, by go_num, by go_num, hN⟩
          case measure => simp [intOf]; omega
        · obtain ⟨d, hd⟩ : ∃ d : Nat, (n : Int) - (a : Int) = (d : Int) := ⟨n - a, by omega⟩
          have m0 : a + d = n := by omega
          have m1 : (d < cc) = True := eq_true (by omega)
          have m2 : (a : Int) + (d : Int) ≤ (c : Int) := by omega
          have m3 : d ≤ 1048576 := by omega
          have HX := Lib.hid (HCALL d (A.map fun x => x.add a) (c - a) (by omega) (by omega) (HSL.out d _ (by omega) (if_neg hca)))
          have hcT := eq_false hca
          have HM := Lib.hid (show a + d ≤ n by omega)
          clear hca hmin HCALL m0
          go_wp2_with (fail)
          refine HX.out.mono ?_
          rintro e w5 ⟨A5, l5, c5, v6, w6, q6, rfl, hr6, hN⟩
          clear HX
          go_wp2_with (first
            | (at_builtin; refine Lib.wpList_append_run _ rfl _ _ _ _ rfl _ _ rfl rfl _ _ hr6 ?_)
            | fail)
          clear hr6
          go_wp2
          go_roundw
          case rel => exact ⟨k + 1, a + d, q6, by omega, HM.out, by go_num, by go_num, hN⟩
          case measure => simp [intOf]; omega
    · have hkm : k = m := by omega
      have hlt2 : ((k : Int) < (m : Int)) = False := eq_false (by omega)
      have s3 : (a : Int) ≤ (c : Int) := by omega
      have hXS : xs.take (a + (n - a)) = xs := by rw [show a + (n - a) = n from by omega, List.take_of_length_le (by rw [HL.out]; omega)]
      have HXS := Lib.hid hXS
      have hfl := found_len xs
      rw [HL.out] at hfl
      have HCALL := HCALL.out
      clear hXS HS hkm hlt
      by_cases hca : c = a
      all_goals
        first
          | have HX := Lib.hid (HCALL (n - a) A (c - a) (by omega) (by omega) (HSL.out (n - a) _ (by omega) (if_pos hca)))
            have hcT := eq_true hca
          | have HX := Lib.hid (HCALL (n - a) (A.map fun x => x.add a) (c - a) (by omega) (by omega) (HSL.out (n - a) _ (by omega) (if_neg hca)))
            have hcT := eq_false hca
        clear hca HCALL
        go_wp2_with (fail)
        refine HX.out.mono ?_
        rintro e w5 ⟨A5, l5, c5, v6, w6, q6, rfl, hr6, hN⟩
        clear HX
        rw [HXS.out] at hN
        obtain ⟨n1, n2, n3⟩ := hN.out
        obtain ⟨g1, g2, g3⟩ := HEND.out w6 n3
        obtain ⟨A6, c6, rfl, -⟩ := n1.val
        have hbl6 := n1.bl
        have hbl4 := g2.bl
        clear hN n1 g2
        have HF := Lib.hid hfl
        clear hfl
        go_wp2_with (first
          | (at_builtin; refine Lib.wpList_append_run _ rfl _ _ _ _ rfl _ _ rfl rfl _ _ hr6 ?_)
          | fail)
        clear hr6
        go_wp2_with (fail)
        refine (sames_any Aa ls.length ca ls A6 (found xs).length c6 (found xs) w6 hbl4 hbl6 (by rw [← HFO.out]; have := HF.out; omega) (by have := HF.out; omega) true (by rw [HFO.out]; simp)).mono ?_
        rintro e w7 ⟨rfl, c7⟩
        have t1 := StrAt.pure g1 c7
        have t2 := StrAt.pure n2 c7
        have C7 := g3.pure c7
        clear g1 n2 g3 c7 hbl4 hbl6
        have L1 := lost_any t1
        have L2 := lost_any t2
        have W1 := waits_any t1
        have W2 := waits_any t2
        generalize lostB xs = lx at *
        generalize (keeps xs).length = kx at *
        have L1 := Lib.hid L1
        have L2 := Lib.hid L2
        have W1 := Lib.hid W1
        have W2 := Lib.hid W2
        clear t1 t2
        go_wp2_with (first
          | (go_at_call 20; first | (refine L1.out.mono ?_; rintro e w8 ⟨rfl, rfl⟩; clear L1) | (refine L2.out.mono ?_; rintro e w8 ⟨rfl, rfl⟩; clear L2))
          | (go_at_call 21; first | (refine W1.out.mono ?_; rintro e w8 ⟨rfl, rfl⟩; clear W1) | (refine W2.out.mono ?_; rintro e w8 ⟨rfl, rfl⟩; clear W2)))
        go_ret
        exact ⟨rfl, C7⟩
end Go.Proofs.Ytemofjaonoofhaa
