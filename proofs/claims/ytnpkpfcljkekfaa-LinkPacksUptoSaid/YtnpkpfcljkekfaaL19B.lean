/- LinkPacks and LinkTells. -/
import Derived.Test.YtnpkpfcljkekfaaL19
namespace Go.Proofs.Ytnpkpfcljkekfaa
open Go Go.RowKit
set_option linter.unusedVariables false
set_option maxRecDepth 100000
set_option linter.unusedSimpArgs false

def packE (m : Ms) : Int := if m.may = false then 1 else if 1200 < m.bytes.length then 8 else 0
def packView (w : World) (m : Ms) (e : Ending) (w' : World) : Prop :=
  Chg Pure' w w' ∧ ∃ A n c, e = .returned (.tuple #[.slice A n c, .int .i64 (packE m)]) ∧ n ≤ c ∧ n ≤ 1208 ∧ Bytes w' A n (packB m)
theorem pack_view {w w' : World} {m : Ms} {e : Ending} (h : packPost w m e w') : packView w m e w' := by
  obtain ⟨hc, hp⟩ := h
  refine ⟨hc, ?_⟩
  rcases hp with ⟨h1, rfl⟩ | ⟨h1, h2, rfl⟩ | ⟨h1, h2, v, rfl, ho⟩
  · refine ⟨none, 0, 0, ?_, Nat.le_refl _, by decide, ?_⟩
    · unfold packE; rw [if_pos h1]
    · unfold packB; rw [if_neg (by rw [h1]; simp)]; exact Bytes.nil _ _
  · refine ⟨none, 0, 0, ?_, Nat.le_refl _, by decide, ?_⟩
    · unfold packE; rw [if_neg (by rw [h1]; simp), if_pos h2]
    · unfold packB; rw [if_neg (by omega)]; exact Bytes.nil _ _
  · obtain ⟨A, q, rfl, hq, hb, -⟩ := Bytes.of_own ho
    refine ⟨A, m.bytes.length + 8, q, ?_, hq, by omega, ?_⟩
    · unfold packE; rw [if_neg (by rw [h1]; simp), if_neg (by omega)]
    · unfold packB; rw [if_pos ⟨h1, h2⟩]; exact hb
set_option maxHeartbeats 8000000 in
theorem law_LinkPacks (kind : Int) (token : UInt64) (epoch seq ack : Int) (bits : UInt64) (credit format : Int) (A : Option Addr) (n c : Nat) (xs : List UInt8) (B : Option Addr) (m d : Nat) (ys : List UInt8) (w : World)
    (hA : Bytes w A n xs) (hc : n ≤ c) (hn : n ≤ 140737488351232) (hB : Bytes w B m ys) (hd : m ≤ d) (hm : m ≤ 140737488351232) (hsm : m ≤ 1048576) :
    Calls Try.prog 3 #[.agg #[.int .i64 kind, .int .u64 (token.toNat : Int), .int .i64 epoch, .int .i64 seq, .int .i64 ack, .int .u64 (bits.toNat : Int), .int .i64 credit, .int .i64 format, .slice A n c], .slice B m d] w fun e w' => e = .returned (.bool true) ∧ Chg Pure' w w' := by
  obtain rfl : n = xs.length := hA.len.symm
  obtain ⟨M, hM⟩ : ∃ M : Ms, M = ⟨kind, token, epoch, seq, ack, bits, credit, format, xs⟩ := ⟨_, rfl⟩
  have hv : M.val A xs.length c = .agg #[.int .i64 kind, .int .u64 (token.toNat : Int), .int .i64 epoch, .int .i64 seq, .int .i64 ack, .int .u64 (bits.toNat : Int), .int .i64 credit, .int .i64 format, .slice A xs.length c] := by rw [hM]; rfl
  have hload : M.load = xs := by rw [hM]
  obtain ⟨w1, hw1⟩ : ∃ w1, w.alloc (.cells #[.int .i64 kind, .int .u64 (token.toNat : Int), .int .i64 epoch, .int .i64 seq, .int .i64 ack, .int .u64 (bits.toNat : Int), .int .i64 credit, .int .i64 format, .slice A xs.length c] 25) = w1 := ⟨_, rfl⟩
  have c1 : Chg Pure' w w1 := by rw [← hw1]; exact (Chg.refl _ _).alloc _
  have hb1 : w1.heap[w.heap.size]? = some (.cells #[.int .i64 kind, .int .u64 (token.toNat : Int), .int .i64 epoch, .int .i64 seq, .int .i64 ack, .int .u64 (bits.toNat : Int), .int .i64 credit, .int .i64 format, .slice A xs.length c] 25 (0, 0)) := by rw [← hw1]; exact heap_alloc_new w _
  have hp1 := lpack_any M A c w1 (by rw [hload]; exact hA.pure c1) (by rw [hload]; exact hc) (by rw [hload]; exact hn)
  rw [hload, hv] at hp1
  have HP1 := Lib.hid hp1
  have HW1 := Lib.hid hw1
  have HV := Lib.hid hv
  have HLO := Lib.hid hload
  have C1 := Lib.hid c1
  have HB1 := Lib.hid hb1
  clear hp1 hw1 hv hload c1 hb1 hM
  go_enter Try.func3, Try.ntmps3
  go_wp2_with (fail)
  rw [HW1.out]
  refine HP1.out.mono ?_
  intro e w2 hpp
  obtain ⟨c2, A2, n2, q2, rfl, hq2, hn2, hx⟩ := pack_view hpp
  have C2 := Lib.hid (C1.out.pure c2)
  have hb2 := (c2.block w.heap.size (Array.getElem?_eq_some_iff.1 HB1.out).1 (fun h => h)).trans HB1.out
  have HB2 := Lib.hid hb2
  have hp2 := rpack_any M A c w2 (by rw [HLO.out]; exact hA.pure C2.out) (by rw [HLO.out]; exact hc) (by rw [HLO.out]; exact hn)
  rw [HLO.out, HV.out] at hp2
  have HP2 := Lib.hid hp2
  have x0 := msg_cell hb2 0
  have x1 := msg_cell hb2 1
  have x2 := msg_cell hb2 2
  have x3 := msg_cell hb2 3
  have x4 := msg_cell hb2 4
  have x5 := msg_cell hb2 5
  have x6 := msg_cell hb2 6
  have x7 := msg_cell hb2 7
  have x8 := msg_cell hb2 8
  have HX := Lib.hid hx
  clear hpp hb2 hp2 HP1 c2 HB1 C1 hx HW1
  go_wp2_with (fail)
  refine HP2.out.mono ?_
  intro e w3 hpp
  obtain ⟨c3, A3, n3, q3, rfl, hq3, hn3, hy⟩ := pack_view hpp
  have C3 := Lib.hid (C2.out.pure c3)
  have HX3 := Lib.hid (HX.out.pure c3)
  have HY3 := Lib.hid hy
  have HU3 := Lib.hid (lunpack_any B m d ys w3 (hB.pure C3.out) hd (by omega))
  clear hpp c3 hy HX C2 HP2 x0 x1 x2 x3 x4 x5 x6 x7 x8 HB2
  go_wp2_with (fail)
  refine HU3.out.mono ?_
  rintro e w4 ⟨c4, A4, q4, rfl, hb4, hq4, -⟩
  have C4 := Lib.hid (C3.out.pure c4)
  have HX4 := Lib.hid (HX3.out.pure c4)
  have HY4 := Lib.hid (HY3.out.pure c4)
  obtain ⟨⟨um, ue⟩, hu⟩ : ∃ u, unpR ys = u := ⟨_, rfl⟩
  rw [hu] at hb4 hq4 ⊢
  simp only at hb4 hq4 ⊢
  have HUU := Lib.hid hu
  have HB4 := Lib.hid hb4
  clear hb4 c4 C3 HX3 HY3 HU3 hu
  obtain ⟨w5, hw5⟩ : ∃ w5, w4.alloc (.cells (um.cells A4 um.load.length q4) 25) = w5 := ⟨_, rfl⟩
  have ca : Chg Pure' w4 w5 := by rw [← hw5]; exact (Chg.refl _ _).alloc _
  have hm5 : w5.heap[w4.heap.size]? = some (.cells (um.cells A4 um.load.length q4) 25 (0, 0)) := by rw [← hw5]; exact heap_alloc_new w4 _
  have HM5 := Lib.hid hm5
  have HW5 := Lib.hid hw5
  have C5 := Lib.hid (C4.out.pure ca)
  have HX5 := Lib.hid (HX4.out.pure ca)
  have HY5 := Lib.hid (HY4.out.pure ca)
  have HB5 := Lib.hid (HB4.out.pure ca)
  have HR5 := Lib.hid (runpack_any B m d ys w5 (hB.pure C5.out) hd hm)
  have hwE : um.val A4 um.load.length q4 = .agg (um.cells A4 um.load.length q4) := rfl
  rw [hwE]
  clear hm5 hw5 ca C4 HX4 HY4 HB4 hwE
  unfold Ms.cells at HM5 HW5 ⊢
  go_wp2_with (fail)
  rw [HW5.out]
  refine HR5.out.mono ?_
  rintro e w6 ⟨c6, A6, q6, rfl, hb6, hq6, -⟩
  rw [HUU.out] at hb6 hq6 ⊢
  simp only at hb6 hq6 ⊢
  obtain ⟨w7, hw7⟩ : ∃ w7, w6.alloc (.cells (um.cells A6 um.load.length q6) 25) = w7 := ⟨_, rfl⟩
  have ca : Chg Pure' w6 w7 := by rw [← hw7]; exact (Chg.refl _ _).alloc _
  have hm7 : w7.heap[w6.heap.size]? = some (.cells (um.cells A6 um.load.length q6) 25 (0, 0)) := by rw [← hw7]; exact heap_alloc_new w6 _
  have c7 := c6.pure ca
  have hm97 := (c7.block w4.heap.size (Array.getElem?_eq_some_iff.1 HM5.out).1 (fun h => h)).trans HM5.out
  have C7 := Lib.hid (C5.out.pure c7)
  have HS7 := Lib.hid (same_is true A2 q2 n2 (packB M) A3 q3 n3 (packB M) w7 (HX5.out.pure c7) (HY5.out.pure c7) (by simp))
  have ho7 := one_same um A4 um.load.length q4 A6 q6 w7 (HB5.out.pure c7) (hb6.pure ca)
  have HM7 := Lib.hid hm7
  have HM97 := Lib.hid hm97
  have HW7 := Lib.hid hw7
  have HO7 := Lib.hid ho7
  have hwE : um.val A6 um.load.length q6 = .agg (um.cells A6 um.load.length q6) := rfl
  rw [hwE]
  clear hm7 hw7 ca c6 c7 hm97 ho7 hb6 HB5 HX5 HY5 C5 HR5 hwE HM5 HW5
  unfold Ms.cells at HM7 HM97 HW7 ⊢
  unfold Ms.val Ms.cells at HO7
  have x0 := msg_cell HM97.out 0
  have x1 := msg_cell HM97.out 1
  have x2 := msg_cell HM97.out 2
  have x3 := msg_cell HM97.out 3
  have x4 := msg_cell HM97.out 4
  have x5 := msg_cell HM97.out 5
  have x6 := msg_cell HM97.out 6
  have x7 := msg_cell HM97.out 7
  have x8 := msg_cell HM97.out 8
  have y0 := msg_cell HM7.out 0
  have y1 := msg_cell HM7.out 1
  have y2 := msg_cell HM7.out 2
  have y3 := msg_cell HM7.out 3
  have y4 := msg_cell HM7.out 4
  have y5 := msg_cell HM7.out 5
  have y6 := msg_cell HM7.out 6
  have y7 := msg_cell HM7.out 7
  have y8 := msg_cell HM7.out 8
  clear HM7 HM97
  generalize packE M = pe at *
  go_wp2_with (fail)
  rw [HW7.out]
  refine HS7.out.mono ?_
  rintro e w8 ⟨rfl, rfl⟩
  go_wp2_with (fail)
  refine HO7.out.mono ?_
  rintro e w8 ⟨rfl, c8⟩
  clear x0 x1 x2 x3 x4 x5 x6 x7 x8 y0 y1 y2 y3 y4 y5 y6 y7 y8
  have C8 := Lib.hid (C7.out.pure c8)
  go_wp2_with (fail)
  refine (alive19 _).mono ?_
  rintro e w9 ⟨rfl, c9⟩
  go_wp2
  go_ret
  exact ⟨rfl, C8.out.pure c9⟩
set_option maxHeartbeats 8000000 in
theorem law_LinkTells (kind : Int) (token : UInt64) (epoch seq ack : Int) (bits : UInt64) (credit format : Int) (A : Option Addr) (n c : Nat) (xs : List UInt8) (w : World) (hA : Bytes w A n xs) (hc : n ≤ c) (hn : n ≤ 140737488351232) :
    Calls Try.prog 4 #[.agg #[.int .i64 kind, .int .u64 (token.toNat : Int), .int .i64 epoch, .int .i64 seq, .int .i64 ack, .int .u64 (bits.toNat : Int), .int .i64 credit, .int .i64 format, .slice A n c]] w fun e w' => e = .returned (.bool true) ∧ Chg Pure' w w' := by
  obtain rfl : n = xs.length := hA.len.symm
  obtain ⟨M, hM⟩ : ∃ M : Ms, M = ⟨kind, token, epoch, seq, ack, bits, credit, format, xs⟩ := ⟨_, rfl⟩
  have hv : M.val A xs.length c = .agg #[.int .i64 kind, .int .u64 (token.toNat : Int), .int .i64 epoch, .int .i64 seq, .int .i64 ack, .int .u64 (bits.toNat : Int), .int .i64 credit, .int .i64 format, .slice A xs.length c] := by rw [hM]; rfl
  have hload : M.load = xs := by rw [hM]
  obtain ⟨w1, hw1⟩ : ∃ w1, w.alloc (.cells #[.int .i64 kind, .int .u64 (token.toNat : Int), .int .i64 epoch, .int .i64 seq, .int .i64 ack, .int .u64 (bits.toNat : Int), .int .i64 credit, .int .i64 format, .slice A xs.length c] 25) = w1 := ⟨_, rfl⟩
  have c1 : Chg Pure' w w1 := by rw [← hw1]; exact (Chg.refl _ _).alloc _
  have hb1 : w1.heap[w.heap.size]? = some (.cells #[.int .i64 kind, .int .u64 (token.toNat : Int), .int .i64 epoch, .int .i64 seq, .int .i64 ack, .int .u64 (bits.toNat : Int), .int .i64 credit, .int .i64 format, .slice A xs.length c] 25 (0, 0)) := by rw [← hw1]; exact heap_alloc_new w _
  have hp1 := lpack_any M A c w1 (by rw [hload]; exact hA.pure c1) (by rw [hload]; exact hc) (by rw [hload]; exact hn)
  rw [hload, hv] at hp1
  have HP1 := Lib.hid hp1
  have HW1 := Lib.hid hw1
  have HV := Lib.hid hv
  have HLO := Lib.hid hload
  have C1 := Lib.hid c1
  have HB1 := Lib.hid hb1
  clear hp1 hw1 hv hload c1 hb1 hM
  go_enter Try.func4, Try.ntmps4
  go_wp2_with (fail)
  rw [HW1.out]
  refine HP1.out.mono ?_
  rintro e w2 ⟨c2, hp⟩
  have C2 := Lib.hid (C1.out.pure c2)
  have HB2 := Lib.hid ((c2.block w.heap.size (Array.getElem?_eq_some_iff.1 HB1.out).1 (fun h => h)).trans HB1.out)
  clear c2 C1 HB1 HP1 HW1
  rcases hp with ⟨h1, rfl⟩ | ⟨h1, h2, rfl⟩ | ⟨h1, h2, v, rfl, ho⟩
  · clear h1
    go_wp2_with (fail)
    refine (alive19 _).mono ?_
    rintro e w9 ⟨rfl, c9⟩
    go_wp2
    go_ret
    exact ⟨rfl, C2.out.pure c9⟩
  · clear h1 h2
    go_wp2_with (fail)
    refine (alive19 _).mono ?_
    rintro e w9 ⟨rfl, c9⟩
    go_wp2
    go_ret
    exact ⟨rfl, C2.out.pure c9⟩
  · obtain ⟨A2, q2, rfl, hq2, hb2, -⟩ := Bytes.of_own ho
    have hun := lunpack_any A2 (M.bytes.length + 8) q2 (frameB M.bytes) w2 hb2 hq2 (by omega)
    have hpk : packB M = frameB M.bytes := by unfold packB; rw [if_pos ⟨h1, h2⟩]
    have hur : unpR (frameB M.bytes) = (M, 0) := by rw [← hpk]; exact unpR_pack M h1 h2
    have HUN := Lib.hid hun
    have HUR := Lib.hid hur
    have hlen : ((M.bytes.length : Int) + 8 ≤ 1208) := by omega
    clear ho hb2 hun hpk hur
    go_wp2_with (fail)
    refine HUN.out.mono ?_
    rintro e w4 ⟨c4, A4, q4, rfl, hb4, hq4, -⟩
    rw [HUR.out] at hb4 hq4 ⊢
    simp only at hb4 hq4 ⊢
    rw [HLO.out] at hb4 hq4 ⊢
    obtain ⟨w5, hw5⟩ : ∃ w5, w4.alloc (.cells (M.cells A4 xs.length q4) 25) = w5 := ⟨_, rfl⟩
    have ca : Chg Pure' w4 w5 := by rw [← hw5]; exact (Chg.refl _ _).alloc _
    have hm5 : w5.heap[w4.heap.size]? = some (.cells (M.cells A4 xs.length q4) 25 (0, 0)) := by rw [← hw5]; exact heap_alloc_new w4 _
    have hb5 := ((c4.pure ca).block w.heap.size (Array.getElem?_eq_some_iff.1 HB2.out).1 (fun h => h)).trans HB2.out
    have C5 := Lib.hid (C2.out.pure (c4.pure ca))
    have ho5 := one_same M A xs.length c A4 q4 w5 (by rw [HLO.out]; exact hA.pure C5.out) (by rw [HLO.out]; exact hb4.pure ca)
    rw [HV.out] at ho5
    have HO5 := Lib.hid ho5
    have HM5 := Lib.hid hm5
    have HB5 := Lib.hid hb5
    have HW5 := Lib.hid hw5
    have hwE : M.val A4 xs.length q4 = .agg (M.cells A4 xs.length q4) := rfl
    rw [hwE]
    clear hm5 hb5 hw5 ca c4 C2 HB2 hb4 ho5 hwE HUN
    unfold Ms.cells at HM5 HW5 ⊢
    unfold Ms.val Ms.cells at HO5
    have hb5 := HB5.out
    rw [← HW5.out] at hb5
    have y0 := msg_cell hb5 0
    have y1 := msg_cell hb5 1
    have y2 := msg_cell hb5 2
    have y3 := msg_cell hb5 3
    have y4 := msg_cell hb5 4
    have y5 := msg_cell hb5 5
    have y6 := msg_cell hb5 6
    have y7 := msg_cell hb5 7
    have y8 := msg_cell hb5 8
    clear HM5 HB5 hb5
    go_wp2_with (fail)
    rw [HW5.out]
    refine HO5.out.mono ?_
    rintro e w8 ⟨rfl, c8⟩
    clear y0 y1 y2 y3 y4 y5 y6 y7 y8
    have C8 := Lib.hid (C5.out.pure c8)
    go_wp2_with (fail)
    refine (alive19 _).mono ?_
    rintro e w9 ⟨rfl, c9⟩
    go_wp2
    go_ret
    exact ⟨rfl, C8.out.pure c9⟩
end Go.Proofs.Ytnpkpfcljkekfaa
