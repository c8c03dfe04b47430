/- The laws of layer 17, at last: SendDone. -/
import Derived.Test.YtlkpnhfdcljbfaaL17S
namespace Go.Proofs.Ytlkpnhfdcljbfaa
open Go Go.RowKit
set_option linter.unusedVariables false
set_option linter.unusedSimpArgs false

set_option maxRecDepth 100000 in
set_option maxHeartbeats 4000000 in
theorem law_SendDone (mu ak : UInt8) (m : UInt64) (w : World) :
    Calls Try.prog 5 #[.int .u8 (mu.toNat : Int), .int .u8 (ak.toNat : Int), .int .u64 (m.toNat : Int)] w fun e w' => e = .returned (.bool true) ∧ Chg Pure' w w' := by
  have hmu := mu.toNat_lt
  have hak := ak.toNat_lt
  have hzm := zero_msg
  go_enter Try.func5, Try.ntmps5
  go_wp2_with (fail)
  refine (own_new 32 _ (by omega) (by omega)).mono ?_
  rintro e w1 ⟨rfl, s1⟩
  go_wp2_with (fail)
  refine (own_ack s1 0 0 100).mono ?_
  rintro e w2 ⟨rfl, s2⟩
  rw [show ackOf 1 0 [] 0 0 100 = (0, 1, 100, []) from rfl] at s2 ⊢
  go_wp2_with (fail)
  refine (alive17 _).mono ?_
  rintro e w3 ⟨rfl, c3⟩
  have s3 := s2.pure c3
  generalize hp : w.heap.size + 1 = p at *
  clear s1 s2 c3
  go_wp2_with (fail)
  have hmod : 0 ≤ (mu.toNat : Int) % 33 ∧ (mu.toNat : Int) % 33 ≤ 32 := by omega
  generalize (mu.toNat : Int) % 33 = q0 at *
  obtain ⟨n, rfl⟩ : ∃ n : Nat, q0 = n := ⟨q0.toNat, by omega⟩
  have hn : n ≤ 32 := by omega
  clear hmod
  go_loopw [38] (fun i wr => ∃ (k : Nat) (Ls : List Ld), k ≤ n ∧ i = .int .i64 k ∧ Ls.length = k ∧ Hid (Fresh Ls) ∧ OwnS w wr p w.heap.size 32 1 100 Ls k) (fun i _ => n - (intOf i).toNat)
  case atStart => exact ⟨0, [], Nat.zero_le _, rfl, rfl, (fun x hx => by simp at hx), s3⟩
  case round =>
    obtain ⟨k, Ls, hk, rfl, hkl, hfr, s⟩ := hrel
    by_cases hlt : k < n
    · have HK := Lib.hid hkl
      clear hkl s3
      have i1 : (k : Int) < 256 := by omega
      go_wp2_with (fail)
      have ca := (Chg.refl Pure' wr).alloc (.cells #[.int .u8 (k : Int)] 5)
      have s4 := s.pure ca
      have hb : Bytes (wr.alloc (.cells #[.int .u8 (k : Int)] 5)) (some ⟨wr.heap.size, 0, none⟩) 1 [UInt8.ofNat k] := Bytes.alloc_lit wr #[.int .u8 (k : Int)] 5 [UInt8.ofNat k] (by simp [enc]; omega) 1 rfl
      refine (own_push s4 _ 1 1 [UInt8.ofNat k] 0 hb (by omega) (by omega)).mono ?_
      rintro e w5 ⟨rfl, s5⟩
      have hpo : pushOf 32 1 100 Ls [UInt8.ofNat k] 0 = ((((1 + Ls.length : Nat) : Int), 0), Ls ++ [⟨[UInt8.ofNat k], false, 0, 1⟩]) := by
        have := HK.out
        unfold pushOf
        rw [if_neg (by omega), if_neg (by simp), if_neg (by omega)]
      rw [hpo] at s5 ⊢
      have hf5 : Hid (Fresh (Ls ++ [⟨[UInt8.ofNat k], false, 0, 1⟩])) := by
        intro x hx
        rcases List.mem_append.1 hx with hx | hx
        · exact hfr.out x hx
        · simp at hx; subst hx; exact ⟨rfl, rfl, rfl⟩
      clear hpo s s4
      go_wp2
      go_roundw
      case rel => exact ⟨k + 1, _, by omega, by go_num, by simp [HK.out], hf5, s5⟩
      case measure => simp [intOf]; omega
    · obtain rfl : k = n := by omega
      have HK := Lib.hid hkl
      clear hkl s3 hlt
      go_wp2_with (fail)
      have hr1 : 0 ≤ (ak.toNat : Int) % ((k : Int) + 1) := Int.emod_nonneg _ (by omega)
      have hr2 : (ak.toNat : Int) % ((k : Int) + 1) < (k : Int) + 1 := Int.emod_lt_of_pos _ (by omega)
      generalize (ak.toNat : Int) % ((k : Int) + 1) = q1 at *
      obtain ⟨r, rfl⟩ : ∃ r : Nat, q1 = r := ⟨q1.toNat, by omega⟩
      have hrk : r ≤ k := by omega
      clear hr1 hr2
      refine (own_ack s r m 0).mono ?_
      rintro e w4 ⟨rfl, s4⟩
      obtain ⟨d, Ls2, hA, hd, hL2, hx2⟩ := ack_fresh Ls hfr.out r m (by have := HK.out; omega)
      rw [hA] at s4 ⊢
      rw [HK.out] at hd hL2
      have HX2 := Lib.hid hx2
      have HL2 := Lib.hid hL2
      clear hA hx2 hL2 s hfr
      go_wp2_with (fail)
      refine (own_due s4 50).mono ?_
      rintro e w5 ⟨v, vs, rfl, hm5, s5, -⟩
      obtain ⟨hd1, hd2⟩ := due_hits 50 (1 + d) Ls2 (by omega)
      have hol : (dueOf 50 (1 + d) Ls2).1.length ≤ 64 := by
        rw [hd1]; have := dueOut_length 50 (1 + d) Ls2; have := HL2.out; omega
      have HX : Hid (∀ i (h : i < (dueOf 50 (1 + d) Ls2).1.length), ∃ x, Ls2[((dueOf 50 (1 + d) Ls2).1[i]).1 - (1 + d)]? = some x ∧ dueHit 50 x = true ∧ 1 + d ≤ ((dueOf 50 (1 + d) Ls2).1[i]).1) := by
        rw [hd1]; exact fun i h => dueOut_hit 50 (1 + d) Ls2 i h
      have hl3 : (dueOf 50 (1 + d) Ls2).2.length = k - d := by rw [hd2]; exact HL2.out
      generalize (dueOf 50 (1 + d) Ls2).2 = Ls3 at *
      generalize (dueOf 50 (1 + d) Ls2).1 = out at *
      obtain ⟨Bv, qv, rfl, -, hBv, -⟩ := own_slice hm5.row
      have HM := Lib.hid hm5
      have HL3 := Lib.hid hl3
      clear hm5 s4 hd1 hd2 hl3
      go_wp2_with (fail)
      go_loopw [60] (fun i wr2 => ∃ j : Nat, j ≤ out.length ∧ i = .int .i64 j ∧ Chg Pure' w5 wr2) (fun i _ => out.length - (intOf i).toNat)
      case atStart => exact ⟨0, Nat.zero_le _, rfl, Chg.refl _ _⟩
      case round =>
        obtain ⟨j, hj, rfl, hcj⟩ := hrel
        by_cases hjl : j < out.length
        · obtain ⟨x, x1, x2, x3⟩ := HX.out j hjl
          obtain ⟨gv, rfl, -⟩ := hBv (by omega)
          have hvl : j < vs.length := by rw [HM.out.len]; exact hjl
          have hl0 := HM.out.loads j hjl hvl
          have cell := fun c (hc : c < 9) => (HM.out.row.cellAt (j * 9 + c) (by have := HM.out.len; omega)).trans (rowCells_at out vs j hjl hvl c hc)
          generalize vs[j] = u at *
          generalize out[j] = oj at *
          obtain ⟨N, dd⟩ := oj
          simp only at x1 x3 hl0
          obtain ⟨Au, qu, rfl, -, -, -⟩ := own_slice hl0
          have hit0 : hit r m (N : Nat) = false := by
            have h1 := (HX2.out _ x x1).1
            rw [show 1 + d + (N - (1 + d)) = N from by omega] at h1
            unfold dueHit at x2
            rw [h1] at x2
            simp at x2
            exact x2.1
          obtain ⟨y1, y2⟩ := hit_not r m N hit0
          have m0 := hcj.cell (cell 0 (by omega)) (fun h => h)
          have m1 := hcj.cell (cell 1 (by omega)) (fun h => h)
          have m2 := hcj.cell (cell 2 (by omega)) (fun h => h)
          have m3 := hcj.cell (cell 3 (by omega)) (fun h => h)
          have m4 := hcj.cell (cell 4 (by omega)) (fun h => h)
          have m5 := hcj.cell (cell 5 (by omega)) (fun h => h)
          have m6 := hcj.cell (cell 6 (by omega)) (fun h => h)
          have m7 := hcj.cell (cell 7 (by omega)) (fun h => h)
          have m8 := hcj.cell (cell 8 (by omega)) (fun h => h)
          simp only [msgCells, List.getElem?_cons_succ, List.getElem?_cons_zero] at m0 m1 m2 m3 m4 m5 m6 m7 m8
          rw [Nat.add_zero] at m0
          have hN : N ≤ 33 := by
            have := (List.getElem?_eq_some_iff.1 x1).1
            have := HL2.out
            omega
          have cb : Chg Pure' w5 (wr.alloc (.cells #[.int .i64 1, .int .u64 0, .int .i64 0, .int .i64 (N : Nat), .int .i64 0, .int .u64 0, .int .i64 0, .int .i64 0, .slice Au dd.length qu] 41)) := hcj.alloc _
          have lit := fun c => cellAt_alloc_lit wr #[.int .i64 1, .int .u64 0, .int .i64 0, .int .i64 (N : Nat), .int .i64 0, .int .u64 0, .int .i64 0, .int .i64 0, .slice Au dd.length qu] 41 c
          have z3 : (wr.alloc (.cells #[.int .i64 1, .int .u64 0, .int .i64 0, .int .i64 (N : Nat), .int .i64 0, .int .u64 0, .int .i64 0, .int .i64 0, .slice Au dd.length qu] 41)).cell? ⟨wr.heap.size, 3, none⟩ = some (.int .i64 (N : Nat)) := lit 3
          have y4 : (((N : Nat) : Int) ≤ ((r : Nat) : Int)) = False := eq_false (by omega)
          have y5 : (N ≤ r) = False := eq_false (by omega)
          clear cell hit0 x1 x2 x3 lit hl0
          by_cases hge : r + 2 ≤ N
          · obtain ⟨q, hq⟩ : ∃ q, N = r + 2 + q := ⟨N - (r + 2), by omega⟩
            have y6 := y2 q hq (by omega)
            have y7 : (((r : Nat) : Int) + 2 ≤ ((N : Nat) : Int)) = True := eq_true (by omega)
            have y8 : ((N : Nat) : Int) - ((r : Nat) : Int) - 2 = (q : Nat) := by omega
            have y9 : (q : Int) < 64 := by omega
            clear hq
            clear y2
            go_wp2
            go_roundw
            case rel => exact ⟨j + 1, by omega, by go_num, cb⟩
            case measure => simp [intOf]; omega
          · have y7 : (((r : Nat) : Int) + 2 ≤ ((N : Nat) : Int)) = False := eq_false (by omega)
            clear y2
            go_wp2
            go_roundw
            case rel => exact ⟨j + 1, by omega, by go_num, cb⟩
            case measure => simp [intOf]; omega
        · have s6 := s5.pure hcj
          clear s5
          go_wp2_with (fail)
          refine (own_base s6).mono ?_
          rintro e w6 ⟨rfl, rfl⟩
          go_wp2_with (fail)
          rw [show (1 + (d : Int) - 1) = ((d : Nat) : Int) from by omega]
          refine (own_res s6 d 0 60).mono ?_
          rintro e w6 ⟨rfl, s7⟩
          obtain ⟨Ls4, r1, r2, r3⟩ := res_fresh d Ls3 (by omega)
          rw [r1] at s7 ⊢
          clear r1 s6
          go_wp2_with (fail)
          refine (own_due s7 60).mono ?_
          rintro e w7 ⟨v7, vs7, rfl, hm7, s8, -⟩
          obtain ⟨hd1, hd2⟩ := due_hits 60 (1 + d) Ls4 (by omega)
          have hlo : (dueOf 60 (1 + d) Ls4).1.length = k - d := by rw [hd1, dueOut_all 60 (1 + d) Ls4 r3, r2]; exact HL3.out
          obtain ⟨B7, q7, rfl, -, -, -⟩ := own_slice hm7.row
          rw [hlo]
          have hlim : d + Ls3.length = k := by have := HL3.out; omega
          rw [hlim] at s8
          have i1 : (k : Int) - (1 + (d : Int)) + 1 = ((k - d : Nat) : Int) := by omega
          generalize k - d = l0 at *
          clear hm7 hd1 hd2 hlo hlim s7 r2 r3
          go_wp2_with (fail)
          refine (own_limit s8).mono ?_
          rintro e w8 ⟨rfl, rfl⟩
          go_wp2
          go_ret
          obtain ⟨_, _, _, _, h⟩ := s8
          exact ⟨rfl, h⟩
end Go.Proofs.Ytlkpnhfdcljbfaa
