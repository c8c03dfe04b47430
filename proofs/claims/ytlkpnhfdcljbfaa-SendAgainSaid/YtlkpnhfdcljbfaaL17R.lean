/- The laws of layer 17, going on: SendAgain. -/
import Derived.Test.YtlkpnhfdcljbfaaL17C
namespace Go.Proofs.Ytlkpnhfdcljbfaa
open Go Go.RowKit
set_option linter.unusedVariables false
set_option linter.unusedSimpArgs false

theorem dueOf_one (i : Nat) (xs : List UInt8) (t v : Int) (hi : i ≤ 1099511627776) : dueOf (i : Int) 1 [⟨xs, false, t, v⟩] = if t ≤ i then ([(1, xs)], [⟨xs, false, i + v, if 64 < 2 * v then 64 else 2 * v⟩]) else ([], [⟨xs, false, t, v⟩]) := by
  unfold dueOf
  rw [if_pos (by omega)]
  by_cases h : t ≤ i
  · rw [if_pos h]
    simp [dueOut, dueHit, dueLd, h]
  · rw [if_neg h]
    simp [dueOut, dueHit, dueLd, h]
set_option maxRecDepth 100000 in
set_option maxHeartbeats 4000000 in
theorem law_SendAgain (A : Option Addr) (n c : Nat) (xs : List UInt8) (a : Int) (m : UInt8) (w : World) (hA : Bytes w A n xs) (hc : n ≤ c) (hn : n ≤ 140737488351232) (ha : 0 ≤ a ∧ a ≤ 65535) :
    Calls Try.prog 3 #[.slice A n c, .int .u16 a, .int .u8 (m.toNat : Int)] w fun e w' => e = .returned (.bool true) ∧ Chg Pure' w w' := by
  have hm := m.toNat_lt
  go_enter Try.func3, Try.ntmps3
  go_wp2_with (fail)
  refine (own_new 2 _ (by omega) (by omega)).mono ?_
  rintro e w1 ⟨rfl, s1⟩
  go_wp2_with (fail)
  refine (own_ack s1 0 0 9).mono ?_
  rintro e w2 ⟨rfl, s2⟩
  rw [show ackOf 1 0 [] 0 0 9 = (0, 1, 9, []) from rfl] at s2 ⊢
  go_wp2_with (fail)
  refine (alive17 _).mono ?_
  rintro e w3 ⟨rfl, c3⟩
  have s3 := s2.pure c3
  have hA3 : Bytes w3 A n xs := by obtain ⟨_, _, _, _, h⟩ := s3; exact hA.pure h
  generalize hp : w.heap.size + 1 = p at *
  clear s1 s2 c3
  go_wp2_with (fail)
  refine (own_push s3 A n c xs 0 hA3 hn (by omega)).mono ?_
  rintro e w4 ⟨rfl, s4⟩
  by_cases hbig : 1200 < xs.length
  · have hpo : pushOf 2 1 9 [] xs 0 = ((0, 8), []) := by
      unfold pushOf
      rw [if_neg (by omega), if_pos hbig]
    rw [hpo] at s4 ⊢
    clear hpo
    go_wp2
    go_ret
    obtain ⟨_, _, _, _, h⟩ := s4
    exact ⟨rfl, h⟩
  · have hpo : pushOf 2 1 9 [] xs 0 = ((1, 0), [⟨xs, false, 0, 1⟩]) := by
      unfold pushOf
      rw [if_neg (by omega), if_neg hbig, if_neg (by simp)]
      rfl
    rw [hpo] at s4 ⊢
    clear hpo s3
    go_wp2_with (fail)
    go_loopw [11, 49] (fun l i wr => ∃ (k L : Nat) (t v : Int), (k : Int) ≤ a % 2000 + (m.toNat : Int) ∧ i = .int .i64 k ∧ l = .int .i64 L ∧ L ≤ k ∧ t ≤ L + 64 ∧ 1 ≤ v ∧ v ≤ 64 ∧ OwnS w wr p w.heap.size 2 1 9 [⟨xs, false, t, v⟩] 1) (fun _ i _ => (a % 2000 + (m.toNat : Int)).toNat - (intOf i).toNat)
    case atStart => exact ⟨0, 0, 0, 1, by omega, rfl, rfl, Nat.le_refl _, by omega, by omega, by omega, s4⟩
    case round =>
      obtain ⟨k, L, t, v, hk, rfl, rfl, hL, ht, hv1, hv2, s⟩ := hrel
      clear s4 hA hA3
      by_cases hlt : (k : Int) < a % 2000 + (m.toNat : Int)
      · go_wp2_with (fail)
        refine (own_due s k).mono ?_
        rintro e w5 ⟨u, vs, rfl, hm5, s5, -⟩
        rw [dueOf_one k xs t v (by omega)] at hm5 s5
        by_cases hti : t ≤ k
        · rw [if_pos hti] at hm5 s5
          obtain ⟨g, q, rfl, -⟩ := hm5.cells (by simp)
          have hkk : (k : Int) - k = 0 := by omega
          have hv3 : 1 ≤ (if 64 < 2 * v then 64 else 2 * v) ∧ (if 64 < 2 * v then 64 else 2 * v) ≤ 64 := by split <;> omega
          clear hm5 s
          simp only [List.length_singleton] at *
          go_wp2
          go_roundw
          case rel => exact ⟨k + 1, k, _, _, by omega, by go_num, rfl, by omega, by omega, hv3.1, hv3.2, s5⟩
          case measure => simp [intOf]; omega
        · rw [if_neg hti] at hm5 s5
          obtain ⟨B, q, rfl, -, -, -⟩ := own_slice hm5.row
          have hkk : (k : Int) - L ≤ 64 := by omega
          clear hm5 s
          simp only [List.length_nil] at *
          go_wp2
          go_roundw
          case rel => exact ⟨k + 1, L, t, v, by omega, by go_num, rfl, by omega, by omega, hv1, hv2, s5⟩
          case measure => simp [intOf]; omega
      · go_wp2
        go_ret
        obtain ⟨_, _, _, _, h⟩ := s
        exact ⟨rfl, h⟩
end Go.Proofs.Ytlkpnhfdcljbfaa
