/- The laws of layer 20: SessNobody. -/
import Derived.Test.YtpfnphkgmjgmeaaL20N
namespace Go.Proofs.Ytpfnphkgmjgmeaa
open Go Go.RowKit
set_option linter.unusedVariables false
set_option linter.unusedSimpArgs false

set_option maxRecDepth 100000 in
set_option maxHeartbeats 8000000 in
theorem law_SessNobody (ask : Act20) (w : World) :
    Calls Try.prog 8 #[.agg ask.cells.toArray] w fun e w' => e = .returned (.bool true) ∧ Chg Pure' w w' := by
  have KQ := AskAt.made w ask
  obtain ⟨qkind, qnow, ⟨qmk, qmt, qme, qms, qma, qmb, qmc, qmf, qmA, qmn, qmq⟩, qd⟩ := ask
  rw [show (Act20.cells ⟨qkind, qnow, ⟨qmk, qmt, qme, qms, qma, qmb, qmc, qmf, qmA, qmn, qmq⟩, qd⟩).toArray = #[.int .i64 qkind, .int .i64 qnow, .int .i64 qmk, .int .u64 (qmt.toNat : Int), .int .i64 qme, .int .i64 qms, .int .i64 qma, .int .u64 (qmb.toNat : Int), .int .i64 qmc, .int .i64 qmf, .slice qmA qmn qmq, .int .u64 (qd.toNat : Int)] from rfl] at KQ ⊢
  have hz := zero_msg20
  have hzt := zero_table
  have c0 : Chg Pure' w (w.alloc (.cells #[.int .i64 qkind, .int .i64 qnow, .int .i64 qmk, .int .u64 (qmt.toNat : Int), .int .i64 qme, .int .i64 qms, .int .i64 qma, .int .u64 (qmb.toNat : Int), .int .i64 qmc, .int .i64 qmf, .slice qmA qmn qmq, .int .u64 (qd.toNat : Int)] 46)) := (Chg.refl _ w).alloc _
  have hs0 : (w.alloc (.cells #[.int .i64 qkind, .int .i64 qnow, .int .i64 qmk, .int .u64 (qmt.toNat : Int), .int .i64 qme, .int .i64 qms, .int .i64 qma, .int .u64 (qmb.toNat : Int), .int .i64 qmc, .int .i64 qmf, .slice qmA qmn qmq, .int .u64 (qd.toNat : Int)] 46)).heap.size = w.heap.size + 1 := by simp
  go_enter Try.func8, Try.ntmps8
  go_wp2_with (fail)
  generalize (w.alloc (.cells #[.int .i64 qkind, .int .i64 qnow, .int .i64 qmk, .int .u64 (qmt.toNat : Int), .int .i64 qme, .int .i64 qms, .int .i64 qma, .int .u64 (qmb.toNat : Int), .int .i64 qmc, .int .i64 qmf, .slice qmA qmn qmq, .int .u64 (qd.toNat : Int)] 46)) = w0 at *
  have C1 : Chg Pure' w0 (w0.alloc (.cells #[.int .i64 0, .int .i64 0, .int .i64 0, .slice none 0 0, .map none] 62)) := (Chg.refl _ w0).alloc _
  have D1 : DeadT (w0.alloc (.cells #[.int .i64 0, .int .i64 0, .int .i64 0, .slice none 0 0, .map none] 62)) (.pointer (some ⟨w.heap.size + 1, 0, none⟩)) := .inr ⟨_, rfl, by rw [← hs0, cellAt_alloc_lit]; rfl⟩
  have hs1 : (w0.alloc (.cells #[.int .i64 0, .int .i64 0, .int .i64 0, .slice none 0 0, .map none] 62)).heap.size = w.heap.size + 1 + 1 := by simp [hs0]
  generalize (w0.alloc (.cells #[.int .i64 0, .int .i64 0, .int .i64 0, .slice none 0 0, .map none] 62)) = w1 at *
  have C2 : Chg Pure' w1 (w1.alloc (.cells #[.pointer none, .pointer (some ⟨w.heap.size + 1, 0, none⟩)] 23)) := (Chg.refl _ w1).alloc _
  have D2 := D1.chg C2
  have D3 : DeadT (w1.alloc (.cells #[.pointer none, .pointer (some ⟨w.heap.size + 1, 0, none⟩)] 23)) (.pointer none) := .inl rfl
  have k0 : (w1.alloc (.cells #[.pointer none, .pointer (some ⟨w.heap.size + 1, 0, none⟩)] 23)).cell? ⟨w.heap.size + 1 + 1, 0, none⟩ = some (.pointer none) := by rw [← hs1, cellAt_alloc_lit]; rfl
  have k1 : (w1.alloc (.cells #[.pointer none, .pointer (some ⟨w.heap.size + 1, 0, none⟩)] 23)).cell? ⟨w.heap.size + 1 + 1, 1, none⟩ = some (.pointer (some ⟨w.heap.size + 1, 0, none⟩)) := by rw [← hs1, cellAt_alloc_lit]; rfl
  generalize (w1.alloc (.cells #[.pointer none, .pointer (some ⟨w.heap.size + 1, 0, none⟩)] 23)) = w2 at *
  have K2 := Lib.hid ((KQ.chg C1 (fun h => h)).chg C2 (fun h => h))
  have C3 := (c0.pure C1).pure C2
  clear D1 C1 C2 c0 KQ hs0 hs1
  go_loopw [14] (fun i wr => ∃ k : Nat, k ≤ 2 ∧ i = .int .i64 k ∧ Chg Pure' w2 wr) (fun i _ => 2 - (intOf i).toNat)
  case atStart => exact ⟨0, Nat.zero_le _, rfl, Chg.refl _ _⟩
  case round =>
    obtain ⟨k, hk, rfl, hC⟩ := hrel
    by_cases hlt : k < 2
    · obtain ⟨v, hkv, hD, hone⟩ : ∃ v, wr.cell? ⟨w.heap.size + 1 + 1, k, none⟩ = some v ∧ DeadT wr v ∧ ((∃ a, v = .pointer a)) := by
        rcases (show k = 0 ∨ k = 1 from by omega) with rfl | rfl
        · exact ⟨_, hC.cell k0 (fun h => h), D3.chg hC, _, rfl⟩
        · exact ⟨_, hC.cell k1 (fun h => h), D2.chg hC, _, rfl⟩
      obtain ⟨pa, rfl⟩ := hone
      have K3 := K2.out.chg hC (fun h => h)
      have q1 := K3 1 _ rfl
      have q2 := K3 2 _ rfl
      have q3 := K3 3 _ rfl
      have q4 := K3 4 _ rfl
      have q5 := K3 5 _ rfl
      have q6 := K3 6 _ rfl
      have q7 := K3 7 _ rfl
      have q8 := K3 8 _ rfl
      have q9 := K3 9 _ rfl
      have q10 := K3 10 _ rfl
      have q11 := K3 11 _ rfl
      simp only at q1 q2 q3 q4 q5 q6 q7 q8 q9 q10 q11
      clear k0 k1 D2 D3
      go_wp2_with (fail)
      refine (thello_dead _ _ _ ⟨qmk, qmt, qme, qms, qma, qmb, qmc, qmf, qmA, qmn, qmq⟩ _ hD).mono ?_
      rintro e w4 ⟨rfl, c4⟩
      rw [show (resetM (Mg.token ⟨qmk, qmt, qme, qms, qma, qmb, qmc, qmf, qmA, qmn, qmq⟩)).val = .agg #[.int .i64 5, .int .u64 (qmt.toNat : Int), .int .i64 0, .int .i64 0, .int .i64 0, .int .u64 0, .int .i64 0, .int .i64 0, .slice none 0 0] from rfl]
      have ca : Chg Pure' w4 (w4.alloc (.cells #[.int .i64 5, .int .u64 (qmt.toNat : Int), .int .i64 0, .int .i64 0, .int .i64 0, .int .u64 0, .int .i64 0, .int .i64 0, .slice none 0 0] 32)) := (Chg.refl _ w4).alloc _
      have hD5 := (hD.chg c4).chg ca
      have hC5 := (hC.pure c4).pure ca
      have K5 := K2.out.chg hC5 (fun h => h)
      have m0 : (w4.alloc (.cells #[.int .i64 5, .int .u64 (qmt.toNat : Int), .int .i64 0, .int .i64 0, .int .i64 0, .int .u64 0, .int .i64 0, .int .i64 0, .slice none 0 0] 32)).cell? ⟨w4.heap.size, 0, none⟩ = some (.int .i64 5) := cellAt_alloc_lit w4 _ _ 0
      have m1 : (w4.alloc (.cells #[.int .i64 5, .int .u64 (qmt.toNat : Int), .int .i64 0, .int .i64 0, .int .i64 0, .int .u64 0, .int .i64 0, .int .i64 0, .slice none 0 0] 32)).cell? ⟨w4.heap.size, 1, none⟩ = some (.int .u64 (qmt.toNat : Int)) := cellAt_alloc_lit w4 _ _ 1
      have m2 : (w4.alloc (.cells #[.int .i64 5, .int .u64 (qmt.toNat : Int), .int .i64 0, .int .i64 0, .int .i64 0, .int .u64 0, .int .i64 0, .int .i64 0, .slice none 0 0] 32)).cell? ⟨w4.heap.size, 2, none⟩ = some (.int .i64 0) := cellAt_alloc_lit w4 _ _ 2
      have m3 : (w4.alloc (.cells #[.int .i64 5, .int .u64 (qmt.toNat : Int), .int .i64 0, .int .i64 0, .int .i64 0, .int .u64 0, .int .i64 0, .int .i64 0, .slice none 0 0] 32)).cell? ⟨w4.heap.size, 3, none⟩ = some (.int .i64 0) := cellAt_alloc_lit w4 _ _ 3
      have m4 : (w4.alloc (.cells #[.int .i64 5, .int .u64 (qmt.toNat : Int), .int .i64 0, .int .i64 0, .int .i64 0, .int .u64 0, .int .i64 0, .int .i64 0, .slice none 0 0] 32)).cell? ⟨w4.heap.size, 4, none⟩ = some (.int .i64 0) := cellAt_alloc_lit w4 _ _ 4
      have m5 : (w4.alloc (.cells #[.int .i64 5, .int .u64 (qmt.toNat : Int), .int .i64 0, .int .i64 0, .int .i64 0, .int .u64 0, .int .i64 0, .int .i64 0, .slice none 0 0] 32)).cell? ⟨w4.heap.size, 5, none⟩ = some (.int .u64 0) := cellAt_alloc_lit w4 _ _ 5
      have m6 : (w4.alloc (.cells #[.int .i64 5, .int .u64 (qmt.toNat : Int), .int .i64 0, .int .i64 0, .int .i64 0, .int .u64 0, .int .i64 0, .int .i64 0, .slice none 0 0] 32)).cell? ⟨w4.heap.size, 6, none⟩ = some (.int .i64 0) := cellAt_alloc_lit w4 _ _ 6
      have m7 : (w4.alloc (.cells #[.int .i64 5, .int .u64 (qmt.toNat : Int), .int .i64 0, .int .i64 0, .int .i64 0, .int .u64 0, .int .i64 0, .int .i64 0, .slice none 0 0] 32)).cell? ⟨w4.heap.size, 7, none⟩ = some (.int .i64 0) := cellAt_alloc_lit w4 _ _ 7
      have m8 : (w4.alloc (.cells #[.int .i64 5, .int .u64 (qmt.toNat : Int), .int .i64 0, .int .i64 0, .int .i64 0, .int .u64 0, .int .i64 0, .int .i64 0, .slice none 0 0] 32)).cell? ⟨w4.heap.size, 8, none⟩ = some (.slice none 0 0) := cellAt_alloc_lit w4 _ _ 8
      have q1 := K5 1 _ rfl
      have q2 := K5 2 _ rfl
      have q3 := K5 3 _ rfl
      have q4 := K5 4 _ rfl
      have q5 := K5 5 _ rfl
      have q6 := K5 6 _ rfl
      have q7 := K5 7 _ rfl
      have q8 := K5 8 _ rfl
      have q9 := K5 9 _ rfl
      have q10 := K5 10 _ rfl
      have q11 := K5 11 _ rfl
      simp only at q1 q2 q3 q4 q5 q6 q7 q8 q9 q10 q11
      clear hD c4 ca K3
      go_wp2_with (fail)
      generalize (w4.alloc (.cells #[.int .i64 5, .int .u64 (qmt.toNat : Int), .int .i64 0, .int .i64 0, .int .i64 0, .int .u64 0, .int .i64 0, .int .i64 0, .slice none 0 0] 32)) = w5 at *
      generalize w4.heap.size = rb at *
      refine (tfind_dead _ _ _ hD5).mono ?_
      rintro e w' ⟨rfl, rfl⟩
      go_wp2_with (fail)
      refine (one_reset qmt _).mono ?_
      rintro e w6 ⟨rfl, c6⟩
      have hD6 := hD5.chg c6
      have hC6 := hC5.pure c6
      have K6 := K5.chg c6 (fun h => h)
      have q1 := K6 1 _ rfl
      have q2 := K6 2 _ rfl
      have q3 := K6 3 _ rfl
      have q4 := K6 4 _ rfl
      have q5 := K6 5 _ rfl
      have q6 := K6 6 _ rfl
      have q7 := K6 7 _ rfl
      have q8 := K6 8 _ rfl
      have q9 := K6 9 _ rfl
      have q10 := K6 10 _ rfl
      have q11 := K6 11 _ rfl
      simp only at q1 q2 q3 q4 q5 q6 q7 q8 q9 q10 q11
      clear hD5 hC5 K5 c6 m0 m1 m2 m3 m4 m5 m6 m7 m8
      go_wp2_with (fail)
      refine (thear_dead _ _ ⟨qmk, qmt, qme, qms, qma, qmb, qmc, qmf, qmA, qmn, qmq⟩ _ hD6).mono ?_
      rintro e w7 ⟨rfl, c7⟩
      have hD7 := hD6.chg c7
      have hC7 := hC6.pure c7
      have K7 := K6.chg c7 (fun h => h)
      have q1 := K7 1 _ rfl
      have q2 := K7 2 _ rfl
      have q3 := K7 3 _ rfl
      have q4 := K7 4 _ rfl
      have q5 := K7 5 _ rfl
      have q6 := K7 6 _ rfl
      have q7 := K7 7 _ rfl
      have q8 := K7 8 _ rfl
      have q9 := K7 9 _ rfl
      have q10 := K7 10 _ rfl
      have q11 := K7 11 _ rfl
      simp only at q1 q2 q3 q4 q5 q6 q7 q8 q9 q10 q11
      clear hD6 hC6 K6 c7
      go_wp2_with (fail)
      refine (tclose_dead _ _ _ _ hD7).mono ?_
      rintro e w' ⟨rfl, rfl⟩
      go_wp2_with (fail)
      refine (ttick_dead _ rfl _ _ hD7).mono ?_
      rintro e w8 ⟨rfl, c8⟩
      have hD8 := hD7.chg c8
      have hC8 := hC7.pure c8
      clear hD7 hC7 K7 c8
      go_wp2_with (fail)
      refine (tlive_dead _ _ hD8).mono ?_
      rintro e w' ⟨rfl, rfl⟩
      go_wp2
      go_roundw
      case rel => exact ⟨k + 1, by omega, by go_num, hC8⟩
      case measure => simp [intOf]; omega
    · go_wp2_with (fail)
      refine (alive20 _).mono ?_
      rintro e w9 ⟨rfl, c9⟩
      go_wp2
      go_ret
      exact ⟨rfl, (C3.pure hC).pure c9⟩
end Go.Proofs.Ytpfnphkgmjgmeaa
