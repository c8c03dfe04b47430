/- The laws of layer 17: the probe. -/
import Derived.Test.YtlkpnhfdcljbfaaSendH
namespace Go.Proofs.Ytlkpnhfdcljbfaa
open Go Go.RowKit
set_option linter.unusedVariables false
set_option linter.unusedSimpArgs false

theorem MsgsAt.cells {w : World} {B : Nat} {v : Value} {out : List (Nat × List UInt8)} {vs : List Value} (h : MsgsAt w B v out vs) (hp : 0 < out.length) : ∃ g c, v = .slice (some ⟨g, 0, none⟩) out.length c ∧ B ≤ g ∧ ∀ j, j < out.length * 9 → w.cell? ⟨g, j, none⟩ = (rowCells out vs)[j]? := by
  rcases h.row.2 with ⟨rfl, h0⟩ | ⟨g, cap, cur, rfl, hb, hh, r⟩
  · omega
  · exact ⟨g, cap, rfl, hb, fun j hj => h.row.cellAt j hj⟩
set_option maxRecDepth 100000 in
set_option maxHeartbeats 2000000 in
theorem alive17 (w : World) : Calls Try.prog 10 #[] w fun e w' => e = .returned (.bool true) ∧ Chg Pure' w w' := by
  have kc := fun (w : World) (C : Array Value) (n c : Nat) => Lib.run_convert_bytes_const (P := Try.prog) w 22 5 C n c Try.underlying22 Try.underlying5
  go_enter Try.func10, Try.ntmps10
  go_wp2_with (fail)
  refine (own_new 4 w (by omega) (by omega)).mono ?_
  rintro e w1 ⟨rfl, s1⟩
  go_wp2_with (fail)
  refine (own_ack s1 0 0 2).mono ?_
  rintro e w2 ⟨rfl, s2⟩
  rw [show ackOf 1 0 [] 0 0 2 = (0, 1, 2, []) from rfl] at s2 ⊢
  go_wp2_with (fail)
  have s3 := s2.pure ((Chg.refl _ w2).alloc (.cells #[.int .u8 97] 5 (1, 2)))
  have hb := Bytes.alloc_mark w2 #[.int .u8 97] 5 (1, 2) [97] rfl 1 rfl
  refine (own_push s3 _ 1 1 [97] 0 hb (by omega) (by omega)).mono ?_
  rintro e w3 ⟨rfl, s4⟩
  rw [show pushOf 4 1 2 [] [97] 0 = ((1, 0), [⟨[97], false, 0, 1⟩]) from rfl] at s4 ⊢
  go_wp2_with (fail)
  have s5 := s4.pure ((Chg.refl _ w3).alloc (.cells #[.int .u8 98] 5 (1, 2)))
  have hb := Bytes.alloc_mark w3 #[.int .u8 98] 5 (1, 2) [98] rfl 1 rfl
  refine (own_push s5 _ 1 1 [98] 0 hb (by omega) (by omega)).mono ?_
  rintro e w4 ⟨rfl, s6⟩
  rw [show pushOf 4 1 2 [⟨[97], false, 0, 1⟩] [98] 0 = ((2, 0), [⟨[97], false, 0, 1⟩, ⟨[98], false, 0, 1⟩]) from rfl] at s6 ⊢
  go_wp2_with (fail)
  have s7 := s6.pure ((Chg.refl _ w4).alloc (.cells #[.int .u8 99] 5 (1, 2)))
  have hb := Bytes.alloc_mark w4 #[.int .u8 99] 5 (1, 2) [99] rfl 1 rfl
  refine (own_push s7 _ 1 1 [99] 0 hb (by omega) (by omega)).mono ?_
  rintro e w5 ⟨rfl, s8⟩
  rw [show pushOf 4 1 2 [⟨[97], false, 0, 1⟩, ⟨[98], false, 0, 1⟩] [99] 0 = ((0, 13), [⟨[97], false, 0, 1⟩, ⟨[98], false, 0, 1⟩]) from rfl] at s8 ⊢
  go_wp2_with (fail)
  refine (own_due s8 0).mono ?_
  rintro e w6 ⟨v, vs, rfl, hm, s9, -⟩
  rw [show dueOf 0 1 [⟨[97], false, 0, 1⟩, ⟨[98], false, 0, 1⟩] = ([(1, [97]), (2, [98])], [⟨[97], false, 1, 2⟩, ⟨[98], false, 1, 2⟩]) from rfl] at hm s9
  obtain ⟨g, c, rfl, -, hcell⟩ := hm.cells (by decide)
  obtain ⟨va, vb, rfl⟩ : ∃ va vb, vs = [va, vb] := by
    match vs, hm.len with
    | [va, vb], _ => exact ⟨va, vb, rfl⟩
  have h12 := hcell 12 (by decide)
  have h17 := hcell 17 (by decide)
  have hl1 : w6.ownsRow _ 5 1 vb 1 (enc [98]) := hm.loads 1 (by decide) (by simp)
  simp only [rowCells, msgCells, List.cons_append, List.nil_append, List.append_nil, List.getElem?_cons_succ, List.getElem?_cons_zero] at h12 h17
  obtain ⟨A1, q1, rfl, -, hb1, -⟩ := Bytes.of_own hl1
  have st := hb1.run_string (P := Try.prog) 22 9 5 Try.underlying22 Try.underlying5 Try.underlying9 q1
  clear hcell hm hl1
  go_wp2_with (fail)
  refine (own_ack s9 1 0 3).mono ?_
  rintro e w7 ⟨rfl, s10⟩
  rw [show ackOf 1 2 [⟨[97], false, 1, 2⟩, ⟨[98], false, 1, 2⟩] 1 0 3 = (0, 2, 3, [⟨[98], false, 1, 2⟩]) from rfl] at s10 ⊢
  go_wp2_with (fail)
  obtain ⟨adr, D, g1, g2, g3⟩ := s10
  refine (sout_any g1).mono ?_
  rintro e w8 ⟨rfl, c8⟩
  go_wp2
  go_ret
  exact ⟨rfl, g3.pure c8⟩
end Go.Proofs.Ytlkpnhfdcljbfaa
