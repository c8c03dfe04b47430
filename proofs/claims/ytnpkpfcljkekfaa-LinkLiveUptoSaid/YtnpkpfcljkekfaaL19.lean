/- The laws of layer 19: the probe, LinkPacks and LinkTells. -/
import Derived.Test.YtnpkpfcljkekfaaLinkS
namespace Go.Proofs.Ytnpkpfcljkekfaa
open Go Go.RowKit
set_option linter.unusedVariables false
set_option maxRecDepth 100000
set_option linter.unusedSimpArgs false

set_option maxHeartbeats 8000000 in
theorem alive19 (w : World) : Calls Try.prog 15 #[] w fun e w' => e = .returned (.bool true) ∧ Chg Pure' w w' := by
  have kc := fun (w : World) (C : Array Value) (n c : Nat) => Lib.run_convert_bytes_const (P := Try.prog) w 23 5 C n c Try.underlying23 Try.underlying5
  go_enter Try.func15, Try.ntmps15
  go_wp2_with (fail)
  refine (lnew_ok 4 7 w (by omega) (by omega)).mono ?_
  rintro e w1 ⟨p, rfl, h1, c1⟩
  have ca : Chg Pure' w1 (w1.alloc (.cells #[.int .u8 97] 5 (1, 2))) := (Chg.refl _ w1).alloc _
  have hb := Bytes.alloc_mark w1 #[.int .u8 97] 5 (1, 2) [97] rfl 1 rfl
  have HS := Lib.hid (lsend_any (h1.pure ca) (some ⟨w1.heap.size, 0, none⟩) 1 1 [97] hb (by omega) (by show 0 ≤ _; omega) (by show 0 ≤ _; omega))
  have C1 := Lib.hid (c1.pure ca)
  clear h1 c1 ca hb
  go_wp2_with (fail)
  refine HS.out.mono ?_
  rintro e w2 ⟨rfl, h2, c2⟩
  rw [step_A] at h2 ⊢
  have B0 : ∀ i, i < w.heap.size → (Base.of w.heap.size).ok i → Pure' i := fun i h1 h2 => by have h3 : w.heap.size ≤ i := h2.1; omega
  have C2 := Lib.hid (C1.out.trans c2 B0)
  have HT := Lib.hid (ltick_any h2 (by show 0 ≤ _; omega))
  clear h2 c2 HS C1
  go_wp2_with (fail)
  refine HT.out.mono ?_
  rintro e w3 ⟨rfl, h3, c3⟩
  rw [step_B] at h3
  have C3 := Lib.hid (C2.out.trans c3 B0)
  have H0 := Lib.hid (lway0 h3)
  have H1 := Lib.hid (lway1 h3)
  have HD := Lib.hid (ldeliver_in0 h3 0 (packB mA) false rfl (by show 0 ≤ _; omega))
  rw [mA_un] at HD
  clear h3 c3 HT C2
  go_wp2_with (fail)
  refine H0.out.mono ?_
  rintro e w4 ⟨rfl, rfl⟩
  go_wp2_with (fail)
  refine H1.out.mono ?_
  rintro e w4 ⟨rfl, rfl⟩
  go_wp2_with (fail)
  refine HD.out.mono ?_
  rintro e w4 ⟨rfl, h4, c4⟩
  rw [show ({ sB with G0 := sB.G0.eraseIdx 0 } : Lp) = { sB with G0 := sB.G0.eraseIdx 0 } from rfl] at h4
  have h4 : LinkIn w4 (.of w.heap.size) p sC := h4
  have C4 := Lib.hid (C3.out.trans c4 B0)
  have HP := Lib.hid (lpoll_any h4 (by show 0 ≤ _; omega) (by show 0 ≤ _; omega))
  clear h4 c4 H0 H1 HD C3
  go_wp2_with (fail)
  refine HP.out.mono ?_
  rintro e w5 ⟨h5, c5, hp5⟩
  rw [step_D] at h5 hp5
  obtain ⟨A5, n5, q5, rfl, hl5, hm5, hb5⟩ := hp5
  have s5 := hb5.run_string (P := Try.prog) 23 9 5 Try.underlying23 Try.underlying5 Try.underlying9 q5
  have C5 := Lib.hid (C4.out.trans c5 B0)
  have HS := Lib.hid (lsent_any h5)
  have HG := Lib.hid (lgot_any h5)
  clear h5 c5 HP C4 hb5
  go_wp2_with (fail)
  refine HS.out.mono ?_
  rintro e w6 ⟨rfl, rfl⟩
  go_wp2_with (fail)
  refine HG.out.mono ?_
  rintro e w6 ⟨rfl, rfl⟩
  go_wp2
  go_ret
  exact ⟨rfl, C5.out⟩
end Go.Proofs.Ytnpkpfcljkekfaa
