/- A load goes over: the probe of layer 19. -/
import Derived.Test.YtnpkpfcljkekfaaLinkR
namespace Go.Proofs.Ytnpkpfcljkekfaa
open Go Go.RowKit
set_option linter.unusedVariables false
set_option maxRecDepth 100000
set_option linter.unusedSimpArgs false

theorem unpackB_packed (m : Ms) (h : m.may = true) (hl : m.bytes.length ≤ 1200) : unpackB (frameB m.bytes) = .ok m := by
  have hs := scan_frame m.bytes [] hl
  rw [List.append_nil] at hs
  have h2 := unpackB_one (b := frameB m.bytes) (l := m.bytes) (by rw [hs]; rfl) rfl
  rw [h2, tell_bytes m h]
theorem Ms.bytes_len (m : Ms) (h : m.may = true) : m.bytes.length ≤ 80 + m.load.length := by
  rw [← m.head_all h, List.length_append]
  have := m.head_len 8 (by decide)
  omega
/-- What is packed is unpacked. -/
theorem unpR_pack (m : Ms) (h : m.may = true) (hl : m.bytes.length ≤ 1200) : unpR (packB m) = (m, 0) := by
  unfold packB unpR
  rw [if_pos ⟨h, hl⟩, unpackB_packed m h hl]
theorem ldeliver_in0 {w : World} {B : Base} {p : Nat} {s : Lp} (h : LinkIn w B p s) (i : Nat) (b : List UInt8) (sp : Bool) (hi : s.G0[i]? = some (b, sp)) (hT : s.T ≤ 4611686018427387904) :
    Calls Try.prog 26 #[.pointer (some ⟨p, 0, none⟩), .int .i64 0, .int .i64 (i : Nat)] w (delivPost w B p (cameL { s with G0 := s.G0.eraseIdx i } 0 (unpR b).1 (unpR b).2)) := by
  obtain ⟨m, col, rfl, rfl, h⟩ := h
  have hl : i < m.G0.length := by
    have := (List.getElem?_eq_some_iff.1 hi).1
    simpa [Lm.pl] using this
  have hb : (m.G0[i]).xs = b := by
    have e : (m.G0.map fun g => (g.xs, g.sp))[i]? = some (b, sp) := hi
    rw [List.getElem?_map, List.getElem?_eq_getElem hl] at e
    simp at e
    exact e.1
  rw [← hb]
  exact ldeliver_ok0 h i hl hT
theorem ldeliver_in1 {w : World} {B : Base} {p : Nat} {s : Lp} (h : LinkIn w B p s) (i : Nat) (b : List UInt8) (sp : Bool) (hi : s.G1[i]? = some (b, sp)) (hT : s.T ≤ 4611686018427387904) :
    Calls Try.prog 26 #[.pointer (some ⟨p, 0, none⟩), .int .i64 1, .int .i64 (i : Nat)] w (delivPost w B p (cameL { s with G1 := s.G1.eraseIdx i } 1 (unpR b).1 (unpR b).2)) := by
  obtain ⟨m, col, rfl, rfl, h⟩ := h
  have hl : i < m.G1.length := by
    have := (List.getElem?_eq_some_iff.1 hi).1
    simpa [Lm.pl] using this
  have hb : (m.G1[i]).xs = b := by
    have e : (m.G1.map fun g => (g.xs, g.sp))[i]? = some (b, sp) := hi
    rw [List.getElem?_map, List.getElem?_eq_getElem hl] at e
    simp at e
    exact e.1
  rw [← hb]
  exact ldeliver_ok1 h i hl hT
def mA : Ms := (dueM 1 [97]).sealed 7 1
def mB : Ms := (ackM 0 4 [none, none, none, none]).sealed 7 1
theorem mA_may : mA.may = true := by decide
theorem mA_un : unpR (packB mA) = (mA, 0) := unpR_pack mA mA_may (by have := mA.bytes_len mA_may; have e : mA.load.length = 1 := rfl; omega)
def sA : Lp := ⟨7, 0, 1, 4, 0, 1, 4, 1, [⟨[97], false, 0, 1⟩], [none, none, none, none], [], [], 1, 0⟩
def sB : Lp := ⟨7, 1, 1, 4, 0, 1, 4, 1, [⟨[97], false, 2, 2⟩], [none, none, none, none], [(packB mA, false)], [(packB mB, false)], 1, 0⟩
def sC : Lp := ⟨7, 1, 1, 4, 0, 1, 4, 1, [⟨[97], false, 2, 2⟩], [some [97], none, none, none], [], [(packB mB, false)], 1, 0⟩
def sD : Lp := ⟨7, 1, 1, 4, 1, 1, 4, 1, [⟨[97], false, 2, 2⟩], [none, none, none, none], [], [(packB mB, false)], 1, 1⟩
theorem step_A : sendL (newL 4 7) [97] = (0, sA) := rfl
theorem step_B : tickL sA = sB := rfl
theorem step_C : cameL { sB with G0 := sB.G0.eraseIdx 0 } 0 mA 0 = (0, sC) := rfl
theorem step_D : pollL sC = (some [97], sD) := rfl
end Go.Proofs.Ytnpkpfcljkekfaa
