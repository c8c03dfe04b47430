/- Datagrams are unpacked by the program: the closure that reads a number. -/
import Derived.Test.YtnpkpfcljkekfaaLinkD
namespace Go.Proofs.Ytnpkpfcljkekfaa
open Go Go.RowKit
set_option linter.unusedVariables false
set_option maxRecDepth 100000
set_option linter.unusedSimpArgs false

/-- A number that is too great is Far. -/
def numM (n : Nat) : Int := if n ≤ 4611686018427387904 then (n : Int) else 4611686018427387904
/-- What the closure holds: the cursor's pointer, and whether all numbers were small. -/
structure Un (w : World) (p ps pc : Nat) (A : Option Addr) (q : Nat) (c : Cr) (sm : Bool) : Prop where
  cur : CurAt w p A q c
  pcc : w.cell? ⟨pc, 0, none⟩ = some (.pointer (some ⟨p, 0, none⟩))
  sblk : w.heap[ps]? = some (.cells #[.bool sm] 4 (0, 0))
  n1 : p ≠ ps
  n2 : pc ≠ p
  n3 : pc ≠ ps
  off : Off A (fun k => k = ps)
def UnT (p ps : Nat) : Nat → Prop := fun k => k = p ∨ k = ps
theorem Un.pure {w w' : World} {p ps pc : Nat} {A : Option Addr} {q : Nat} {c : Cr} {sm : Bool} (h : Un w p ps pc A q c sm) (hc : Chg Pure' w w') : Un w' p ps pc A q c sm :=
  ⟨h.cur.pure hc, hc.cell h.pcc (fun h => h), (hc.block ps (Array.getElem?_eq_some_iff.1 h.sblk).1 (fun h => h)).trans h.sblk, h.n1, h.n2, h.n3, h.off⟩
theorem Un.frame {S : Nat → Prop} {w w' : World} {p ps pc : Nat} {A : Option Addr} {q : Nat} {c : Cr} {sm : Bool} (h : Un w p ps pc A q c sm) (hc : Chg S w w') (h1 : ¬ S p) (h2 : ¬ S ps) (h3 : ¬ S pc) (h4 : Off A S) : Un w' p ps pc A q c sm :=
  ⟨h.cur.frame hc h1 h4, hc.cell h.pcc h3, (hc.block ps (Array.getElem?_eq_some_iff.1 h.sblk).1 h2).trans h.sblk, h.n1, h.n2, h.n3, h.off⟩
/-- The cursor goes on. -/
theorem Un.goes {w w' : World} {p ps pc : Nat} {A : Option Addr} {q : Nat} {c c' : Cr} {sm : Bool} (h : Un w p ps pc A q c sm) (hc : Chg (fun k => k = p) w w') (hk : CurAt w' p A q c') : Un w' p ps pc A q c' sm :=
  ⟨hk, hc.cell h.pcc h.n2, (hc.block ps (Array.getElem?_eq_some_iff.1 h.sblk).1 (fun e => h.n1 e.symm)).trans h.sblk, h.n1, h.n2, h.n3, h.off⟩
def readPost (w : World) (p ps pc : Nat) (A : Option Addr) (q : Nat) (c : Cr) (sm : Bool) (v : Value) (e : Ending) (w' : World) : Prop :=
  e = .returned v ∧ Un w' p ps pc A q c sm ∧ Chg (UnT p ps) w w'
theorem short_un {w : World} {p ps pc : Nat} {A : Option Addr} {q : Nat} {c c' : Cr} {sm : Bool} {y : Nat} (h : Un w p ps pc A q c sm) (hy : (shortC c).1 = y) (hc : (shortC c).2 = c') :
    Calls Try.prog 39 #[.pointer (some ⟨p, 0, none⟩)] w (readPost w p ps pc A q c' sm (.int .u64 (y : Nat))) := by
  refine (cshort_any h.cur).mono ?_
  rintro e w' ⟨rfl, h1, c1⟩
  rw [hc] at h1
  rw [hy]
  exact ⟨rfl, h.goes c1 h1, c1.mono (fun k _ e => .inl e)⟩
theorem number_un {w : World} {p ps pc : Nat} {A : Option Addr} {q : Nat} {c c' : Cr} {sm : Bool} {y : Nat} (h : Un w p ps pc A q c sm) (hy : (shortC c).1 = y) (hc : (shortC c).2 = c') :
    Calls Try.prog 38 #[.pointer (some ⟨pc, 0, none⟩), .pointer (some ⟨ps, 0, none⟩)] w (readPost w p ps pc A q c' (sm && small y) (.int .i64 (numM y))) := by
  have x0 := h.pcc
  have hlt : y < 18446744073709551616 := by rw [← hy]; exact shortC_lt
  have HS := Lib.hid (short_un h hy hc)
  clear h hy hc
  go_enter Try.func38, Try.ntmps38
  go_wp2_with (fail)
  refine HS.out.mono ?_
  rintro e w1 ⟨rfl, h1, c1⟩
  have hb := h1.sblk
  have xs : w1.cell? ⟨ps, 0, none⟩ = some (.bool sm) := by rw [cell_of_row w1 ps 0 _ _ _ hb]; rfl
  have fs : w1.frozen? ⟨ps, 0, none⟩ = false := free_at hb
  have fin : ∀ r : Bool, Un (w1.setCell ⟨ps, 0, none⟩ (.bool r)) p ps pc A q c' r ∧ Chg (UnT p ps) w (w1.setCell ⟨ps, 0, none⟩ (.bool r)) := fun r => by
    have cs : Chg (fun k => k = ps) w1 (w1.setCell ⟨ps, 0, none⟩ (.bool r)) := Chg.setCell (S := fun k => k = ps) (Chg.refl _ w1) (p := ⟨ps, 0, none⟩) (.inr rfl) _
    exact ⟨⟨h1.cur.frame cs h1.n1 h1.off, cs.cell h1.pcc h1.n3, heap_setCell_same w1 ps 0 _ _ (.bool r) hb, h1.n1, h1.n2, h1.n3, h1.off⟩, c1.trans' (cs.mono (fun k _ e => .inr e))⟩
  have FIN := Lib.hid fin
  clear fin hb h1 c1 HS
  by_cases hy1 : y ≤ 4611686018427387904
  · have i1 : (y : Int) ≤ 4611686018427387904 := by omega
    have e1 : numM y = y := by unfold numM; rw [if_pos hy1]
    have e2 : small y = true := by unfold small; simpa using hy1
    have E1 := Lib.hid e1
    have E2 := Lib.hid e2
    clear e1 e2 hy1
    cases sm with
    | true =>
      go_wp2
      all_goals first | (exfalso; omega) | (go_ret; exact ⟨by rw [E1.out]; rfl, by first | exact FIN.out true | (rw [E2.out]; exact FIN.out true)⟩)
    | false =>
      go_wp2
      all_goals first | (exfalso; omega) | (go_ret; exact ⟨by rw [E1.out]; rfl, by first | exact FIN.out false | (rw [E2.out]; exact FIN.out false)⟩)
  · have i1 : ((y : Int) ≤ 4611686018427387904) = False := eq_false (by omega)
    have i2 : (4611686018427387904 : Int) ≤ (y : Int) := by omega
    have i3 := Lib.hid hy1
    have e1 : numM y = 4611686018427387904 := by unfold numM; rw [if_neg hy1]
    have e2 : small y = false := by unfold small; simpa using hy1
    have E1 := Lib.hid e1
    have E2 := Lib.hid e2
    clear e1 e2 hy1
    cases sm with
    | true =>
      go_wp2
      all_goals first | (exfalso; have := i3.out; omega) | (go_ret; exact ⟨by rw [E1.out]; rfl, by first | exact FIN.out false | (rw [E2.out]; exact FIN.out false)⟩)
    | false =>
      go_wp2
      all_goals first | (exfalso; have := i3.out; omega) | (go_ret; exact ⟨by rw [E1.out]; rfl, by first | exact FIN.out false | (rw [E2.out]; exact FIN.out false)⟩)
end Go.Proofs.Ytnpkpfcljkekfaa
