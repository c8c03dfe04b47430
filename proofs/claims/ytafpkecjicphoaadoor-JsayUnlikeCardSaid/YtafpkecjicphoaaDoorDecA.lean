/- dec: nat.Right, Right. -/
import Derived.Test.YtafpkecjicphoaaDoorBase
import Derived.Test.YtafpkecjicphoaaDoorShelf
import Derived.Test.YtafpkecjicphoaaDoorDecP
import Derived.Shelf.Strings.SlTrimAscii
namespace Go.Proofs.YtafpkecjicphoaaDoor
open Go Go.RowKit
set_option linter.unusedVariables false
set_option maxRecDepth 100000
set_option linter.unusedSimpArgs false

def sv (l : List UInt8) : Value := .string ⟨l.toArray⟩
def Num.val (n : Num) : Value := .agg #[.bool n.neg, .string ⟨n.dig.toArray⟩, .int .i64 n.exp]

theorem ba_get0 {l : List UInt8} (h : 0 < (⟨l.toArray⟩ : ByteArray).size) : (⟨l.toArray⟩ : ByteArray)[0]'h = l.headD 0 := by
  cases l with
  | nil => exact absurd h (by decide)
  | cons a r => rfl
theorem u8_eq (x : UInt8) (n : Nat) (hn : n < 256) : ((x.toNat : Int) = (n : Int)) ↔ x = UInt8.ofNat n := by
  constructor
  · intro h
    have h1 : x.toNat = n := by omega
    rw [← h1]; simp
  · rintro rfl; simp; omega

set_option maxHeartbeats 1000000 in
theorem natRight_of (l : List UInt8) (w : World) (hl : l.length ≤ 9223372036854775807) :
    Calls Tryd.prog 36 #[.string ⟨l.toArray⟩] w fun e w' => e = .returned (.bool (natR l)) ∧ Chg Pure' w w' := by
  have hcon := Any.strings_Trim_laid Tryd.lays160 (by kernel_rfl) ⟨l.toArray⟩ ⟨tenDigits.toArray⟩ w (by simpa [ByteArray.size] using hl) (by decide) (ascii_of_all (by decide))
  change Calls Tryd.prog 49 #[.string ⟨l.toArray⟩, .string ⟨tenDigits.toArray⟩] w (fun e w' => e = .returned (.string ⟨(Lib.trimS l tenDigits).toArray⟩) ∧ Below w.heap.size w w') at hcon
  have hT := trimS_digits l
  have hT2 : (Lib.trimS l tenDigits).isEmpty = l.all isDig := by
    rw [Bool.eq_iff_iff, List.isEmpty_iff]; exact hT
  rcases Nat.eq_zero_or_pos l.length with h0 | h0
  · obtain rfl := List.length_eq_zero_iff.1 h0
    go_enter Tryd.func36, Tryd.ntmps36
    go_wp2
    go_ret
    exact ⟨rfl, Chg.refl _ _⟩
  go_enter Tryd.func36, Tryd.ntmps36
  go_wp2_with (first | (go_at_call 49; refine hcon.mono ?_; rintro e w' ⟨rfl, hB⟩))
  all_goals go_ret
  all_goals refine ⟨?_, by first | exact Chg.refl _ _ | exact Below.chg hB⟩
  all_goals go_simp
  all_goals clear hcon hT
  all_goals have u8 := u8_eq (l.headD 0) 48 (by decide)
  all_goals (try simp only [ba_get0] at *)
  all_goals have ne : l ≠ [] := by (intro e; subst e; exact absurd h0 (by decide))
  all_goals simp_all [natR]
  all_goals (intros; first | omega | (rcases (by assumption : (800 : Int) < (l.length : Int) ∨ ¬ l = [48]) with h | h <;> first | omega | exact absurd (by assumption) h))

theorem suffix_one (l : List UInt8) : Lib.hasSuffix l [48] = (l.getLast? == some 48) := by
  unfold Lib.hasSuffix List.isSuffixOf
  rw [List.getLast?_eq_head?_reverse]
  cases l.reverse with
  | nil => rfl
  | cons a r => simp [List.isPrefixOf]; exact BEq.comm

theorem num_cells {w w1 : World} {a b c : Value} {t : TypeId} (z : Chg Pure' (w.alloc (.cells #[a, b, c] t)) w1) :
    w1.cell? ⟨w.heap.size, 0, none⟩ = some a ∧ w1.cell? ⟨w.heap.size, 1, none⟩ = some b ∧ w1.cell? ⟨w.heap.size, 2, none⟩ = some c :=
  ⟨z.cell (by rw [cellAt_alloc_lit]; rfl) (fun h => h), z.cell (by rw [cellAt_alloc_lit]; rfl) (fun h => h), z.cell (by rw [cellAt_alloc_lit]; rfl) (fun h => h)⟩
theorem free_at {w : World} {p i : Nat} {c : Array Value} {T : TypeId} (h : w.heap[p]? = some (.cells c T (0, 0))) : w.frozen? ⟨p, i, none⟩ = false := by
  simp [World.frozen?, h]
theorem num_frozen {w w1 : World} {a b c : Value} {t : TypeId} (z : Chg Pure' (w.alloc (.cells #[a, b, c] t)) w1) :
    w1.frozen? ⟨w.heap.size, 0, none⟩ = false ∧ w1.frozen? ⟨w.heap.size, 1, none⟩ = false ∧ w1.frozen? ⟨w.heap.size, 2, none⟩ = false := by
  have h : w1.heap[w.heap.size]? = some (.cells #[a, b, c] t (0, 0)) := (z.block w.heap.size (by simp) (fun h => h)).trans Array.getElem?_push_size
  exact ⟨free_at h, free_at h, free_at h⟩

set_option maxHeartbeats 1000000 in
theorem decRight_of (n : Num) (w : World) (hl : n.dig.length ≤ 9223372036854775807) :
    Calls Tryd.prog 38 #[n.val] w fun e w' => e = .returned (.bool n.right) ∧ Chg Pure' w w' := by
  obtain ⟨neg, l, x⟩ := n
  have hs : (⟨l.toArray⟩ : ByteArray).size ≤ 9223372036854775807 := by simpa [ByteArray.size] using hl
  have hsuf := suffix_one l
  unfold Num.val
  go_enter Tryd.func38, Tryd.ntmps38
  go_wp2_with (first
    | (go_at_call 36; refine (natRight_of _ _ hl).mono ?_; rintro e w1 ⟨rfl, z1⟩; obtain ⟨c0, c1, c2⟩ := num_cells z1)
    | (go_at_call 51; refine (Tryd.strings_HasSuffix _ _ _ hs).mono ?_; rintro e w1 ⟨rfl, rfl⟩))
  all_goals go_ret
  all_goals refine ⟨?_, (by first | exact (Chg.alloc (Chg.refl Pure' w) _) | exact (Chg.alloc (Chg.refl Pure' w) _).trans' z1)⟩
  all_goals go_simp
  all_goals simp only [Num.right]
  all_goals simp_all
  all_goals (intros; omega)
theorem decRight_any (neg : Bool) (l : List UInt8) (x : Int) (w : World) (hl : l.length ≤ 9223372036854775807) :
    Calls Tryd.prog 38 #[.agg #[.bool neg, .string ⟨l.toArray⟩, .int .i64 x]] w fun e w' => e = .returned (.bool (Num.right ⟨neg, l, x⟩)) ∧ Chg Pure' w w' := decRight_of ⟨neg, l, x⟩ w hl
end Go.Proofs.YtafpkecjicphoaaDoor
