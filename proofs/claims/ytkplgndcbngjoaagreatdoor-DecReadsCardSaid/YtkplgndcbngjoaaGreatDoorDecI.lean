/- gantlineref05.Right; gantlineref06: Right, digit, Make. -/
import Derived.Test.YtkplgndcbngjoaaGreatDoorDecF
namespace Go.Proofs.YtkplgndcbngjoaaGreatDoor
open Go Go.RowKit
set_option linter.unusedVariables false
set_option maxRecDepth 100000
set_option linter.unusedSimpArgs false

theorem ba_getn {l : List UInt8} {n : Nat} (hn : n < l.length) (h : n < (⟨l.toArray⟩ : ByteArray).size) : (⟨l.toArray⟩ : ByteArray)[n]'h = l[n] := rfl
theorem digR_t (c : UInt8) : isDig c = true ↔ ¬ ((c.toNat : Int) < 48) ∧ ¬ (57 < (c.toNat : Int)) := by rw [isDig_t]; omega
/-- All are digits, under a name that the walk leaves alone. -/
def allDig (l : List UInt8) : Bool := l.all isDig
theorem allDig_succ {l : List UInt8} {n : Nat} (h : n < l.length) (h1 : allDig (l.take n) = true) (h2 : isDig l[n] = true) : allDig (l.take (n + 1)) = true := by
  unfold allDig at *
  rw [List.take_succ_eq_append_getElem h, List.all_append, h1]; simp [h2]
set_option maxHeartbeats 2000000 in
theorem rright05_of (l : List UInt8) (w : World) (hl : l.length ≤ 9223372036854775807) :
    Calls Tryz.prog 38 #[.string ⟨l.toArray⟩] w fun e w' => e = .returned (.bool (natR l)) ∧ w = w' := by
  obtain ⟨R, hR⟩ : ∃ R, R = natR l := ⟨_, rfl⟩
  rw [← hR]
  have HR := Lib.hid hR
  clear hR
  rcases Nat.eq_zero_or_pos l.length with h0 | h0
  · obtain rfl := List.length_eq_zero_iff.1 h0
    go_enter Tryz.func38, Tryz.ntmps38
    go_wp2
    go_ret
    exact ⟨by rw [HR.out]; rfl, rfl⟩
  have hne : l ≠ [] := by rintro rfl; simp at h0
  have hg0 : ∀ h, (⟨l.toArray⟩ : ByteArray)[0]'h = l.headD 0 := fun h => ba_get0 h
  have hk48 : ((l.headD 0).toNat : Int) = 48 ↔ l.headD 0 = 48 := u8_eq (l.headD 0) 48 (by decide)
  by_cases h8 : 800 < l.length
  · have hr : R = false := by rw [HR.out]; simp [natR]; omega
    subst hr
    clear HR
    go_enter Tryz.func38, Tryz.ntmps38
    go_wp2
    go_ret
    exact ⟨rfl, rfl⟩
  have hall : R = ((!(l.headD 0 == 48 && decide (l ≠ [48]))) && l.all isDig) := by
    rw [HR.out, natR]
    have h1 : l.isEmpty = false := by simpa using hne
    have h2 : decide (l.length ≤ 800) = true := by simp; omega
    rw [h1, h2]; simp
  by_cases hh : l.headD 0 = 48 ∧ 1 < l.length
  · have hh2 : (((l.head?.getD 0).toNat : Nat) : Int) = 48 := by rw [← List.headD_eq_head?_getD]; exact hk48.2 hh.1
    have hh1 := hh.2
    have hr : R = false := by
      have hl2 : l ≠ [48] := by rintro rfl; simp at hh1
      rw [hall, hh.1]; simp [hl2]
    subst hr
    clear HR hall
    go_enter Tryz.func38, Tryz.ntmps38
    go_wp2
    go_ret
    exact ⟨rfl, rfl⟩
  · have hr : R = l.all isDig := by
      rw [hall]
      by_cases h4 : l.headD 0 = 48
      · have hl1 : l.length = 1 := by
          have : ¬ 1 < l.length := fun h => hh ⟨h4, h⟩
          omega
        have hl2 : l = [48] := by
          obtain ⟨a, rfl⟩ := List.length_eq_one_iff.1 hl1
          simp at h4; rw [h4]
        rw [hl2]; rfl
      · simp only [beq_eq_false_iff_ne.2 h4, Bool.false_and, Bool.not_false, Bool.true_and]
    clear HR hall
    have HR := Lib.hid hr
    clear hr
    have hh3 : ¬ ((((l.head?.getD 0).toNat : Nat) : Int) = 48 ∧ 1 < l.length) := by rw [← List.headD_eq_head?_getD, hk48]; exact hh
    go_enter Tryz.func38, Tryz.ntmps38
    go_wp2
    all_goals first
      | (exfalso
         simp only [beq_iff_eq] at *
         omega)
      | skip
    · go_loop [3] (fun i => ∃ n : Nat, n ≤ l.length ∧ i = .int .i64 n ∧ Hid (allDig (l.take n) = true)) (fun i => l.length - (intOf i).toNat)
      case atStart => exact ⟨0, Nat.zero_le _, rfl, Lib.hid rfl⟩
      case round =>
        obtain ⟨n, hn, rfl, HT⟩ := hrel
        rcases Nat.lt_or_ge n l.length with hlt | hge
        · have hg : ∀ h, (⟨l.toArray⟩ : ByteArray)[n]'h = l[n] := fun h => rfl
          have hd := digR_t l[n]
          go_wp2
          all_goals first
            | exact ⟨⟨n + 1, hlt, rfl, Lib.hid (allDig_succ hlt HT.out (hd.2 (by omega)))⟩, by simp only [intOf]; omega⟩
            | (go_ret
               refine ⟨?_, rfl⟩
               have hr : R = false := by
                 rw [HR.out, List.all_eq_false]
                 refine ⟨l[n], List.getElem_mem _, ?_⟩
                 rw [hd]; omega
               rw [hr]; rfl)
        · obtain rfl : n = l.length := by omega
          have ht := HT.out
          rw [List.take_length] at ht
          go_wp2
          go_ret
          exact ⟨by rw [HR.out, show l.all isDig = true from ht]; rfl, rfl⟩
    · go_loop [3] (fun i => ∃ n : Nat, n ≤ l.length ∧ i = .int .i64 n ∧ Hid (allDig (l.take n) = true)) (fun i => l.length - (intOf i).toNat)
      case atStart => exact ⟨0, Nat.zero_le _, rfl, Lib.hid rfl⟩
      case round =>
        obtain ⟨n, hn, rfl, HT⟩ := hrel
        rcases Nat.lt_or_ge n l.length with hlt | hge
        · have hg : ∀ h, (⟨l.toArray⟩ : ByteArray)[n]'h = l[n] := fun h => rfl
          have hd := digR_t l[n]
          go_wp2
          all_goals first
            | exact ⟨⟨n + 1, hlt, rfl, Lib.hid (allDig_succ hlt HT.out (hd.2 (by omega)))⟩, by simp only [intOf]; omega⟩
            | (go_ret
               refine ⟨?_, rfl⟩
               have hr : R = false := by
                 rw [HR.out, List.all_eq_false]
                 refine ⟨l[n], List.getElem_mem _, ?_⟩
                 rw [hd]; omega
               rw [hr]; rfl)
        · obtain rfl : n = l.length := by omega
          have ht := HT.out
          rw [List.take_length] at ht
          go_wp2
          go_ret
          exact ⟨by rw [HR.out, show l.all isDig = true from ht]; rfl, rfl⟩
end Go.Proofs.YtkplgndcbngjoaaGreatDoor
