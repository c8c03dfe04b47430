/- Contracts of slices.Concat, Grow, Equal and Clone at slices of bytes. -/
import Derived.Test.YtafpkecjicphoaaDoorProg
import Derived.Test.YtafpkecjicphoaaDoorBase
namespace Go.Proofs.YtafpkecjicphoaaDoor
open Go Go.RowKit
set_option linter.unusedVariables false
set_option linter.unusedSimpArgs false
theorem infoU8 : (Tryd.prog.info? 5).map (fun i => (i.zero, i.size, i.bytes)) = some (some (.int .u8 0), 1, 1) := by kernel_rfl
theorem equal_any (A : Option Addr) (c m : Nat) (xs : List UInt8) (B : Option Addr) (d n : Nat) (ys : List UInt8) (w : World) (hA : Bytes w A m xs) (hB : Bytes w B n ys) (hm : m ≤ 9223372036854775807) (hn : n ≤ 9223372036854775807) :
    Calls Tryd.prog 40 #[.slice A m c, .slice B n d] w fun e w' => e = .returned (.bool (decide (xs = ys))) ∧ Chg Pure' w w' := by
  have la := hA.len
  have lb := hB.len
  by_cases hmn : m = n
  · have hne : ((m : Int) != (n : Int)) = false := by simp [hmn]
    subst hmn
    clear lb
    go_enter Tryd.func40, Tryd.ntmps40
    go_wp2
    go_loopw [13] (fun i wr => ∃ k : Nat, k ≤ m ∧ i = .int .i64 k ∧ xs.take k = ys.take k ∧ Chg Pure' w wr) (fun i _ => m - (intOf i).toNat)
    case atStart => exact ⟨0, Nat.zero_le _, rfl, rfl, Chg.refl _ _⟩
    case round =>
      obtain ⟨k, hk, rfl, ht, hc⟩ := hrel
      have HT := Lib.hid ht
      clear ht
      by_cases hlt : k < m
      · obtain ⟨b, off, rfl, hcell⟩ := hA.cells (by omega)
        obtain ⟨b2, off2, rfl, hcell2⟩ := hB.cells (by omega)
        have hkx : k < xs.length := by have := hA.len; omega
        have hky : k < ys.length := by have := hB.len; omega
        have c1 := hc.cell (hcell k hkx) (fun h => h)
        have c2 := hc.cell (hcell2 k hky) (fun h => h)
        have hlt' : (k : Int) < m := by omega
        have h0 : (0 : Int) ≤ k := by omega
        clear hcell hcell2 hA hB la
        go_wp2
        go_quiet (fail)
        go_wp2
        · go_ret
          have hx : ((xs[k].toNat : Int) != (ys[k].toNat : Int)) = true := by assumption
          refine ⟨ret_bool ?_, hc.drewN _⟩
          symm
          rw [decide_eq_false_iff_not]
          intro he
          subst he
          simp at hx
        · go_roundw
          case rel =>
            have hx : ((xs[k].toNat : Int) != (ys[k].toNat : Int)) = false := by assumption
            refine ⟨k + 1, by omega, by go_num, ?_, hc.drewN _⟩
            have he : xs[k] = ys[k] := by
              rw [bne_eq_false_iff_eq] at hx
              exact UInt8.toNat_inj.1 (by omega)
            rw [List.take_succ_eq_append_getElem hkx, List.take_succ_eq_append_getElem hky, HT.out, he]
          case measure => simp [intOf]; omega
      · go_wp2
        go_ret
        have := hA.len; have := hB.len; have := HT.out
        rw [List.take_of_length_le (by omega), List.take_of_length_le (by omega)] at this
        exact ⟨ret_bool (by simp [this]), hc⟩
  · have hne : ((m : Int) != (n : Int)) = true := by simp; omega
    have : decide (xs = ys) = false := by
      simp; intro h; subst h; omega
    rw [this]
    clear this la lb
    go_enter Tryd.func40, Tryd.ntmps40
    go_wp2
    go_ret
    exact ⟨rfl, Chg.refl _ _⟩

theorem equal_is (r : Bool) (A : Option Addr) (c m : Nat) (xs : List UInt8) (B : Option Addr) (d n : Nat) (ys : List UInt8) (w : World) (hA : Bytes w A m xs) (hB : Bytes w B n ys) (hm : m ≤ 9223372036854775807) (hn : n ≤ 9223372036854775807) (hr : decide (xs = ys) = r) :
    Calls Tryd.prog 40 #[.slice A m c, .slice B n d] w fun e w' => e = .returned (.bool r) ∧ Chg Pure' w w' := by
  subst hr
  exact equal_any A c m xs B d n ys w hA hB hm hn
end Go.Proofs.YtafpkecjicphoaaDoor
