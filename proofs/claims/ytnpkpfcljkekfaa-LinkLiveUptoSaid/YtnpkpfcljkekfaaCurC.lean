/- The program's PutShort. -/
import Derived.Test.YtnpkpfcljkekfaaCurB
import Derived.Test.YtnpkpfcljkekfaaKA
namespace Go.Proofs.Ytnpkpfcljkekfaa
open Go Go.RowKit
set_option linter.unusedVariables false
set_option maxRecDepth 100000
set_option linter.unusedSimpArgs false

set_option maxHeartbeats 4000000 in
theorem putshort_any (A : Option Addr) (n c : Nat) (xs : List UInt8) (x : UInt64) (w : World) (hA : Bytes w A n xs) (hc : n ≤ c) (hn : n ≤ 140737488351232) :
    Calls Try.prog 29 #[.slice A n c, .int .u64 (x.toNat : Int)] w fun e w' => ∃ v, e = .returned v ∧ w'.ownsRow w.heap.size 5 1 v (n + (shortB x.toNat).length) (enc (xs ++ shortB x.toNat)) ∧ Chg Pure' w w' := by
  have hx := x.toNat_lt
  have hcv : bits .and .u8 ((x.toNat : Int) % 256) 127 = (((UInt8.ofNat (x.toNat % 128)).toNat : Nat) : Int) := by
    have := bits_and127 x.toNat
    rwa [show ((x.toNat % 256 : Nat) : Int) = (x.toNat : Int) % 256 from by omega] at this
  obtain ⟨c0, hc0⟩ : ∃ c0, UInt8.ofNat (x.toNat % 128) = c0 := ⟨_, rfl⟩
  rw [hc0] at hcv
  have ho := World.ownsRow_lit (base := w.heap.size) (e := 5) (size := 1) w #[.int .u8 (c0.toNat : Int)] 1 (Nat.le_refl _) (by decide) rfl
  have ca : Chg Pure' w (w.alloc (.cells #[.int .u8 (c0.toNat : Int)] 5)) := (Chg.refl _ w).alloc _
  have HC0 := Lib.hid hc0
  clear hc0
  go_enter Try.func29, Try.ntmps29
  go_wp2_with (fail)
  have H0 : Hid ([c0] ++ upG (x.toNat / 128) = c0 :: upG (x.toNat / 128)) := Lib.hid rfl
  have hl0 : (upG (x.toNat / 128)).length ≤ 9 := upG_len 9 _ (by omega)
  have HO0 : Hid ((w.alloc (.cells #[.int .u8 (c0.toNat : Int)] 5)).ownsRow w.heap.size 5 1 (.slice (some ⟨w.heap.size, 0, none⟩) 1 1) [c0].length (enc [c0])) := Lib.hid ho
  clear ho
  generalize (w.alloc (.cells #[.int .u8 (c0.toNat : Int)] 5)) = w1 at *
  go_loopw [1, 5] (fun nv o wr => ∃ (y : Nat) (zs : List UInt8), nv = .int .u64 (y : Int) ∧ y < 18446744073709551616 ∧ Hid (zs ++ upG y = c0 :: upG (x.toNat / 128)) ∧ zs.length + (upG y).length ≤ 10 ∧ Hid (wr.ownsRow w.heap.size 5 1 o zs.length (enc zs)) ∧ Chg Pure' w wr) (fun nv _ _ => (intOf nv).toNat)
  case atStart => exact ⟨x.toNat / 128, [c0], by congr 1, by omega, H0, by simp; omega, HO0, ca⟩
  case round =>
    obtain ⟨y, zs, rfl, hy64, HZ, hzl, HO, hC⟩ := hrel
    obtain ⟨A', q', rfl, hq', hA', -⟩ := own_slice HO.out
    by_cases hy : 0 < y
    · have i1 : (0 : Int) < (y : Int) := by omega
      have hor := bits_or128 y
      rw [show ((y % 256 : Nat) : Int) = (y : Int) % 256 from by omega] at hor
      generalize hcc : UInt8.ofNat (y % 128 + 128) = cc at hor
      have hup : upG y = cc :: upG (y / 128) := by rw [upG_pos (by omega), hcc]
      rw [hup] at HZ hzl
      have HZ2 : Hid ((zs ++ [cc]) ++ upG (y / 128) = c0 :: upG (x.toNat / 128)) := Lib.hid (by rw [List.append_assoc]; exact HZ.out)
      have hl2 : (zs ++ [cc]).length + (upG (y / 128)).length ≤ 10 := by simp at hzl ⊢; omega
      obtain ⟨v2, w2, hr2, ho2, c2⟩ := own_push8 HO.out cc (hC.size) (by simp at hzl; omega) rfl
      have HO2 : Hid (w2.ownsRow w.heap.size 5 1 v2 (zs ++ [cc]).length (enc (zs ++ [cc]))) := Lib.hid (by rw [List.length_append]; exact ho2)
      have hc2 : Chg Pure' w w2 := hC.trans c2 (fun i hi e => by have := (HO.out.lt i e).1; omega)
      have hm10 : zs.length ≤ 10 := by simp at hzl; omega
      clear hup hcc ho2 c2 HO hC HZ H0 HO0 hzl
      generalize hzm : zs.length = m at *
      go_wp2_with (at_builtin; refine Lib.wpList_append_run _ rfl _ _ _ _ rfl _ _ rfl rfl _ _ hr2 ?_; clear hr2)
      go_roundw
      case rel => exact ⟨y / 128, zs ++ [cc], by congr 1, by omega, HZ2, hl2, HO2, hc2⟩
      case measure => simp [intOf]; omega
    · obtain rfl : y = 0 := by omega
      have hz := HZ.out
      rw [upG_zero, List.append_nil] at hz
      have hz1 : zs.reverse = shortB x.toNat := by rw [hz, List.reverse_cons, ← HC0.out]; rfl
      have hzn : 1 ≤ zs.length := by rw [hz]; simp
      have hz64 : zs.length ≤ 64 := by omega
      obtain ⟨g, rfl, hgB⟩ := hA' (by omega)
      have hrev := reverse_any HO.out hzn hz64 rfl hq'
      have HRV := Lib.hid hrev
      have HZ1 := Lib.hid hz1
      have hlz : (shortB x.toNat).length = zs.length := by rw [← hz1, List.length_reverse]
      have HLZ := Lib.hid hlz
      clear hz hz1 hrev HZ H0 HO0 HO hzl hA' hlz
      generalize hzm : zs.length = m at *
      go_wp2_with (fail)
      refine HRV.out.mono ?_
      rintro e w5 ⟨rfl, ho5, c5⟩
      rw [HZ1.out] at ho5
      have C5 := hC.trans c5 (fun i hi e => by omega)
      obtain ⟨A5, q5, hv5, hq5, hB5, -⟩ := Bytes.of_own ho5
      cases hv5
      have hBL := two_lists (hA.pure C5) hB5 hc hq5 rfl
      have c6 : Chg Pure' w5 (w5.alloc (.cells #[.slice A n c, .slice (some ⟨g, 0, none⟩) m q'] 23)) := (Chg.refl _ _).alloc _
      have C6 := C5.pure c6
      have hcat := concat_any _ 2 2 [xs, shortB x.toNat] _ hBL (by decide) (by have := hA.len; have := HLZ.out; simp; omega)
      have HCC := Lib.hid hcat
      clear hcat hBL ho5 c5 C5 c6
      go_wp2_with (fail)
      refine HCC.out.mono ?_
      rintro e w7 ⟨v7, rfl, ho7, c7⟩
      have hfl : [xs, shortB x.toNat].flatten = xs ++ shortB x.toNat := by simp
      rw [hfl] at ho7
      have hsz : w.heap.size ≤ (w5.alloc (.cells #[.slice A n c, .slice (some ⟨g, 0, none⟩) m q'] 23)).heap.size := C6.size
      have hfin : w7.ownsRow w.heap.size 5 1 v7 (n + (shortB x.toNat).length) (enc (xs ++ shortB x.toNat)) := by
        have := World.ownsRow.low ho7 hsz
        rwa [List.length_append, hA.len] at this
      have C7 := C6.pure c7
      clear ho7 c7 C6 hsz HCC hfl
      go_wp2
      go_ret
      exact ⟨v7, rfl, hfin, C7⟩
end Go.Proofs.Ytnpkpfcljkekfaa
