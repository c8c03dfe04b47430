/- Short numbers: what PutShort writes, as a plain function; the document's PutShort. -/
import Derived.Test.YtnpkpfcljkekfaaSl
import Derived.Test.YtnpkpfcljkekfaaSame
import Derived.Test.YtnpkpfcljkekfaaCrcF
namespace Go.Proofs.Ytnpkpfcljkekfaa
open Go Go.RowKit
set_option linter.unusedVariables false
set_option maxRecDepth 100000
set_option linter.unusedSimpArgs false

/-- The groups above the lowest, the low ones first. -/
def upG (n : Nat) : List UInt8 := if h : n = 0 then [] else UInt8.ofNat (n % 128 + 128) :: upG (n / 128)
termination_by n
decreasing_by omega
theorem upG_zero : upG 0 = [] := by rw [upG]; simp
theorem upG_pos {n : Nat} (h : n ≠ 0) : upG n = UInt8.ofNat (n % 128 + 128) :: upG (n / 128) := by rw [upG]; simp [h]
/-- A short number's bytes. -/
def shortB (n : Nat) : List UInt8 := (upG (n / 128)).reverse ++ [UInt8.ofNat (n % 128)]
theorem upG_len : ∀ (k n : Nat), n < 128 ^ k → (upG n).length ≤ k
  | 0, n, h => by
    have : n = 0 := by simpa using h
    rw [this, upG_zero]; simp
  | k + 1, n, h => by
    by_cases h0 : n = 0
    · rw [h0, upG_zero]; simp
    · rw [upG_pos h0, List.length_cons]
      have := upG_len k (n / 128) (by rw [Nat.pow_succ] at h; omega)
      omega
theorem shortB_len {n : Nat} (h : n < 18446744073709551616) : (shortB n).length ≤ 10 := by
  have := upG_len 9 (n / 128) (by omega)
  unfold shortB
  simp
  omega
theorem bits_or128 (a : Nat) : bits .or .u8 ((a % 256 : Nat) : Int) 128 = (((UInt8.ofNat (a % 128 + 128)).toNat : Nat) : Int) := by
  have h : ∀ b : Fin 256, bits .or .u8 ((b.val : Nat) : Int) 128 = (((UInt8.ofNat (b.val % 128 + 128)).toNat : Nat) : Int) := by decide +kernel
  have := h ⟨a % 256, Nat.mod_lt _ (by decide)⟩
  simp only at this
  rw [this, show a % 256 % 128 = a % 128 by omega]
theorem bits_and127 (a : Nat) : bits .and .u8 ((a % 256 : Nat) : Int) 127 = (((UInt8.ofNat (a % 128)).toNat : Nat) : Int) := by
  have h : ∀ b : Fin 256, bits .and .u8 ((b.val : Nat) : Int) 127 = (((UInt8.ofNat (b.val % 128)).toNat : Nat) : Int) := by decide +kernel
  have := h ⟨a % 256, Nat.mod_lt _ (by decide)⟩
  simp only at this
  rw [this, show a % 256 % 128 = a % 128 by omega]
theorem bits_and127_64 (n : UInt64) : bits .and .u64 (n.toNat : Int) 127 = ((n.toNat % 128 : Nat) : Int) := by
  have e : bits .and .u64 (n.toNat : Int) 127 = IntKind.u64.wrap ((BitVec.ofInt 64 (n.toNat : Int) &&& BitVec.ofInt 64 127).toNat : Int) := rfl
  rw [e, BitVec.toNat_and, BitVec.toNat_ofInt, BitVec.toNat_ofInt]
  have h1 : ((n.toNat : Int) % (2 ^ 64 : Nat)).toNat = n.toNat := by have := n.toNat_lt; omega
  have h2 : ((127 : Int) % (2 ^ 64 : Nat)).toNat = 127 := by decide
  rw [h1, h2, show (127 : Nat) = 2 ^ 7 - 1 by decide, Nat.and_two_pow_sub_one_eq_mod]
  rw [IntKind.wrap_u64]
  omega
theorem own_push8 {w w1 : World} {B n : Nat} {v : Value} {xs : List UInt8} (h : w.ownsRow B 5 1 v n (enc xs)) (c : UInt8) (hB : B ≤ w.heap.size) (hn : n + 1 ≤ 140737488355328) (h1 : w1 = w.alloc (.cells #[.int .u8 (c.toNat : Int)] 5)) :
    ∃ v' w', (Builtin.append_ #[23, 23] 23 #[v, .slice (some ⟨w.heap.size, 0, none⟩) 1 1]).run Try.prog w1 = .ok v' w' ∧ w'.ownsRow B 5 1 v' (n + 1) (enc (xs ++ [c])) ∧ Chg (fun k => v.ownBlock = some k) w w' := by
  subst h1
  have ca : Chg Pure' w (w.alloc (.cells #[.int .u8 (c.toNat : Int)] 5)) := (Chg.refl _ w).alloc _
  have hb := Bytes.alloc_lit w #[.int .u8 (c.toNat : Int)] 5 [c] rfl 1 rfl
  have hr2 := own_keep h ca (fun _ _ h => h)
  obtain ⟨v6, w6, hr6, ho6, hg6, -⟩ := app_own (P := Try.prog) _ B 23 23 5 Try.underlying23 infoU8 rfl (by decide) _ _ _ hr2 (some ⟨w.heap.size, 0, none⟩) 1 1 _ hb.row (by rw [enc_length]; rfl) (enc_one _) (by decide) (by omega) (Nat.le_trans hB ca.size)
  rw [← enc_append] at ho6
  exact ⟨v6, w6, hr6, ho6, (Chg.of_pure ca).trans' ((Chg.refl _ _).grown hg6 (fun k hk => .inr hk))⟩
theorem own_cat8 {w : World} {B n m c : Nat} {v : Value} {xs ys : List UInt8} {A : Option Addr} (h : w.ownsRow B 5 1 v n (enc xs)) (hb : Bytes w A m ys) (hB : B ≤ w.heap.size) (hn : n + m ≤ 140737488355328) :
    ∃ v' w', (Builtin.append_ #[23, 23] 23 #[v, .slice A m c]).run Try.prog w = .ok v' w' ∧ w'.ownsRow B 5 1 v' (n + m) (enc (xs ++ ys)) ∧ Chg (fun k => v.ownBlock = some k) w w' := by
  obtain ⟨v6, w6, hr6, ho6, hg6, -⟩ := app_own (P := Try.prog) w B 23 23 5 Try.underlying23 infoU8 rfl (by decide) _ _ _ h A m c _ hb.row (by rw [enc_length, hb.len, Nat.mul_one]) (enc_one _) (by decide) (by omega) hB
  rw [← enc_append] at ho6
  exact ⟨v6, w6, hr6, ho6, (Chg.refl _ _).grown hg6 (fun k hk => .inr hk)⟩
set_option maxHeartbeats 4000000 in
theorem rputshort_any (A : Option Addr) (n c : Nat) (xs : List UInt8) (x : UInt64) (w : World) (hA : Bytes w A n xs) (hn : n ≤ 140737488351232) :
    Calls Try.prog 33 #[.slice A n c, .int .u64 (x.toNat : Int)] w fun e w' => ∃ v, e = .returned v ∧ w'.ownsRow w.heap.size 5 1 v (n + (shortB x.toNat).length) (enc (xs ++ shortB x.toNat)) ∧ Chg Pure' w w' := by
  have hx := x.toNat_lt
  obtain ⟨v1, w1, hr1, ho1, c1⟩ := own_cat8 (n := 0) (c := c) (xs := []) (World.ownsRow_nil w w.heap.size 5 1 : w.ownsRow w.heap.size 5 1 (.slice none 0 0) 0 (enc [])) hA (Nat.le_refl _) (by omega)
  have c1 : Chg Pure' w w1 := c1.mono (fun k hk e => by cases e)
  rw [Nat.zero_add, List.nil_append] at ho1
  have h0 : upG (x.toNat / 128 ^ 10) = [] := by rw [show x.toNat / 128 ^ 10 = 0 from Nat.div_eq_of_lt (by omega), upG_zero]
  have H0 := Lib.hid h0
  have HO1 := Lib.hid ho1
  clear h0 ho1
  go_enter Try.func33, Try.ntmps33
  go_wp2_with (at_builtin; refine Lib.wpList_append_run _ rfl _ _ _ _ rfl _ _ rfl rfl _ _ hr1 ?_; clear hr1)
  go_loopw [5, 6] (fun o i wr => ∃ (k : Nat) (zs : List UInt8), k ≤ 9 ∧ i = .int .i64 k ∧ Hid (zs = (upG (x.toNat / 128 ^ (k + 1))).reverse) ∧ zs.length ≤ 9 ∧ Hid (wr.ownsRow w.heap.size 5 1 o (n + zs.length) (enc (xs ++ zs))) ∧ Chg Pure' w wr) (fun _ i _ => (intOf i).toNat)
  case atStart => exact ⟨9, [], Nat.le_refl _, rfl, Lib.hid (by rw [H0.out]; rfl), Nat.zero_le _, Lib.hid (by rw [List.append_nil]; exact HO1.out), c1⟩
  case round =>
    obtain ⟨k, zs, hk, rfl, HZ, hz9, HO, hC⟩ := hrel
    obtain ⟨A', q', rfl, -⟩ := own_slice HO.out
    clear H0 HO1 c1
    by_cases hk0 : 0 < k
    · have i0 : (0 : Int) < (k : Int) := by omega
      have i1 : (7 * (k : Int)) ≤ 63 := by omega
      have i2 : (0 : Int) ≤ 7 * (k : Int) := by omega
      obtain ⟨y, hy⟩ : ∃ y, x.toNat / 128 ^ k = y := ⟨_, rfl⟩
      have hy1 : x.toNat / 128 ^ (k + 1) = y / 128 := by rw [Nat.pow_succ, ← Nat.div_div_eq_div_mul, hy]
      have hpw : (2 : Nat) ^ (7 * k) = 128 ^ k := by rw [Nat.pow_mul]
      have hq : ((x.toNat : Int) / 2 ^ (7 * k)) = (y : Int) := by
        rw [← hy, ← hpw]
        simp
      have hkk : k - 1 + 1 = k := by omega
      have hZ := HZ.out
      rw [hy1] at hZ
      have HY := Lib.hid hy
      clear hy hy1 hpw HZ
      by_cases h0 : y = 0
      · have i3 : ((y : Int) != 0) = false := by rw [h0]; rfl
        have HZ2 : Hid (zs = (upG (x.toNat / 128 ^ (k - 1 + 1))).reverse) := Lib.hid (by rw [hkk, HY.out, hZ, h0])
        clear h0 hZ
        generalize hzl : zs.length = m at *
        go_wp2_with (fail)
        go_roundw
        case rel => exact ⟨k - 1, zs, by omega, by congr 1; omega, HZ2, by omega, by rw [hzl]; exact HO, hC⟩
        case measure => simp [intOf]; omega
      · have i3 : ((y : Int) != 0) = true := by rw [bne_iff_ne]; omega
        have hor := bits_or128 y
        rw [show ((y % 256 : Nat) : Int) = (y : Int) % 256 from by omega] at hor
        generalize hcc : UInt8.ofNat (y % 128 + 128) = cc at hor
        have hup : (upG y).reverse = zs ++ [cc] := by rw [upG_pos h0, hcc, List.reverse_cons, ← hZ]
        have HZ2 : Hid (zs ++ [cc] = (upG (x.toNat / 128 ^ (k - 1 + 1))).reverse) := Lib.hid (by rw [hkk, HY.out, hup])
        have hl10 : (upG y).length ≤ 9 := upG_len 9 y (by
          rw [← HY.out]
          refine Nat.lt_of_le_of_lt (Nat.div_le_div_left (Nat.pow_le_pow_right (by decide : 0 < 128) hk0) (by decide)) ?_
          show x.toNat / 128 ^ 1 < 128 ^ 9
          rw [Nat.pow_one]
          omega)
        have hl9 : (zs ++ [cc]).length ≤ 9 := by rw [← hup, List.length_reverse]; exact hl10
        obtain ⟨v2, w2, hr2, ho2, c2⟩ := own_push8 HO.out cc (hC.size) (by omega) rfl
        have HO2 : Hid (w2.ownsRow w.heap.size 5 1 v2 (n + (zs ++ [cc]).length) (enc (xs ++ (zs ++ [cc])))) := Lib.hid (by rw [List.length_append, ← List.append_assoc]; exact ho2)
        have hc2 : Chg Pure' w w2 := hC.trans c2 (fun i hi e => by have := (HO.out.lt i e).1; omega)
        clear hup h0 hcc hZ hl10 ho2 c2 HO hC
        generalize hzl : zs.length = m at *
        go_wp2_with (at_builtin; refine Lib.wpList_append_run _ rfl _ _ _ _ rfl _ _ rfl rfl _ _ hr2 ?_; clear hr2)
        go_roundw
        case rel => exact ⟨k - 1, zs ++ [cc], by omega, by congr 1; omega, HZ2, hl9, HO2, hc2⟩
        case measure => simp [intOf]; omega
    · have hk1 : k = 0 := by omega
      subst hk1
      have hcond : (((0 : Nat) : Int) < 0) = False := eq_false (by omega)
      have hcv : bits .and .u64 (x.toNat : Int) 127 % 256 = (((UInt8.ofNat (x.toNat % 128)).toNat : Nat) : Int) := by
        rw [bits_and127_64]
        simp
      have hZ := HZ.out
      rw [Nat.zero_add, Nat.pow_one] at hZ
      obtain ⟨v2, w2, hr2, ho2, c2⟩ := own_push8 HO.out (UInt8.ofNat (x.toNat % 128)) (hC.size) (by omega) rfl
      have HO2 : Hid (w2.ownsRow w.heap.size 5 1 v2 (n + (shortB x.toNat).length) (enc (xs ++ shortB x.toNat))) := Lib.hid (by unfold shortB; rw [← hZ, List.length_append, ← List.append_assoc]; exact ho2)
      have hc2 : Chg Pure' w w2 := hC.trans c2 (fun i hi e => by have := (HO.out.lt i e).1; omega)
      clear hZ HZ ho2 c2 HO hC
      generalize UInt8.ofNat (x.toNat % 128) = cc at *
      generalize hzl : zs.length = m at *
      go_wp2_with (at_builtin; refine Lib.wpList_append_run _ rfl _ _ _ _ rfl _ _ rfl rfl _ _ hr2 ?_; clear hr2)
      go_ret
      exact ⟨v2, rfl, HO2.out, hc2⟩
end Go.Proofs.Ytnpkpfcljkekfaa
