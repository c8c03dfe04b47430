/- The laws of layer 1: their contracts. -/
import Derived.Test.YtbdicimbhomcmaaCrc
import Derived.Test.YtbdicimbhomcmaaCrcP
namespace Go.Proofs.Ytbdicimbhomcmaa
open Go Go.RowKit
set_option linter.unusedVariables false
set_option linter.unusedSimpArgs false
theorem alive01 (w : World) : Calls Try.prog 12 #[] w fun e w' => e = .returned (.bool true) ∧ Chg Pure' w w' := by
  have hb := Bytes.alloc_mark w #[.int .u8 49, .int .u8 50, .int .u8 51, .int .u8 52, .int .u8 53, .int .u8 54, .int .u8 55, .int .u8 56, .int .u8 57] 5 (9, 10) [49, 50, 51, 52, 53, 54, 55, 56, 57] rfl 9 rfl
  have hs : ((crcSum [49, 50, 51, 52, 53, 54, 55, 56, 57]).toNat : Int) = 3421780262 := by decide +kernel
  have kc := fun (w : World) (C : Array Value) (n c : Nat) => Lib.run_convert_bytes_const (P := Try.prog) w 22 5 C n c Try.underlying22 Try.underlying5
  go_enter Try.func12, Try.ntmps12
  go_wp2_with (go_at_call 10; refine (sum_any _ _ _ _ _ hb (by omega)).mono ?_; rintro e w' ⟨rfl, rfl⟩)
  go_ret
  exact ⟨rfl, (Chg.refl _ w).alloc _⟩

theorem law_CrcSums (A : Option Addr) (n c : Nat) (xs : List UInt8) (w : World) (hB : Bytes w A n xs) (hc : n ≤ c) (hn : n ≤ 140737488351232) :
    Calls Try.prog 3 #[.slice A n c] w fun e w' => e = .returned (.bool true) ∧ Chg Pure' w w' := by
  go_enter Try.func3, Try.ntmps3
  go_wp2_with (first
    | (go_at_call 10; refine (sum_any _ _ _ _ _ hB (by omega)).mono ?_; rintro e w' ⟨rfl, rfl⟩)
    | (go_at_call 11; refine (sumR_any _ _ _ _ _ hB (by omega)).mono ?_; rintro e w' ⟨rfl, rfl⟩)
    | (go_at_call 12; refine (alive01 _).mono ?_; rintro e w' ⟨rfl, hg⟩))
  go_ret
  exact ⟨rfl, hg⟩

theorem law_CrcMores (m : UInt32) (A : Option Addr) (n c : Nat) (xs : List UInt8) (w : World) (hB : Bytes w A n xs) (hc : n ≤ c) (hn : n ≤ 140737488351232) :
    Calls Try.prog 4 #[.int .u32 (m.toNat : Int), .slice A n c] w fun e w' => e = .returned (.bool true) ∧ Chg Pure' w w' := by
  go_enter Try.func4, Try.ntmps4
  go_wp2_with (first
    | (go_at_call 13; refine (more_any _ _ _ _ _ _ hB (by omega)).mono ?_; rintro e w' ⟨rfl, rfl⟩)
    | (go_at_call 14; refine (moreR_any _ _ _ _ _ _ hB (by omega)).mono ?_; rintro e w' ⟨rfl, rfl⟩)
    | (go_at_call 12; refine (alive01 _).mono ?_; rintro e w' ⟨rfl, hg⟩))
  go_ret
  exact ⟨rfl, hg⟩

theorem crc_parts (xs ys : List UInt8) : crcSum (xs ++ ys) = crcMore (crcSum xs) ys := by
  simp [crcSum, crcMore, List.foldl_append]

theorem law_CrcParts (A : Option Addr) (n c : Nat) (xs : List UInt8) (B : Option Addr) (m d : Nat) (ys : List UInt8) (w : World) (hA : Bytes w A n xs) (hc : n ≤ c) (hn : n ≤ 140737488351232) (hB : Bytes w B m ys) (hd : m ≤ d) (hm : m ≤ 140737488351232) (hnm : n + m ≤ 140737488355328) :
    Calls Try.prog 5 #[.slice A n c, .slice B m d] w fun e w' => e = .returned (.bool true) ∧ Chg Pure' w w' := by
  obtain ⟨v1, w1, hr1, ho1, hg1, -⟩ := app_own (P := Try.prog) w w.heap.size 22 22 5 Try.underlying22 infoU8 rfl (by decide) _ _ _ (World.ownsRow_nil w w.heap.size 5 1) A n c (enc xs) hA.row (by rw [enc_length, hA.len, Nat.mul_one]) (enc_one _) (by decide) (by omega) (Nat.le_refl _)
  rw [Nat.zero_add, List.nil_append] at ho1
  have hc1 : Chg Pure' w w1 := (Chg.refl _ w).grown hg1 (fun k hk => by cases hk)
  have hB1 := hB.pure hc1
  obtain ⟨v2, w2, hr2, ho2, hg2, -⟩ := app_own (P := Try.prog) w1 w.heap.size 22 22 5 Try.underlying22 infoU8 rfl (by decide) _ _ _ ho1 B m d (enc ys) hB1.row (by rw [enc_length, hB.len, Nat.mul_one]) (enc_one _) (by decide) (by omega) hc1.size
  have hc2 : Chg Pure' w w2 := hc1.grown hg2 (fun k hk => .inl (ho1.lt k hk).1)
  rw [← enc_append] at ho2
  obtain ⟨A2, c2, rfl, hle, hb, hf⟩ := Bytes.of_own ho2
  have hA2 := hA.pure hc2
  have hB2 := hB.pure hc2
  have hp : (((crcSum (xs ++ ys)).toNat : Int) == ((crcMore (crcSum xs) ys).toNat : Int)) = true := by rw [crc_parts]; simp
  clear hA hB hB1 ho1 ho2 hg1 hg2
  go_enter Try.func5, Try.ntmps5
  go_wp2_with (first
    | (at_builtin; refine Lib.wpList_append_run _ rfl _ _ _ _ rfl _ _ rfl rfl _ _ hr1 ?_)
    | (at_builtin; refine Lib.wpList_append_run _ rfl _ _ _ _ rfl _ _ rfl rfl _ _ hr2 ?_))
  refine (sum_any _ _ _ _ _ hb (by omega)).mono ?_
  rintro e w' ⟨rfl, rfl⟩
  go_wp2_with (fail)
  refine (sum_any _ _ _ _ _ hA2 (by omega)).mono ?_
  rintro e w' ⟨rfl, rfl⟩
  go_wp2_with (fail)
  refine (more_any _ _ _ _ _ _ hB2 (by omega)).mono ?_
  rintro e w' ⟨rfl, rfl⟩
  go_wp2_with (fail)
  refine (alive01 _).mono ?_
  rintro e w' ⟨rfl, hg⟩
  go_wp2
  go_ret
  exact ⟨rfl, hc2.pure hg⟩

theorem law_CrcSeals (A : Option Addr) (n c : Nat) (xs : List UInt8) (w : World) (hA : Bytes w A n xs) (hc : n ≤ c) (hn : n ≤ 140737488351232) :
    Calls Try.prog 6 #[.slice A n c] w fun e w' => e = .returned (.bool true) ∧ Chg Pure' w w' := by
  cases hy : crcOpen xs with
  | none =>
    go_enter Try.func6, Try.ntmps6
    go_wp2_with (fail)
    refine (open_none _ _ _ _ _ hA hc (by omega) hy).mono ?_
    rintro e w1 ⟨rfl, c1⟩
    go_wp2_with (fail)
    refine (openR_none _ _ _ _ _ (hA.pure c1) hc (by omega) hy).mono ?_
    rintro e w2 ⟨rfl, c2⟩
    have C2 := c1.pure c2
    go_wp2_with (fail)
    refine (seal_own _ _ _ _ _ (hA.pure C2) hc (by omega)).mono ?_
    rintro e w3 ⟨v, rfl, ho, c3⟩
    obtain ⟨A3, q3, rfl, -, hb3, -⟩ := Bytes.of_own ho
    have C3 := C2.pure c3
    go_wp2_with (fail)
    refine (sealR_own _ _ _ _ _ (hA.pure C3) (by omega)).mono ?_
    rintro e w4 ⟨v, rfl, ho, c4⟩
    obtain ⟨A4, q4, rfl, -, hb4, -⟩ := Bytes.of_own ho
    have C4 := C3.pure c4
    go_wp2_with (fail)
    refine (same_is true _ _ _ _ _ _ _ _ _ (hb3.pure c4) hb4 (by simp)).mono ?_
    rintro e w5 ⟨rfl, rfl⟩
    go_wp2_with (fail)
    refine (same_is true _ _ _ _ _ _ _ _ _ (Bytes.nil _ _) (Bytes.nil _ _) (by simp)).mono ?_
    rintro e w5 ⟨rfl, rfl⟩
    go_wp2_with (fail)
    refine (alive01 _).mono ?_
    rintro e w6 ⟨rfl, c6⟩
    go_wp2
    go_ret
    exact ⟨rfl, C4.pure c6⟩
  | some ys =>
    have h4 : 4 ≤ n := by
      have := hA.len
      rcases Nat.lt_or_ge n 4 with h | h
      · rw [crcOpen_short (by omega)] at hy; cases hy
      · exact h
    obtain ⟨k, rfl⟩ : ∃ k, n = k + 4 := ⟨n - 4, by omega⟩
    go_enter Try.func6, Try.ntmps6
    go_wp2_with (fail)
    refine (open_some _ _ _ _ _ _ hA hc (by omega) hy).mono ?_
    rintro e w1 ⟨A1, q1, rfl, -, hb1, -, c1⟩
    go_wp2_with (fail)
    refine (openR_some _ _ _ _ _ _ (hA.pure c1) hc (by omega) hy).mono ?_
    rintro e w2 ⟨A2, q2, rfl, -, hb2, -, c2⟩
    have C2 := c1.pure c2
    go_wp2_with (fail)
    refine (seal_own _ _ _ _ _ (hA.pure C2) hc (by omega)).mono ?_
    rintro e w3 ⟨v, rfl, ho, c3⟩
    obtain ⟨A3, q3, rfl, -, hb3, -⟩ := Bytes.of_own ho
    have C3 := C2.pure c3
    go_wp2_with (fail)
    refine (sealR_own _ _ _ _ _ (hA.pure C3) (by omega)).mono ?_
    rintro e w4 ⟨v, rfl, ho, c4⟩
    obtain ⟨A4, q4, rfl, -, hb4, -⟩ := Bytes.of_own ho
    have C4 := C3.pure c4
    go_wp2_with (fail)
    refine (same_is true _ _ _ _ _ _ _ _ _ (hb3.pure c4) hb4 (by simp)).mono ?_
    rintro e w5 ⟨rfl, rfl⟩
    go_wp2_with (fail)
    refine (same_is true _ _ _ _ _ _ _ _ _ (((hb1.pure c2).pure c3).pure c4) ((hb2.pure c3).pure c4) (by simp)).mono ?_
    rintro e w5 ⟨rfl, rfl⟩
    go_wp2_with (fail)
    refine (alive01 _).mono ?_
    rintro e w6 ⟨rfl, c6⟩
    go_wp2
    go_ret
    exact ⟨rfl, C4.pure c6⟩

theorem law_CrcBack (A : Option Addr) (n c : Nat) (xs : List UInt8) (w : World) (hA : Bytes w A n xs) (hc : n ≤ c) (hn : n ≤ 140737488351232) :
    Calls Try.prog 7 #[.slice A n c] w fun e w' => e = .returned (.bool true) ∧ Chg Pure' w w' := by
  go_enter Try.func7, Try.ntmps7
  go_wp2_with (fail)
  refine (seal_own _ _ _ _ _ hA hc (by omega)).mono ?_
  rintro e w1 ⟨v, rfl, ho, c1⟩
  obtain ⟨A3, q3, rfl, hle, hb3, -⟩ := Bytes.of_own ho
  go_wp2_with (fail)
  refine (open_some _ _ _ _ _ _ hb3 hle (by omega) (crcOpen_seal xs)).mono ?_
  rintro e w2 ⟨A2, q2, rfl, -, hb2, -, c2⟩
  have C2 := c1.pure c2
  go_wp2_with (fail)
  refine (same_is true _ _ _ _ _ _ _ _ _ hb2 (hA.pure C2) (by simp)).mono ?_
  rintro e w5 ⟨rfl, rfl⟩
  go_wp2_with (fail)
  refine (alive01 _).mono ?_
  rintro e w6 ⟨rfl, c6⟩
  go_wp2
  go_ret
  exact ⟨rfl, C2.pure c6⟩
theorem four_word (l : List UInt8) (h : l.length = 4) : ∃ W : UInt32, crcMark W = l := by
  match l, h with
  | [a, b, c, d], _ =>
    refine ⟨UInt32.ofNat (a.toNat + b.toNat * 256 + c.toNat * 65536 + d.toNat * 16777216), ?_⟩
    have ha := a.toNat_lt; have hb := b.toNat_lt; have hc := c.toNat_lt; have hd := d.toNat_lt
    have e : (UInt32.ofNat (a.toNat + b.toNat * 256 + c.toNat * 65536 + d.toNat * 16777216)).toNat = a.toNat + b.toNat * 256 + c.toNat * 65536 + d.toNat * 16777216 := by
      rw [UInt32.toNat_ofNat']; omega
    generalize UInt32.ofNat (a.toNat + b.toNat * 256 + c.toNat * 65536 + d.toNat * 16777216) = N at e
    have s8 := shr8_u32 N; have s16 := shr16_u32 N; have s24 := shr24_u32 N
    unfold crcMark
    congr 1
    · apply UInt8.toNat_inj.1; rw [UInt32.toNat_toUInt8]; omega
    congr 1
    · apply UInt8.toNat_inj.1; rw [UInt32.toNat_toUInt8]; omega
    congr 1
    · apply UInt8.toNat_inj.1; rw [UInt32.toNat_toUInt8]; omega
    congr 1
    · apply UInt8.toNat_inj.1; rw [UInt32.toNat_toUInt8]; omega
theorem window (s : List UInt8) (p : Nat) (h : p + 4 ≤ s.length) : ∃ pre W post, s = pre ++ crcMark W ++ post ∧ pre.length = p ∧ crcMark W = (s.drop p).take 4 := by
  obtain ⟨W, hW⟩ := four_word ((s.drop p).take 4) (by simp; omega)
  refine ⟨s.take p, W, s.drop (p + 4), ?_, by simp; omega, hW⟩
  rw [hW, List.append_assoc, ← List.drop_drop, List.take_append_drop, List.take_append_drop]
theorem mix_get (pre a b post : List UInt8) (p q : Nat) (hp : pre.length = p) (hb : q < b.length) (ha : q < a.length) : (enc (pre ++ (a.take q ++ b.drop q) ++ post))[p + q]? = some (.int .u8 ((b[q]'hb).toNat : Int)) := by
  have : (pre ++ (a.take q ++ b.drop q) ++ post)[p + q]? = some b[q] := by
    rw [List.append_assoc, List.getElem?_append_right (by omega), List.append_assoc, List.getElem?_append_right (by simp; omega)]
    rw [List.length_take, Nat.min_eq_left (Nat.le_of_lt ha), hp, show p + q - p - q = 0 from by omega, List.getElem?_append_left (by simp; omega), List.getElem?_drop, Nat.add_zero, List.getElem?_eq_getElem hb]
  unfold enc
  rw [List.getElem?_map, this]
  rfl
theorem mix_set (pre a b post : List UInt8) (p q : Nat) (hp : pre.length = p) (hb : q < b.length) (ha : q < a.length) :
    (enc (pre ++ (a.take q ++ b.drop q) ++ post)).set (p + q) (.int .u8 ((a[q]'ha).toNat : Int)) = enc (pre ++ (a.take (q + 1) ++ b.drop (q + 1)) ++ post) := by
  unfold enc
  rw [← List.map_set]
  congr 1
  rw [List.append_assoc, List.set_append_right _ _ (by omega), List.append_assoc, List.set_append_right _ _ (by simp; omega), List.append_assoc, List.append_assoc]
  congr 1
  rw [List.take_succ_eq_append_getElem ha, List.append_assoc]
  congr 1
  rw [hp, show p + q - p - (a.take q).length = 0 from by simp; omega, List.drop_eq_getElem_cons hb]
  rfl
theorem bits_xor_u8 (a b : UInt8) : bits .xor .u8 (a.toNat : Int) (b.toNat : Int) = (((a ^^^ b).toNat : Nat) : Int) := by
  have ha := a.toNat_lt; have hb := b.toNat_lt
  show IntKind.u8.wrap ((BitVec.ofInt 8 (a.toNat : Int) ^^^ BitVec.ofInt 8 (b.toNat : Int)).toNat : Int) = _
  rw [IntKind.wrap_u8, BitVec.ofInt_natCast, BitVec.ofInt_natCast, BitVec.toNat_xor, BitVec.toNat_ofNat, BitVec.toNat_ofNat, UInt8.toNat_xor, Nat.mod_eq_of_lt ha, Nat.mod_eq_of_lt hb]
  have : a.toNat ^^^ b.toNat < 2 ^ 8 := Nat.xor_lt_two_pow ha hb
  omega
theorem xor_shr (a b k : UInt32) (hk : k.toNat < 32) : (a ^^^ b) >>> k = (a >>> k) ^^^ (b >>> k) := by
  apply UInt32.toNat_inj.1
  rw [UInt32.toNat_xor, UInt32.toNat_shiftRight, UInt32.toNat_shiftRight, UInt32.toNat_shiftRight, UInt32.toNat_xor, Nat.mod_eq_of_lt hk]
  exact Nat.shiftRight_xor_distrib
theorem xor_byte (W m : UInt32) (q : Nat) (h1 : q < (crcMark W).length) (h2 : q < (crcMark (W ^^^ m)).length) :
    bits .xor .u8 (((crcMark W)[q]'h1).toNat : Int) ((m.toNat : Int) / 2 ^ (8 * q) % 256) = (((crcMark (W ^^^ m))[q]'h2).toNat : Int) := by
  rw [mark_at m q (by simpa [crcMark] using h1)]
  have e : (crcMark (W ^^^ m))[q]'h2 = (crcMark W)[q]'h1 ^^^ (crcMark m)[q]'(by simpa [crcMark] using h1) := by
    match q, h1, h2 with
    | 0, _, _ => exact (UInt32.toUInt8_xor _ _)
    | 1, _, _ => show ((W ^^^ m) >>> 8).toUInt8 = (W >>> 8).toUInt8 ^^^ (m >>> 8).toUInt8; rw [← UInt32.toUInt8_xor, xor_shr W m 8 (by decide)]
    | 2, _, _ => show ((W ^^^ m) >>> 16).toUInt8 = (W >>> 16).toUInt8 ^^^ (m >>> 16).toUInt8; rw [← UInt32.toUInt8_xor, xor_shr W m 16 (by decide)]
    | 3, _, _ => show ((W ^^^ m) >>> 24).toUInt8 = (W >>> 24).toUInt8 ^^^ (m >>> 24).toUInt8; rw [← UInt32.toUInt8_xor, xor_shr W m 24 (by decide)]
  rw [e]
  exact bits_xor_u8 _ _
set_option maxHeartbeats 1000000 in
theorem law_CrcTurned (A : Option Addr) (n c : Nat) (xs : List UInt8) (a : Int) (m : UInt32) (w : World) (hA : Bytes w A n xs) (hc : n ≤ c) (hn : n ≤ 140737488351232) (ha : -9223372036854775808 ≤ a ∧ a ≤ 9223372036854775807) :
    Calls Try.prog 8 #[.slice A n c, .int .i64 a, .int .u32 (m.toNat : Int)] w fun e w' => e = .returned (.bool true) ∧ Chg Pure' w w' := by
  by_cases h0 : m = 0
  · subst h0
    go_enter Try.func8, Try.ntmps8
    go_wp2_with (fail)
    refine (seal_own _ _ _ _ _ hA hc (by omega)).mono ?_
    rintro e w1 ⟨v, rfl, ho, c1⟩
    obtain ⟨A3, q3, rfl, hle, hb3, -⟩ := Bytes.of_own ho
    have hg4 : decide (4 ≤ (n : Int) + 4) = true := by simp; omega
    clear ho hb3
    go_wp2_with (fail)
    refine (alive01 _).mono ?_
    rintro e w6 ⟨rfl, c6⟩
    go_wp2
    go_ret
    exact ⟨rfl, c1.pure c6⟩
  · have hm0 : ((m.toNat : Int) == 0) = false := by
      rw [beq_eq_false_iff_ne]
      intro h
      exact h0 (UInt32.toNat_inj.1 (by rw [show (0 : UInt32).toNat = 0 from rfl]; omega))
    have hl4 : decide ((n : Int) + 4 < 4) = false := by simp; omega
    go_enter Try.func8, Try.ntmps8
    go_wp2_with (fail)
    refine (seal_own _ _ _ _ _ hA hc (by omega)).mono ?_
    rintro e w1 ⟨v, rfl, ho, c1⟩
    obtain ⟨A3, q3, rfl, hle, hb3, -⟩ := Bytes.of_own ho
    obtain ⟨g, rfl, hbase⟩ : ∃ g, A3 = some ⟨g, 0, none⟩ ∧ w.heap.size ≤ g := by
      rcases ho.2 with ⟨h', _⟩ | ⟨g, cap, cur, h', hb, _⟩
      · cases h'
      · cases h'; exact ⟨g, rfl, hb⟩
    have b1 : -(n : Int) ≤ a.tmod ((n : Int) + 4 - 3) := by have := Int.lt_tmod_of_pos a (b := (n : Int) + 4 - 3) (by omega); omega
    have b2 : a.tmod ((n : Int) + 4 - 3) ≤ n := by have := Int.tmod_lt_of_pos a (b := (n : Int) + 4 - 3) (by omega); omega
    obtain ⟨p, hp, hE⟩ : ∃ p : Nat, p ≤ n ∧ (wrap64 (wrap64 (a.tmod ((n : Int) + 4 - 3) + ((n : Int) + 4)) - 3)).tmod ((n : Int) + 4 - 3) = p := by
      have e1 : wrap64 (a.tmod ((n : Int) + 4 - 3) + ((n : Int) + 4)) = a.tmod ((n : Int) + 4 - 3) + ((n : Int) + 4) := IntWalk.wrap64_in _ (by omega)
      have e2 : wrap64 (a.tmod ((n : Int) + 4 - 3) + ((n : Int) + 4) - 3) = a.tmod ((n : Int) + 4 - 3) + ((n : Int) + 4) - 3 := IntWalk.wrap64_in _ (by omega)
      rw [e1, e2]
      generalize a.tmod ((n : Int) + 4 - 3) = z at b1 b2
      have h3 := Int.tmod_nonneg ((n : Int) + 4 - 3) (a := z + ((n : Int) + 4) - 3) (by omega)
      have h4 := Int.tmod_lt_of_pos (z + ((n : Int) + 4) - 3) (b := (n : Int) + 4 - 3) (by omega)
      exact ⟨(z + ((n : Int) + 4) - 3).tmod ((n : Int) + 4 - 3) |>.toNat, by omega, by omega⟩
    clear b1 b2 hb3
    have HE := Lib.hid hE
    clear hE
    obtain ⟨pre, W, post, hs, hpre, hst⟩ := window (crcSeal xs) p (by rw [crcSeal_length, hA.len]; omega)
    have hlen := hA.len
    have HL := Lib.hid hlen
    clear hlen
    go_wp2
    simp only [HE.out]
    have hm := m.toNat_lt
    rw [hs] at ho
    obtain ⟨b0, hb0⟩ : ∃ b, crcMark W = b := ⟨_, rfl⟩
    obtain ⟨b1, hb1⟩ : ∃ b, crcMark (W ^^^ m) = b := ⟨_, rfl⟩
    have hxb : ∀ q (h1 : q < b0.length) (h2 : q < b1.length), bits .xor .u8 (((b0)[q]'h1).toNat : Int) ((m.toNat : Int) / 2 ^ (8 * q) % 256) = ((b1[q]'h2).toNat : Int) := by
      subst hb0 hb1; exact fun q h1 h2 => xor_byte W m q h1 h2
    have hl0 : b0.length = 4 := by rw [← hb0]; rfl
    have hl1 : b1.length = 4 := by rw [← hb1]; rfl
    have HX := Lib.hid hxb
    have HL0 := Lib.hid hl0
    have HL1 := Lib.hid hl1
    clear hxb hl0 hl1
    have hbad : crcOpen (pre ++ b1 ++ post) = none := by
      subst hb1
      refine turned_none pre post W m h0 n ?_ ?_
      · rw [← hs, crcSeal_length, HL.out]
      · rw [← hs, crcOpen_seal]; simp
    have HB := Lib.hid hbad
    clear hbad
    rw [hb0] at ho
    clear hb0 hb1 hs hst
    go_loopw [39] (fun i wr => ∃ q : Nat, q ≤ 4 ∧ i = .int .i64 q ∧ wr.ownsRow w.heap.size 5 1 (.slice (some ⟨g, 0, none⟩) (n + 4) q3) (n + 4) (enc (pre ++ (b1.take q ++ b0.drop q) ++ post)) ∧ Chg Pure' w wr) (fun i _ => 4 - (intOf i).toNat)
    case atStart => exact ⟨0, by omega, rfl, by simpa using ho, c1⟩
    case round =>
      obtain ⟨q, hq, rfl, ho, hc1⟩ := hrel
      by_cases hlt : q < 4
      · have hq1 : q < b0.length := by rw [HL0.out]; exact hlt
        have hq2 : q < b1.length := by rw [HL1.out]; exact hlt
        have hget : (enc (pre ++ (b1.take q ++ b0.drop q) ++ post))[p + q]? = some (.int .u8 (((b0)[q]).toNat : Int)) := mix_get pre b1 b0 post p q hpre hq1 hq2
        have hcell := ho.cellAt (p + q) (by omega)
        rw [hget] at hcell
        have hfr := ho.frozenAt (p + q)
        have hv := HX.out q hq1 hq2
        obtain ⟨ho2, hg2⟩ := ho.stored (p + q) (.int .u8 ((b1[q]).toNat : Int))
        rw [mix_set pre b1 b0 post p q hpre hq1 hq2] at ho2
        have hc2 : Chg Pure' w (wr.setCell ⟨g, p + q, none⟩ (.int .u8 ((b1[q]).toNat : Int))) := hc1.setCell (.inl hbase) _
        have i0 : (0 : Int) ≤ (p : Int) + q := by omega
        have i1 : (p : Int) + q < (n : Int) + 4 := by omega
        have i2 : (p : Int) + q < ((n + 4 : Nat) : Int) := by omega
        clear hg2 hget
        have hcell' : wr.drew.cell? ⟨g, p + q, none⟩ = some (.int .u8 ((b0[q]).toNat : Int)) := hcell
        have hfr' : wr.drew.frozen? ⟨g, p + q, none⟩ = false := hfr
        go_wp2
        refine reg_begin ((fun k => k = g)) (by kernel_rfl) ?_
        refine reg_take 0 (v := ?_) rfl (by kernel_rfl) (by kernel_rfl) (by kernel_rfl) (fun _ _ _ h => h) (by kernel_rfl) ?_ ?_
        rotate_left
        · (intro w' hS; go_simp; (try go_bits); (try with_reducible rfl))
        try simp only [Act.put, List.setIfInBounds_toArray, List.set_cons_zero, List.set_cons_succ]
        refine reg_take 1 (v := ?_) rfl (by kernel_rfl) (by kernel_rfl) (by kernel_rfl) (fun _ _ _ h => h) (by kernel_rfl) ?_ ?_
        rotate_left
        · (intro w' hS; go_simp; (try go_bits); (try with_reducible rfl))
        try simp only [Act.put, List.setIfInBounds_toArray, List.set_cons_zero, List.set_cons_succ]
        refine reg_take 2 (v := ?_) rfl (by kernel_rfl) (by kernel_rfl) (by kernel_rfl) (fun _ _ _ h => h) (by kernel_rfl) ?_ ?_
        rotate_left
        · (intro w' hS; go_simp; (try go_bits); (try with_reducible rfl))
        try simp only [Act.put, List.setIfInBounds_toArray, List.set_cons_zero, List.set_cons_succ]
        refine reg_take 3 (v := ?_) rfl (by kernel_rfl) (by kernel_rfl) (by kernel_rfl) (fun _ _ _ h => h) (by kernel_rfl) ?_ ?_
        rotate_left
        · (intro w' hS; go_simp; (try go_bits); (try with_reducible rfl))
        try simp only [Act.put, List.setIfInBounds_toArray, List.set_cons_zero, List.set_cons_succ]
        refine reg_take 4 (v := ?_) rfl (by kernel_rfl) (by kernel_rfl) (by kernel_rfl) (fun _ _ _ h => h) (by kernel_rfl) ?_ ?_
        rotate_left
        · (intro w' hS; go_simp; (try go_bits); (try with_reducible rfl))
        try simp only [Act.put, List.setIfInBounds_toArray, List.set_cons_zero, List.set_cons_succ]
        refine reg_take 6 (v := ?_) rfl (by kernel_rfl) (by kernel_rfl) (by kernel_rfl) (fun _ _ _ h => h) (by kernel_rfl) ?_ ?_
        rotate_left
        · (intro w' hS; go_simp; (try go_bits); (try with_reducible rfl))
        try simp only [Act.put, List.setIfInBounds_toArray, List.set_cons_zero, List.set_cons_succ]
        refine reg_take 7 (v := ?_) rfl (by kernel_rfl) (by kernel_rfl) (by kernel_rfl) (fun _ _ _ h => h) (by kernel_rfl) ?_ ?_
        rotate_left
        · (intro w' hS; go_simp; (try go_bits); (try with_reducible rfl))
        try simp only [Act.put, List.setIfInBounds_toArray, List.set_cons_zero, List.set_cons_succ]
        refine reg_take 8 (v := ?_) rfl (by kernel_rfl) (by kernel_rfl) (by kernel_rfl) (fun _ _ _ h => h) (by kernel_rfl) ?_ ?_
        rotate_left
        · (intro w' hS; go_simp; (try go_bits); (try with_reducible rfl))
        try simp only [Act.put, List.setIfInBounds_toArray, List.set_cons_zero, List.set_cons_succ]
        refine reg_take 9 (v := ?_) rfl (by kernel_rfl) (by kernel_rfl) (by kernel_rfl) (fun _ _ _ h => h) (by kernel_rfl) ?_ ?_
        rotate_left
        · (intro w' hS; go_simp; (try go_bits); (try with_reducible rfl))
        try simp only [Act.put, List.setIfInBounds_toArray, List.set_cons_zero, List.set_cons_succ]
        refine reg_take 10 (v := ?_) rfl (by kernel_rfl) (by kernel_rfl) (by kernel_rfl) (fun _ _ _ h => h) (by kernel_rfl) ?_ ?_
        rotate_left
        · (intro w' hS; go_simp; (try go_bits); (try with_reducible rfl))
        try simp only [Act.put, List.setIfInBounds_toArray, List.set_cons_zero, List.set_cons_succ]
        refine reg_do 5 rfl (by kernel_rfl) (by kernel_rfl) ?_
        intro K hK
        go_simp
        refine hK _ _ (Chg.refl _ _) ?_
        clear hK K
        try simp only [Act.put, List.setIfInBounds_toArray, List.set_cons_zero, List.set_cons_succ]
        refine reg_take 11 (v := ?_) rfl (by kernel_rfl) (by kernel_rfl) (by kernel_rfl) (fun _ _ _ h => h) (by kernel_rfl) ?_ ?_
        rotate_left
        · (intro w' hS; go_simp; (try go_bits); (try with_reducible rfl))
        try simp only [Act.put, List.setIfInBounds_toArray, List.set_cons_zero, List.set_cons_succ]
        refine reg_take 12 (v := ?_) rfl (by kernel_rfl) (by kernel_rfl) (by kernel_rfl) (fun _ _ _ h => h) (by kernel_rfl) ?_ ?_
        rotate_left
        · (intro w' hS; go_simp; (try go_bits); (try with_reducible rfl))
        try simp only [Act.put, List.setIfInBounds_toArray, List.set_cons_zero, List.set_cons_succ]
        refine reg_do 13 rfl (by kernel_rfl) (by kernel_rfl) ?_
        intro K hK
        go_simp
        refine hK _ _ (by exact Chg.setCell (S := fun k => k = g) (Chg.refl _ wr.drew) (p := ⟨g, p + q, none⟩) (.inr rfl) (.int .u8 ((b1[q]).toNat : Int))) ?_
        clear hK K
        try simp only [Act.put, List.setIfInBounds_toArray, List.set_cons_zero, List.set_cons_succ]
        refine wpAnyH_done (by kernel_rfl) ?_ _
        go_wp2
        go_roundw
        case rel => exact ⟨q + 1, by omega, by go_num, ho2, hc2.drew⟩
        case measure => simp [intOf]; omega
      · obtain rfl : q = 4 := by omega
        rw [List.take_of_length_le (by rw [HL1.out]; exact Nat.le_refl _), List.drop_of_length_le (by rw [HL0.out]; exact Nat.le_refl _), List.append_nil] at ho
        obtain ⟨A9, q9, e9, hle9, hb9, -⟩ := Bytes.of_own ho
        cases e9
        go_wp2_with (fail)
        refine (open_none _ _ _ _ _ hb9 hle9 (by omega) HB.out).mono ?_
        rintro e w5 ⟨rfl, c5⟩
        go_wp2_with (fail)
        refine (alive01 _).mono ?_
        rintro e w6 ⟨rfl, c6⟩
        go_wp2
        go_ret
        exact ⟨rfl, (hc1.pure c5).pure c6⟩
theorem enc_set (zs : List UInt8) (k : Nat) (u : UInt8) : (enc zs).set k (.int .u8 (u.toNat : Int)) = enc (zs.set k u) := by
  unfold enc; rw [List.map_set]
/-- append into a row just made, with room: the block behind it. -/
theorem app_room (g n cap m c : Nat) (A : Option Addr) (xs : List UInt8) (w : World) (hA : Bytes w A m xs) (hg : w.heap[g]? = some (.cells (madeCells #[.int .u8 0] cap) 5 (0, 0))) (hroom : m ≤ cap) :
    ∃ w', (Builtin.append_ #[22, 22] 22 #[.slice (some ⟨g, 0, none⟩) 0 cap, .slice A m c]).run Try.prog w = .ok (.slice (some ⟨g, 0, none⟩) m cap) w' ∧
      w'.heap[g]? = some (.cells (enc xs ++ List.replicate (cap - m) (Value.int .u8 0)).toArray 5 (0, 0)) ∧ Chg (fun k => k = g) w w' := by
  obtain ⟨i, hi, hz, hs, hby⟩ := info_parts infoU8
  have hl := hA.len
  have hmc : (madeCells #[Value.int .u8 0] cap).toList = List.replicate cap (Value.int .u8 0) := toList_madeCells_one _ _
  cases A with
  | none =>
    have h0 : m = 0 := by
      rcases Nat.eq_zero_or_pos m with h | h
      · exact h
      · obtain ⟨_, _, e, _⟩ := hA.cells h; cases e
    subst h0
    obtain rfl : xs = [] := List.eq_nil_of_length_eq_zero hl
    refine ⟨w, ?_, ?_, Chg.refl _ _⟩
    · simp [Builtin.append_, run_underlying Try.underlying22, sizeOf, typeInfo, hi, Builtin.lenOf, Builtin.firstCells, storeCells]
    · rw [hg]
      congr 2
      apply Array.ext'
      rw [hmc]
      simp [enc]
  | some a =>
    have hr := run_append_room (P := Try.prog) w 22 22 5 i Try.underlying22 hi g 0 cap _ hg a m c (enc xs) (by rw [enc_length, hl, hs, Nat.mul_one]) hA.row.news (enc_one xs) (by omega) (by rw [enc_length, hl, size_madeCells]; omega)
    simp only [Nat.zero_mul, Nat.zero_add, List.take_zero, List.nil_append, hmc, enc_length, hl] at hr
    refine ⟨_, hr, ?_, Chg.setRow (S := fun k => k = g) (Chg.refl _ w) (.inr rfl) _⟩
    rw [setRow_heap w g _ _ 5 _ hg]
    congr 2
    simp
theorem Bytes.of_block {w : World} {g T : Nat} {fr : Nat × Nat} {cs : List Value} {xs : List UInt8} {rest : List Value} (h : w.heap[g]? = some (.cells cs.toArray T fr)) (hc : cs = enc xs ++ rest) (n : Nat) (hn : xs.length = n) : Bytes w (some ⟨g, 0, none⟩) n xs := by
  refine ⟨hn, fun _ => ⟨g, 0, rfl, fun j hj => ?_⟩⟩
  rw [cell_of_row w g (0 + j) _ T fr h, Nat.zero_add, List.getElem?_toArray, hc, List.getElem?_append_left (by rw [enc_length]; exact hj), enc_get xs j hj]
theorem xor255 (z : UInt8) : bits .xor .u8 (z.toNat : Int) 255 = ((z ^^^ 255).toNat : Int) := bits_xor_u8 z 255

set_option maxHeartbeats 1000000 in
theorem law_CrcOwn (A : Option Addr) (n c : Nat) (xs : List UInt8) (w : World) (hA : Bytes w A n xs) (hc : n ≤ c) (hn : n ≤ 140737488351232) :
    Calls Try.prog 9 #[.slice A n c] w fun e w' => e = .returned (.bool true) ∧ Chg Pure' w w' := by
  obtain ⟨i0, hi, hz0, hz1, hz2⟩ := info_parts infoU8
  have hl := hA.len
  have hs0 := hA.run_string (P := Try.prog) 22 9 5 Try.underlying22 Try.underlying5 Try.underlying9 c
  have hmk : (Instr.makeSlice 22 (.int .i64 0) (.int .i64 ((n : Int) + 8))).run Try.prog w = .ok (.slice (some ⟨w.heap.size, 0, none⟩) 0 (n + 8)) (w.alloc (.cells (madeCells #[.int .u8 0] (n + 8)) 5)) := by
    have h := run_make (P := Try.prog) w 22 5 i0 (.int .u8 0) Try.underlying22 hi hz0 .i64 .i64 0 ((n : Int) + 8) (by omega) (by omega) (by rw [hz2]; omega) (by omega)
    have e : ((n : Int) + 8).toNat = n + 8 := by omega
    rw [e] at h
    simpa [hz1, Value.cells] using h
  have hc1 : Chg Pure' w (w.alloc (.cells (madeCells #[.int .u8 0] (n + 8)) 5)) := (Chg.refl _ _).alloc _
  obtain ⟨w2, hr2, hb2, hc2⟩ := app_room w.heap.size n (n + 8) n c A xs _ (hA.pure hc1) (heap_alloc_new w _) (by omega)
  have C2 : Chg Pure' w w2 := hc1.trans hc2 (fun i hi e => by omega)
  rw [show n + 8 - n = 8 from by omega] at hb2
  have hx2 := Bytes.of_block hb2 rfl n hl
  have HL := Lib.hid hl
  clear hl hc2
  have hg0 : w.heap.size < w2.heap.size := (Array.getElem?_eq_some_iff.1 hb2).1
  go_enter Try.func9, Try.ntmps9
  go_wp2_with (first
    | (at_builtin; refine Lib.wpList_append_run _ rfl _ _ _ _ rfl _ _ rfl rfl _ _ hr2 ?_)
    | fail)
  refine (seal_own _ _ _ _ _ hx2 (by omega) (by omega)).mono ?_
  rintro e w3 ⟨v3, rfl, ho3, hc3⟩
  obtain ⟨g3, q3, rfl, hge3⟩ : ∃ g q, v3 = .slice (some ⟨g, 0, none⟩) (n + 4) q ∧ w2.heap.size ≤ g := by
    rcases ho3.2 with ⟨h', h2⟩ | ⟨g, cap, cur, h', hb, _⟩
    · omega
    · exact ⟨g, cap, h', hb⟩
  have hlz : (crcSeal xs).length = n + 4 := by rw [crcSeal_length, HL.out]
  have HLZ := Lib.hid hlz
  clear hlz hr2 hmk hs0
  go_wp2_with (fail)
  go_loopw [26] (fun i wr => ∃ (k : Nat) (zs : List UInt8), k ≤ n + 4 ∧ i = .int .i64 k ∧ wr.ownsRow w2.heap.size 5 1 (.slice (some ⟨g3, 0, none⟩) (n + 4) q3) (n + 4) (enc zs) ∧ Chg Pure' w2 wr) (fun i _ => n + 4 - (intOf i).toNat)
  case atStart => exact ⟨0, _, Nat.zero_le _, rfl, ho3, hc3⟩
  case round =>
    obtain ⟨k, zs, hk, rfl, ho, hcr⟩ := hrel
    by_cases hlt : k < n + 4
    · have hzl : zs.length = n + 4 := by have := ho.1; rw [enc_length] at this; omega
      have hkz : k < zs.length := by omega
      have hcell := ho.cellAt k (by omega)
      rw [enc_get zs k hkz] at hcell
      have hfr := ho.frozenAt k
      have hx := xor255 (zs[k])
      obtain ⟨ho2, -⟩ := ho.stored k (.int .u8 ((zs[k] ^^^ 255).toNat : Int))
      rw [enc_set] at ho2
      have hc' : Chg Pure' w2 (wr.setCell ⟨g3, k, none⟩ (.int .u8 ((zs[k] ^^^ 255).toNat : Int))) := hcr.setCell (.inl hge3) _
      have i1 : (k : Int) < (n : Int) + 4 := by omega
      clear ho hzl
      go_wp2
      go_roundw
      case rel => exact ⟨k + 1, _, by omega, by go_num, ho2, hc'⟩
      case measure => simp [intOf]; omega
    · obtain rfl : k = n + 4 := by omega
      obtain ⟨w4, rfl⟩ : ∃ x : World, x = wr := ⟨_, rfl⟩
      have C3 : Chg Pure' w w4 := C2.pure hcr
      have hb3 : w4.heap[w.heap.size]? = some (.cells (enc xs ++ List.replicate 8 (Value.int .u8 0)).toArray 5 (0, 0)) := (hcr.block _ hg0 (fun h => h)).trans hb2
      have HB3 := Lib.hid hb3
      clear ho hb2 hb3
      go_wp2
      go_loop [46] (fun i => ∃ k : Nat, k ≤ 8 ∧ i = .int .i64 k) (fun i => 8 - (intOf i).toNat)
      case atStart => exact ⟨0, Nat.zero_le _, rfl⟩
      case round =>
        obtain ⟨k, hk, rfl⟩ := hrel
        by_cases hlt : k < 8
        · have hcell : w4.cell? ⟨w.heap.size, n + k, none⟩ = some (.int .u8 0) := by
            rw [cell_of_row w4 _ (n + k) _ 5 (0, 0) HB3.out, List.getElem?_toArray, List.getElem?_append_right (by rw [enc_length, HL.out]; omega), enc_length, HL.out, Nat.add_sub_cancel_left, List.getElem?_replicate, if_pos hlt]
          go_wp2
          go_round
          case rel => exact ⟨k + 1, by omega, by go_num⟩
          case measure => simp [intOf]; omega
        · go_wp2_with (fail)
          refine (seal_own _ _ _ _ _ (hA.pure C3) hc (by omega)).mono ?_
          rintro e w5 ⟨v5, rfl, ho5, hc5⟩
          have C5 := C3.pure hc5
          have h5 := ho5.lt
          obtain ⟨A5, q5, rfl, hle5, hb5, -⟩ := Bytes.of_own ho5
          have hoff : Off A5 (fun j => w5.heap.size ≤ j) := by
            intro a ha hh
            subst ha
            have := (h5 a.block rfl).2
            omega
          clear h5
          go_wp2_with (fail)
          refine (open_own _ _ _ _ _ _ hb5 hle5 (by omega) (crcOpen_seal xs)).mono ?_
          rintro e w6 ⟨v6, rfl, ho6, hc6⟩
          have C6 := C5.pure hc6
          have hb6 := hb5.pure hc6
          clear ho5 hb5
          have hB6 : w6.heap[w.heap.size]? = some (.cells (enc xs ++ List.replicate 8 (Value.int .u8 0)).toArray 5 (0, 0)) := by
            have hlt3 : w.heap.size < w4.heap.size := (Array.getElem?_eq_some_iff.1 HB3.out).1
            exact ((hc6.block _ (Nat.lt_of_lt_of_le hlt3 hc5.size) (fun h => h)).trans (hc5.block _ hlt3 (fun h => h))).trans HB3.out
          obtain ⟨B6, r6, rfl⟩ : ∃ B r, v6 = .slice B n r := by
            rcases ho6.2 with ⟨h', h2⟩ | ⟨g, cap, cur, h', hb, _⟩
            · subst h2; exact ⟨_, _, h'⟩
            · exact ⟨_, _, h'⟩
          have hlt6 : w.heap.size < w6.heap.size := (Array.getElem?_eq_some_iff.1 hB6).1
          have HB6 := Lib.hid hB6
          clear hB6
          go_wp2_with (fail)
          go_loopw [62] (fun i wr => ∃ (k : Nat) (zs : List UInt8), k ≤ n ∧ i = .int .i64 k ∧ wr.ownsRow w5.heap.size 5 1 (.slice B6 n r6) n (enc zs) ∧ Chg (fun j => w5.heap.size ≤ j) w6 wr) (fun i _ => n - (intOf i).toNat)
          case atStart => exact ⟨0, _, Nat.zero_le _, rfl, ho6, Chg.refl _ _⟩
          case round =>
            obtain ⟨k, zs, hk, rfl, ho, hcq⟩ := hrel
            by_cases hlt : k < n
            · have hzl : zs.length = n := by have := ho.1; rw [enc_length] at this; omega
              have hkz : k < zs.length := by omega
              obtain ⟨g, rfl, hge⟩ : ∃ g, B6 = some ⟨g, 0, none⟩ ∧ w5.heap.size ≤ g := by
                rcases ho.2 with ⟨h', h2⟩ | ⟨g, cap, cur, h', hb, _⟩
                · omega
                · cases h'; exact ⟨g, rfl, hb⟩
              have hcell := ho.cellAt k (by omega)
              rw [enc_get zs k hkz] at hcell
              have hfr := ho.frozenAt k
              have hx := xor255 (zs[k])
              obtain ⟨ho2, -⟩ := ho.stored k (.int .u8 ((zs[k] ^^^ 255).toNat : Int))
              rw [enc_set] at ho2
              have hc' : Chg (fun j => w5.heap.size ≤ j) w6 (wr.setCell ⟨g, k, none⟩ (.int .u8 ((zs[k] ^^^ 255).toNat : Int))) := hcq.setCell (.inr hge) _
              have i1 : (k : Int) < (n : Int) := by omega
              clear ho hzl
              go_wp2
              go_roundw
              case rel => exact ⟨k + 1, _, by omega, by go_num, ho2, hc'⟩
              case measure => simp [intOf]; omega
            · have C7 : Chg Pure' w wr := C6.trans hcq (fun i hi h => absurd (Nat.lt_of_lt_of_le hi C5.size) (by omega))
              have hA7 := hA.pure C7
              have h7 : wr.heap[w.heap.size]? = some (.cells (enc xs ++ List.replicate 8 (Value.int .u8 0)).toArray 5 (0, 0)) := by
                have hlt3 : w.heap.size < w4.heap.size := (Array.getElem?_eq_some_iff.1 HB3.out).1
                exact (hcq.block _ hlt6 (fun h => absurd (Nat.lt_of_lt_of_le hlt3 hc5.size) (by omega))).trans HB6.out
              have hc7 := Bytes.of_block h7 rfl n HL.out
              have hs7 := hb6.chg hcq hoff
              have s1 := hA7.run_string (P := Try.prog) 22 9 5 Try.underlying22 Try.underlying5 Try.underlying9 c
              have s2 := hc7.run_string (P := Try.prog) 22 9 5 Try.underlying22 Try.underlying5 Try.underlying9 (n + 8)
              clear ho h7 hc7 hb6
              go_wp2_with (fail)
              refine (sealR_own _ _ _ _ _ hA7 (by omega)).mono ?_
              rintro e w8 ⟨v8, rfl, ho8, hc8⟩
              obtain ⟨A8, q8, rfl, -, hb8, -⟩ := Bytes.of_own ho8
              go_wp2_with (fail)
              refine (same_is true _ _ _ _ _ _ _ _ _ (hs7.pure hc8) hb8 (by simp)).mono ?_
              rintro e w9 ⟨rfl, rfl⟩
              go_wp2_with (fail)
              refine (alive01 _).mono ?_
              rintro e w10 ⟨rfl, hc10⟩
              go_wp2
              go_ret
              exact ⟨rfl, (C7.pure hc8).pure hc10⟩
end Go.Proofs.Ytbdicimbhomcmaa
