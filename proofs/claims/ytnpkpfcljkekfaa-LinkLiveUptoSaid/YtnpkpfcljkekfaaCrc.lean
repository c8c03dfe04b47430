/- Contracts of package crc: the check sum, its four bytes, sealing and opening, each told by a plain function on lists of bytes. -/
import Derived.Test.YtnpkpfcljkekfaaProg
import Derived.Test.YtnpkpfcljkekfaaCrcF
import Derived.Test.YtnpkpfcljkekfaaSl
import Derived.Test.YtnpkpfcljkekfaaSame
namespace Go.Proofs.Ytnpkpfcljkekfaa
open Go Go.RowKit
set_option linter.unusedVariables false
set_option maxRecDepth 100000
set_option linter.unusedSimpArgs false

set_option maxHeartbeats 400000 in
theorem more_any (n : UInt32) (A : Option Addr) (c m : Nat) (xs : List UInt8) (w : World) (hB : Bytes w A m xs) (hm : m ≤ 9223372036854775807) :
    Calls Try.prog 93 #[.int .u32 (n.toNat : Int), .slice A m c] w fun e w' => e = .returned (.int .u32 ((crcMore n xs).toNat : Int)) ∧ w = w' := by
  go_enter Try.func93, Try.ntmps93
  go_wp2
  go_loop [5, 12] (fun s i => ∃ k : Nat, k ≤ m ∧ i = .int .i64 k ∧ s = .int .u32 (((xs.take k).foldl byteStep (~~~ n)).toNat : Int)) (fun _ i => m - (intOf i).toNat)
  case atStart => exact ⟨0, Nat.zero_le _, rfl, by rw [not_u32]; rfl⟩
  case round =>
    obtain ⟨k, hk, rfl, rfl⟩ := hrel
    by_cases hlt : k < m
    · obtain ⟨b, off, rfl, hcell⟩ := hB.cells (by omega)
      have hkx : k < xs.length := by have := hB.len; omega
      have hc := hcell k hkx
      have hs : Hid ((xs.take (k + 1)).foldl byteStep (~~~ n) = byteStep ((xs.take k).foldl byteStep (~~~ n)) xs[k]) := foldl_take_succ _ _ _ _ hkx
      generalize List.foldl byteStep (~~~n) (List.take k xs) = t at hs ⊢
      clear hB hcell
      go_wp2
      go_loop [5, 20] (fun s i => ∃ q : Nat, q ≤ 8 ∧ i = .int .i64 q ∧ s = .int .u32 ((bitSteps q (t ^^^ xs[k].toUInt32)).toNat : Int)) (fun _ i => 8 - (intOf i).toNat)
      case atStart => exact ⟨0, Nat.zero_le _, rfl, by rw [up_u8, bits_xor_u32]; rfl⟩
      case round =>
        obtain ⟨q, hq, rfl, rfl⟩ := hrel
        by_cases hq8 : q < 8
        · go_wp2
          go_round
          case rel => exact ⟨q+1, by omega, by go_num, by rw [bits_step, bitSteps_succ]⟩
          case measure => simp [intOf]; omega
        · go_wp2
          go_round
          case rel => exact ⟨k+1, by omega, by go_num, by rw [hs.out]; obtain rfl : q = 8 := (by omega); rw [byteStep_eq]⟩
          case measure => simp [intOf]; omega
    · go_wp2
      go_ret
      exact ⟨by rw [not_u32, List.take_of_length_le (by have := hB.len; omega)]; rfl, rfl⟩

theorem sum_any (A : Option Addr) (c m : Nat) (xs : List UInt8) (w : World) (hB : Bytes w A m xs) (hm : m ≤ 9223372036854775807) :
    Calls Try.prog 89 #[.slice A m c] w fun e w' => e = .returned (.int .u32 ((crcSum xs).toNat : Int)) ∧ w = w' := by
  go_enter Try.func89, Try.ntmps89
  go_wp2_with (go_at_call 93; refine (more_any 0 A c m xs w hB hm).mono ?_; rintro e w' ⟨rfl, rfl⟩)
  go_ret
  exact ⟨rfl, rfl⟩

theorem step_any (n : UInt32) (c : UInt8) (w : World) :
    Calls Try.prog 95 #[.int .u32 (n.toNat : Int), .int .u8 (c.toNat : Int)] w fun e w' => e = .returned (.int .u32 ((byteStep n c).toNat : Int)) ∧ w = w' := by
  go_enter Try.func95, Try.ntmps95
  go_wp2
  go_loop [0, 5] (fun s i => ∃ q : Nat, q ≤ 8 ∧ i = .int .i64 q ∧ s = .int .u32 ((bitSteps q (n ^^^ c.toUInt32)).toNat : Int)) (fun _ i => 8 - (intOf i).toNat)
  case atStart => exact ⟨0, Nat.zero_le _, rfl, by rw [up_u8, bits_xor_u32]; rfl⟩
  case round =>
    obtain ⟨q, hq, rfl, rfl⟩ := hrel
    by_cases hq8 : q < 8
    · go_wp2
      · go_round
        case rel => exact ⟨q + 1, by omega, by go_num, by rw [bits_stepR1 _ (by assumption), bitSteps_succ]⟩
        case measure => simp [intOf]; omega
      · go_round
        case rel => exact ⟨q + 1, by omega, by go_num, by rw [bits_stepR0 _ (by assumption), bitSteps_succ]⟩
        case measure => simp [intOf]; omega
    · go_wp2
      go_ret
      obtain rfl : q = 8 := by omega
      exact ⟨by rw [byteStep_eq]; rfl, rfl⟩

theorem moreR_any (n : UInt32) (A : Option Addr) (c m : Nat) (xs : List UInt8) (w : World) (hB : Bytes w A m xs) (hm : m ≤ 9223372036854775807) :
    Calls Try.prog 94 #[.int .u32 (n.toNat : Int), .slice A m c] w fun e w' => e = .returned (.int .u32 ((crcMore n xs).toNat : Int)) ∧ w = w' := by
  go_enter Try.func94, Try.ntmps94
  go_wp2
  go_loop [5, 6] (fun s i => ∃ k : Nat, k ≤ m ∧ i = .int .i64 k ∧ s = .int .u32 (((xs.take k).foldl byteStep (~~~ n)).toNat : Int)) (fun _ i => m - (intOf i).toNat)
  case atStart => exact ⟨0, Nat.zero_le _, rfl, by rw [not_u32]; rfl⟩
  case round =>
    obtain ⟨k, hk, rfl, rfl⟩ := hrel
    by_cases hlt : k < m
    · obtain ⟨b, off, rfl, hcell⟩ := hB.cells (by omega)
      have hkx : k < xs.length := by have := hB.len; omega
      have hc := hcell k hkx
      have hs : Hid ((xs.take (k + 1)).foldl byteStep (~~~ n) = byteStep ((xs.take k).foldl byteStep (~~~ n)) xs[k]) := foldl_take_succ _ _ _ _ hkx
      generalize List.foldl byteStep (~~~n) (List.take k xs) = t at hs ⊢
      clear hB hcell
      go_wp2_with (go_at_call 95; refine (step_any t xs[k] w).mono ?_; rintro e w' ⟨rfl, rfl⟩)
      go_round
      case rel => exact ⟨k+1, by omega, by go_num, by rw [hs.out]⟩
      case measure => simp [intOf]; omega
    · go_wp2
      go_ret
      exact ⟨by rw [not_u32, List.take_of_length_le (by have := hB.len; omega)]; rfl, rfl⟩

theorem sumR_any (A : Option Addr) (c m : Nat) (xs : List UInt8) (w : World) (hB : Bytes w A m xs) (hm : m ≤ 9223372036854775807) :
    Calls Try.prog 90 #[.slice A m c] w fun e w' => e = .returned (.int .u32 ((crcSum xs).toNat : Int)) ∧ w = w' := by
  go_enter Try.func90, Try.ntmps90
  go_wp2_with (go_at_call 94; refine (moreR_any 0 A c m xs w hB hm).mono ?_; rintro e w' ⟨rfl, rfl⟩)
  go_ret
  exact ⟨rfl, rfl⟩

theorem mark_any (n : UInt32) (w : World) :
    Calls Try.prog 88 #[.int .u32 (n.toNat : Int)] w fun e w' => e = .returned (.slice (some ⟨w.heap.size, 0, none⟩) 4 4) ∧ Bytes w' (some ⟨w.heap.size, 0, none⟩) 4 (crcMark n) ∧ Chg Pure' w w' := by
  go_enter Try.func88, Try.ntmps88
  go_wp2
  go_ret
  exact ⟨rfl, Bytes.alloc_lit w _ _ _ (mark_cells n) 4 rfl, (Chg.refl _ w).alloc _⟩
theorem seal_own (A : Option Addr) (c m : Nat) (xs : List UInt8) (w : World) (hA : Bytes w A m xs) (hc : m ≤ c) (hm : m + 4 ≤ 140737488355328) :
    Calls Try.prog 68 #[.slice A m c] w fun e w' => ∃ v, e = .returned v ∧ w'.ownsRow w.heap.size 5 1 v (m + 4) (enc (crcSeal xs)) ∧ Chg Pure' w w' := by
  have hlen := hA.len
  have HL := Lib.hid hlen
  clear hlen
  go_enter Try.func68, Try.ntmps68
  go_wp2_with (first
    | (go_at_call 89; refine (sum_any A c m xs w hA (by omega)).mono ?_; rintro e w' ⟨rfl, rfl⟩)
    | (go_at_call 88; refine (mark_any (crcSum xs) w).mono ?_; rintro e w1 ⟨rfl, hb1, hc1⟩)
    | fail)
  have hA2 : BytesL (w1.alloc (.cells #[.slice A m c, .slice (some ⟨w.heap.size, 0, none⟩) 4 4] 23)) (some ⟨w1.heap.size, 0, none⟩) 2 [xs, crcMark (crcSum xs)] := by
    have hcc : Chg Pure' w1 (w1.alloc (.cells #[.slice A m c, .slice (some ⟨w.heap.size, 0, none⟩) 4 4] 23)) := (Chg.refl _ _).alloc _
    refine ⟨rfl, fun _ => ⟨_, 0, rfl, fun j hj => ?_⟩⟩
    rw [cellAt_alloc_lit]
    match j, hj with
    | 0, _ => exact ⟨A, m, c, by simp, hc, (hA.pure hc1).pure hcc⟩
    | 1, _ => exact ⟨_, 4, 4, by simp, Nat.le_refl _, hb1.pure hcc⟩
  have hcc : Chg Pure' w (w1.alloc (.cells #[.slice A m c, .slice (some ⟨w.heap.size, 0, none⟩) 4 4] 23)) := hc1.alloc _
  clear hA hb1 hc1
  go_wp2_with (go_at_call 31; refine (concat_any _ 2 2 _ _ hA2 (by omega) (by have := HL.out; simp [crcMark]; omega)).mono ?_; rintro e w' ⟨v, rfl, ho, hc2⟩)
  go_ret
  refine ⟨_, rfl, ?_, hcc.pure hc2⟩
  have e1 : [xs, crcMark (crcSum xs)].flatten = crcSeal xs := by simp [crcSeal]
  have e2 : (crcSeal xs).length = m + 4 := by have := HL.out; simp [crcSeal, crcMark, this]
  rw [e1, e2] at ho
  exact ho.low hcc.size

theorem open_own (A : Option Addr) (c k : Nat) (xs ys : List UInt8) (w : World) (hA : Bytes w A (k + 4) xs) (hc : (k + 4) ≤ c) (hm : k + 4 ≤ 140737488355328) (hy : crcOpen xs = some ys) :
    Calls Try.prog 92 #[.slice A ((k + 4 : Nat)) c] w fun e w' => ∃ v, e = .returned (.tuple #[v, .bool true]) ∧ w'.ownsRow w.heap.size 5 1 v k (enc ys) ∧ Chg Pure' w w' := by
  have hlen := hA.len
  obtain ⟨b, off, rfl, hcell⟩ := hA.cells (by omega)
  clear hcell
  have hneg : decide (((k : Int)) < 0) = false := by simp
  have h40 : (0 : Int) ≤ (k : Int) := by omega
  have h41 : (k : Int) ≤ ((k + 4 : Nat) : Int) := by omega
  have h42 : (k : Int) ≤ c := by omega
  have h44 : (k : Int) ≤ (k : Int) + 4 := by omega
  have hne : ¬ c = k := by omega
  have hp1 : Bytes w.drew (some ⟨b, off, none⟩) k (xs.take k) := by
    have := (hA.part 0 k (by omega) (by omega)).drew
    simpa using this
  have hp1' : Bytes w (some ⟨b, off, none⟩) k (xs.take k) := by
    have := hA.part 0 k (by omega) (by omega)
    simpa using this
  have hp2 : Bytes w.drew (some ⟨b, off + k, none⟩) 4 (xs.drop k) := by
    have := (hA.part k (k + 4) (by omega) (by omega)).drew
    rw [List.take_of_length_le (by omega), Nat.add_sub_cancel_left] at this
    exact this
  have hyt : decide (xs.drop k = crcMark (crcSum (xs.take k))) = true := by
    rw [decide_eq_true_iff]; exact ((crcOpen_iff hlen ys).1 hy).1
  have hyy : Hid (xs.take k = ys) := ((crcOpen_iff hlen ys).1 hy).2
  go_enter Try.func92, Try.ntmps92
  go_wp2
  set_option maxHeartbeats 40000 in
  go_region_held3 (fun _ => True) (trivial) (first
    | (go_at_call 89; refine (sum_any _ _ _ _ _ hp1 (by omega)).mono ?_; rintro e w' ⟨rfl, rfl⟩)
    | (go_at_call 88; refine (mark_any _ _).mono ?_; rintro e w1 ⟨rfl, hb1, hc1⟩)
    | (go_at_call 36; refine (equal_is true _ _ _ _ _ _ _ _ _ (hp2.pure hc1) hb1 (by omega) (by omega) hyt).mono ?_; rintro e w2 ⟨rfl, hc2⟩))
  have hc3 : Chg Pure' w w2 := ((Chg.refl _ w).drew.pure hc1).pure hc2
  have hp3 := hp1'.pure hc3
  clear hp1 hp2 hb1 hc1 hc2 hA
  go_wp2_with (go_at_call 72; refine (clone_own _ _ _ _ _ hp3 (by omega)).mono ?_; rintro e w3 ⟨v, rfl, hb, hc4⟩)
  go_ret2
  exact ⟨_, rfl, by rw [hyy.out] at hb; exact hb.low hc3.size, hc3.pure hc4⟩

theorem open_some (A : Option Addr) (c k : Nat) (xs ys : List UInt8) (w : World) (hA : Bytes w A (k + 4) xs) (hc : (k + 4) ≤ c) (hm : k + 4 ≤ 140737488355328) (hy : crcOpen xs = some ys) :
    Calls Try.prog 92 #[.slice A ((k + 4 : Nat)) c] w fun e w' => ∃ A' c', e = .returned (.tuple #[.slice A' k c', .bool true]) ∧ k ≤ c' ∧ Bytes w' A' k ys ∧ From A' w.heap.size ∧ Chg Pure' w w' := by
  refine (open_own A c k xs ys w hA hc hm hy).mono ?_
  rintro e w' ⟨v, rfl, ho, hc⟩
  obtain ⟨A', c', rfl, hle, hb, hf⟩ := Bytes.of_own ho
  exact ⟨A', c', rfl, hle, hb, hf, hc⟩

theorem open_none (A : Option Addr) (c m : Nat) (xs : List UInt8) (w : World) (hA : Bytes w A m xs) (hc : m ≤ c) (hm : m ≤ 140737488355328) (hy : crcOpen xs = none) :
    Calls Try.prog 92 #[.slice A m c] w fun e w' => e = .returned (.tuple #[.slice none 0 0, .bool false]) ∧ Chg Pure' w w' := by
  have hlen := hA.len
  by_cases h4 : m < 4
  · have hneg : decide (((m : Int) - 4) < 0) = true := by simp; omega
    have hw : ((m : Int) - 4) < 0 := by omega
    have hw2 : (-5 : Int) ≤ ((m : Int) - 4) := by omega
    clear hlen
    go_enter Try.func92, Try.ntmps92
    go_wp2
    go_quiet (fail)
    go_wp2
    go_ret2
    exact ⟨rfl, (Chg.refl _ w).drewN _⟩
  · obtain ⟨k, rfl⟩ : ∃ k, m = k + 4 := ⟨m - 4, by omega⟩
    obtain ⟨b, off, rfl, hcell⟩ := hA.cells (by omega)
    clear hcell
    have hneg : decide (((k : Int)) < 0) = false := by simp
    have h40 : (0 : Int) ≤ (k : Int) := by omega
    have h41 : (k : Int) ≤ ((k + 4 : Nat) : Int) := by omega
    have h42 : (k : Int) ≤ c := by omega
    have h44 : (k : Int) ≤ (k : Int) + 4 := by omega
    have hne : ¬ c = k := by omega
    have hp1 : Bytes w.drew (some ⟨b, off, none⟩) k (xs.take k) := by
      have := (hA.part 0 k (by omega) (by omega)).drew
      simpa using this
    have hp2 : Bytes w.drew (some ⟨b, off + k, none⟩) 4 (xs.drop k) := by
      have := (hA.part k (k + 4) (by omega) (by omega)).drew
      rw [List.take_of_length_le (by omega), Nat.add_sub_cancel_left] at this
      exact this
    have hyt : decide (xs.drop k = crcMark (crcSum (xs.take k))) = false := by
      rw [decide_eq_false_iff_not]; exact (crcOpen_none hlen).1 hy
    go_enter Try.func92, Try.ntmps92
    go_wp2
    set_option maxHeartbeats 40000 in
    go_region_held3 (fun _ => True) (trivial) (first
      | (go_at_call 89; refine (sum_any _ _ _ _ _ hp1 (by omega)).mono ?_; rintro e w' ⟨rfl, rfl⟩)
      | (go_at_call 88; refine (mark_any _ _).mono ?_; rintro e w1 ⟨rfl, hb1, hc1⟩)
      | (go_at_call 36; refine (equal_is false _ _ _ _ _ _ _ _ _ (hp2.pure hc1) hb1 (by omega) (by omega) hyt).mono ?_; rintro e w2 ⟨rfl, hc2⟩))
    have hc3 : Chg Pure' w w2 := ((Chg.refl _ w).drew.pure hc1).pure hc2
    clear hp1 hp2 hb1 hc1 hc2 hA
    go_wp2
    go_ret2
    exact ⟨rfl, hc3⟩

theorem mark_at (n : UInt32) (q : Nat) (h : q < (crcMark n).length) : ((n.toNat : Int) / 2 ^ (8 * q) % 256) = (((crcMark n)[q]'h).toNat : Int) := by
  have e : (((n.toNat : Int) / 2 ^ (8 * q)) % 256) = ((n.toNat / 2 ^ (8 * q) % 256 : Nat) : Int) := by simp
  rw [e]
  congr 1
  match q, h with
  | 0, _ => show _ = n.toUInt8.toNat; rw [UInt32.toNat_toUInt8]; simp
  | 1, _ => show _ = (n >>> 8).toUInt8.toNat; rw [UInt32.toNat_toUInt8, UInt32.toNat_shiftRight]; show _ = (n.toNat >>> 8) % _; rw [Nat.shiftRight_eq_div_pow]
  | 2, _ => show _ = (n >>> 16).toUInt8.toNat; rw [UInt32.toNat_toUInt8, UInt32.toNat_shiftRight]; show _ = (n.toNat >>> 16) % _; rw [Nat.shiftRight_eq_div_pow]
  | 3, _ => show _ = (n >>> 24).toUInt8.toNat; rw [UInt32.toNat_toUInt8, UInt32.toNat_shiftRight]; show _ = (n.toNat >>> 24) % _; rw [Nat.shiftRight_eq_div_pow]
theorem sealR_own (A : Option Addr) (c m : Nat) (xs : List UInt8) (w : World) (hA : Bytes w A m xs) (hm : m + 4 ≤ 140737488355328) :
    Calls Try.prog 70 #[.slice A m c] w fun e w' => ∃ v, e = .returned v ∧ w'.ownsRow w.heap.size 5 1 v (m + 4) (enc (crcSeal xs)) ∧ Chg Pure' w w' := by
  have hl := hA.len
  obtain ⟨v0, w0, hr, ho, hg, -⟩ := app_own (P := Try.prog) w w.heap.size 23 23 5 Try.underlying23 infoU8 rfl (by decide) _ _ _ (World.ownsRow_nil w w.heap.size 5 1) A m c (enc xs) hA.row (by rw [enc_length, hl, Nat.mul_one]) (enc_one _) (by decide) (by omega) (Nat.le_refl _)
  have hc : Chg Pure' w w0 := (Chg.refl _ w).grown hg (fun k hk => by cases hk)
  rw [Nat.zero_add, List.nil_append] at ho
  clear hg
  have HL := Lib.hid hl
  clear hl
  go_enter Try.func70, Try.ntmps70
  go_wp2_with (first
    | (go_at_call 90; refine (sumR_any A c m xs w hA (by omega)).mono ?_; rintro e w' ⟨rfl, rfl⟩)
    | (at_builtin; refine Lib.wpList_append_run _ rfl _ _ _ _ rfl _ _ rfl rfl _ _ hr ?_))
  go_loopw [4, 5] (fun u i wr => ∃ q : Nat, q ≤ 4 ∧ i = .int .i64 q ∧ wr.ownsRow w.heap.size 5 1 u (m + q) (enc (xs ++ (crcMark (crcSum xs)).take q)) ∧ Chg Pure' w wr) (fun _ i _ => 4 - (intOf i).toNat)
  case atStart => exact ⟨0, by omega, rfl, by simpa using ho, hc⟩
  case round =>
    obtain ⟨q, hq, rfl, ho, hc⟩ := hrel
    by_cases hlt : q < 4
    · have hqm : q < (crcMark (crcSum xs)).length := by simpa [crcMark] using hlt
      have hv := mark_at (crcSum xs) q hqm
      have hb1 := Bytes.alloc_lit wr #[Value.int .u8 (((crcSum xs).toNat : Int) / 2 ^ (8 * q) % 256)] 5 [(crcMark (crcSum xs))[q]] (by rw [hv]; rfl) 1 rfl
      have hl1 := HL.out
      obtain ⟨v1, w1, hr1, ho1, hg1, -⟩ := app_own (P := Try.prog) _ w.heap.size 23 23 5 Try.underlying23 infoU8 rfl (by decide) _ _ _ (ho.alloc (.cells #[Value.int .u8 (((crcSum xs).toNat : Int) / 2 ^ (8 * q) % 256)] 5)) _ 1 1 _ hb1.row (by rw [enc_length]; rfl) (enc_one _) (by decide) (by omega) (by have := hc.size; simp; omega)
      have hc1 : Chg Pure' w w1 := (hc.alloc _).grown hg1 (fun k hk => .inl (ho.lt k hk).1)
      have hs : xs ++ (crcMark (crcSum xs)).take (q + 1) = (xs ++ (crcMark (crcSum xs)).take q) ++ [(crcMark (crcSum xs))[q]] := by
        rw [List.take_succ_eq_append_getElem hqm, List.append_assoc]
      rw [← enc_append, ← hs, Nat.add_assoc] at ho1
      clear hs hg1 hb1 hv ho hl1
      go_wp2_with (at_builtin; refine Lib.wpList_append_run _ rfl _ _ _ _ rfl _ _ rfl rfl _ _ hr1 ?_)
      go_roundw
      case rel => exact ⟨q + 1, by omega, by go_num, ho1, hc1⟩
      case measure => simp [intOf]; omega
    · obtain rfl : q = 4 := by omega
      go_wp2
      go_ret
      exact ⟨_, rfl, ho, hc⟩

theorem openR_own (A : Option Addr) (c k : Nat) (xs ys : List UInt8) (w : World) (hA : Bytes w A (k + 4) xs) (hc : (k + 4) ≤ c) (hm : k + 4 ≤ 140737488355328) (hy : crcOpen xs = some ys) :
    Calls Try.prog 76 #[.slice A ((k + 4 : Nat)) c] w fun e w' => ∃ v, e = .returned (.tuple #[v, .bool true]) ∧ w'.ownsRow w.heap.size 5 1 v k (enc ys) ∧ Chg Pure' w w' := by
  have hlen := hA.len
  obtain ⟨b, off, rfl, hcell⟩ := hA.cells (by omega)
  clear hcell
  have hneg : decide (((k : Int)) < 0) = false := by simp
  have h40 : (0 : Int) ≤ (k : Int) := by omega
  have h42 : (k : Int) ≤ c := by omega
  have hp1 : Bytes w (some ⟨b, off, none⟩) k (xs.take k) := by
    have := hA.part 0 k (by omega) (by omega)
    simpa using this
  have hs1 := hA.drew.run_string (P := Try.prog) 23 9 5 Try.underlying23 Try.underlying5 Try.underlying9 c
  have hyt : decide (xs.drop k = crcMark (crcSum (xs.take k))) = true := by
    rw [decide_eq_true_iff]; exact ((crcOpen_iff hlen ys).1 hy).1
  have hyy : Hid (xs.take k = ys) := ((crcOpen_iff hlen ys).1 hy).2
  go_enter Try.func76, Try.ntmps76
  go_wp2
  have hsq : (crcSeal (xs.take k) == xs) = true := by rw [beq_iff_eq, crcSeal_take]; exact of_decide_eq_true hyt
  refine reg_begin (Pure') (by kernel_rfl) ?_
  refine reg_take 0 (v := ?_) rfl (by kernel_rfl) (by kernel_rfl) (by kernel_rfl) (fun _ _ _ h => h) (by kernel_rfl) ?_ ?_
  rotate_left
  · (intro w' hS; go_simp; (try go_bits); (try with_reducible rfl))
  try simp only [Act.put, List.getElem_toArray, List.getElem_cons_zero, List.getElem_cons_succ, List.setIfInBounds_toArray, List.set_cons_zero, List.set_cons_succ]
  refine reg_take 1 (v := ?_) rfl (by kernel_rfl) (by kernel_rfl) (by kernel_rfl) (fun _ _ _ h => h) (by kernel_rfl) ?_ ?_
  rotate_left
  · (intro w' hS; go_simp; (try go_bits); (try with_reducible rfl))
  try simp only [Act.put, List.getElem_toArray, List.getElem_cons_zero, List.getElem_cons_succ, List.setIfInBounds_toArray, List.set_cons_zero, List.set_cons_succ]
  refine reg_take 2 (v := ?_) rfl (by kernel_rfl) (by kernel_rfl) (by kernel_rfl) (fun _ _ _ h => h) (by kernel_rfl) ?_ ?_
  rotate_left
  · (intro w' hS; go_simp; (try go_bits); (try with_reducible rfl))
  try simp only [Act.put, List.getElem_toArray, List.getElem_cons_zero, List.getElem_cons_succ, List.setIfInBounds_toArray, List.set_cons_zero, List.set_cons_succ]
  refine reg_take 3 (v := ?_) rfl (by kernel_rfl) (by kernel_rfl) (by kernel_rfl) (fun _ _ _ h => h) (by kernel_rfl) ?_ ?_
  rotate_left
  · (intro w' hS; go_simp; (try go_bits); (try with_reducible rfl))
  try simp only [Act.put, List.getElem_toArray, List.getElem_cons_zero, List.getElem_cons_succ, List.setIfInBounds_toArray, List.set_cons_zero, List.set_cons_succ]
  refine reg_take 4 (v := ?_) rfl (by kernel_rfl) (by kernel_rfl) (by kernel_rfl) (fun _ _ _ h => h) (by kernel_rfl) ?_ ?_
  rotate_left
  · (intro w' hS; go_simp; (try go_bits); (try with_reducible rfl))
  try simp only [Act.put, List.getElem_toArray, List.getElem_cons_zero, List.getElem_cons_succ, List.setIfInBounds_toArray, List.set_cons_zero, List.set_cons_succ]
  refine reg_take 5 (v := ?_) rfl (by kernel_rfl) (by kernel_rfl) (by kernel_rfl) (fun _ _ _ h => h) (by kernel_rfl) ?_ ?_
  rotate_left
  · (intro w' hS; go_simp; (try go_bits); (try with_reducible rfl))
  try simp only [Act.put, List.getElem_toArray, List.getElem_cons_zero, List.getElem_cons_succ, List.setIfInBounds_toArray, List.set_cons_zero, List.set_cons_succ]
  refine reg_take 8 (v := ?_) rfl (by kernel_rfl) (by kernel_rfl) (by kernel_rfl) (fun _ _ _ h => h) (by kernel_rfl) ?_ ?_
  rotate_left
  · (intro w' hS; go_simp; (try go_bits); (try with_reducible rfl))
  try simp only [Act.put, List.getElem_toArray, List.getElem_cons_zero, List.getElem_cons_succ, List.setIfInBounds_toArray, List.set_cons_zero, List.set_cons_succ]
  refine reg_take 9 (v := ?_) rfl (by kernel_rfl) (by kernel_rfl) (by kernel_rfl) (fun _ _ _ h => h) (by kernel_rfl) ?_ ?_
  rotate_left
  · (intro w' hS; have hz := hA.drew.pure hS |>.run_string (P := Try.prog) 23 9 5 Try.underlying23 Try.underlying5 Try.underlying9 c; go_simp; (try go_bits); (try with_reducible rfl))
  try simp only [Act.put, List.getElem_toArray, List.getElem_cons_zero, List.getElem_cons_succ, List.setIfInBounds_toArray, List.set_cons_zero, List.set_cons_succ]
  refine reg_do 6 rfl (by kernel_rfl) (by kernel_rfl) ?_
  intro K hK
  go_simp
  refine (sealR_own _ _ _ _ _ hp1.drew (by omega)).mono ?_
  rintro e w1 ⟨v, rfl, ho, hc1⟩
  obtain ⟨A1, c1, rfl, -, hb1, -⟩ := Bytes.of_own ho
  refine hK _ _ (hc1) ?_
  clear hK K
  try simp only [Act.put, List.getElem_toArray, List.getElem_cons_zero, List.getElem_cons_succ, List.setIfInBounds_toArray, List.set_cons_zero, List.set_cons_succ]
  refine reg_take 7 (v := ?_) rfl (by kernel_rfl) (by kernel_rfl) (by kernel_rfl) (fun _ _ _ h => h) (by kernel_rfl) ?_ ?_
  rotate_left
  · (intro w' hS; have hz := hb1.pure hS |>.run_string (P := Try.prog) 23 9 5 Try.underlying23 Try.underlying5 Try.underlying9 c1; go_simp; (try go_bits); (try with_reducible rfl))
  try simp only [Act.put, List.getElem_toArray, List.getElem_cons_zero, List.getElem_cons_succ, List.setIfInBounds_toArray, List.set_cons_zero, List.set_cons_succ]
  refine reg_take 10 (v := ?_) rfl (by kernel_rfl) (by kernel_rfl) (by kernel_rfl) (fun _ _ _ h => h) (by kernel_rfl) ?_ ?_
  rotate_left
  · (intro w' hS; go_simp; (try go_bits); (try with_reducible rfl))
  try simp only [Act.put, List.getElem_toArray, List.getElem_cons_zero, List.getElem_cons_succ, List.setIfInBounds_toArray, List.set_cons_zero, List.set_cons_succ]
  refine reg_take 11 (v := ?_) rfl (by kernel_rfl) (by kernel_rfl) (by kernel_rfl) (fun _ _ _ h => h) (by kernel_rfl) ?_ ?_
  rotate_left
  · (intro w' hS; go_simp; (try go_bits); (try with_reducible rfl))
  try simp only [Act.put, List.getElem_toArray, List.getElem_cons_zero, List.getElem_cons_succ, List.setIfInBounds_toArray, List.set_cons_zero, List.set_cons_succ]
  refine wpAnyH_done (by kernel_rfl) ?_ _
  have hc3 : Chg Pure' w w1 := (Chg.refl _ w).drew.pure hc1
  have hp3 := hp1.pure hc3
  obtain ⟨v2, w2, hr2, ho2, hg2, -⟩ := app_own (P := Try.prog) w1 w.heap.size 23 23 5 Try.underlying23 infoU8 rfl (by decide) _ _ _ (World.ownsRow_nil w1 w.heap.size 5 1) _ k c (enc (xs.take k)) hp3.row (by rw [enc_length, hp3.len, Nat.mul_one]) (enc_one _) (by decide) (by omega) hc3.size
  have hc4 : Chg Pure' w w2 := hc3.grown hg2 (fun k hk => by cases hk)
  rw [Nat.zero_add, List.nil_append, hyy.out] at ho2
  clear hg2 hp3 hs1 hA hp1 hb1 ho
  go_wp2_with (at_builtin; refine Lib.wpList_append_run _ rfl _ _ _ _ rfl _ _ rfl rfl _ _ hr2 ?_)
  have HO := Lib.hid ho2
  clear ho2
  go_ret2
  exact ⟨_, rfl, HO.out, hc4⟩

theorem openR_some (A : Option Addr) (c k : Nat) (xs ys : List UInt8) (w : World) (hA : Bytes w A (k + 4) xs) (hc : (k + 4) ≤ c) (hm : k + 4 ≤ 140737488355328) (hy : crcOpen xs = some ys) :
    Calls Try.prog 76 #[.slice A ((k + 4 : Nat)) c] w fun e w' => ∃ A' c', e = .returned (.tuple #[.slice A' k c', .bool true]) ∧ k ≤ c' ∧ Bytes w' A' k ys ∧ From A' w.heap.size ∧ Chg Pure' w w' := by
  refine (openR_own A c k xs ys w hA hc hm hy).mono ?_
  rintro e w' ⟨v, rfl, ho, hc⟩
  obtain ⟨A', c', rfl, hle, hb, hf⟩ := Bytes.of_own ho
  exact ⟨A', c', rfl, hle, hb, hf, hc⟩

theorem openR_none (A : Option Addr) (c m : Nat) (xs : List UInt8) (w : World) (hA : Bytes w A m xs) (hc : m ≤ c) (hm : m ≤ 140737488355328) (hy : crcOpen xs = none) :
    Calls Try.prog 76 #[.slice A m c] w fun e w' => e = .returned (.tuple #[.slice none 0 0, .bool false]) ∧ Chg Pure' w w' := by
  have hlen := hA.len
  by_cases h4 : m < 4
  · have hneg : decide (((m : Int) - 4) < 0) = true := by simp; omega
    have hw : ((m : Int) - 4) < 0 := by omega
    have hw2 : (-5 : Int) ≤ ((m : Int) - 4) := by omega
    clear hlen
    go_enter Try.func76, Try.ntmps76
    go_wp2
    go_quiet (fail)
    go_wp2
    go_ret2
    exact ⟨rfl, (Chg.refl _ w).drewN _⟩
  · obtain ⟨k, rfl⟩ : ∃ k, m = k + 4 := ⟨m - 4, by omega⟩
    obtain ⟨b, off, rfl, hcell⟩ := hA.cells (by omega)
    clear hcell
    have hneg : decide (((k : Int)) < 0) = false := by simp
    have h40 : (0 : Int) ≤ (k : Int) := by omega
    have h42 : (k : Int) ≤ c := by omega
    have hp1 : Bytes w (some ⟨b, off, none⟩) k (xs.take k) := by
      have := hA.part 0 k (by omega) (by omega)
      simpa using this
    have hyt : decide (xs.drop k = crcMark (crcSum (xs.take k))) = false := by
      rw [decide_eq_false_iff_not]; exact (crcOpen_none hlen).1 hy
    have hsq : (crcSeal (xs.take k) == xs) = false := by rw [beq_eq_false_iff_ne]; intro h; rw [crcSeal_take] at h; exact of_decide_eq_false hyt h
    go_enter Try.func76, Try.ntmps76
    go_wp2
    refine reg_begin (Pure') (by kernel_rfl) ?_
    refine reg_take 0 (v := ?_) rfl (by kernel_rfl) (by kernel_rfl) (by kernel_rfl) (fun _ _ _ h => h) (by kernel_rfl) ?_ ?_
    rotate_left
    · (intro w' hS; go_simp; (try go_bits); (try with_reducible rfl))
    try simp only [Act.put, List.getElem_toArray, List.getElem_cons_zero, List.getElem_cons_succ, List.setIfInBounds_toArray, List.set_cons_zero, List.set_cons_succ]
    refine reg_take 1 (v := ?_) rfl (by kernel_rfl) (by kernel_rfl) (by kernel_rfl) (fun _ _ _ h => h) (by kernel_rfl) ?_ ?_
    rotate_left
    · (intro w' hS; go_simp; (try go_bits); (try with_reducible rfl))
    try simp only [Act.put, List.getElem_toArray, List.getElem_cons_zero, List.getElem_cons_succ, List.setIfInBounds_toArray, List.set_cons_zero, List.set_cons_succ]
    refine reg_take 2 (v := ?_) rfl (by kernel_rfl) (by kernel_rfl) (by kernel_rfl) (fun _ _ _ h => h) (by kernel_rfl) ?_ ?_
    rotate_left
    · (intro w' hS; go_simp; (try go_bits); (try with_reducible rfl))
    try simp only [Act.put, List.getElem_toArray, List.getElem_cons_zero, List.getElem_cons_succ, List.setIfInBounds_toArray, List.set_cons_zero, List.set_cons_succ]
    refine reg_take 3 (v := ?_) rfl (by kernel_rfl) (by kernel_rfl) (by kernel_rfl) (fun _ _ _ h => h) (by kernel_rfl) ?_ ?_
    rotate_left
    · (intro w' hS; go_simp; (try go_bits); (try with_reducible rfl))
    try simp only [Act.put, List.getElem_toArray, List.getElem_cons_zero, List.getElem_cons_succ, List.setIfInBounds_toArray, List.set_cons_zero, List.set_cons_succ]
    refine reg_take 4 (v := ?_) rfl (by kernel_rfl) (by kernel_rfl) (by kernel_rfl) (fun _ _ _ h => h) (by kernel_rfl) ?_ ?_
    rotate_left
    · (intro w' hS; go_simp; (try go_bits); (try with_reducible rfl))
    try simp only [Act.put, List.getElem_toArray, List.getElem_cons_zero, List.getElem_cons_succ, List.setIfInBounds_toArray, List.set_cons_zero, List.set_cons_succ]
    refine reg_take 5 (v := ?_) rfl (by kernel_rfl) (by kernel_rfl) (by kernel_rfl) (fun _ _ _ h => h) (by kernel_rfl) ?_ ?_
    rotate_left
    · (intro w' hS; go_simp; (try go_bits); (try with_reducible rfl))
    try simp only [Act.put, List.getElem_toArray, List.getElem_cons_zero, List.getElem_cons_succ, List.setIfInBounds_toArray, List.set_cons_zero, List.set_cons_succ]
    refine reg_take 8 (v := ?_) rfl (by kernel_rfl) (by kernel_rfl) (by kernel_rfl) (fun _ _ _ h => h) (by kernel_rfl) ?_ ?_
    rotate_left
    · (intro w' hS; go_simp; (try go_bits); (try with_reducible rfl))
    try simp only [Act.put, List.getElem_toArray, List.getElem_cons_zero, List.getElem_cons_succ, List.setIfInBounds_toArray, List.set_cons_zero, List.set_cons_succ]
    refine reg_take 9 (v := ?_) rfl (by kernel_rfl) (by kernel_rfl) (by kernel_rfl) (fun _ _ _ h => h) (by kernel_rfl) ?_ ?_
    rotate_left
    · (intro w' hS; have hz := hA.drew.pure hS |>.run_string (P := Try.prog) 23 9 5 Try.underlying23 Try.underlying5 Try.underlying9 c; go_simp; (try go_bits); (try with_reducible rfl))
    try simp only [Act.put, List.getElem_toArray, List.getElem_cons_zero, List.getElem_cons_succ, List.setIfInBounds_toArray, List.set_cons_zero, List.set_cons_succ]
    refine reg_do 6 rfl (by kernel_rfl) (by kernel_rfl) ?_
    intro K hK
    go_simp
    refine (sealR_own _ _ _ _ _ hp1.drew (by omega)).mono ?_
    rintro e w1 ⟨v, rfl, ho, hc1⟩
    obtain ⟨A1, c1, rfl, -, hb1, -⟩ := Bytes.of_own ho
    refine hK _ _ (hc1) ?_
    clear hK K
    try simp only [Act.put, List.getElem_toArray, List.getElem_cons_zero, List.getElem_cons_succ, List.setIfInBounds_toArray, List.set_cons_zero, List.set_cons_succ]
    refine reg_take 7 (v := ?_) rfl (by kernel_rfl) (by kernel_rfl) (by kernel_rfl) (fun _ _ _ h => h) (by kernel_rfl) ?_ ?_
    rotate_left
    · (intro w' hS; have hz := hb1.pure hS |>.run_string (P := Try.prog) 23 9 5 Try.underlying23 Try.underlying5 Try.underlying9 c1; go_simp; (try go_bits); (try with_reducible rfl))
    try simp only [Act.put, List.getElem_toArray, List.getElem_cons_zero, List.getElem_cons_succ, List.setIfInBounds_toArray, List.set_cons_zero, List.set_cons_succ]
    refine reg_take 10 (v := ?_) rfl (by kernel_rfl) (by kernel_rfl) (by kernel_rfl) (fun _ _ _ h => h) (by kernel_rfl) ?_ ?_
    rotate_left
    · (intro w' hS; go_simp; (try go_bits); (try with_reducible rfl))
    try simp only [Act.put, List.getElem_toArray, List.getElem_cons_zero, List.getElem_cons_succ, List.setIfInBounds_toArray, List.set_cons_zero, List.set_cons_succ]
    refine reg_take 11 (v := ?_) rfl (by kernel_rfl) (by kernel_rfl) (by kernel_rfl) (fun _ _ _ h => h) (by kernel_rfl) ?_ ?_
    rotate_left
    · (intro w' hS; go_simp; (try go_bits); (try with_reducible rfl))
    try simp only [Act.put, List.getElem_toArray, List.getElem_cons_zero, List.getElem_cons_succ, List.setIfInBounds_toArray, List.set_cons_zero, List.set_cons_succ]
    refine wpAnyH_done (by kernel_rfl) ?_ _
    have hc3 : Chg Pure' w w1 := (Chg.refl _ w).drew.pure hc1
    clear hA hp1 hb1 ho
    go_wp2
    go_ret2
    exact ⟨rfl, hc3⟩
end Go.Proofs.Ytnpkpfcljkekfaa
