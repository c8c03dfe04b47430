/- Contracts of slices.Concat, Grow, Equal and Clone at slices of bytes. -/
import Derived.Test.YtnpkpfcljkekfaaProg
import Derived.Test.YtnpkpfcljkekfaaBase
namespace Go.Proofs.Ytnpkpfcljkekfaa
open Go Go.RowKit
set_option linter.unusedVariables false
set_option linter.unusedSimpArgs false
theorem infoU8 : (Try.prog.info? 5).map (fun i => (i.zero, i.size, i.bytes)) = some (some (.int .u8 0), 1, 1) := by kernel_rfl
set_option maxRecDepth 100000 in
theorem grow_any (n : Nat) (w : World) (hn : n ≤ 140737488355328) :
    Calls Try.prog 69 #[.slice none 0 0, .int .i64 n] w fun e w' => ∃ v, e = .returned v ∧ w'.ownsRow w.heap.size 5 1 v 0 [] ∧ Chg Pure' w w' := by
  obtain ⟨i, hi, hz0, hz1, hz2⟩ := info_parts infoU8
  by_cases h0 : n = 0
  · subst h0
    go_enter Try.func69, Try.ntmps69
    go_wp2
    go_ret
    exact ⟨_, rfl, World.ownsRow_nil _ _ _ _, Chg.refl _ _⟩
  · have hp : (0 : Int) < n := by omega
    have hr := Lib.run_append_nil_zeros (P := Try.prog) w 23 3 23 5 i (.int .u8 0) .i64 .i64 Try.underlying23 Try.underlying3 hi hz0 n (by omega) (by rw [hz1]; decide) (by omega) (by rw [hz2]; omega)
    go_enter Try.func69, Try.ntmps69
    go_wp2_with (at_builtin; refine Lib.wpList_append_run _ rfl _ _ _ _ rfl _ _ rfl rfl _ _ hr ?_)
    go_ret
    refine ⟨_, rfl, ?_, (Chg.refl _ w).drew.alloc _⟩
    have hge := grownCap_ge w n 0 5
    exact World.ownsRow_made w.drew _ _ (Nat.le_refl _) (grownCap_le_maxLen w n 0 5 (by simp only [maxLen]; omega)) (by simp [size_zeroCells, Value.cells]; omega)

theorem concat_any (A : Option Addr) (c m : Nat) (xss : List (List UInt8)) (w : World) (hB : BytesL w A m xss) (hm : m ≤ 9223372036854775807) (hT : xss.flatten.length ≤ 140737488355328) :
    Calls Try.prog 31 #[.slice A m c] w fun e w' => ∃ v, e = .returned v ∧ w'.ownsRow w.heap.size 5 1 v xss.flatten.length (enc xss.flatten) ∧ Chg Pure' w w' := by
  have hpre : ∀ k, (xss.take k).flatten.length ≤ xss.flatten.length := fun k => by
    conv => rhs; rw [← List.take_append_drop k xss]
    rw [List.flatten_append, List.length_append]; omega
  go_enter Try.func31, Try.ntmps31
  go_wp2
  go_loop [3, 11] (fun s i => ∃ k : Nat, k ≤ m ∧ i = .int .i64 k ∧ s = .int .i64 ((xss.take k).flatten.length : Nat)) (fun _ i => m - (intOf i).toNat)
  case atStart => exact ⟨0, Nat.zero_le _, rfl, rfl⟩
  case round =>
    obtain ⟨k, hk, rfl, rfl⟩ := hrel
    by_cases hlt : k < m
    · obtain ⟨b, off, rfl, hcell⟩ := hB.cells (by omega)
      have hkx : k < xss.length := by have := hB.len; omega
      obtain ⟨Aj, nj, cj, hc, hle, hb⟩ := hcell k hkx
      have hs : Hid ((xss.take (k + 1)).flatten.length = (xss.take k).flatten.length + nj) := by
        rw [List.take_succ_eq_append_getElem hkx, List.flatten_append, List.length_append]
        show _ = _
        have := hb.len
        simp [this]
      have h1 := hpre (k + 1)
      rw [hs.out] at h1
      have h0 : (xss.take k).flatten.length ≤ 140737488355328 := by omega
      generalize (xss.take k).flatten.length = t at hs h0 h1 ⊢
      have hneg : decide (((t : Int) + nj) < 0) = false := by simp; omega
      clear hcell hb hB
      have h2 : t + nj ≤ 140737488355328 := by omega
      go_wp2
      go_round
      case rel => exact ⟨k+1, by omega, by go_num, by rw [hs.out]; go_num⟩
      case measure => simp [intOf]; omega
    · obtain rfl : k = m := by omega
      have ht : xss.take k = xss := List.take_of_length_le (by have := hB.len; omega)
      rw [ht]
      clear hpre
      generalize hN : xss.flatten.length = N at hT ⊢
      have HN := Lib.hid hN
      clear hN
      go_wp2_with (go_at_call 69; refine (grow_any N w hT).mono ?_; rintro e w1 ⟨v, rfl, ho, hc⟩)
      have hpre : ∀ q, (xss.take q).flatten.length ≤ xss.flatten.length := fun q => by
        conv => rhs; rw [← List.take_append_drop q xss]
        rw [List.flatten_append, List.length_append]; omega
      have HP := Lib.hid hpre
      clear hpre
      go_loopw [6, 27] (fun u i wr => ∃ q : Nat, q ≤ k ∧ i = .int .i64 q ∧ wr.ownsRow w.heap.size 5 1 u (xss.take q).flatten.length (enc (xss.take q).flatten) ∧ Chg Pure' w wr) (fun _ i _ => k - (intOf i).toNat)
      case atStart => exact ⟨0, Nat.zero_le _, rfl, ho, hc⟩
      case round =>
        obtain ⟨q, hq, rfl, ho, hc⟩ := hrel
        by_cases hlt : q < k
        · obtain ⟨b, off, rfl, hcell⟩ := hB.cells (by omega)
          have hqx : q < xss.length := by have := hB.len; omega
          obtain ⟨Aj, nj, cj, hcl, hle, hb⟩ := hcell q hqx
          have hcl' := hc.cell hcl (fun h => h)
          have hb' := hb.pure hc
          have hsum : (xss.take (q + 1)).flatten = (xss.take q).flatten ++ xss[q] := by
            rw [List.take_succ_eq_append_getElem hqx, List.flatten_append]; simp
          have hlen : (xss.take (q + 1)).flatten.length = (xss.take q).flatten.length + nj := by rw [hsum, List.length_append, hb.len]
          have hbd := HP.out (q + 1)
          obtain ⟨v', w', hr, ho', hg', -⟩ := app_own (P := Try.prog) wr w.heap.size 23 23 5 Try.underlying23 infoU8 rfl (by decide) _ _ _ ho Aj nj cj (enc xss[q]) hb'.row (by rw [enc_length, hb.len, Nat.mul_one]) (enc_one _) (by decide) (by rw [HN.out] at hbd; omega) hc.size
          rw [← enc_append, ← hsum, ← hlen] at ho'
          have hc' : Chg Pure' w w' := hc.grown hg' (fun k hk => .inl (ho.lt k hk).1)
          clear hsum hlen hbd hcell hb hb' hB ho hcl hg'
          go_wp2_with (at_builtin; refine Lib.wpList_append_run _ rfl _ _ _ _ rfl _ _ rfl rfl _ _ hr ?_)
          go_roundw
          case rel => exact ⟨q + 1, by omega, by go_num, ho', hc'⟩
          case measure => simp [intOf]; omega
        · obtain rfl : q = k := by omega
          rw [ht, HN.out] at ho
          go_wp2
          go_ret
          exact ⟨_, rfl, by rw [HN.out]; exact ho, hc⟩
theorem equal_any (A : Option Addr) (c m : Nat) (xs : List UInt8) (B : Option Addr) (d n : Nat) (ys : List UInt8) (w : World) (hA : Bytes w A m xs) (hB : Bytes w B n ys) (hm : m ≤ 9223372036854775807) (hn : n ≤ 9223372036854775807) :
    Calls Try.prog 36 #[.slice A m c, .slice B n d] w fun e w' => e = .returned (.bool (decide (xs = ys))) ∧ Chg Pure' w w' := by
  have la := hA.len
  have lb := hB.len
  by_cases hmn : m = n
  · have hne : ((m : Int) != (n : Int)) = false := by simp [hmn]
    subst hmn
    clear lb
    go_enter Try.func36, Try.ntmps36
    go_wp2
    go_loopw [13] (fun i wr => ∃ k : Nat, k ≤ m ∧ i = .int .i64 k ∧ xs.take k = ys.take k ∧ Chg Pure' w wr) (fun i _ => m - (intOf i).toNat)
    case atStart => exact ⟨0, Nat.zero_le _, rfl, rfl, Chg.refl _ _⟩
    case round =>
      obtain ⟨k, hk, rfl, ht, hc⟩ := hrel
      have HT := Lib.hid ht
      clear ht
      by_cases hlt : k < m
      · obtain ⟨b, off, rfl, hcell⟩ := hA.cells (by omega)
        obtain ⟨b2, off2, rfl, hcell2⟩ := hB.cells (by omega)
        have hkx : k < xs.length := by have := hA.len; omega
        have hky : k < ys.length := by have := hB.len; omega
        have c1 := hc.cell (hcell k hkx) (fun h => h)
        have c2 := hc.cell (hcell2 k hky) (fun h => h)
        have hlt' : (k : Int) < m := by omega
        have h0 : (0 : Int) ≤ k := by omega
        clear hcell hcell2 hA hB la
        go_wp2
        go_quiet (fail)
        go_wp2
        · go_ret
          have hx : ((xs[k].toNat : Int) != (ys[k].toNat : Int)) = true := by assumption
          refine ⟨ret_bool ?_, hc.drewN _⟩
          symm
          rw [decide_eq_false_iff_not]
          intro he
          subst he
          simp at hx
        · go_roundw
          case rel =>
            have hx : ((xs[k].toNat : Int) != (ys[k].toNat : Int)) = false := by assumption
            refine ⟨k + 1, by omega, by go_num, ?_, hc.drewN _⟩
            have he : xs[k] = ys[k] := by
              rw [bne_eq_false_iff_eq] at hx
              exact UInt8.toNat_inj.1 (by omega)
            rw [List.take_succ_eq_append_getElem hkx, List.take_succ_eq_append_getElem hky, HT.out, he]
          case measure => simp [intOf]; omega
      · go_wp2
        go_ret
        have := hA.len; have := hB.len; have := HT.out
        rw [List.take_of_length_le (by omega), List.take_of_length_le (by omega)] at this
        exact ⟨ret_bool (by simp [this]), hc⟩
  · have hne : ((m : Int) != (n : Int)) = true := by simp; omega
    have : decide (xs = ys) = false := by
      simp; intro h; subst h; omega
    rw [this]
    clear this la lb
    go_enter Try.func36, Try.ntmps36
    go_wp2
    go_ret
    exact ⟨rfl, Chg.refl _ _⟩

theorem equal_is (r : Bool) (A : Option Addr) (c m : Nat) (xs : List UInt8) (B : Option Addr) (d n : Nat) (ys : List UInt8) (w : World) (hA : Bytes w A m xs) (hB : Bytes w B n ys) (hm : m ≤ 9223372036854775807) (hn : n ≤ 9223372036854775807) (hr : decide (xs = ys) = r) :
    Calls Try.prog 36 #[.slice A m c, .slice B n d] w fun e w' => e = .returned (.bool r) ∧ Chg Pure' w w' := by
  subst hr
  exact equal_any A c m xs B d n ys w hA hB hm hn
theorem clone_own (A : Option Addr) (c m : Nat) (xs : List UInt8) (w : World) (hA : Bytes w A m xs) (hm : m ≤ 140737488355328) :
    Calls Try.prog 72 #[.slice A m c] w fun e w' => ∃ v, e = .returned v ∧ w'.ownsRow w.heap.size 5 1 v m (enc xs) ∧ Chg Pure' w w' := by
  cases A with
  | none =>
    have h0 : m = 0 := by
      rcases Nat.eq_zero_or_pos m with h | h
      · exact h
      · obtain ⟨_, _, e, _⟩ := hA.cells h; cases e
    subst h0
    obtain rfl : xs = [] := List.eq_nil_of_length_eq_zero hA.len
    have hn := Lib.run_eql_slice_nil (P := Try.prog) w 23 5 none 0 c 0 0 Try.underlying23
    go_enter Try.func72, Try.ntmps72
    go_wp2
    go_ret
    exact ⟨_, rfl, World.ownsRow_nil _ _ _ _, Chg.refl _ _⟩
  | some a =>
    have hn := Lib.run_eql_slice_nil (P := Try.prog) w 23 5 (some a) m c 0 0 Try.underlying23
    have ho := World.ownsRow_lit (base := w.heap.size) (e := 5) (size := 1) w #[] 0 (Nat.le_refl _) (by decide) rfl
    have hc1 : Chg Pure' w (w.alloc (.cells #[] 5)) := (Chg.refl _ w).alloc _
    have hA1 := hA.pure hc1
    obtain ⟨v', w', hr, ho', hg, -⟩ := app_own (P := Try.prog) (w.alloc (.cells #[] 5)) w.heap.size 23 23 5 Try.underlying23 infoU8 rfl (by decide) _ _ _ ho (some a) m c (enc xs) hA1.row (by rw [enc_length, hA.len, Nat.mul_one]) (enc_one _) (by decide) (by omega) (by simp)
    have ho2 : w'.ownsRow w.heap.size 5 1 v' m (enc xs) := by simpa using ho'
    have hc2 : Chg Pure' w w' := hc1.grown hg (fun k hk => .inl (ho.lt k hk).1)
    clear ho ho' hc1 hA1 hg hA
    go_enter Try.func72, Try.ntmps72
    go_wp2_with (at_builtin; refine Lib.wpList_append_run _ rfl _ _ _ _ rfl _ _ rfl rfl _ _ hr ?_)
    go_ret
    exact ⟨_, rfl, ho2, hc2⟩
theorem clone_any (A : Option Addr) (c m : Nat) (xs : List UInt8) (w : World) (hA : Bytes w A m xs) (hm : m ≤ 140737488355328) :
    Calls Try.prog 72 #[.slice A m c] w fun e w' => ∃ A' c', e = .returned (.slice A' m c') ∧ m ≤ c' ∧ Bytes w' A' m xs ∧ From A' w.heap.size ∧ Chg Pure' w w' := by
  refine (clone_own A c m xs w hA hm).mono ?_
  rintro e w' ⟨v, rfl, ho, hc⟩
  obtain ⟨A', c', rfl, hle, hb, hf⟩ := Bytes.of_own ho
  exact ⟨A', c', rfl, hle, hb, hf, hc⟩
end Go.Proofs.Ytnpkpfcljkekfaa
