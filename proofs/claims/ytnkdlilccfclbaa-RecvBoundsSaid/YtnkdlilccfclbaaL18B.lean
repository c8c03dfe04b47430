/- The laws of layer 18, going on: RecvBounds. -/
import Derived.Test.YtnkdlilccfclbaaL18
namespace Go.Proofs.Ytnkdlilccfclbaa
open Go Go.RowKit
set_option linter.unusedVariables false
set_option linter.unusedSimpArgs false

theorem bits_or_u64 (a b : Nat) (ha : a < 2 ^ 64) (hb : b < 2 ^ 64) : bits .or .u64 (a : Int) (b : Int) = ((a ||| b : Nat) : Int) := by
  show IntKind.u64.wrap ((BitVec.ofInt 64 (a : Int) ||| BitVec.ofInt 64 (b : Int)).toNat : Int) = _
  rw [IntKind.wrap_u64, BitVec.ofInt_natCast, BitVec.ofInt_natCast, BitVec.toNat_or, BitVec.toNat_ofNat, BitVec.toNat_ofNat, Nat.mod_eq_of_lt ha, Nat.mod_eq_of_lt hb]
  have : a ||| b < 2 ^ 64 := Nat.or_lt_two_pow ha hb
  omega
theorem ackTo_lt (L : List (Option (List UInt8))) (n : Nat) : ∀ j, j ≤ 33 → ∃ m : Nat, ackTo L n j = (m : Int) ∧ m < 2 ^ j
  | 0, _ => ⟨0, rfl, by decide⟩
  | j + 1, hj => by
    obtain ⟨m, h1, h2⟩ := ackTo_lt L n j (by omega)
    have h3 : m < 2 ^ (j + 1) := Nat.lt_of_lt_of_le h2 (Nat.pow_le_pow_right (by decide) (by omega))
    rw [ackTo]
    split
    · have h4 : 2 ^ (j - n - 1) < 2 ^ (j + 1) := Nat.pow_lt_pow_right (by decide) (by omega)
      have h5 : 2 ^ (j + 1) ≤ 2 ^ 64 := Nat.pow_le_pow_right (by decide) (by omega)
      refine ⟨m ||| 2 ^ (j - n - 1), ?_, Nat.or_lt_two_pow h3 h4⟩
      rw [h1, ← bits_or_u64 _ _ (by omega) (by omega)]
      congr 1
    · exact ⟨m, h1, h3⟩
theorem lead_append : ∀ (L : List (Option (List UInt8))), lead (L ++ [none]) = lead L
  | [] => rfl
  | none :: _ => rfl
  | some _ :: L => by simp only [List.cons_append, lead]; rw [lead_append L]
theorem lead_count : ∀ (L : List (Option (List UInt8))), lead L ≤ L.countP (·.isSome)
  | [] => Nat.le_refl _
  | none :: _ => Nat.zero_le _
  | some _ :: L => by have := lead_count L; simp [lead, List.countP_cons]; omega
theorem lead_set : ∀ (L : List (Option (List UInt8))) (k : Nat) (xs : List UInt8), lead L ≤ lead (L.set k (some xs))
  | [], _, _ => Nat.le_refl _
  | none :: _, _, _ => Nat.zero_le _
  | some _ :: L, 0, xs => by simp only [List.set_cons_zero, lead]; omega
  | some _ :: L, k + 1, xs => by have := lead_set L k xs; simp only [List.set_cons_succ, lead]; omega
theorem lead_data (W T : Nat) (L : List (Option (List UInt8))) (s : Int) (xs : List UInt8) : lead L ≤ lead (dataR W T L s xs).2 := by
  unfold dataR
  repeat' split
  all_goals first | exact Nat.le_refl _ | exact lead_set _ _ _

set_option maxRecDepth 100000 in
set_option maxHeartbeats 2000000 in
theorem law_RecvBounds (a : Int) (A : Option Addr) (n c : Nat) (acts : List (Int × List UInt8)) (w : World) (ha : -9223372036854775808 ≤ a ∧ a ≤ 9223372036854775807) (hA : ActsAt w A n acts) (hn : n ≤ 140737488351232) :
    Calls Try.prog 7 #[.int .i64 a, .slice A n c] w fun e w' => e = .returned (.bool true) ∧ Chg Pure' w w' := by
  by_cases hbad : a < 1 ∨ 32 < a
  · go_enter Try.func7, Try.ntmps7
    go_wp2_with (fail)
    refine (new_bad _ _ hbad).mono ?_
    rintro e w1 ⟨rfl, rfl⟩
    go_wp2_with (fail)
    refine (alive18 _).mono ?_
    rintro e w2 ⟨rfl, hg⟩
    go_wp2
    go_ret
    exact ⟨rfl, hg⟩
  · obtain ⟨W, rfl⟩ : ∃ W : Nat, a = W := ⟨a.toNat, by omega⟩
    have h1 : 1 ≤ W := by omega
    have h2 : W ≤ 32 := by omega
    clear hbad ha
    go_enter Try.func7, Try.ntmps7
    go_wp2_with (fail)
    refine (new_ok W _ h1 h2).mono ?_
    rintro e w1 ⟨rfl, c1, r1⟩
    go_wp2_with (fail)
    refine (alive18 _).mono ?_
    rintro e w2 ⟨rfl, c2⟩
    have r2 := r1.pure c2
    have C2 := c1.pure c2
    clear r1 c1 c2
    go_wp2_with (fail)
    have hl0 : lead (List.replicate W none) = 0 := by cases W <;> rfl
    go_loopw [33, 7, 8] (fun i x y wr => ∃ (k T : Nat) (L : List (Option (List UInt8))) (F : Nat → Prop), k ≤ n ∧ i = .int .i64 k ∧ x = .int .i64 ((T + lead L : Nat)) ∧ y = .int .i64 ((T + W : Nat)) ∧ T ≤ k ∧ RecvAt wr F w.heap.size W T L ∧ (∀ i, F i → w.heap.size ≤ i) ∧ Chg Pure' w wr) (fun i _ _ _ => n - (intOf i).toNat)
    case atStart => exact ⟨0, 0, _, _, Nat.zero_le _, rfl, by rw [hl0]; rfl, by simp, Nat.le_refl _, r2, fun i hi => by rw [hi]; exact Nat.le_refl _, C2⟩
    case round =>
      obtain ⟨k, T, L, F, hk, rfl, rfl, rfl, hT, r, hF, hc⟩ := hrel
      by_cases hlt : k < n
      · obtain ⟨b, off, rfl, hbl, hcell⟩ := (hA.pure hc).cells (by omega)
        have hkx : k < acts.length := by have := hA.len; omega
        obtain ⟨e1, Aj, nj, cj, e2, hle, hnj, hbj⟩ := hcell k hkx
        have hwf := hA.wf _ (List.getElem_mem hkx)
        generalize acts[k].1 = s at e1 hwf
        generalize acts[k].2 = xs at hbj
        clear hcell
        have hTb : T ≤ 4611686018427387904 := by omega
        have fz : ∀ i, i < w.heap.size → i = w.heap.size → Pure' i := fun i hi e => by omega
        have ca : Chg Pure' wr (wr.alloc (.cells #[.int .i64 s, .slice Aj nj cj] 31)) := (Chg.refl _ wr).alloc _
        have r' := r.pure ca
        have hwlt : w.heap.size < wr.heap.size := r.lt _ r.own
        by_cases hs7 : s = -7
        focus
          subst hs7
          clear r
          rcases L with _ | ⟨_ | ys, L⟩
          · exact absurd r'.len (by simp; omega)
          focus
            go_wp2_with (fail)
            refine (take_none _ _ _ _ _ _ r' hTb).mono ?_
            rintro e w3 ⟨rfl, rfl⟩
            have KEY : ∃ (w8 : World) (T8 : Nat) (L8 : List (Option (List UInt8))) (F8 : Nat → Prop), w8 = wr.alloc (.cells #[.int .i64 (-7), .slice Aj nj cj] 31) ∧ T8 ≤ k + 1 ∧ T ≤ T8 ∧ T + lead (none :: L) ≤ T8 + lead L8 ∧ RecvAt w8 F8 w.heap.size W T8 L8 ∧ (∀ i, F8 i → w.heap.size ≤ i) ∧ Chg Pure' w w8 := ⟨_, T, _, F, rfl, by omega, Nat.le_refl _, Nat.le_refl _, r', hF, hc.pure ca⟩
            obtain ⟨w8, T8, L8, F8, e8, hT8, hT9, hl8, r8, hF8, C8⟩ := KEY
            rw [← e8]
            clear r' e8 ca e1 e2 hwf hbj
            generalize lead (none :: L) = l8 at *
            go_wp2_with (fail)
          rotate_left 1
          focus
            go_wp2_with (fail)
            refine (take_some _ _ _ _ _ _ _ r' hTb).mono ?_
            rintro e w8 ⟨A3, n3, q3, rfl, -, -, -, -, c3, r8⟩
            have hl8 : T + lead (some ys :: L) ≤ (T + 1) + lead (L ++ [none]) := by rw [lead_append]; simp only [lead]; omega
            have C8 := (hc.pure ca).trans c3 fz
            have hF8 := hF
            have hT8 : T + 1 ≤ k + 1 := by omega
            have hT9 : T ≤ T + 1 := by omega
            generalize (L ++ [none]) = L8 at *
            generalize lead (some ys :: L) = l8 at *
            generalize hF9 : F = F8 at r8 hF8
            generalize hT7 : T + 1 = T8 at *
            clear r' c3 ca hF9 e1 e2 hwf hbj hT7
            go_wp2_with (fail)
          rotate_left 1
        rotate_left 2
        focus
          have hs7' : (s == -7) = false := by rw [beq_eq_false_iff_ne]; exact hs7
          go_wp2_with (fail)
          refine (data_any F w.heap.size W T L s Aj nj cj xs _ r' hTb hwf (hbj.pure ca) hnj).mono ?_
          rintro e w8 ⟨rfl, c3, r8⟩
          have hl8 : T + lead L ≤ T + lead (dataR W T L s xs).2 := by have := lead_data W T L s xs; omega
          have C8 := (hc.pure ca).trans c3 fz
          have hF8 : ∀ i, Ext F (wr.alloc (.cells #[.int .i64 s, .slice Aj nj cj] 31)) w8 i → w.heap.size ≤ i := by
            rintro i (h | h)
            · exact hF i h
            · have := h.1; simp at this; omega
          generalize (dataR W T L s xs).2 = L8 at r8 hl8
          generalize Ext F (wr.alloc (.cells #[.int .i64 s, .slice Aj nj cj] 31)) w8 = F8 at r8 hF8
          obtain ⟨T8, hT7⟩ : ∃ T8, T = T8 := ⟨_, rfl⟩
          have hT8 : T8 ≤ k + 1 := by omega
          have hT9 : T ≤ T8 := by omega
          rw [hT7] at r8
          rw [show T + lead (L8) = T8 + lead L8 from by rw [hT7]] at hl8
          clear r' r c3 ca hs7' hs7 e2 e1 hwf hbj
          generalize lead L = l8 at *
          go_wp2_with (fail)
        all_goals
          clear hbl hle hnj hkx hA
          have hT8b : T8 ≤ 4611686018427387904 := by omega
          refine (ack_any _ _ _ _ _ _ r8 hT8b).mono ?_
          rintro e w9 ⟨rfl, c9⟩
          have r9 := r8.pure c9
          have C9 := C8.pure c9
          have hcl := lead_count L8
          have hcW := List.countP_le_length (p := fun x : Option (List UInt8) => x.isSome) (l := L8)
          rw [r9.len] at hcW
          obtain ⟨m, hm1, hm2⟩ := ackTo_lt L8 (lead L8) W (by omega)
          rw [hm1]
          have hbit : ((m : Int) / 2 ^ W != 0) = false := by
            have : (m : Int) / 2 ^ W = 0 := by
              have e0 : ((m / 2 ^ W : Nat) : Int) = (m : Int) / 2 ^ W := by simp
              rw [← e0, Nat.div_eq_of_lt hm2]; rfl
            rw [this]; rfl
          clear c9 r8 C8 hm1 hm2
          have HR := Lib.hid (ready_any _ _ _ _ _ _ r9 hT8b)
          have HH := Lib.hid (held_any _ _ _ _ _ _ r9)
          generalize hle9 : lead L8 = l9 at *
          generalize hcn : L8.countP (·.isSome) = cn at *
          go_wp2_with (fail)
          refine HH.out.mono ?_
          rintro e w10 ⟨rfl, rfl⟩
          go_wp2_with (fail)
          refine HR.out.mono ?_
          rintro e w10 ⟨rfl, rfl⟩
          go_wp2_with (fail)
          refine HH.out.mono ?_
          rintro e w10 ⟨rfl, rfl⟩
          go_wp2_with (fail)
          refine (taken_any _ _ _ _ _ _ r9).mono ?_
          rintro e w10 ⟨rfl, rfl⟩
          go_wp2_with (fail)
          refine HR.out.mono ?_
          rintro e w10 ⟨rfl, rfl⟩
          go_wp2
          go_roundw
          case rel => exact ⟨k + 1, T8, L8, F8, by omega, by go_num, by rw [hle9]; rfl, rfl, by omega, r9, hF8, C9⟩
          case measure => simp [intOf]; omega
      · go_wp2
        go_ret
        exact ⟨rfl, hc⟩
end Go.Proofs.Ytnkdlilccfclbaa
