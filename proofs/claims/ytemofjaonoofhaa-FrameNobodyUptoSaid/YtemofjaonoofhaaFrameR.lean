/- Package frame: FrameTurned. -/
import Derived.Test.YtemofjaonoofhaaFrameO
namespace Go.Proofs.Ytemofjaonoofhaa
open Go Go.RowKit
set_option linter.unusedVariables false
set_option linter.unusedSimpArgs false

theorem four_word (l : List UInt8) (h : l.length = 4) : ∃ W : UInt32, crcMark W = l := by
  match l, h with
  | [a, b, c, d], _ =>
    refine ⟨UInt32.ofNat (a.toNat + b.toNat * 256 + c.toNat * 65536 + d.toNat * 16777216), ?_⟩
    have ha := a.toNat_lt; have hb := b.toNat_lt; have hc := c.toNat_lt; have hd := d.toNat_lt
    have e : (UInt32.ofNat (a.toNat + b.toNat * 256 + c.toNat * 65536 + d.toNat * 16777216)).toNat = a.toNat + b.toNat * 256 + c.toNat * 65536 + d.toNat * 16777216 := by
      rw [UInt32.toNat_ofNat']; omega
    generalize UInt32.ofNat (a.toNat + b.toNat * 256 + c.toNat * 65536 + d.toNat * 16777216) = N at e
    have s8 := shr8_u32 N; have s16 := shr16_u32 N; have s24 := shr24_u32 N
    unfold crcMark
    congr 1
    · apply UInt8.toNat_inj.1; rw [UInt32.toNat_toUInt8]; omega
    congr 1
    · apply UInt8.toNat_inj.1; rw [UInt32.toNat_toUInt8]; omega
    congr 1
    · apply UInt8.toNat_inj.1; rw [UInt32.toNat_toUInt8]; omega
    congr 1
    · apply UInt8.toNat_inj.1; rw [UInt32.toNat_toUInt8]; omega
theorem window (s : List UInt8) (p : Nat) (h : p + 4 ≤ s.length) : ∃ pre W post, s = pre ++ crcMark W ++ post ∧ pre.length = p ∧ crcMark W = (s.drop p).take 4 := by
  obtain ⟨W, hW⟩ := four_word ((s.drop p).take 4) (by simp; omega)
  refine ⟨s.take p, W, s.drop (p + 4), ?_, by simp; omega, hW⟩
  rw [hW, List.append_assoc, ← List.drop_drop, List.take_append_drop, List.take_append_drop]
theorem mix_get (pre a b post : List UInt8) (p q : Nat) (hp : pre.length = p) (hb : q < b.length) (ha : q < a.length) : (enc (pre ++ (a.take q ++ b.drop q) ++ post))[p + q]? = some (.int .u8 ((b[q]'hb).toNat : Int)) := by
  have : (pre ++ (a.take q ++ b.drop q) ++ post)[p + q]? = some b[q] := by
    rw [List.append_assoc, List.getElem?_append_right (by omega), List.append_assoc, List.getElem?_append_right (by simp; omega)]
    rw [List.length_take, Nat.min_eq_left (Nat.le_of_lt ha), hp, show p + q - p - q = 0 from by omega, List.getElem?_append_left (by simp; omega), List.getElem?_drop, Nat.add_zero, List.getElem?_eq_getElem hb]
  unfold enc
  rw [List.getElem?_map, this]
  rfl
theorem mix_set (pre a b post : List UInt8) (p q : Nat) (hp : pre.length = p) (hb : q < b.length) (ha : q < a.length) :
    (enc (pre ++ (a.take q ++ b.drop q) ++ post)).set (p + q) (.int .u8 ((a[q]'ha).toNat : Int)) = enc (pre ++ (a.take (q + 1) ++ b.drop (q + 1)) ++ post) := by
  unfold enc
  rw [← List.map_set]
  congr 1
  rw [List.append_assoc, List.set_append_right _ _ (by omega), List.append_assoc, List.set_append_right _ _ (by simp; omega), List.append_assoc, List.append_assoc]
  congr 1
  rw [List.take_succ_eq_append_getElem ha, List.append_assoc]
  congr 1
  rw [hp, show p + q - p - (a.take q).length = 0 from by simp; omega, List.drop_eq_getElem_cons hb]
  rfl
theorem xor_shr (a b k : UInt32) (hk : k.toNat < 32) : (a ^^^ b) >>> k = (a >>> k) ^^^ (b >>> k) := by
  apply UInt32.toNat_inj.1
  rw [UInt32.toNat_xor, UInt32.toNat_shiftRight, UInt32.toNat_shiftRight, UInt32.toNat_shiftRight, UInt32.toNat_xor, Nat.mod_eq_of_lt hk]
  exact Nat.shiftRight_xor_distrib
theorem xor_byte (W m : UInt32) (q : Nat) (h1 : q < (crcMark W).length) (h2 : q < (crcMark (W ^^^ m)).length) :
    bits .xor .u8 (((crcMark W)[q]'h1).toNat : Int) ((m.toNat : Int) / 2 ^ (8 * q) % 256) = (((crcMark (W ^^^ m))[q]'h2).toNat : Int) := by
  rw [mark_at m q (by simpa [crcMark] using h1)]
  have e : (crcMark (W ^^^ m))[q]'h2 = (crcMark W)[q]'h1 ^^^ (crcMark m)[q]'(by simpa [crcMark] using h1) := by
    match q, h1, h2 with
    | 0, _, _ => exact (UInt32.toUInt8_xor _ _)
    | 1, _, _ => show ((W ^^^ m) >>> 8).toUInt8 = (W >>> 8).toUInt8 ^^^ (m >>> 8).toUInt8; rw [← UInt32.toUInt8_xor, xor_shr W m 8 (by decide)]
    | 2, _, _ => show ((W ^^^ m) >>> 16).toUInt8 = (W >>> 16).toUInt8 ^^^ (m >>> 16).toUInt8; rw [← UInt32.toUInt8_xor, xor_shr W m 16 (by decide)]
    | 3, _, _ => show ((W ^^^ m) >>> 24).toUInt8 = (W >>> 24).toUInt8 ^^^ (m >>> 24).toUInt8; rw [← UInt32.toUInt8_xor, xor_shr W m 24 (by decide)]
  rw [e]
  exact bits_xor_u8 _ _
/-- A frame's load and its length tell the frame. -/
theorem whole_frame {b l : List UInt8} (h : lookB b = .whole l) (hl : b.length = l.length + 8) : b = frameB l := by
  obtain ⟨h1, h2, h3, h4, h5, h6⟩ := look_whole h
  have hlen : ((b.take (frameN b + 8)).drop 2).length = (frameN b + 2) + 4 := by simp; omega
  obtain ⟨e1, e2⟩ := (crcOpen_iff hlen _).1 h5
  have hb : b.take (frameN b + 8) = b := List.take_of_length_le (by omega)
  rw [hb] at e1 e2
  have hN := frameN_4 (xs := b) (by omega)
  match b, hl with
  | x0 :: x1 :: x2 :: x3 :: r, hl =>
    have hx0 : x0 = 165 ∧ x1 = 90 := by
      unfold headOk at h4
      simpa using h4
    obtain ⟨rfl, rfl⟩ := hx0
    have hd : (165 :: 90 :: x2 :: x3 :: r : List UInt8).drop 2 = x2 :: x3 :: r := rfl
    rw [hd] at e1 e2
    have ht : List.take (frameN (165 :: 90 :: x2 :: x3 :: r) + 2) (x2 :: x3 :: r) = x2 :: x3 :: l := by
      rw [e2, h6]
      generalize frameN (165 :: 90 :: x2 :: x3 :: r) = N
      rw [show N + 4 = (N + 1 + 1 + 1) + 1 from rfl, List.take_succ_cons, List.take_succ_cons, List.take_succ_cons, List.take_succ_cons]
      rfl
    have hN2 : (165 :: 90 :: x2 :: x3 :: r : List UInt8).getD 2 0 = x2 := rfl
    have hN3 : (165 :: 90 :: x2 :: x3 :: r : List UInt8).getD 3 0 = x3 := rfl
    rw [hN2, hN3] at hN
    rw [ht] at e1
    have b2 := x2.toNat_lt
    have b3 := x3.toNat_lt
    have e2' : UInt8.ofNat (l.length / 256) = x2 := by apply UInt8.toNat_inj.1; rw [UInt8.toNat_ofNat']; omega
    have e3' : UInt8.ofNat (l.length % 256) = x3 := by apply UInt8.toNat_inj.1; rw [UInt8.toNat_ofNat']; omega
    have hcat : x2 :: x3 :: r = (x2 :: x3 :: l) ++ crcMark (crcSum (x2 :: x3 :: l)) := by
      rw [← e1, ← ht, List.take_append_drop]
    unfold frameB
    rw [e2', e3']
    show _ = 165 :: 90 :: crcSeal (x2 :: x3 :: l)
    rw [hcat]
    rfl
theorem mem_scan : ∀ (n : Nat) (b l : List UInt8), b.length ≤ n → l ∈ (scan b).1 → l.length + 8 ≤ b.length ∧ (l.length + 8 = b.length → lookB b = .whole l)
  | 0, b, l, h, hm => by
    obtain rfl : b = [] := List.eq_nil_of_length_eq_zero (by omega)
    rw [scan_nil] at hm; cases hm
  | n + 1, b, l, h, hm => by
    by_cases hb : b = []
    · subst hb; rw [scan_nil] at hm; cases hm
    · have hl : 0 < b.length := List.length_pos_iff.2 hb
      rw [scan_eq b hb] at hm
      cases hk : lookB b with
      | few => rw [hk] at hm; cases hm
      | nothing =>
        rw [hk] at hm
        obtain ⟨h1, -⟩ := mem_scan n (b.drop 1) l (by simp; omega) hm
        simp only [List.length_drop] at h1
        exact ⟨by omega, fun e => by omega⟩
      | whole l' =>
        rw [hk] at hm
        obtain ⟨h1, h2, -⟩ := look_whole hk
        rcases List.mem_cons.1 hm with rfl | hm
        · exact ⟨by omega, fun _ => rfl⟩
        · obtain ⟨h3, -⟩ := mem_scan n (b.drop (l'.length + 8)) l (by simp; omega) hm
          simp only [List.length_drop] at h3
          exact ⟨by omega, fun e => by omega⟩
theorem mem_flush : ∀ (n : Nat) (b l : List UInt8), b.length ≤ n → l ∈ (flushB b).1 → l.length + 8 < b.length
  | 0, b, l, h, hm => by
    obtain rfl : b = [] := List.eq_nil_of_length_eq_zero (by omega)
    rw [flush_nil] at hm; cases hm
  | n + 1, b, l, h, hm => by
    by_cases hb : b = []
    · subst hb; rw [flush_nil] at hm; cases hm
    · have hl : 0 < b.length := List.length_pos_iff.2 hb
      rw [flush_eq b hb] at hm
      rcases List.mem_append.1 hm with hm | hm
      · obtain ⟨h1, -⟩ := mem_scan _ _ l (Nat.le_refl _) hm
        simp only [List.length_drop] at h1
        omega
      · have h1 := mem_flush n _ l (by simp; omega) hm
        simp only [List.length_drop] at h1
        omega
theorem turned_gone {b l : List UInt8} (hl : b.length = l.length + 8) (hne : b ≠ frameB l) : ∀ x ∈ (scan b).1 ++ (flushB (b.drop (scan b).2)).1, x ≠ l := by
  rintro x hx rfl
  rcases List.mem_append.1 hx with hx | hx
  · obtain ⟨-, h2⟩ := mem_scan _ _ x (Nat.le_refl _) hx
    exact hne (whole_frame (h2 (by omega)) hl)
  · have := mem_flush _ _ x (Nat.le_refl _) hx
    simp only [List.length_drop] at this
    omega
theorem mark_inj {a b : UInt32} (h : crcMark a = crcMark b) : a = b := by
  have ha := shr8_u32 a; have ha2 := shr16_u32 a; have ha3 := shr24_u32 a
  have hb := shr8_u32 b; have hb2 := shr16_u32 b; have hb3 := shr24_u32 b
  have la := a.toNat_lt; have lb := b.toNat_lt
  unfold crcMark at h
  simp only [List.cons.injEq] at h
  obtain ⟨h0, h1, h2, h3, -⟩ := h
  have g0 := congrArg UInt8.toNat h0
  have g1 := congrArg UInt8.toNat h1
  have g2 := congrArg UInt8.toNat h2
  have g3 := congrArg UInt8.toNat h3
  simp only [UInt32.toNat_toUInt8] at g0 g1 g2 g3
  apply UInt32.toNat_inj.1
  omega
theorem turned_ne {pre post : List UInt8} {W m : UInt32} (hm : m ≠ 0) : pre ++ crcMark (W ^^^ m) ++ post ≠ pre ++ crcMark W ++ post := by
  intro h
  have h1 := List.append_cancel_right h
  have h2 := List.append_cancel_left h1
  have h3 := mark_inj h2
  apply hm
  have h4 : W ^^^ (W ^^^ m) = W ^^^ W := by rw [h3]
  rwa [← UInt32.xor_assoc, UInt32.xor_self, UInt32.zero_xor] at h4
set_option maxRecDepth 100000 in
set_option maxHeartbeats 4000000 in
theorem law_FrameTurned (A : Option Addr) (n c : Nat) (xs : List UInt8) (a : Int) (m : UInt32) (w : World) (hA : Bytes w A n xs) (hc : n ≤ c) (hn : n ≤ 140737488351232) (ha : -9223372036854775808 ≤ a ∧ a ≤ 9223372036854775807) :
    Calls Try.prog 9 #[.slice A n c, .int .i64 a, .int .u32 (m.toNat : Int)] w fun e w' => e = .returned (.bool true) ∧ Chg Pure' w w' := by
  by_cases hbig : 1200 < n
  · have h1 : (1200 : Int) < (n : Int) := by omega
    go_enter Try.func9, Try.ntmps9
    go_wp2_with (fail)
    refine (fenc_any A n c xs w hA hc hn).mono ?_
    rintro e w1 ⟨c1, h⟩
    rcases h with ⟨-, rfl⟩ | ⟨h, -⟩
    · go_wp2_with (fail)
      refine (alive03 _).mono ?_
      rintro e w6 ⟨rfl, c6⟩
      go_wp2
      go_ret
      exact ⟨rfl, c1.pure c6⟩
    · omega
  · have h1 : ((1200 : Int) < (n : Int)) = False := eq_false (by omega)
    have h2 : (n : Int) ≤ 1200 := by omega
    by_cases h0 : m = 0
    · subst h0
      go_enter Try.func9, Try.ntmps9
      go_wp2_with (fail)
      refine (fenc_any A n c xs w hA hc hn).mono ?_
      rintro e w1 ⟨c1, h⟩
      rcases h with ⟨h, -⟩ | ⟨-, v, rfl, hv⟩
      · omega
      · obtain ⟨B, q, rfl, -, -, -⟩ := own_slice hv
        clear hv
        go_wp2_with (fail)
        refine (alive03 _).mono ?_
        rintro e w6 ⟨rfl, c6⟩
        go_wp2
        go_ret
        exact ⟨rfl, c1.pure c6⟩
    · have hm0 : ((m.toNat : Int) == 0) = false := by
        rw [beq_eq_false_iff_ne]
        intro h
        exact h0 (UInt32.toNat_inj.1 (by rw [show (0 : UInt32).toNat = 0 from rfl]; omega))
      go_enter Try.func9, Try.ntmps9
      go_wp2_with (fail)
      refine (fenc_any A n c xs w hA hc hn).mono ?_
      rintro e w1 ⟨c1, h⟩
      rcases h with ⟨h, -⟩ | ⟨-, v, rfl, ho⟩
      · omega
      obtain ⟨A3, q3, rfl, hle, hb3, -⟩ := Bytes.of_own ho
      obtain ⟨g, rfl, hbase⟩ : ∃ g, A3 = some ⟨g, 0, none⟩ ∧ w.heap.size ≤ g := by
        rcases ho.2 with ⟨h', _⟩ | ⟨g, cap, cur, h', hb, _⟩
        · cases h'
        · cases h'; exact ⟨g, rfl, hb⟩
      have b1 : -((n : Int) + 4) ≤ a.tmod ((n : Int) + 8 - 3) := by have := Int.lt_tmod_of_pos a (b := (n : Int) + 8 - 3) (by omega); omega
      have b2 : a.tmod ((n : Int) + 8 - 3) ≤ n + 4 := by have := Int.tmod_lt_of_pos a (b := (n : Int) + 8 - 3) (by omega); omega
      obtain ⟨p, hp, hE⟩ : ∃ p : Nat, p ≤ n + 4 ∧ (wrap64 (wrap64 (a.tmod ((n : Int) + 8 - 3) + ((n : Int) + 8)) - 3)).tmod ((n : Int) + 8 - 3) = p := by
        have e1 : wrap64 (a.tmod ((n : Int) + 8 - 3) + ((n : Int) + 8)) = a.tmod ((n : Int) + 8 - 3) + ((n : Int) + 8) := IntWalk.wrap64_in _ (by omega)
        have e2 : wrap64 (a.tmod ((n : Int) + 8 - 3) + ((n : Int) + 8) - 3) = a.tmod ((n : Int) + 8 - 3) + ((n : Int) + 8) - 3 := IntWalk.wrap64_in _ (by omega)
        rw [e1, e2]
        generalize a.tmod ((n : Int) + 8 - 3) = z at b1 b2
        have h3 := Int.tmod_nonneg ((n : Int) + 8 - 3) (a := z + ((n : Int) + 8) - 3) (by omega)
        have h4 := Int.tmod_lt_of_pos (z + ((n : Int) + 8) - 3) (b := (n : Int) + 8 - 3) (by omega)
        exact ⟨(z + ((n : Int) + 8) - 3).tmod ((n : Int) + 8 - 3) |>.toNat, by omega, by omega⟩
      clear b1 b2 hb3
      have HE := Lib.hid hE
      clear hE
      have hflen : (frameB xs).length = n + 8 := by rw [frameB_len, hA.len]
      obtain ⟨pre, W, post, hs, hpre, hst⟩ := window (frameB xs) p (by rw [hflen]; omega)
      have HFL := Lib.hid hflen
      clear hflen
      have hlen := hA.len
      have HL := Lib.hid hlen
      clear hlen
      go_wp2
      simp only [HE.out]
      have hm := m.toNat_lt
      have HS := Lib.hid hs
      rw [hs] at ho
      obtain ⟨b0, hb0⟩ : ∃ b, crcMark W = b := ⟨_, rfl⟩
      obtain ⟨b1, hb1⟩ : ∃ b, crcMark (W ^^^ m) = b := ⟨_, rfl⟩
      have hxb : ∀ q (h1 : q < b0.length) (h2 : q < b1.length), bits .xor .u8 (((b0)[q]'h1).toNat : Int) ((m.toNat : Int) / 2 ^ (8 * q) % 256) = ((b1[q]'h2).toNat : Int) := by
        subst hb0 hb1; exact fun q h1 h2 => xor_byte W m q h1 h2
      have hl0 : b0.length = 4 := by rw [← hb0]; rfl
      have hl1 : b1.length = 4 := by rw [← hb1]; rfl
      have HX := Lib.hid hxb
      have HL0 := Lib.hid hl0
      have HL1 := Lib.hid hl1
      clear hxb hl0 hl1
      have hbl : (pre ++ b1 ++ post).length = xs.length + 8 := by
        have h5 := HFL.out
        rw [HS.out] at h5
        have h6 := HL.out
        subst hb1
        simp only [List.length_append, show (crcMark (W ^^^ m)).length = 4 from rfl, show (crcMark W).length = 4 from rfl] at h5 ⊢
        omega
      have hgone : ∀ x ∈ (scan (pre ++ b1 ++ post)).1 ++ (flushB ((pre ++ b1 ++ post).drop (scan (pre ++ b1 ++ post)).2)).1, x ≠ xs :=
        turned_gone hbl (by rw [HS.out, ← hb1]; exact turned_ne h0)
      have HG := Lib.hid hgone
      have HBL := Lib.hid hbl
      clear hgone hbl
      rw [hb0] at ho
      clear hb0 hb1 hs hst HS
      go_loopw [49] (fun i wr => ∃ q : Nat, q ≤ 4 ∧ i = .int .i64 q ∧ wr.ownsRow w.heap.size 5 1 (.slice (some ⟨g, 0, none⟩) (n + 8) q3) (n + 8) (enc (pre ++ (b1.take q ++ b0.drop q) ++ post)) ∧ Chg Pure' w wr) (fun i _ => 4 - (intOf i).toNat)
      case atStart => exact ⟨0, by omega, rfl, by simpa using ho, c1⟩
      case round =>
        obtain ⟨q, hq, rfl, ho, hc1⟩ := hrel
        by_cases hlt : q < 4
        · have hq1 : q < b0.length := by rw [HL0.out]; exact hlt
          have hq2 : q < b1.length := by rw [HL1.out]; exact hlt
          have hget : (enc (pre ++ (b1.take q ++ b0.drop q) ++ post))[p + q]? = some (.int .u8 (((b0)[q]).toNat : Int)) := mix_get pre b1 b0 post p q hpre hq1 hq2
          have hcell := ho.cellAt (p + q) (by omega)
          rw [hget] at hcell
          have hfr := ho.frozenAt (p + q)
          have hv := HX.out q hq1 hq2
          obtain ⟨ho2, hg2⟩ := ho.stored (p + q) (.int .u8 ((b1[q]).toNat : Int))
          rw [mix_set pre b1 b0 post p q hpre hq1 hq2] at ho2
          have hc2 : Chg Pure' w (wr.setCell ⟨g, p + q, none⟩ (.int .u8 ((b1[q]).toNat : Int))) := hc1.setCell (.inl hbase) _
          have i0 : (0 : Int) ≤ (p : Int) + q := by omega
          have i1 : (p : Int) + q < (n : Int) + 8 := by omega
          have i2 : (p : Int) + q < ((n + 8 : Nat) : Int) := by omega
          clear hg2 hget
          have hcell' : wr.drew.cell? ⟨g, p + q, none⟩ = some (.int .u8 ((b0[q]).toNat : Int)) := hcell
          have hfr' : wr.drew.frozen? ⟨g, p + q, none⟩ = false := hfr
          go_wp2
          refine reg_begin ((fun k => k = g)) (by kernel_rfl) ?_
          refine reg_take 0 (v := ?_) rfl (by kernel_rfl) (by kernel_rfl) (by kernel_rfl) (fun _ _ _ h => h) (by kernel_rfl) ?_ ?_
          rotate_left
          · (intro w' hS; go_simp; (try go_bits); (try with_reducible rfl))
          try simp only [Act.put, List.getElem_toArray, List.getElem_cons_zero, List.getElem_cons_succ, List.setIfInBounds_toArray, List.set_cons_zero, List.set_cons_succ]
          refine reg_take 1 (v := ?_) rfl (by kernel_rfl) (by kernel_rfl) (by kernel_rfl) (fun _ _ _ h => h) (by kernel_rfl) ?_ ?_
          rotate_left
          · (intro w' hS; go_simp; (try go_bits); (try with_reducible rfl))
          try simp only [Act.put, List.getElem_toArray, List.getElem_cons_zero, List.getElem_cons_succ, List.setIfInBounds_toArray, List.set_cons_zero, List.set_cons_succ]
          refine reg_take 2 (v := ?_) rfl (by kernel_rfl) (by kernel_rfl) (by kernel_rfl) (fun _ _ _ h => h) (by kernel_rfl) ?_ ?_
          rotate_left
          · (intro w' hS; go_simp; (try go_bits); (try with_reducible rfl))
          try simp only [Act.put, List.getElem_toArray, List.getElem_cons_zero, List.getElem_cons_succ, List.setIfInBounds_toArray, List.set_cons_zero, List.set_cons_succ]
          refine reg_take 3 (v := ?_) rfl (by kernel_rfl) (by kernel_rfl) (by kernel_rfl) (fun _ _ _ h => h) (by kernel_rfl) ?_ ?_
          rotate_left
          · (intro w' hS; go_simp; (try go_bits); (try with_reducible rfl))
          try simp only [Act.put, List.getElem_toArray, List.getElem_cons_zero, List.getElem_cons_succ, List.setIfInBounds_toArray, List.set_cons_zero, List.set_cons_succ]
          refine reg_take 4 (v := ?_) rfl (by kernel_rfl) (by kernel_rfl) (by kernel_rfl) (fun _ _ _ h => h) (by kernel_rfl) ?_ ?_
          rotate_left
          · (intro w' hS; go_simp; (try go_bits); (try with_reducible rfl))
          try simp only [Act.put, List.getElem_toArray, List.getElem_cons_zero, List.getElem_cons_succ, List.setIfInBounds_toArray, List.set_cons_zero, List.set_cons_succ]
          refine reg_take 6 (v := ?_) rfl (by kernel_rfl) (by kernel_rfl) (by kernel_rfl) (fun _ _ _ h => h) (by kernel_rfl) ?_ ?_
          rotate_left
          · (intro w' hS; go_simp; (try go_bits); (try with_reducible rfl))
          try simp only [Act.put, List.getElem_toArray, List.getElem_cons_zero, List.getElem_cons_succ, List.setIfInBounds_toArray, List.set_cons_zero, List.set_cons_succ]
          refine reg_take 7 (v := ?_) rfl (by kernel_rfl) (by kernel_rfl) (by kernel_rfl) (fun _ _ _ h => h) (by kernel_rfl) ?_ ?_
          rotate_left
          · (intro w' hS; go_simp; (try go_bits); (try with_reducible rfl))
          try simp only [Act.put, List.getElem_toArray, List.getElem_cons_zero, List.getElem_cons_succ, List.setIfInBounds_toArray, List.set_cons_zero, List.set_cons_succ]
          refine reg_take 8 (v := ?_) rfl (by kernel_rfl) (by kernel_rfl) (by kernel_rfl) (fun _ _ _ h => h) (by kernel_rfl) ?_ ?_
          rotate_left
          · (intro w' hS; go_simp; (try go_bits); (try with_reducible rfl))
          try simp only [Act.put, List.getElem_toArray, List.getElem_cons_zero, List.getElem_cons_succ, List.setIfInBounds_toArray, List.set_cons_zero, List.set_cons_succ]
          refine reg_take 9 (v := ?_) rfl (by kernel_rfl) (by kernel_rfl) (by kernel_rfl) (fun _ _ _ h => h) (by kernel_rfl) ?_ ?_
          rotate_left
          · (intro w' hS; go_simp; (try go_bits); (try with_reducible rfl))
          try simp only [Act.put, List.getElem_toArray, List.getElem_cons_zero, List.getElem_cons_succ, List.setIfInBounds_toArray, List.set_cons_zero, List.set_cons_succ]
          refine reg_take 10 (v := ?_) rfl (by kernel_rfl) (by kernel_rfl) (by kernel_rfl) (fun _ _ _ h => h) (by kernel_rfl) ?_ ?_
          rotate_left
          · (intro w' hS; go_simp; (try go_bits); (try with_reducible rfl))
          try simp only [Act.put, List.getElem_toArray, List.getElem_cons_zero, List.getElem_cons_succ, List.setIfInBounds_toArray, List.set_cons_zero, List.set_cons_succ]
          refine reg_do 5 rfl (by kernel_rfl) (by kernel_rfl) ?_
          intro K hK
          go_simp
          refine hK _ _ (Chg.refl _ _) ?_
          clear hK K
          try simp only [Act.put, List.getElem_toArray, List.getElem_cons_zero, List.getElem_cons_succ, List.setIfInBounds_toArray, List.set_cons_zero, List.set_cons_succ]
          refine reg_take 11 (v := ?_) rfl (by kernel_rfl) (by kernel_rfl) (by kernel_rfl) (fun _ _ _ h => h) (by kernel_rfl) ?_ ?_
          rotate_left
          · (intro w' hS; go_simp; (try go_bits); (try with_reducible rfl))
          try simp only [Act.put, List.getElem_toArray, List.getElem_cons_zero, List.getElem_cons_succ, List.setIfInBounds_toArray, List.set_cons_zero, List.set_cons_succ]
          refine reg_take 12 (v := ?_) rfl (by kernel_rfl) (by kernel_rfl) (by kernel_rfl) (fun _ _ _ h => h) (by kernel_rfl) ?_ ?_
          rotate_left
          · (intro w' hS; go_simp; (try go_bits); (try with_reducible rfl))
          try simp only [Act.put, List.getElem_toArray, List.getElem_cons_zero, List.getElem_cons_succ, List.setIfInBounds_toArray, List.set_cons_zero, List.set_cons_succ]
          refine reg_do 13 rfl (by kernel_rfl) (by kernel_rfl) ?_
          intro K hK
          go_simp
          refine hK _ _ (by exact Chg.setCell (S := fun k => k = g) (Chg.refl _ wr.drew) (p := ⟨g, p + q, none⟩) (.inr rfl) (.int .u8 ((b1[q]).toNat : Int))) ?_
          clear hK K
          try simp only [Act.put, List.getElem_toArray, List.getElem_cons_zero, List.getElem_cons_succ, List.setIfInBounds_toArray, List.set_cons_zero, List.set_cons_succ]
          refine wpAnyH_done (by kernel_rfl) ?_ _
          go_wp2
          go_roundw
          case rel => exact ⟨q + 1, by omega, by go_num, ho2, hc2.drew⟩
          case measure => simp [intOf]; omega
        · obtain rfl : q = 4 := by omega
          rw [List.take_of_length_le (by rw [HL1.out]; exact Nat.le_refl _), List.drop_of_length_le (by rw [HL0.out]; exact Nat.le_refl _), List.append_nil] at ho
          obtain ⟨A9, q9, e9, hle9, hb9, -⟩ := Bytes.of_own ho
          cases e9
          generalize pre ++ b1 ++ post = bs at *
          clear ho hpre HX HL0 HL1
          go_wp2_with (fail)
          refine (fnew_any wr).mono ?_
          rintro e w2 ⟨rfl, hst, c2⟩
          have hb2 := hb9.pure c2
          have C2 := hc1.pure c2
          have hplt := hst.plt
          have hpw : w.heap.size ≤ wr.heap.size := hc1.size
          have HPW := Lib.hid hpw
          clear hpw
          generalize wr.heap.size = ps at *
          clear c2 hb9
          go_wp2_with (fail)
          refine (feed_any hst _ _ _ bs hb2 hle9 (by simp only [List.length_nil]; omega) (by decide)).mono ?_
          rintro e w3 ⟨v3, q4, rfl, hq4, hl3, hst3, c3⟩
          rw [List.nil_append] at hl3 hst3
          obtain ⟨A4, d4, rfl, -⟩ := hl3.val
          obtain ⟨z1, z2, -⟩ := scan_le bs.length bs (Nat.le_refl _)
          have hbl := HBL.out
          have hxl := HL.out
          have hfz := flush_size (bs.drop (scan bs).2).length (bs.drop (scan bs).2) (Nat.le_refl _)
          have y1 := sizeL_len (scan bs).1
          have y2 := sizeL_len (flushB (bs.drop (scan bs).2)).1
          have hdl : (bs.drop (scan bs).2).length ≤ 2000 := by simp only [List.length_drop]; omega
          go_wp2_with (fail)
          refine (flush_any hst3 (by omega) (by omega)).mono ?_
          rintro e w4 ⟨v4, q5, rfl, hl4, hst4, c4, -⟩
          obtain ⟨A5, d5, rfl, -⟩ := hl4.val
          have hl3 := hl3.keep c4 (fun k hk e => by omega)
          have hz3 : w2.heap.size ≤ w3.heap.size := c3.size
          have hz4 := c4.size
          obtain ⟨v6, w6, hr6, hl6, c6⟩ := (hl3.low (B' := w2.heap.size) (by omega)).cat hl4 hz3 (by omega) (by omega)
          have C6 : Chg Pure' w w6 := ((C2.trans c3 (fun i hi e => by have := HPW.out; omega)).trans c4 (fun i hi e => by have := HPW.out; omega)).trans c6 (fun i hi e => by have := hl3.own e; have := C2.size; omega)
          have hmem : ∀ k (hk : k < ((scan bs).1 ++ (flushB (bs.drop (scan bs).2)).1).length), ((scan bs).1 ++ (flushB (bs.drop (scan bs).2)).1)[k]'hk ≠ xs := fun k hk => HG.out _ (List.getElem_mem hk)
          have HM := Lib.hid hmem
          have hN : ((scan bs).1 ++ (flushB (bs.drop (scan bs).2)).1).length ≤ 4000 := by rw [List.length_append]; omega
          have hA6 := hA.pure C6
          clear hmem hl3 hl4 c3 c4 c6 hst3 hst4 hst y1 y2 hfz z1 z2 hdl HG hbl hxl
          generalize (scan bs).1 ++ (flushB (bs.drop (scan bs).2)).1 = ls at *
          obtain ⟨A6, d6, rfl, -⟩ := hl6.val
          go_wp2_with (first
            | (at_builtin; refine Lib.wpList_append_run _ rfl _ _ _ _ rfl _ _ rfl rfl _ _ hr6 ?_)
            | fail)
          clear hr6
          go_wp2_with (fail)
          go_loop [76] (fun i => ∃ k : Nat, k ≤ ls.length ∧ i = .int .i64 k) (fun i => ls.length - (intOf i).toNat)
          case atStart => exact ⟨0, Nat.zero_le _, rfl⟩
          case round =>
            obtain ⟨k, hk, rfl⟩ := hrel
            by_cases hlt : k < ls.length
            · obtain ⟨gg, Ai, ci, rfl, -, hcell, -, hld⟩ := hl6.get hlt
              have hne := HM.out k hlt
              have hby := hld.bytes
              generalize ls[k] = x at *
              have hd : decide (x = xs) = false := by simpa using hne
              clear hne hld
              go_wp2_with (fail)
              refine (same_is false _ _ _ x _ _ _ xs w6 hby hA6 hd).mono ?_
              rintro e w7 ⟨rfl, rfl⟩
              go_wp2
              go_round
              case rel => exact ⟨k + 1, by omega, by go_num⟩
              case measure => simp [intOf]; omega
            · have hnl : ((k : Int) < (ls.length : Int)) = False := eq_false (by omega)
              go_wp2_with (fail)
              refine (alive03 _).mono ?_
              rintro e w7 ⟨rfl, c7⟩
              go_wp2
              go_ret
              exact ⟨rfl, C6.pure c7⟩
end Go.Proofs.Ytemofjaonoofhaa
