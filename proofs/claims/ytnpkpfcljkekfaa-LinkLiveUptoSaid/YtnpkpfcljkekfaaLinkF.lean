/- Datagrams are unpacked by the program. -/
import Derived.Test.YtnpkpfcljkekfaaLinkE
import Derived.Deep.Cut
namespace Go.Proofs.Ytnpkpfcljkekfaa
open Go Go.RowKit
set_option linter.unusedVariables false
set_option maxRecDepth 100000
set_option linter.unusedSimpArgs false

theorem numM_small {n : Nat} (h : n ≤ 4611686018427387904) : numD n = numM n := by unfold numM numD; rw [if_pos h, if_pos h]
set_option maxHeartbeats 16000000 in
theorem lunpack_any (A0 : Option Addr) (n0 q0 : Nat) (b : List UInt8) (w : World) (hA : Bytes w A0 n0 b) (hq : n0 ≤ q0) (hn : n0 * 3 + 24 ≤ 140737488351232) :
    Calls Try.prog 11 #[.slice A0 n0 q0] w (unpackPost w b) := by
  have hz1 := zero_msg19
  have hl := hA.len
  have HL := Lib.hid hl
  clear hl
  obtain ⟨wr, hwr⟩ : ∃ wr, w.alloc (.cells #[.int .i64 0, .int .u64 0, .int .i64 0, .int .i64 0, .int .i64 0, .int .u64 0, .int .i64 0, .int .i64 0, .slice none 0 0] 25) = wr := ⟨_, rfl⟩
  have cr : Chg Pure' w wr := by rw [← hwr]; exact (Chg.refl _ w).alloc _
  have hrb : wr.heap[w.heap.size]? = some (.cells #[.int .i64 0, .int .u64 0, .int .i64 0, .int .i64 0, .int .i64 0, .int .u64 0, .int .i64 0, .int .i64 0, .slice none 0 0] 25 (0, 0)) := by rw [← hwr]; exact heap_alloc_new w _
  have HRB := Lib.hid hrb
  have HAT := Lib.hid (scan_any A0 n0 q0 b wr (hA.pure cr) hq hn)
  have HWA := Lib.hid hwr
  clear hrb hwr
  go_enter Try.func11, Try.ntmps11
  go_wp2_with (fail)
  rw [HWA.out]
  refine HAT.out.mono ?_
  rintro e w1 ⟨v1, rfl, hld, c1⟩
  have C1 := Lib.hid (cr.pure c1)
  have HZ1 := Lib.hid ((c1.block w.heap.size (Array.getElem?_eq_some_iff.1 HRB.out).1 (fun h => h)).trans HRB.out)
  have hszr := cr.size
  have hrs : w.heap.size < wr.heap.size := (Array.getElem?_eq_some_iff.1 HRB.out).1
  have hs1 := c1.size
  have HA1 := Lib.hid ((hA.pure cr).pure c1)
  clear HAT HRB HWA cr c1 hA
  generalize hrbn : w.heap.size = rb at *
  have HWR := Lib.hid hrbn
  have bad : ∀ (k : Int) (w2 : World), unpackB b = .error k → Chg Pure' w w2 → unpackPost w b (.returned (.tuple #[.agg #[.int .i64 0, .int .u64 0, .int .i64 0, .int .i64 0, .int .i64 0, .int .u64 0, .int .i64 0, .int .i64 0, .slice none 0 0], .int .i64 k])) w2 := fun k w2 h1 h2 => unpack_zero h1 h2
  obtain ⟨us, hrow, hus⟩ := hld
  obtain ⟨V, qv, rfl, -⟩ := own_slice hrow
  have HLD : Hid (Loads w1 wr.heap.size (.slice V (scan b).1.length qv) (scan b).1) := Lib.hid ⟨us, hrow, hus⟩
  clear hrow hus hrbn
  obtain ⟨ls, hls⟩ : ∃ ls, (scan b).1 = ls := ⟨_, rfl⟩
  obtain ⟨sc2, hsc2⟩ : ∃ s, ((scan b).2 : Nat) = s := ⟨_, rfl⟩
  rw [hls] at HLD
  rw [hls, hsc2]
  clear hsc2
  by_cases h1 : ls.length = 1
  · have hsl : ∃ l, ls = [l] := by
      match ls, h1 with
      | [l], _ => exact ⟨l, rfl⟩
    obtain ⟨l, rfl⟩ := hsl
    have hl12 : l.length ≤ 1200 := scan_load_le (b := b) (by rw [hls]; simp)
    obtain ⟨bb, off, hV, hcl⟩ := HLD.out.bl.cells (by simp)
    subst hV
    obtain ⟨Al, nl, cl, x0, hnl, hbl⟩ := hcl 0 (by simp)
    have hnl2 : nl = l.length := hbl.len.symm
    subst hnl2
    have hbl : Bytes w1 Al l.length l := hbl
    have hbl2 := Lib.hid hbl
    have HLS := Lib.hid hls
    have HE := Lib.hid (fenc_any Al l.length cl l w1 hbl hnl (by omega))
    clear hcl hbl hls HLD h1
    rw [Nat.add_zero] at x0
    go_wp2_with (fail)
    refine HE.out.mono ?_
    rintro e w2 ⟨c2, ⟨hbig, rfl⟩ | ⟨hsm, v6, rfl, ho6⟩⟩
    · exact absurd hbig (by omega)
    obtain ⟨A5, q5, rfl, hq5, hb5, -⟩ := Bytes.of_own ho6
    have C2 := Lib.hid (C1.out.pure c2)
    have HZ2 := Lib.hid ((c2.block rb (Array.getElem?_eq_some_iff.1 HZ1.out).1 (fun h => h)).trans HZ1.out)
    have HBL2 := Lib.hid (hbl2.out.pure c2)
    have y0 := c2.cell x0 (fun h => h)
    obtain ⟨r, hr⟩ : ∃ r, decide (frameB l = b) = r := ⟨_, rfl⟩
    have HEQ := Lib.hid (equal_is r A5 q5 (l.length + 8) (frameB l) A0 q0 n0 b w2 hb5 (HA1.out.pure c2) (by omega) (by omega) hr)
    clear HE c2 ho6 hb5 hbl2 x0 HZ1 C1 hsm
    go_wp2_with (fail)
    refine HEQ.out.mono ?_
    rintro e w3 ⟨rfl, c3⟩
    have C3 := Lib.hid (C2.out.pure c3)
    have HZ3 := Lib.hid ((c3.block rb (Array.getElem?_eq_some_iff.1 HZ2.out).1 (fun h => h)).trans HZ2.out)
    have HBL3 := Lib.hid (HBL2.out.pure c3)
    have x0 := c3.cell y0 (fun h => h)
    clear HEQ c3 HBL2 y0 HZ2 C2 HA1
    cases r with
    | false =>
      have hu : unpackB b = .error 4 := unpackB_none (fun l' h => by
        rw [HLS.out] at h
        obtain rfl : l = l' := by simpa using h
        simpa using hr)
      have HU := Lib.hid hu
      clear hu hr HBL3 x0
      have ff : ∀ j, w3.frozen? ⟨rb, j, none⟩ = false := fun j => free_at HZ3.out
      have r0 := msg_cell HZ3.out 0
      have r1 := msg_cell HZ3.out 1
      have r2 := msg_cell HZ3.out 2
      have r3 := msg_cell HZ3.out 3
      have r4 := msg_cell HZ3.out 4
      have r5 := msg_cell HZ3.out 5
      have r6 := msg_cell HZ3.out 6
      have r7 := msg_cell HZ3.out 7
      have r8 := msg_cell HZ3.out 8
      obtain ⟨n9, m9⟩ := nine HZ3.out (.int .i64 0) (.int .u64 0) (.int .i64 0) (.int .i64 0) (.int .i64 0) (.int .u64 0) (.int .i64 0) (.int .i64 0) (.slice none 0 0)
      have N9 := Lib.hid n9
      have M9 := Lib.hid m9
      clear n9 m9
      go_wp2
      have hq0 := fun j => msg_cell M9.out j
      refine bodyPost_ret (v := .tuple #[.agg #[.int .i64 0, .int .u64 0, .int .i64 0, .int .i64 0, .int .i64 0, .int .u64 0, .int .i64 0, .int .i64 0, .slice none 0 0], .int .i64 4]) ?_ rfl (bad 4 _ HU.out (C3.out.trans N9.out (fun i hi e => by have e : i = rb := e; have := HWR.out; omega)))
      unfold results
      go_simp
    | true =>
      have hfb : frameB l = b := by simpa using hr
      have hu := unpackB_one HLS.out hfb
      have HU := Lib.hid hu
      have HCN := Lib.hid (cnew_any Al cl l w3 HBL3.out hl12)
      clear hu hr hfb HBL3
      go_wp2_with (fail)
      refine HCN.out.mono ?_
      rintro e w4 ⟨p, A, q, rfl, hk, hpB, hAB, hAlt, c4⟩
      have C4 := Lib.hid (C3.out.pure c4)
      have HZ4 := Lib.hid ((c4.block rb (Array.getElem?_eq_some_iff.1 HZ3.out).1 (fun h => h)).trans HZ3.out)
      have hrb3 := (Array.getElem?_eq_some_iff.1 HZ3.out).1
      have HK := Lib.hid hk
      clear hk c4 HCN HZ3 C3 x0
      have hun : Un ((w4.alloc (.cells #[.pointer (some ⟨p, 0, none⟩)] 74)).alloc (.cells #[.bool true] 4)) p (w4.heap.size + 1) w4.heap.size A q ⟨l, 0, 0, 0⟩ true := by
        have ca : Chg Pure' w4 (w4.alloc (.cells #[.pointer (some ⟨p, 0, none⟩)] 74)) := (Chg.refl _ _).alloc _
        have cb : Chg Pure' (w4.alloc (.cells #[.pointer (some ⟨p, 0, none⟩)] 74)) ((w4.alloc (.cells #[.pointer (some ⟨p, 0, none⟩)] 74)).alloc (.cells #[.bool true] 4)) := (Chg.refl _ _).alloc _
        have hp := HK.out.lt
        refine ⟨(HK.out.pure ca).pure cb, cb.cell (cellAt_alloc_lit w4 #[.pointer (some ⟨p, 0, none⟩)] 74 0) (fun h => h), ?_, by omega, by omega, by omega, ?_⟩
        · have := heap_alloc_new (w4.alloc (.cells #[.pointer (some ⟨p, 0, none⟩)] 74)) (.cells #[.bool true] 4)
          have e : (w4.alloc (.cells #[.pointer (some ⟨p, 0, none⟩)] 74)).heap.size = w4.heap.size + 1 := by simp
          rwa [e] at this
        · intro a ha e
          have := hAlt a ha
          have e : a.block = w4.heap.size + 1 := e
          omega
      have hZ6 : ((w4.alloc (.cells #[.pointer (some ⟨p, 0, none⟩)] 74)).alloc (.cells #[.bool true] 4)).heap[rb]? = some (.cells #[.int .i64 0, .int .u64 0, .int .i64 0, .int .i64 0, .int .i64 0, .int .u64 0, .int .i64 0, .int .i64 0, .slice none 0 0] 25 (0, 0)) :=
        ((((Chg.refl Pure' w4).alloc (.cells #[.pointer (some ⟨p, 0, none⟩)] 74)).alloc (.cells #[.bool true] 4)).block rb (Array.getElem?_eq_some_iff.1 HZ4.out).1 (fun h => h)).trans HZ4.out
      have hC6 : Chg Pure' w ((w4.alloc (.cells #[.pointer (some ⟨p, 0, none⟩)] 74)).alloc (.cells #[.bool true] 4)) := (C4.out.alloc _).alloc _
      have hprb : rb < p := by omega
      have hpc : rb < w4.heap.size := (Array.getElem?_eq_some_iff.1 HZ4.out).1
      go_upto_region 10 with (fail)
      generalize ((w4.alloc (.cells #[.pointer (some ⟨p, 0, none⟩)] 74)).alloc (.cells #[.bool true] 4)) = w6 at *
      generalize hpsn : w4.heap.size + 1 = ps at *
      generalize hpcn : w4.heap.size = pc at *
      have UN6 := Lib.hid hun
      have HZ6 := Lib.hid hZ6
      have C6 := Lib.hid hC6
      have hps : rb < ps := by omega
      have HAL : Hid (∀ a, A = some a → a.block < pc) := Lib.hid hAlt
      clear hun hZ6 hC6 HZ4 C4 HK hpsn hpcn hAlt hpB hAB hrb3
      obtain ⟨c0, hc0⟩ : ∃ c0 : Cr, (⟨l, 0, 0, 0⟩ : Cr) = c0 := ⟨_, rfl⟩
      rw [hc0] at UN6
      have HC0 := Lib.hid hc0
      clear hc0
      obtain ⟨y0, hy0⟩ : ∃ n, (shortC c0).1 = n := ⟨_, rfl⟩
      obtain ⟨c1, hc1⟩ : ∃ c, (shortC c0).2 = c := ⟨_, rfl⟩
      have hlt0 : y0 < 18446744073709551616 := by rw [← hy0]; exact shortC_lt
      have HN0 := Lib.hid hy0
      have HC1 := Lib.hid hc1
      clear hy0 hc1
      obtain ⟨y1, hy1⟩ : ∃ n, (shortC c1).1 = n := ⟨_, rfl⟩
      obtain ⟨c2, hc2⟩ : ∃ c, (shortC c1).2 = c := ⟨_, rfl⟩
      have hlt1 : y1 < 18446744073709551616 := by rw [← hy1]; exact shortC_lt
      have HN1 := Lib.hid hy1
      have HC2 := Lib.hid hc2
      clear hy1 hc2
      obtain ⟨y2, hy2⟩ : ∃ n, (shortC c2).1 = n := ⟨_, rfl⟩
      obtain ⟨c3, hc3⟩ : ∃ c, (shortC c2).2 = c := ⟨_, rfl⟩
      have hlt2 : y2 < 18446744073709551616 := by rw [← hy2]; exact shortC_lt
      have HN2 := Lib.hid hy2
      have HC3 := Lib.hid hc3
      clear hy2 hc3
      obtain ⟨y3, hy3⟩ : ∃ n, (shortC c3).1 = n := ⟨_, rfl⟩
      obtain ⟨c4, hc4⟩ : ∃ c, (shortC c3).2 = c := ⟨_, rfl⟩
      have hlt3 : y3 < 18446744073709551616 := by rw [← hy3]; exact shortC_lt
      have HN3 := Lib.hid hy3
      have HC4 := Lib.hid hc4
      clear hy3 hc4
      obtain ⟨y4, hy4⟩ : ∃ n, (shortC c4).1 = n := ⟨_, rfl⟩
      obtain ⟨c5, hc5⟩ : ∃ c, (shortC c4).2 = c := ⟨_, rfl⟩
      have hlt4 : y4 < 18446744073709551616 := by rw [← hy4]; exact shortC_lt
      have HN4 := Lib.hid hy4
      have HC5 := Lib.hid hc5
      clear hy4 hc5
      obtain ⟨y5, hy5⟩ : ∃ n, (shortC c5).1 = n := ⟨_, rfl⟩
      obtain ⟨c6, hc6⟩ : ∃ c, (shortC c5).2 = c := ⟨_, rfl⟩
      have hlt5 : y5 < 18446744073709551616 := by rw [← hy5]; exact shortC_lt
      have HN5 := Lib.hid hy5
      have HC6 := Lib.hid hc6
      clear hy5 hc6
      obtain ⟨y6, hy6⟩ : ∃ n, (shortC c6).1 = n := ⟨_, rfl⟩
      obtain ⟨c7, hc7⟩ : ∃ c, (shortC c6).2 = c := ⟨_, rfl⟩
      have hlt6 : y6 < 18446744073709551616 := by rw [← hy6]; exact shortC_lt
      have HN6 := Lib.hid hy6
      have HC7 := Lib.hid hc7
      clear hy6 hc7
      obtain ⟨y7, hy7⟩ : ∃ n, (shortC c7).1 = n := ⟨_, rfl⟩
      obtain ⟨c8, hc8⟩ : ∃ c, (shortC c7).2 = c := ⟨_, rfl⟩
      have hlt7 : y7 < 18446744073709551616 := by rw [← hy7]; exact shortC_lt
      have HN7 := Lib.hid hy7
      have HC8 := Lib.hid hc8
      clear hy7 hc8
      go_cut [11] from 38 (fun v11 wx => ∃ mb : Nat, v11 = .pointer (some ⟨mb, 0, none⟩) ∧ Hid (wx.heap[mb]? = some (.cells #[.int .i64 (numM y0), .int .u64 (y1 : Int), .int .i64 (numM y2), .int .i64 (numM y3), .int .i64 (numM y4), .int .u64 (y5 : Int), .int .i64 (numM y6), .int .i64 (numM y7), .slice none 0 0] 25 (0, 0))) ∧ Hid (Un wx p ps pc A q c8 ((((((true && small y0) && small y2) && small y3) && small y4) && small y6) && small y7)) ∧ Hid (wx.heap[rb]? = some (.cells #[.int .i64 0, .int .u64 0, .int .i64 0, .int .i64 0, .int .i64 0, .int .u64 0, .int .i64 0, .int .i64 0, .slice none 0 0] 25 (0, 0))) ∧ Hid (Chg Pure' w wx) ∧ ps < mb ∧ p < mb ∧ rb < mb ∧ pc < mb ∧ Hid (∀ a, A = some a → a.block ≠ mb))
      case first =>
        obtain ⟨s, hs⟩ : ∃ s, w6.heap.size = s := ⟨_, rfl⟩
        have hps6 : ps < s := by rw [← hs]; exact (Array.getElem?_eq_some_iff.1 UN6.out.sblk).1
        have hpp6 : p < s := by rw [← hs]; exact UN6.out.cur.lt
        have hpc6 : pc < s := by rw [← hs]; exact World.block_lt_of_cell? w6 _ UN6.out.pcc
        have hs_v : s ≤ w6.drew.heap.size := Nat.le_of_eq hs.symm
        clear hs
        refine reg_begin (fun k => k = p ∨ k = ps ∨ s ≤ k) (by kernel_rfl) ?_
        have UN_w := Lib.hid (UN6.out.pure ((Chg.refl Pure' w6).drew))
        have C_w := Lib.hid (C6.out.pure ((Chg.refl Pure' w6).drew))
        have HZ_w : Hid (w6.drew.heap[rb]? = some (.cells #[.int .i64 0, .int .u64 0, .int .i64 0, .int .i64 0, .int .i64 0, .int .u64 0, .int .i64 0, .int .i64 0, .slice none 0 0] 25 (0, 0))) := Lib.hid HZ6.out
        have xp := UN_w.out.pcc
        have hnt : ¬ (pc = p ∨ pc = ps ∨ s ≤ pc) := by intro h; rcases h with h | h | h; exact UN_w.out.n2 h; exact UN_w.out.n3 h; omega
        clear UN6 C6 HZ6
        generalize w6.drew = v at *
        have UN_v := UN_w
        have C_v := C_w
        have HZ_v := HZ_w
        clear UN_w C_w HZ_w
        refine reg_take 0 (v := ?_) rfl (by kernel_rfl) (by kernel_rfl) (by kernel_rfl) (fun _ _ _ h => h) (by kernel_rfl) ?_ ?_
        rotate_left
        · (intro w' hS; go_simp; (try go_bits); (try with_reducible rfl))
        try simp only [Act.put, List.getElem_toArray, List.getElem_cons_zero, List.getElem_cons_succ, List.setIfInBounds_toArray, List.set_cons_zero, List.set_cons_succ]
        refine reg_take 2 (v := ?_) rfl (by kernel_rfl) (by kernel_rfl) (by kernel_rfl) (fun _ _ _ h => h) (by kernel_rfl) ?_ ?_
        rotate_left
        · (intro w' hS; have hz := hS.cell (w := v) xp hnt; go_simp; (try go_bits); (try with_reducible rfl))
        try simp only [Act.put, List.getElem_toArray, List.getElem_cons_zero, List.getElem_cons_succ, List.setIfInBounds_toArray, List.set_cons_zero, List.set_cons_succ]
        refine reg_take 4 (v := ?_) rfl (by kernel_rfl) (by kernel_rfl) (by kernel_rfl) (fun _ _ _ h => h) (by kernel_rfl) ?_ ?_
        rotate_left
        · (intro w' hS; go_simp; (try go_bits); (try with_reducible rfl))
        try simp only [Act.put, List.getElem_toArray, List.getElem_cons_zero, List.getElem_cons_succ, List.setIfInBounds_toArray, List.set_cons_zero, List.set_cons_succ]
        refine reg_take 6 (v := ?_) rfl (by kernel_rfl) (by kernel_rfl) (by kernel_rfl) (fun _ _ _ h => h) (by kernel_rfl) ?_ ?_
        rotate_left
        · (intro w' hS; go_simp; (try go_bits); (try with_reducible rfl))
        try simp only [Act.put, List.getElem_toArray, List.getElem_cons_zero, List.getElem_cons_succ, List.setIfInBounds_toArray, List.set_cons_zero, List.set_cons_succ]
        refine reg_take 8 (v := ?_) rfl (by kernel_rfl) (by kernel_rfl) (by kernel_rfl) (fun _ _ _ h => h) (by kernel_rfl) ?_ ?_
        rotate_left
        · (intro w' hS; go_simp; (try go_bits); (try with_reducible rfl))
        try simp only [Act.put, List.getElem_toArray, List.getElem_cons_zero, List.getElem_cons_succ, List.setIfInBounds_toArray, List.set_cons_zero, List.set_cons_succ]
        refine reg_take 10 (v := ?_) rfl (by kernel_rfl) (by kernel_rfl) (by kernel_rfl) (fun _ _ _ h => h) (by kernel_rfl) ?_ ?_
        rotate_left
        · (intro w' hS; have hz := hS.cell (w := v) xp hnt; go_simp; (try go_bits); (try with_reducible rfl))
        try simp only [Act.put, List.getElem_toArray, List.getElem_cons_zero, List.getElem_cons_succ, List.setIfInBounds_toArray, List.set_cons_zero, List.set_cons_succ]
        refine reg_take 12 (v := ?_) rfl (by kernel_rfl) (by kernel_rfl) (by kernel_rfl) (fun _ _ _ h => h) (by kernel_rfl) ?_ ?_
        rotate_left
        · (intro w' hS; go_simp; (try go_bits); (try with_reducible rfl))
        try simp only [Act.put, List.getElem_toArray, List.getElem_cons_zero, List.getElem_cons_succ, List.setIfInBounds_toArray, List.set_cons_zero, List.set_cons_succ]
        refine reg_take 14 (v := ?_) rfl (by kernel_rfl) (by kernel_rfl) (by kernel_rfl) (fun _ _ _ h => h) (by kernel_rfl) ?_ ?_
        rotate_left
        · (intro w' hS; go_simp; (try go_bits); (try with_reducible rfl))
        try simp only [Act.put, List.getElem_toArray, List.getElem_cons_zero, List.getElem_cons_succ, List.setIfInBounds_toArray, List.set_cons_zero, List.set_cons_succ]
        clear xp hnt
        refine reg_do2 1 17 rfl rfl (by kernel_rfl) (by kernel_rfl) (by kernel_rfl) ?_ ?_
        · intro K hK
          go_simp
          refine (number_un UN_v.out HN0.out HC1.out).mono ?_
          rintro e vc ⟨rfl, hu, cc⟩
          refine hK _ _ (cc.mono (fun k _ h => h.elim .inl (fun h => .inr (.inl h)))) ?_
          clear hK K
          try simp only [Act.put, List.getElem_toArray, List.getElem_cons_zero, List.getElem_cons_succ, List.setIfInBounds_toArray, List.set_cons_zero, List.set_cons_succ]
          have UN_vc := Lib.hid hu
          have HZ_vc := Lib.hid ((cc.block rb (Array.getElem?_eq_some_iff.1 HZ_v.out).1 (by show ¬ (rb = p ∨ rb = ps); omega)).trans HZ_v.out)
          have C_vc := Lib.hid (C_v.out.trans cc (fun i hi e => by have e : i = p ∨ i = ps := e; have := HWR.out; omega))
          have hs_vc : s ≤ vc.heap.size := Nat.le_trans hs_v cc.size
          clear hu cc UN_v HZ_v C_v hs_v
          refine reg_do2 3 17 rfl rfl (by kernel_rfl) (by kernel_rfl) (by kernel_rfl) ?_ ?_
          · intro K hK
            go_simp
            refine (short_un UN_vc.out HN1.out HC2.out).mono ?_
            rintro e vcc ⟨rfl, hu, cc⟩
            refine hK _ _ (cc.mono (fun k _ h => h.elim .inl (fun h => .inr (.inl h)))) ?_
            clear hK K
            try simp only [Act.put, List.getElem_toArray, List.getElem_cons_zero, List.getElem_cons_succ, List.setIfInBounds_toArray, List.set_cons_zero, List.set_cons_succ]
            have UN_vcc := Lib.hid hu
            have HZ_vcc := Lib.hid ((cc.block rb (Array.getElem?_eq_some_iff.1 HZ_vc.out).1 (by show ¬ (rb = p ∨ rb = ps); omega)).trans HZ_vc.out)
            have C_vcc := Lib.hid (C_vc.out.trans cc (fun i hi e => by have e : i = p ∨ i = ps := e; have := HWR.out; omega))
            have hs_vcc : s ≤ vcc.heap.size := Nat.le_trans hs_vc cc.size
            clear hu cc UN_vc HZ_vc C_vc hs_vc
            refine reg_do2 5 17 rfl rfl (by kernel_rfl) (by kernel_rfl) (by kernel_rfl) ?_ ?_
            · intro K hK
              go_simp
              refine (number_un UN_vcc.out HN2.out HC3.out).mono ?_
              rintro e vccc ⟨rfl, hu, cc⟩
              refine hK _ _ (cc.mono (fun k _ h => h.elim .inl (fun h => .inr (.inl h)))) ?_
              clear hK K
              try simp only [Act.put, List.getElem_toArray, List.getElem_cons_zero, List.getElem_cons_succ, List.setIfInBounds_toArray, List.set_cons_zero, List.set_cons_succ]
              have UN_vccc := Lib.hid hu
              have HZ_vccc := Lib.hid ((cc.block rb (Array.getElem?_eq_some_iff.1 HZ_vcc.out).1 (by show ¬ (rb = p ∨ rb = ps); omega)).trans HZ_vcc.out)
              have C_vccc := Lib.hid (C_vcc.out.trans cc (fun i hi e => by have e : i = p ∨ i = ps := e; have := HWR.out; omega))
              have hs_vccc : s ≤ vccc.heap.size := Nat.le_trans hs_vcc cc.size
              clear hu cc UN_vcc HZ_vcc C_vcc hs_vcc
              refine reg_do2 7 17 rfl rfl (by kernel_rfl) (by kernel_rfl) (by kernel_rfl) ?_ ?_
              · intro K hK
                go_simp
                refine (number_un UN_vccc.out HN3.out HC4.out).mono ?_
                rintro e vcccc ⟨rfl, hu, cc⟩
                refine hK _ _ (cc.mono (fun k _ h => h.elim .inl (fun h => .inr (.inl h)))) ?_
                clear hK K
                try simp only [Act.put, List.getElem_toArray, List.getElem_cons_zero, List.getElem_cons_succ, List.setIfInBounds_toArray, List.set_cons_zero, List.set_cons_succ]
                have UN_vcccc := Lib.hid hu
                have HZ_vcccc := Lib.hid ((cc.block rb (Array.getElem?_eq_some_iff.1 HZ_vccc.out).1 (by show ¬ (rb = p ∨ rb = ps); omega)).trans HZ_vccc.out)
                have C_vcccc := Lib.hid (C_vccc.out.trans cc (fun i hi e => by have e : i = p ∨ i = ps := e; have := HWR.out; omega))
                have hs_vcccc : s ≤ vcccc.heap.size := Nat.le_trans hs_vccc cc.size
                clear hu cc UN_vccc HZ_vccc C_vccc hs_vccc
                refine reg_do2 9 17 rfl rfl (by kernel_rfl) (by kernel_rfl) (by kernel_rfl) ?_ ?_
                · intro K hK
                  go_simp
                  refine (number_un UN_vcccc.out HN4.out HC5.out).mono ?_
                  rintro e vccccc ⟨rfl, hu, cc⟩
                  refine hK _ _ (cc.mono (fun k _ h => h.elim .inl (fun h => .inr (.inl h)))) ?_
                  clear hK K
                  try simp only [Act.put, List.getElem_toArray, List.getElem_cons_zero, List.getElem_cons_succ, List.setIfInBounds_toArray, List.set_cons_zero, List.set_cons_succ]
                  have UN_vccccc := Lib.hid hu
                  have HZ_vccccc := Lib.hid ((cc.block rb (Array.getElem?_eq_some_iff.1 HZ_vcccc.out).1 (by show ¬ (rb = p ∨ rb = ps); omega)).trans HZ_vcccc.out)
                  have C_vccccc := Lib.hid (C_vcccc.out.trans cc (fun i hi e => by have e : i = p ∨ i = ps := e; have := HWR.out; omega))
                  have hs_vccccc : s ≤ vccccc.heap.size := Nat.le_trans hs_vcccc cc.size
                  clear hu cc UN_vcccc HZ_vcccc C_vcccc hs_vcccc
                  refine reg_do2 11 17 rfl rfl (by kernel_rfl) (by kernel_rfl) (by kernel_rfl) ?_ ?_
                  · intro K hK
                    go_simp
                    refine (short_un UN_vccccc.out HN5.out HC6.out).mono ?_
                    rintro e vcccccc ⟨rfl, hu, cc⟩
                    refine hK _ _ (cc.mono (fun k _ h => h.elim .inl (fun h => .inr (.inl h)))) ?_
                    clear hK K
                    try simp only [Act.put, List.getElem_toArray, List.getElem_cons_zero, List.getElem_cons_succ, List.setIfInBounds_toArray, List.set_cons_zero, List.set_cons_succ]
                    have UN_vcccccc := Lib.hid hu
                    have HZ_vcccccc := Lib.hid ((cc.block rb (Array.getElem?_eq_some_iff.1 HZ_vccccc.out).1 (by show ¬ (rb = p ∨ rb = ps); omega)).trans HZ_vccccc.out)
                    have C_vcccccc := Lib.hid (C_vccccc.out.trans cc (fun i hi e => by have e : i = p ∨ i = ps := e; have := HWR.out; omega))
                    have hs_vcccccc : s ≤ vcccccc.heap.size := Nat.le_trans hs_vccccc cc.size
                    clear hu cc UN_vccccc HZ_vccccc C_vccccc hs_vccccc
                    refine reg_do2 13 17 rfl rfl (by kernel_rfl) (by kernel_rfl) (by kernel_rfl) ?_ ?_
                    · intro K hK
                      go_simp
                      refine (number_un UN_vcccccc.out HN6.out HC7.out).mono ?_
                      rintro e vccccccc ⟨rfl, hu, cc⟩
                      refine hK _ _ (cc.mono (fun k _ h => h.elim .inl (fun h => .inr (.inl h)))) ?_
                      clear hK K
                      try simp only [Act.put, List.getElem_toArray, List.getElem_cons_zero, List.getElem_cons_succ, List.setIfInBounds_toArray, List.set_cons_zero, List.set_cons_succ]
                      have UN_vccccccc := Lib.hid hu
                      have HZ_vccccccc := Lib.hid ((cc.block rb (Array.getElem?_eq_some_iff.1 HZ_vcccccc.out).1 (by show ¬ (rb = p ∨ rb = ps); omega)).trans HZ_vcccccc.out)
                      have C_vccccccc := Lib.hid (C_vcccccc.out.trans cc (fun i hi e => by have e : i = p ∨ i = ps := e; have := HWR.out; omega))
                      have hs_vccccccc : s ≤ vccccccc.heap.size := Nat.le_trans hs_vcccccc cc.size
                      clear hu cc UN_vcccccc HZ_vcccccc C_vcccccc hs_vcccccc
                      refine reg_do2 15 17 rfl rfl (by kernel_rfl) (by kernel_rfl) (by kernel_rfl) ?_ ?_
                      · intro K hK
                        go_simp
                        refine (number_un UN_vccccccc.out HN7.out HC8.out).mono ?_
                        rintro e vcccccccc ⟨rfl, hu, cc⟩
                        refine hK _ _ (cc.mono (fun k _ h => h.elim .inl (fun h => .inr (.inl h)))) ?_
                        clear hK K
                        try simp only [Act.put, List.getElem_toArray, List.getElem_cons_zero, List.getElem_cons_succ, List.setIfInBounds_toArray, List.set_cons_zero, List.set_cons_succ]
                        have UN_vcccccccc := Lib.hid hu
                        have HZ_vcccccccc := Lib.hid ((cc.block rb (Array.getElem?_eq_some_iff.1 HZ_vccccccc.out).1 (by show ¬ (rb = p ∨ rb = ps); omega)).trans HZ_vccccccc.out)
                        have C_vcccccccc := Lib.hid (C_vccccccc.out.trans cc (fun i hi e => by have e : i = p ∨ i = ps := e; have := HWR.out; omega))
                        have hs_vcccccccc : s ≤ vcccccccc.heap.size := Nat.le_trans hs_vccccccc cc.size
                        clear hu cc UN_vccccccc HZ_vccccccc C_vccccccc hs_vccccccc
                        refine reg_take 16 (v := ?_) rfl (by kernel_rfl) (by kernel_rfl) (by kernel_rfl) (fun _ _ _ h => h) (by kernel_rfl) ?_ ?_
                        rotate_left
                        · (intro w' hS; go_simp; (try go_bits); (try with_reducible rfl))
                        try simp only [Act.put, List.getElem_toArray, List.getElem_cons_zero, List.getElem_cons_succ, List.setIfInBounds_toArray, List.set_cons_zero, List.set_cons_succ]
                        refine reg_do 17 rfl (by kernel_rfl) (by kernel_rfl) ?_
                        intro K hK
                        go_simp
                        refine hK _ _ ((Chg.refl _ _).alloc _) ?_
                        clear hK K
                        try simp only [Act.put, List.getElem_toArray, List.getElem_cons_zero, List.getElem_cons_succ, List.setIfInBounds_toArray, List.set_cons_zero, List.set_cons_succ]
                        have ca : Chg Pure' vcccccccc (vcccccccc.alloc (.cells #[.int .i64 0, .int .u64 0, .int .i64 0, .int .i64 0, .int .i64 0, .int .u64 0, .int .i64 0, .int .i64 0, .slice none 0 0] 25)) := (Chg.refl _ _).alloc _
                        have UN_vcccccccca := Lib.hid (UN_vcccccccc.out.pure ca)
                        have HZ_vcccccccca := Lib.hid ((ca.block rb (Array.getElem?_eq_some_iff.1 HZ_vcccccccc.out).1 (fun h => h)).trans HZ_vcccccccc.out)
                        have C_vcccccccca := Lib.hid (C_vcccccccc.out.pure ca)
                        have HM_vcccccccca := Lib.hid (heap_alloc_new vcccccccc (.cells #[.int .i64 0, .int .u64 0, .int .i64 0, .int .i64 0, .int .i64 0, .int .u64 0, .int .i64 0, .int .i64 0, .slice none 0 0] 25))
                        have hb1 : ps < vcccccccc.heap.size := (Array.getElem?_eq_some_iff.1 UN_vcccccccc.out.sblk).1
                        have hb2 : p < vcccccccc.heap.size := UN_vcccccccc.out.cur.lt
                        have hb3 : rb < vcccccccc.heap.size := (Array.getElem?_eq_some_iff.1 HZ_vcccccccc.out).1
                        have hb4 : pc < vcccccccc.heap.size := World.block_lt_of_cell? vcccccccc _ UN_vcccccccc.out.pcc
                        have HAM : Hid (∀ a, A = some a → a.block ≠ vcccccccc.heap.size) := Lib.hid (fun a ha => by have := HAL.out a ha; omega)
                        have hb5 : s ≤ vcccccccc.heap.size := hs_vcccccccc
                        have hs_vcccccccca : s ≤ (vcccccccc.alloc (.cells #[.int .i64 0, .int .u64 0, .int .i64 0, .int .i64 0, .int .i64 0, .int .u64 0, .int .i64 0, .int .i64 0, .slice none 0 0] 25)).heap.size := Nat.le_trans hs_vcccccccc ca.size
                        clear ca UN_vcccccccc HZ_vcccccccc C_vcccccccc hs_vcccccccc
                        generalize (vcccccccc.alloc (.cells #[.int .i64 0, .int .u64 0, .int .i64 0, .int .i64 0, .int .i64 0, .int .u64 0, .int .i64 0, .int .i64 0, .slice none 0 0] 25)) = vcccccccca at *
                        generalize vcccccccc.heap.size = mb at *
                        have ff : ∀ j, vcccccccca.frozen? ⟨mb, j, none⟩ = false := fun j => free_at HM_vcccccccca.out
                        have r0 := msg_cell HM_vcccccccca.out 0
                        have r1 := msg_cell HM_vcccccccca.out 1
                        have r2 := msg_cell HM_vcccccccca.out 2
                        have r3 := msg_cell HM_vcccccccca.out 3
                        have r4 := msg_cell HM_vcccccccca.out 4
                        have r5 := msg_cell HM_vcccccccca.out 5
                        have r6 := msg_cell HM_vcccccccca.out 6
                        have r7 := msg_cell HM_vcccccccca.out 7
                        have r8 := msg_cell HM_vcccccccca.out 8
                        obtain ⟨n9, m9⟩ := nine HM_vcccccccca.out (.int .i64 (numM y0)) (.int .u64 (y1 : Int)) (.int .i64 (numM y2)) (.int .i64 (numM y3)) (.int .i64 (numM y4)) (.int .u64 (y5 : Int)) (.int .i64 (numM y6)) (.int .i64 (numM y7)) (.slice none 0 0)
                        have UN_z := Lib.hid (UN_vcccccccca.out.frame n9 (by show ¬ p = mb; omega) (by show ¬ ps = mb; omega) (by show ¬ pc = mb; omega) (fun a ha e => HAM.out a ha e))
                        have HZ_z := Lib.hid ((n9.block rb (Array.getElem?_eq_some_iff.1 HZ_vcccccccca.out).1 (by show ¬ rb = mb; omega)).trans HZ_vcccccccca.out)
                        have C_z := Lib.hid (C_vcccccccca.out.trans n9 (fun i hi e => by have e : i = mb := e; have := HWR.out; omega))
                        have M_z := Lib.hid m9
                        have N_z := Lib.hid n9
                        clear m9 n9 UN_vcccccccca HZ_vcccccccca C_vcccccccca HM_vcccccccca
                        refine reg_do 18 rfl (by kernel_rfl) (by kernel_rfl) ?_
                        intro K hK
                        go_simp
                        refine hK _ _ (N_z.out.mono (fun k _ (e : k = mb) => .inr (.inr (by omega)))) ?_
                        clear hK K
                        try simp only [Act.put, List.getElem_toArray, List.getElem_cons_zero, List.getElem_cons_succ, List.setIfInBounds_toArray, List.set_cons_zero, List.set_cons_succ]
                        refine wpAnyH_done (by kernel_rfl) ?_ _
                        go_wp2_with (fail)
                        go_meet
                        exact ⟨mb, rfl, M_z, UN_z, HZ_z, C_z, hb1, hb2, hb3, hb4, HAM⟩
                      · intro K hK
                        go_simp
                        refine hK _ _ ((Chg.refl _ _).alloc _) ?_
                        clear hK K
                        try simp only [Act.put, List.getElem_toArray, List.getElem_cons_zero, List.getElem_cons_succ, List.setIfInBounds_toArray, List.set_cons_zero, List.set_cons_succ]
                        have ca : Chg Pure' vccccccc (vccccccc.alloc (.cells #[.int .i64 0, .int .u64 0, .int .i64 0, .int .i64 0, .int .i64 0, .int .u64 0, .int .i64 0, .int .i64 0, .slice none 0 0] 25)) := (Chg.refl _ _).alloc _
                        have UN_vccccccca := Lib.hid (UN_vccccccc.out.pure ca)
                        have HZ_vccccccca := Lib.hid ((ca.block rb (Array.getElem?_eq_some_iff.1 HZ_vccccccc.out).1 (fun h => h)).trans HZ_vccccccc.out)
                        have C_vccccccca := Lib.hid (C_vccccccc.out.pure ca)
                        have HM_vccccccca := Lib.hid (heap_alloc_new vccccccc (.cells #[.int .i64 0, .int .u64 0, .int .i64 0, .int .i64 0, .int .i64 0, .int .u64 0, .int .i64 0, .int .i64 0, .slice none 0 0] 25))
                        have hb1 : ps < vccccccc.heap.size := (Array.getElem?_eq_some_iff.1 UN_vccccccc.out.sblk).1
                        have hb2 : p < vccccccc.heap.size := UN_vccccccc.out.cur.lt
                        have hb3 : rb < vccccccc.heap.size := (Array.getElem?_eq_some_iff.1 HZ_vccccccc.out).1
                        have hb4 : pc < vccccccc.heap.size := World.block_lt_of_cell? vccccccc _ UN_vccccccc.out.pcc
                        have HAM : Hid (∀ a, A = some a → a.block ≠ vccccccc.heap.size) := Lib.hid (fun a ha => by have := HAL.out a ha; omega)
                        have hb5 : s ≤ vccccccc.heap.size := hs_vccccccc
                        have hs_vccccccca : s ≤ (vccccccc.alloc (.cells #[.int .i64 0, .int .u64 0, .int .i64 0, .int .i64 0, .int .i64 0, .int .u64 0, .int .i64 0, .int .i64 0, .slice none 0 0] 25)).heap.size := Nat.le_trans hs_vccccccc ca.size
                        clear ca UN_vccccccc HZ_vccccccc C_vccccccc hs_vccccccc
                        generalize (vccccccc.alloc (.cells #[.int .i64 0, .int .u64 0, .int .i64 0, .int .i64 0, .int .i64 0, .int .u64 0, .int .i64 0, .int .i64 0, .slice none 0 0] 25)) = vccccccca at *
                        generalize vccccccc.heap.size = mb at *
                        refine reg_do 15 rfl (by kernel_rfl) (by kernel_rfl) ?_
                        intro K hK
                        go_simp
                        refine (number_un UN_vccccccca.out HN7.out HC8.out).mono ?_
                        rintro e vcccccccac ⟨rfl, hu, cc⟩
                        refine hK _ _ (cc.mono (fun k _ h => h.elim .inl (fun h => .inr (.inl h)))) ?_
                        clear hK K
                        try simp only [Act.put, List.getElem_toArray, List.getElem_cons_zero, List.getElem_cons_succ, List.setIfInBounds_toArray, List.set_cons_zero, List.set_cons_succ]
                        have UN_vcccccccac := Lib.hid hu
                        have HZ_vcccccccac := Lib.hid ((cc.block rb (Array.getElem?_eq_some_iff.1 HZ_vccccccca.out).1 (by show ¬ (rb = p ∨ rb = ps); omega)).trans HZ_vccccccca.out)
                        have C_vcccccccac := Lib.hid (C_vccccccca.out.trans cc (fun i hi e => by have e : i = p ∨ i = ps := e; have := HWR.out; omega))
                        have hs_vcccccccac : s ≤ vcccccccac.heap.size := Nat.le_trans hs_vccccccca cc.size
                        have HM_vcccccccac := Lib.hid ((cc.block mb (Array.getElem?_eq_some_iff.1 HM_vccccccca.out).1 (by show ¬ (mb = p ∨ mb = ps); omega)).trans HM_vccccccca.out)
                        clear hu cc UN_vccccccca HZ_vccccccca C_vccccccca hs_vccccccca HM_vccccccca
                        refine reg_take 16 (v := ?_) rfl (by kernel_rfl) (by kernel_rfl) (by kernel_rfl) (fun _ _ _ h => h) (by kernel_rfl) ?_ ?_
                        rotate_left
                        · (intro w' hS; go_simp; (try go_bits); (try with_reducible rfl))
                        try simp only [Act.put, List.getElem_toArray, List.getElem_cons_zero, List.getElem_cons_succ, List.setIfInBounds_toArray, List.set_cons_zero, List.set_cons_succ]
                        have ff : ∀ j, vcccccccac.frozen? ⟨mb, j, none⟩ = false := fun j => free_at HM_vcccccccac.out
                        have r0 := msg_cell HM_vcccccccac.out 0
                        have r1 := msg_cell HM_vcccccccac.out 1
                        have r2 := msg_cell HM_vcccccccac.out 2
                        have r3 := msg_cell HM_vcccccccac.out 3
                        have r4 := msg_cell HM_vcccccccac.out 4
                        have r5 := msg_cell HM_vcccccccac.out 5
                        have r6 := msg_cell HM_vcccccccac.out 6
                        have r7 := msg_cell HM_vcccccccac.out 7
                        have r8 := msg_cell HM_vcccccccac.out 8
                        obtain ⟨n9, m9⟩ := nine HM_vcccccccac.out (.int .i64 (numM y0)) (.int .u64 (y1 : Int)) (.int .i64 (numM y2)) (.int .i64 (numM y3)) (.int .i64 (numM y4)) (.int .u64 (y5 : Int)) (.int .i64 (numM y6)) (.int .i64 (numM y7)) (.slice none 0 0)
                        have UN_z := Lib.hid (UN_vcccccccac.out.frame n9 (by show ¬ p = mb; omega) (by show ¬ ps = mb; omega) (by show ¬ pc = mb; omega) (fun a ha e => HAM.out a ha e))
                        have HZ_z := Lib.hid ((n9.block rb (Array.getElem?_eq_some_iff.1 HZ_vcccccccac.out).1 (by show ¬ rb = mb; omega)).trans HZ_vcccccccac.out)
                        have C_z := Lib.hid (C_vcccccccac.out.trans n9 (fun i hi e => by have e : i = mb := e; have := HWR.out; omega))
                        have M_z := Lib.hid m9
                        have N_z := Lib.hid n9
                        clear m9 n9 UN_vcccccccac HZ_vcccccccac C_vcccccccac HM_vcccccccac
                        refine reg_do 18 rfl (by kernel_rfl) (by kernel_rfl) ?_
                        intro K hK
                        go_simp
                        refine hK _ _ (N_z.out.mono (fun k _ (e : k = mb) => .inr (.inr (by omega)))) ?_
                        clear hK K
                        try simp only [Act.put, List.getElem_toArray, List.getElem_cons_zero, List.getElem_cons_succ, List.setIfInBounds_toArray, List.set_cons_zero, List.set_cons_succ]
                        refine wpAnyH_done (by kernel_rfl) ?_ _
                        go_wp2_with (fail)
                        go_meet
                        exact ⟨mb, rfl, M_z, UN_z, HZ_z, C_z, hb1, hb2, hb3, hb4, HAM⟩
                    · intro K hK
                      go_simp
                      refine hK _ _ ((Chg.refl _ _).alloc _) ?_
                      clear hK K
                      try simp only [Act.put, List.getElem_toArray, List.getElem_cons_zero, List.getElem_cons_succ, List.setIfInBounds_toArray, List.set_cons_zero, List.set_cons_succ]
                      have ca : Chg Pure' vcccccc (vcccccc.alloc (.cells #[.int .i64 0, .int .u64 0, .int .i64 0, .int .i64 0, .int .i64 0, .int .u64 0, .int .i64 0, .int .i64 0, .slice none 0 0] 25)) := (Chg.refl _ _).alloc _
                      have UN_vcccccca := Lib.hid (UN_vcccccc.out.pure ca)
                      have HZ_vcccccca := Lib.hid ((ca.block rb (Array.getElem?_eq_some_iff.1 HZ_vcccccc.out).1 (fun h => h)).trans HZ_vcccccc.out)
                      have C_vcccccca := Lib.hid (C_vcccccc.out.pure ca)
                      have HM_vcccccca := Lib.hid (heap_alloc_new vcccccc (.cells #[.int .i64 0, .int .u64 0, .int .i64 0, .int .i64 0, .int .i64 0, .int .u64 0, .int .i64 0, .int .i64 0, .slice none 0 0] 25))
                      have hb1 : ps < vcccccc.heap.size := (Array.getElem?_eq_some_iff.1 UN_vcccccc.out.sblk).1
                      have hb2 : p < vcccccc.heap.size := UN_vcccccc.out.cur.lt
                      have hb3 : rb < vcccccc.heap.size := (Array.getElem?_eq_some_iff.1 HZ_vcccccc.out).1
                      have hb4 : pc < vcccccc.heap.size := World.block_lt_of_cell? vcccccc _ UN_vcccccc.out.pcc
                      have HAM : Hid (∀ a, A = some a → a.block ≠ vcccccc.heap.size) := Lib.hid (fun a ha => by have := HAL.out a ha; omega)
                      have hb5 : s ≤ vcccccc.heap.size := hs_vcccccc
                      have hs_vcccccca : s ≤ (vcccccc.alloc (.cells #[.int .i64 0, .int .u64 0, .int .i64 0, .int .i64 0, .int .i64 0, .int .u64 0, .int .i64 0, .int .i64 0, .slice none 0 0] 25)).heap.size := Nat.le_trans hs_vcccccc ca.size
                      clear ca UN_vcccccc HZ_vcccccc C_vcccccc hs_vcccccc
                      generalize (vcccccc.alloc (.cells #[.int .i64 0, .int .u64 0, .int .i64 0, .int .i64 0, .int .i64 0, .int .u64 0, .int .i64 0, .int .i64 0, .slice none 0 0] 25)) = vcccccca at *
                      generalize vcccccc.heap.size = mb at *
                      refine reg_do 13 rfl (by kernel_rfl) (by kernel_rfl) ?_
                      intro K hK
                      go_simp
                      refine (number_un UN_vcccccca.out HN6.out HC7.out).mono ?_
                      rintro e vccccccac ⟨rfl, hu, cc⟩
                      refine hK _ _ (cc.mono (fun k _ h => h.elim .inl (fun h => .inr (.inl h)))) ?_
                      clear hK K
                      try simp only [Act.put, List.getElem_toArray, List.getElem_cons_zero, List.getElem_cons_succ, List.setIfInBounds_toArray, List.set_cons_zero, List.set_cons_succ]
                      have UN_vccccccac := Lib.hid hu
                      have HZ_vccccccac := Lib.hid ((cc.block rb (Array.getElem?_eq_some_iff.1 HZ_vcccccca.out).1 (by show ¬ (rb = p ∨ rb = ps); omega)).trans HZ_vcccccca.out)
                      have C_vccccccac := Lib.hid (C_vcccccca.out.trans cc (fun i hi e => by have e : i = p ∨ i = ps := e; have := HWR.out; omega))
                      have hs_vccccccac : s ≤ vccccccac.heap.size := Nat.le_trans hs_vcccccca cc.size
                      have HM_vccccccac := Lib.hid ((cc.block mb (Array.getElem?_eq_some_iff.1 HM_vcccccca.out).1 (by show ¬ (mb = p ∨ mb = ps); omega)).trans HM_vcccccca.out)
                      clear hu cc UN_vcccccca HZ_vcccccca C_vcccccca hs_vcccccca HM_vcccccca
                      refine reg_do 15 rfl (by kernel_rfl) (by kernel_rfl) ?_
                      intro K hK
                      go_simp
                      refine (number_un UN_vccccccac.out HN7.out HC8.out).mono ?_
                      rintro e vccccccacc ⟨rfl, hu, cc⟩
                      refine hK _ _ (cc.mono (fun k _ h => h.elim .inl (fun h => .inr (.inl h)))) ?_
                      clear hK K
                      try simp only [Act.put, List.getElem_toArray, List.getElem_cons_zero, List.getElem_cons_succ, List.setIfInBounds_toArray, List.set_cons_zero, List.set_cons_succ]
                      have UN_vccccccacc := Lib.hid hu
                      have HZ_vccccccacc := Lib.hid ((cc.block rb (Array.getElem?_eq_some_iff.1 HZ_vccccccac.out).1 (by show ¬ (rb = p ∨ rb = ps); omega)).trans HZ_vccccccac.out)
                      have C_vccccccacc := Lib.hid (C_vccccccac.out.trans cc (fun i hi e => by have e : i = p ∨ i = ps := e; have := HWR.out; omega))
                      have hs_vccccccacc : s ≤ vccccccacc.heap.size := Nat.le_trans hs_vccccccac cc.size
                      have HM_vccccccacc := Lib.hid ((cc.block mb (Array.getElem?_eq_some_iff.1 HM_vccccccac.out).1 (by show ¬ (mb = p ∨ mb = ps); omega)).trans HM_vccccccac.out)
                      clear hu cc UN_vccccccac HZ_vccccccac C_vccccccac hs_vccccccac HM_vccccccac
                      refine reg_take 16 (v := ?_) rfl (by kernel_rfl) (by kernel_rfl) (by kernel_rfl) (fun _ _ _ h => h) (by kernel_rfl) ?_ ?_
                      rotate_left
                      · (intro w' hS; go_simp; (try go_bits); (try with_reducible rfl))
                      try simp only [Act.put, List.getElem_toArray, List.getElem_cons_zero, List.getElem_cons_succ, List.setIfInBounds_toArray, List.set_cons_zero, List.set_cons_succ]
                      have ff : ∀ j, vccccccacc.frozen? ⟨mb, j, none⟩ = false := fun j => free_at HM_vccccccacc.out
                      have r0 := msg_cell HM_vccccccacc.out 0
                      have r1 := msg_cell HM_vccccccacc.out 1
                      have r2 := msg_cell HM_vccccccacc.out 2
                      have r3 := msg_cell HM_vccccccacc.out 3
                      have r4 := msg_cell HM_vccccccacc.out 4
                      have r5 := msg_cell HM_vccccccacc.out 5
                      have r6 := msg_cell HM_vccccccacc.out 6
                      have r7 := msg_cell HM_vccccccacc.out 7
                      have r8 := msg_cell HM_vccccccacc.out 8
                      obtain ⟨n9, m9⟩ := nine HM_vccccccacc.out (.int .i64 (numM y0)) (.int .u64 (y1 : Int)) (.int .i64 (numM y2)) (.int .i64 (numM y3)) (.int .i64 (numM y4)) (.int .u64 (y5 : Int)) (.int .i64 (numM y6)) (.int .i64 (numM y7)) (.slice none 0 0)
                      have UN_z := Lib.hid (UN_vccccccacc.out.frame n9 (by show ¬ p = mb; omega) (by show ¬ ps = mb; omega) (by show ¬ pc = mb; omega) (fun a ha e => HAM.out a ha e))
                      have HZ_z := Lib.hid ((n9.block rb (Array.getElem?_eq_some_iff.1 HZ_vccccccacc.out).1 (by show ¬ rb = mb; omega)).trans HZ_vccccccacc.out)
                      have C_z := Lib.hid (C_vccccccacc.out.trans n9 (fun i hi e => by have e : i = mb := e; have := HWR.out; omega))
                      have M_z := Lib.hid m9
                      have N_z := Lib.hid n9
                      clear m9 n9 UN_vccccccacc HZ_vccccccacc C_vccccccacc HM_vccccccacc
                      refine reg_do 18 rfl (by kernel_rfl) (by kernel_rfl) ?_
                      intro K hK
                      go_simp
                      refine hK _ _ (N_z.out.mono (fun k _ (e : k = mb) => .inr (.inr (by omega)))) ?_
                      clear hK K
                      try simp only [Act.put, List.getElem_toArray, List.getElem_cons_zero, List.getElem_cons_succ, List.setIfInBounds_toArray, List.set_cons_zero, List.set_cons_succ]
                      refine wpAnyH_done (by kernel_rfl) ?_ _
                      go_wp2_with (fail)
                      go_meet
                      exact ⟨mb, rfl, M_z, UN_z, HZ_z, C_z, hb1, hb2, hb3, hb4, HAM⟩
                  · intro K hK
                    go_simp
                    refine hK _ _ ((Chg.refl _ _).alloc _) ?_
                    clear hK K
                    try simp only [Act.put, List.getElem_toArray, List.getElem_cons_zero, List.getElem_cons_succ, List.setIfInBounds_toArray, List.set_cons_zero, List.set_cons_succ]
                    have ca : Chg Pure' vccccc (vccccc.alloc (.cells #[.int .i64 0, .int .u64 0, .int .i64 0, .int .i64 0, .int .i64 0, .int .u64 0, .int .i64 0, .int .i64 0, .slice none 0 0] 25)) := (Chg.refl _ _).alloc _
                    have UN_vccccca := Lib.hid (UN_vccccc.out.pure ca)
                    have HZ_vccccca := Lib.hid ((ca.block rb (Array.getElem?_eq_some_iff.1 HZ_vccccc.out).1 (fun h => h)).trans HZ_vccccc.out)
                    have C_vccccca := Lib.hid (C_vccccc.out.pure ca)
                    have HM_vccccca := Lib.hid (heap_alloc_new vccccc (.cells #[.int .i64 0, .int .u64 0, .int .i64 0, .int .i64 0, .int .i64 0, .int .u64 0, .int .i64 0, .int .i64 0, .slice none 0 0] 25))
                    have hb1 : ps < vccccc.heap.size := (Array.getElem?_eq_some_iff.1 UN_vccccc.out.sblk).1
                    have hb2 : p < vccccc.heap.size := UN_vccccc.out.cur.lt
                    have hb3 : rb < vccccc.heap.size := (Array.getElem?_eq_some_iff.1 HZ_vccccc.out).1
                    have hb4 : pc < vccccc.heap.size := World.block_lt_of_cell? vccccc _ UN_vccccc.out.pcc
                    have HAM : Hid (∀ a, A = some a → a.block ≠ vccccc.heap.size) := Lib.hid (fun a ha => by have := HAL.out a ha; omega)
                    have hb5 : s ≤ vccccc.heap.size := hs_vccccc
                    have hs_vccccca : s ≤ (vccccc.alloc (.cells #[.int .i64 0, .int .u64 0, .int .i64 0, .int .i64 0, .int .i64 0, .int .u64 0, .int .i64 0, .int .i64 0, .slice none 0 0] 25)).heap.size := Nat.le_trans hs_vccccc ca.size
                    clear ca UN_vccccc HZ_vccccc C_vccccc hs_vccccc
                    generalize (vccccc.alloc (.cells #[.int .i64 0, .int .u64 0, .int .i64 0, .int .i64 0, .int .i64 0, .int .u64 0, .int .i64 0, .int .i64 0, .slice none 0 0] 25)) = vccccca at *
                    generalize vccccc.heap.size = mb at *
                    refine reg_do 11 rfl (by kernel_rfl) (by kernel_rfl) ?_
                    intro K hK
                    go_simp
                    refine (short_un UN_vccccca.out HN5.out HC6.out).mono ?_
                    rintro e vcccccac ⟨rfl, hu, cc⟩
                    refine hK _ _ (cc.mono (fun k _ h => h.elim .inl (fun h => .inr (.inl h)))) ?_
                    clear hK K
                    try simp only [Act.put, List.getElem_toArray, List.getElem_cons_zero, List.getElem_cons_succ, List.setIfInBounds_toArray, List.set_cons_zero, List.set_cons_succ]
                    have UN_vcccccac := Lib.hid hu
                    have HZ_vcccccac := Lib.hid ((cc.block rb (Array.getElem?_eq_some_iff.1 HZ_vccccca.out).1 (by show ¬ (rb = p ∨ rb = ps); omega)).trans HZ_vccccca.out)
                    have C_vcccccac := Lib.hid (C_vccccca.out.trans cc (fun i hi e => by have e : i = p ∨ i = ps := e; have := HWR.out; omega))
                    have hs_vcccccac : s ≤ vcccccac.heap.size := Nat.le_trans hs_vccccca cc.size
                    have HM_vcccccac := Lib.hid ((cc.block mb (Array.getElem?_eq_some_iff.1 HM_vccccca.out).1 (by show ¬ (mb = p ∨ mb = ps); omega)).trans HM_vccccca.out)
                    clear hu cc UN_vccccca HZ_vccccca C_vccccca hs_vccccca HM_vccccca
                    refine reg_do 13 rfl (by kernel_rfl) (by kernel_rfl) ?_
                    intro K hK
                    go_simp
                    refine (number_un UN_vcccccac.out HN6.out HC7.out).mono ?_
                    rintro e vcccccacc ⟨rfl, hu, cc⟩
                    refine hK _ _ (cc.mono (fun k _ h => h.elim .inl (fun h => .inr (.inl h)))) ?_
                    clear hK K
                    try simp only [Act.put, List.getElem_toArray, List.getElem_cons_zero, List.getElem_cons_succ, List.setIfInBounds_toArray, List.set_cons_zero, List.set_cons_succ]
                    have UN_vcccccacc := Lib.hid hu
                    have HZ_vcccccacc := Lib.hid ((cc.block rb (Array.getElem?_eq_some_iff.1 HZ_vcccccac.out).1 (by show ¬ (rb = p ∨ rb = ps); omega)).trans HZ_vcccccac.out)
                    have C_vcccccacc := Lib.hid (C_vcccccac.out.trans cc (fun i hi e => by have e : i = p ∨ i = ps := e; have := HWR.out; omega))
                    have hs_vcccccacc : s ≤ vcccccacc.heap.size := Nat.le_trans hs_vcccccac cc.size
                    have HM_vcccccacc := Lib.hid ((cc.block mb (Array.getElem?_eq_some_iff.1 HM_vcccccac.out).1 (by show ¬ (mb = p ∨ mb = ps); omega)).trans HM_vcccccac.out)
                    clear hu cc UN_vcccccac HZ_vcccccac C_vcccccac hs_vcccccac HM_vcccccac
                    refine reg_do 15 rfl (by kernel_rfl) (by kernel_rfl) ?_
                    intro K hK
                    go_simp
                    refine (number_un UN_vcccccacc.out HN7.out HC8.out).mono ?_
                    rintro e vcccccaccc ⟨rfl, hu, cc⟩
                    refine hK _ _ (cc.mono (fun k _ h => h.elim .inl (fun h => .inr (.inl h)))) ?_
                    clear hK K
                    try simp only [Act.put, List.getElem_toArray, List.getElem_cons_zero, List.getElem_cons_succ, List.setIfInBounds_toArray, List.set_cons_zero, List.set_cons_succ]
                    have UN_vcccccaccc := Lib.hid hu
                    have HZ_vcccccaccc := Lib.hid ((cc.block rb (Array.getElem?_eq_some_iff.1 HZ_vcccccacc.out).1 (by show ¬ (rb = p ∨ rb = ps); omega)).trans HZ_vcccccacc.out)
                    have C_vcccccaccc := Lib.hid (C_vcccccacc.out.trans cc (fun i hi e => by have e : i = p ∨ i = ps := e; have := HWR.out; omega))
                    have hs_vcccccaccc : s ≤ vcccccaccc.heap.size := Nat.le_trans hs_vcccccacc cc.size
                    have HM_vcccccaccc := Lib.hid ((cc.block mb (Array.getElem?_eq_some_iff.1 HM_vcccccacc.out).1 (by show ¬ (mb = p ∨ mb = ps); omega)).trans HM_vcccccacc.out)
                    clear hu cc UN_vcccccacc HZ_vcccccacc C_vcccccacc hs_vcccccacc HM_vcccccacc
                    refine reg_take 16 (v := ?_) rfl (by kernel_rfl) (by kernel_rfl) (by kernel_rfl) (fun _ _ _ h => h) (by kernel_rfl) ?_ ?_
                    rotate_left
                    · (intro w' hS; go_simp; (try go_bits); (try with_reducible rfl))
                    try simp only [Act.put, List.getElem_toArray, List.getElem_cons_zero, List.getElem_cons_succ, List.setIfInBounds_toArray, List.set_cons_zero, List.set_cons_succ]
                    have ff : ∀ j, vcccccaccc.frozen? ⟨mb, j, none⟩ = false := fun j => free_at HM_vcccccaccc.out
                    have r0 := msg_cell HM_vcccccaccc.out 0
                    have r1 := msg_cell HM_vcccccaccc.out 1
                    have r2 := msg_cell HM_vcccccaccc.out 2
                    have r3 := msg_cell HM_vcccccaccc.out 3
                    have r4 := msg_cell HM_vcccccaccc.out 4
                    have r5 := msg_cell HM_vcccccaccc.out 5
                    have r6 := msg_cell HM_vcccccaccc.out 6
                    have r7 := msg_cell HM_vcccccaccc.out 7
                    have r8 := msg_cell HM_vcccccaccc.out 8
                    obtain ⟨n9, m9⟩ := nine HM_vcccccaccc.out (.int .i64 (numM y0)) (.int .u64 (y1 : Int)) (.int .i64 (numM y2)) (.int .i64 (numM y3)) (.int .i64 (numM y4)) (.int .u64 (y5 : Int)) (.int .i64 (numM y6)) (.int .i64 (numM y7)) (.slice none 0 0)
                    have UN_z := Lib.hid (UN_vcccccaccc.out.frame n9 (by show ¬ p = mb; omega) (by show ¬ ps = mb; omega) (by show ¬ pc = mb; omega) (fun a ha e => HAM.out a ha e))
                    have HZ_z := Lib.hid ((n9.block rb (Array.getElem?_eq_some_iff.1 HZ_vcccccaccc.out).1 (by show ¬ rb = mb; omega)).trans HZ_vcccccaccc.out)
                    have C_z := Lib.hid (C_vcccccaccc.out.trans n9 (fun i hi e => by have e : i = mb := e; have := HWR.out; omega))
                    have M_z := Lib.hid m9
                    have N_z := Lib.hid n9
                    clear m9 n9 UN_vcccccaccc HZ_vcccccaccc C_vcccccaccc HM_vcccccaccc
                    refine reg_do 18 rfl (by kernel_rfl) (by kernel_rfl) ?_
                    intro K hK
                    go_simp
                    refine hK _ _ (N_z.out.mono (fun k _ (e : k = mb) => .inr (.inr (by omega)))) ?_
                    clear hK K
                    try simp only [Act.put, List.getElem_toArray, List.getElem_cons_zero, List.getElem_cons_succ, List.setIfInBounds_toArray, List.set_cons_zero, List.set_cons_succ]
                    refine wpAnyH_done (by kernel_rfl) ?_ _
                    go_wp2_with (fail)
                    go_meet
                    exact ⟨mb, rfl, M_z, UN_z, HZ_z, C_z, hb1, hb2, hb3, hb4, HAM⟩
                · intro K hK
                  go_simp
                  refine hK _ _ ((Chg.refl _ _).alloc _) ?_
                  clear hK K
                  try simp only [Act.put, List.getElem_toArray, List.getElem_cons_zero, List.getElem_cons_succ, List.setIfInBounds_toArray, List.set_cons_zero, List.set_cons_succ]
                  have ca : Chg Pure' vcccc (vcccc.alloc (.cells #[.int .i64 0, .int .u64 0, .int .i64 0, .int .i64 0, .int .i64 0, .int .u64 0, .int .i64 0, .int .i64 0, .slice none 0 0] 25)) := (Chg.refl _ _).alloc _
                  have UN_vcccca := Lib.hid (UN_vcccc.out.pure ca)
                  have HZ_vcccca := Lib.hid ((ca.block rb (Array.getElem?_eq_some_iff.1 HZ_vcccc.out).1 (fun h => h)).trans HZ_vcccc.out)
                  have C_vcccca := Lib.hid (C_vcccc.out.pure ca)
                  have HM_vcccca := Lib.hid (heap_alloc_new vcccc (.cells #[.int .i64 0, .int .u64 0, .int .i64 0, .int .i64 0, .int .i64 0, .int .u64 0, .int .i64 0, .int .i64 0, .slice none 0 0] 25))
                  have hb1 : ps < vcccc.heap.size := (Array.getElem?_eq_some_iff.1 UN_vcccc.out.sblk).1
                  have hb2 : p < vcccc.heap.size := UN_vcccc.out.cur.lt
                  have hb3 : rb < vcccc.heap.size := (Array.getElem?_eq_some_iff.1 HZ_vcccc.out).1
                  have hb4 : pc < vcccc.heap.size := World.block_lt_of_cell? vcccc _ UN_vcccc.out.pcc
                  have HAM : Hid (∀ a, A = some a → a.block ≠ vcccc.heap.size) := Lib.hid (fun a ha => by have := HAL.out a ha; omega)
                  have hb5 : s ≤ vcccc.heap.size := hs_vcccc
                  have hs_vcccca : s ≤ (vcccc.alloc (.cells #[.int .i64 0, .int .u64 0, .int .i64 0, .int .i64 0, .int .i64 0, .int .u64 0, .int .i64 0, .int .i64 0, .slice none 0 0] 25)).heap.size := Nat.le_trans hs_vcccc ca.size
                  clear ca UN_vcccc HZ_vcccc C_vcccc hs_vcccc
                  generalize (vcccc.alloc (.cells #[.int .i64 0, .int .u64 0, .int .i64 0, .int .i64 0, .int .i64 0, .int .u64 0, .int .i64 0, .int .i64 0, .slice none 0 0] 25)) = vcccca at *
                  generalize vcccc.heap.size = mb at *
                  refine reg_do 9 rfl (by kernel_rfl) (by kernel_rfl) ?_
                  intro K hK
                  go_simp
                  refine (number_un UN_vcccca.out HN4.out HC5.out).mono ?_
                  rintro e vccccac ⟨rfl, hu, cc⟩
                  refine hK _ _ (cc.mono (fun k _ h => h.elim .inl (fun h => .inr (.inl h)))) ?_
                  clear hK K
                  try simp only [Act.put, List.getElem_toArray, List.getElem_cons_zero, List.getElem_cons_succ, List.setIfInBounds_toArray, List.set_cons_zero, List.set_cons_succ]
                  have UN_vccccac := Lib.hid hu
                  have HZ_vccccac := Lib.hid ((cc.block rb (Array.getElem?_eq_some_iff.1 HZ_vcccca.out).1 (by show ¬ (rb = p ∨ rb = ps); omega)).trans HZ_vcccca.out)
                  have C_vccccac := Lib.hid (C_vcccca.out.trans cc (fun i hi e => by have e : i = p ∨ i = ps := e; have := HWR.out; omega))
                  have hs_vccccac : s ≤ vccccac.heap.size := Nat.le_trans hs_vcccca cc.size
                  have HM_vccccac := Lib.hid ((cc.block mb (Array.getElem?_eq_some_iff.1 HM_vcccca.out).1 (by show ¬ (mb = p ∨ mb = ps); omega)).trans HM_vcccca.out)
                  clear hu cc UN_vcccca HZ_vcccca C_vcccca hs_vcccca HM_vcccca
                  refine reg_do 11 rfl (by kernel_rfl) (by kernel_rfl) ?_
                  intro K hK
                  go_simp
                  refine (short_un UN_vccccac.out HN5.out HC6.out).mono ?_
                  rintro e vccccacc ⟨rfl, hu, cc⟩
                  refine hK _ _ (cc.mono (fun k _ h => h.elim .inl (fun h => .inr (.inl h)))) ?_
                  clear hK K
                  try simp only [Act.put, List.getElem_toArray, List.getElem_cons_zero, List.getElem_cons_succ, List.setIfInBounds_toArray, List.set_cons_zero, List.set_cons_succ]
                  have UN_vccccacc := Lib.hid hu
                  have HZ_vccccacc := Lib.hid ((cc.block rb (Array.getElem?_eq_some_iff.1 HZ_vccccac.out).1 (by show ¬ (rb = p ∨ rb = ps); omega)).trans HZ_vccccac.out)
                  have C_vccccacc := Lib.hid (C_vccccac.out.trans cc (fun i hi e => by have e : i = p ∨ i = ps := e; have := HWR.out; omega))
                  have hs_vccccacc : s ≤ vccccacc.heap.size := Nat.le_trans hs_vccccac cc.size
                  have HM_vccccacc := Lib.hid ((cc.block mb (Array.getElem?_eq_some_iff.1 HM_vccccac.out).1 (by show ¬ (mb = p ∨ mb = ps); omega)).trans HM_vccccac.out)
                  clear hu cc UN_vccccac HZ_vccccac C_vccccac hs_vccccac HM_vccccac
                  refine reg_do 13 rfl (by kernel_rfl) (by kernel_rfl) ?_
                  intro K hK
                  go_simp
                  refine (number_un UN_vccccacc.out HN6.out HC7.out).mono ?_
                  rintro e vccccaccc ⟨rfl, hu, cc⟩
                  refine hK _ _ (cc.mono (fun k _ h => h.elim .inl (fun h => .inr (.inl h)))) ?_
                  clear hK K
                  try simp only [Act.put, List.getElem_toArray, List.getElem_cons_zero, List.getElem_cons_succ, List.setIfInBounds_toArray, List.set_cons_zero, List.set_cons_succ]
                  have UN_vccccaccc := Lib.hid hu
                  have HZ_vccccaccc := Lib.hid ((cc.block rb (Array.getElem?_eq_some_iff.1 HZ_vccccacc.out).1 (by show ¬ (rb = p ∨ rb = ps); omega)).trans HZ_vccccacc.out)
                  have C_vccccaccc := Lib.hid (C_vccccacc.out.trans cc (fun i hi e => by have e : i = p ∨ i = ps := e; have := HWR.out; omega))
                  have hs_vccccaccc : s ≤ vccccaccc.heap.size := Nat.le_trans hs_vccccacc cc.size
                  have HM_vccccaccc := Lib.hid ((cc.block mb (Array.getElem?_eq_some_iff.1 HM_vccccacc.out).1 (by show ¬ (mb = p ∨ mb = ps); omega)).trans HM_vccccacc.out)
                  clear hu cc UN_vccccacc HZ_vccccacc C_vccccacc hs_vccccacc HM_vccccacc
                  refine reg_do 15 rfl (by kernel_rfl) (by kernel_rfl) ?_
                  intro K hK
                  go_simp
                  refine (number_un UN_vccccaccc.out HN7.out HC8.out).mono ?_
                  rintro e vccccacccc ⟨rfl, hu, cc⟩
                  refine hK _ _ (cc.mono (fun k _ h => h.elim .inl (fun h => .inr (.inl h)))) ?_
                  clear hK K
                  try simp only [Act.put, List.getElem_toArray, List.getElem_cons_zero, List.getElem_cons_succ, List.setIfInBounds_toArray, List.set_cons_zero, List.set_cons_succ]
                  have UN_vccccacccc := Lib.hid hu
                  have HZ_vccccacccc := Lib.hid ((cc.block rb (Array.getElem?_eq_some_iff.1 HZ_vccccaccc.out).1 (by show ¬ (rb = p ∨ rb = ps); omega)).trans HZ_vccccaccc.out)
                  have C_vccccacccc := Lib.hid (C_vccccaccc.out.trans cc (fun i hi e => by have e : i = p ∨ i = ps := e; have := HWR.out; omega))
                  have hs_vccccacccc : s ≤ vccccacccc.heap.size := Nat.le_trans hs_vccccaccc cc.size
                  have HM_vccccacccc := Lib.hid ((cc.block mb (Array.getElem?_eq_some_iff.1 HM_vccccaccc.out).1 (by show ¬ (mb = p ∨ mb = ps); omega)).trans HM_vccccaccc.out)
                  clear hu cc UN_vccccaccc HZ_vccccaccc C_vccccaccc hs_vccccaccc HM_vccccaccc
                  refine reg_take 16 (v := ?_) rfl (by kernel_rfl) (by kernel_rfl) (by kernel_rfl) (fun _ _ _ h => h) (by kernel_rfl) ?_ ?_
                  rotate_left
                  · (intro w' hS; go_simp; (try go_bits); (try with_reducible rfl))
                  try simp only [Act.put, List.getElem_toArray, List.getElem_cons_zero, List.getElem_cons_succ, List.setIfInBounds_toArray, List.set_cons_zero, List.set_cons_succ]
                  have ff : ∀ j, vccccacccc.frozen? ⟨mb, j, none⟩ = false := fun j => free_at HM_vccccacccc.out
                  have r0 := msg_cell HM_vccccacccc.out 0
                  have r1 := msg_cell HM_vccccacccc.out 1
                  have r2 := msg_cell HM_vccccacccc.out 2
                  have r3 := msg_cell HM_vccccacccc.out 3
                  have r4 := msg_cell HM_vccccacccc.out 4
                  have r5 := msg_cell HM_vccccacccc.out 5
                  have r6 := msg_cell HM_vccccacccc.out 6
                  have r7 := msg_cell HM_vccccacccc.out 7
                  have r8 := msg_cell HM_vccccacccc.out 8
                  obtain ⟨n9, m9⟩ := nine HM_vccccacccc.out (.int .i64 (numM y0)) (.int .u64 (y1 : Int)) (.int .i64 (numM y2)) (.int .i64 (numM y3)) (.int .i64 (numM y4)) (.int .u64 (y5 : Int)) (.int .i64 (numM y6)) (.int .i64 (numM y7)) (.slice none 0 0)
                  have UN_z := Lib.hid (UN_vccccacccc.out.frame n9 (by show ¬ p = mb; omega) (by show ¬ ps = mb; omega) (by show ¬ pc = mb; omega) (fun a ha e => HAM.out a ha e))
                  have HZ_z := Lib.hid ((n9.block rb (Array.getElem?_eq_some_iff.1 HZ_vccccacccc.out).1 (by show ¬ rb = mb; omega)).trans HZ_vccccacccc.out)
                  have C_z := Lib.hid (C_vccccacccc.out.trans n9 (fun i hi e => by have e : i = mb := e; have := HWR.out; omega))
                  have M_z := Lib.hid m9
                  have N_z := Lib.hid n9
                  clear m9 n9 UN_vccccacccc HZ_vccccacccc C_vccccacccc HM_vccccacccc
                  refine reg_do 18 rfl (by kernel_rfl) (by kernel_rfl) ?_
                  intro K hK
                  go_simp
                  refine hK _ _ (N_z.out.mono (fun k _ (e : k = mb) => .inr (.inr (by omega)))) ?_
                  clear hK K
                  try simp only [Act.put, List.getElem_toArray, List.getElem_cons_zero, List.getElem_cons_succ, List.setIfInBounds_toArray, List.set_cons_zero, List.set_cons_succ]
                  refine wpAnyH_done (by kernel_rfl) ?_ _
                  go_wp2_with (fail)
                  go_meet
                  exact ⟨mb, rfl, M_z, UN_z, HZ_z, C_z, hb1, hb2, hb3, hb4, HAM⟩
              · intro K hK
                go_simp
                refine hK _ _ ((Chg.refl _ _).alloc _) ?_
                clear hK K
                try simp only [Act.put, List.getElem_toArray, List.getElem_cons_zero, List.getElem_cons_succ, List.setIfInBounds_toArray, List.set_cons_zero, List.set_cons_succ]
                have ca : Chg Pure' vccc (vccc.alloc (.cells #[.int .i64 0, .int .u64 0, .int .i64 0, .int .i64 0, .int .i64 0, .int .u64 0, .int .i64 0, .int .i64 0, .slice none 0 0] 25)) := (Chg.refl _ _).alloc _
                have UN_vccca := Lib.hid (UN_vccc.out.pure ca)
                have HZ_vccca := Lib.hid ((ca.block rb (Array.getElem?_eq_some_iff.1 HZ_vccc.out).1 (fun h => h)).trans HZ_vccc.out)
                have C_vccca := Lib.hid (C_vccc.out.pure ca)
                have HM_vccca := Lib.hid (heap_alloc_new vccc (.cells #[.int .i64 0, .int .u64 0, .int .i64 0, .int .i64 0, .int .i64 0, .int .u64 0, .int .i64 0, .int .i64 0, .slice none 0 0] 25))
                have hb1 : ps < vccc.heap.size := (Array.getElem?_eq_some_iff.1 UN_vccc.out.sblk).1
                have hb2 : p < vccc.heap.size := UN_vccc.out.cur.lt
                have hb3 : rb < vccc.heap.size := (Array.getElem?_eq_some_iff.1 HZ_vccc.out).1
                have hb4 : pc < vccc.heap.size := World.block_lt_of_cell? vccc _ UN_vccc.out.pcc
                have HAM : Hid (∀ a, A = some a → a.block ≠ vccc.heap.size) := Lib.hid (fun a ha => by have := HAL.out a ha; omega)
                have hb5 : s ≤ vccc.heap.size := hs_vccc
                have hs_vccca : s ≤ (vccc.alloc (.cells #[.int .i64 0, .int .u64 0, .int .i64 0, .int .i64 0, .int .i64 0, .int .u64 0, .int .i64 0, .int .i64 0, .slice none 0 0] 25)).heap.size := Nat.le_trans hs_vccc ca.size
                clear ca UN_vccc HZ_vccc C_vccc hs_vccc
                generalize (vccc.alloc (.cells #[.int .i64 0, .int .u64 0, .int .i64 0, .int .i64 0, .int .i64 0, .int .u64 0, .int .i64 0, .int .i64 0, .slice none 0 0] 25)) = vccca at *
                generalize vccc.heap.size = mb at *
                refine reg_do 7 rfl (by kernel_rfl) (by kernel_rfl) ?_
                intro K hK
                go_simp
                refine (number_un UN_vccca.out HN3.out HC4.out).mono ?_
                rintro e vcccac ⟨rfl, hu, cc⟩
                refine hK _ _ (cc.mono (fun k _ h => h.elim .inl (fun h => .inr (.inl h)))) ?_
                clear hK K
                try simp only [Act.put, List.getElem_toArray, List.getElem_cons_zero, List.getElem_cons_succ, List.setIfInBounds_toArray, List.set_cons_zero, List.set_cons_succ]
                have UN_vcccac := Lib.hid hu
                have HZ_vcccac := Lib.hid ((cc.block rb (Array.getElem?_eq_some_iff.1 HZ_vccca.out).1 (by show ¬ (rb = p ∨ rb = ps); omega)).trans HZ_vccca.out)
                have C_vcccac := Lib.hid (C_vccca.out.trans cc (fun i hi e => by have e : i = p ∨ i = ps := e; have := HWR.out; omega))
                have hs_vcccac : s ≤ vcccac.heap.size := Nat.le_trans hs_vccca cc.size
                have HM_vcccac := Lib.hid ((cc.block mb (Array.getElem?_eq_some_iff.1 HM_vccca.out).1 (by show ¬ (mb = p ∨ mb = ps); omega)).trans HM_vccca.out)
                clear hu cc UN_vccca HZ_vccca C_vccca hs_vccca HM_vccca
                refine reg_do 9 rfl (by kernel_rfl) (by kernel_rfl) ?_
                intro K hK
                go_simp
                refine (number_un UN_vcccac.out HN4.out HC5.out).mono ?_
                rintro e vcccacc ⟨rfl, hu, cc⟩
                refine hK _ _ (cc.mono (fun k _ h => h.elim .inl (fun h => .inr (.inl h)))) ?_
                clear hK K
                try simp only [Act.put, List.getElem_toArray, List.getElem_cons_zero, List.getElem_cons_succ, List.setIfInBounds_toArray, List.set_cons_zero, List.set_cons_succ]
                have UN_vcccacc := Lib.hid hu
                have HZ_vcccacc := Lib.hid ((cc.block rb (Array.getElem?_eq_some_iff.1 HZ_vcccac.out).1 (by show ¬ (rb = p ∨ rb = ps); omega)).trans HZ_vcccac.out)
                have C_vcccacc := Lib.hid (C_vcccac.out.trans cc (fun i hi e => by have e : i = p ∨ i = ps := e; have := HWR.out; omega))
                have hs_vcccacc : s ≤ vcccacc.heap.size := Nat.le_trans hs_vcccac cc.size
                have HM_vcccacc := Lib.hid ((cc.block mb (Array.getElem?_eq_some_iff.1 HM_vcccac.out).1 (by show ¬ (mb = p ∨ mb = ps); omega)).trans HM_vcccac.out)
                clear hu cc UN_vcccac HZ_vcccac C_vcccac hs_vcccac HM_vcccac
                refine reg_do 11 rfl (by kernel_rfl) (by kernel_rfl) ?_
                intro K hK
                go_simp
                refine (short_un UN_vcccacc.out HN5.out HC6.out).mono ?_
                rintro e vcccaccc ⟨rfl, hu, cc⟩
                refine hK _ _ (cc.mono (fun k _ h => h.elim .inl (fun h => .inr (.inl h)))) ?_
                clear hK K
                try simp only [Act.put, List.getElem_toArray, List.getElem_cons_zero, List.getElem_cons_succ, List.setIfInBounds_toArray, List.set_cons_zero, List.set_cons_succ]
                have UN_vcccaccc := Lib.hid hu
                have HZ_vcccaccc := Lib.hid ((cc.block rb (Array.getElem?_eq_some_iff.1 HZ_vcccacc.out).1 (by show ¬ (rb = p ∨ rb = ps); omega)).trans HZ_vcccacc.out)
                have C_vcccaccc := Lib.hid (C_vcccacc.out.trans cc (fun i hi e => by have e : i = p ∨ i = ps := e; have := HWR.out; omega))
                have hs_vcccaccc : s ≤ vcccaccc.heap.size := Nat.le_trans hs_vcccacc cc.size
                have HM_vcccaccc := Lib.hid ((cc.block mb (Array.getElem?_eq_some_iff.1 HM_vcccacc.out).1 (by show ¬ (mb = p ∨ mb = ps); omega)).trans HM_vcccacc.out)
                clear hu cc UN_vcccacc HZ_vcccacc C_vcccacc hs_vcccacc HM_vcccacc
                refine reg_do 13 rfl (by kernel_rfl) (by kernel_rfl) ?_
                intro K hK
                go_simp
                refine (number_un UN_vcccaccc.out HN6.out HC7.out).mono ?_
                rintro e vcccacccc ⟨rfl, hu, cc⟩
                refine hK _ _ (cc.mono (fun k _ h => h.elim .inl (fun h => .inr (.inl h)))) ?_
                clear hK K
                try simp only [Act.put, List.getElem_toArray, List.getElem_cons_zero, List.getElem_cons_succ, List.setIfInBounds_toArray, List.set_cons_zero, List.set_cons_succ]
                have UN_vcccacccc := Lib.hid hu
                have HZ_vcccacccc := Lib.hid ((cc.block rb (Array.getElem?_eq_some_iff.1 HZ_vcccaccc.out).1 (by show ¬ (rb = p ∨ rb = ps); omega)).trans HZ_vcccaccc.out)
                have C_vcccacccc := Lib.hid (C_vcccaccc.out.trans cc (fun i hi e => by have e : i = p ∨ i = ps := e; have := HWR.out; omega))
                have hs_vcccacccc : s ≤ vcccacccc.heap.size := Nat.le_trans hs_vcccaccc cc.size
                have HM_vcccacccc := Lib.hid ((cc.block mb (Array.getElem?_eq_some_iff.1 HM_vcccaccc.out).1 (by show ¬ (mb = p ∨ mb = ps); omega)).trans HM_vcccaccc.out)
                clear hu cc UN_vcccaccc HZ_vcccaccc C_vcccaccc hs_vcccaccc HM_vcccaccc
                refine reg_do 15 rfl (by kernel_rfl) (by kernel_rfl) ?_
                intro K hK
                go_simp
                refine (number_un UN_vcccacccc.out HN7.out HC8.out).mono ?_
                rintro e vcccaccccc ⟨rfl, hu, cc⟩
                refine hK _ _ (cc.mono (fun k _ h => h.elim .inl (fun h => .inr (.inl h)))) ?_
                clear hK K
                try simp only [Act.put, List.getElem_toArray, List.getElem_cons_zero, List.getElem_cons_succ, List.setIfInBounds_toArray, List.set_cons_zero, List.set_cons_succ]
                have UN_vcccaccccc := Lib.hid hu
                have HZ_vcccaccccc := Lib.hid ((cc.block rb (Array.getElem?_eq_some_iff.1 HZ_vcccacccc.out).1 (by show ¬ (rb = p ∨ rb = ps); omega)).trans HZ_vcccacccc.out)
                have C_vcccaccccc := Lib.hid (C_vcccacccc.out.trans cc (fun i hi e => by have e : i = p ∨ i = ps := e; have := HWR.out; omega))
                have hs_vcccaccccc : s ≤ vcccaccccc.heap.size := Nat.le_trans hs_vcccacccc cc.size
                have HM_vcccaccccc := Lib.hid ((cc.block mb (Array.getElem?_eq_some_iff.1 HM_vcccacccc.out).1 (by show ¬ (mb = p ∨ mb = ps); omega)).trans HM_vcccacccc.out)
                clear hu cc UN_vcccacccc HZ_vcccacccc C_vcccacccc hs_vcccacccc HM_vcccacccc
                refine reg_take 16 (v := ?_) rfl (by kernel_rfl) (by kernel_rfl) (by kernel_rfl) (fun _ _ _ h => h) (by kernel_rfl) ?_ ?_
                rotate_left
                · (intro w' hS; go_simp; (try go_bits); (try with_reducible rfl))
                try simp only [Act.put, List.getElem_toArray, List.getElem_cons_zero, List.getElem_cons_succ, List.setIfInBounds_toArray, List.set_cons_zero, List.set_cons_succ]
                have ff : ∀ j, vcccaccccc.frozen? ⟨mb, j, none⟩ = false := fun j => free_at HM_vcccaccccc.out
                have r0 := msg_cell HM_vcccaccccc.out 0
                have r1 := msg_cell HM_vcccaccccc.out 1
                have r2 := msg_cell HM_vcccaccccc.out 2
                have r3 := msg_cell HM_vcccaccccc.out 3
                have r4 := msg_cell HM_vcccaccccc.out 4
                have r5 := msg_cell HM_vcccaccccc.out 5
                have r6 := msg_cell HM_vcccaccccc.out 6
                have r7 := msg_cell HM_vcccaccccc.out 7
                have r8 := msg_cell HM_vcccaccccc.out 8
                obtain ⟨n9, m9⟩ := nine HM_vcccaccccc.out (.int .i64 (numM y0)) (.int .u64 (y1 : Int)) (.int .i64 (numM y2)) (.int .i64 (numM y3)) (.int .i64 (numM y4)) (.int .u64 (y5 : Int)) (.int .i64 (numM y6)) (.int .i64 (numM y7)) (.slice none 0 0)
                have UN_z := Lib.hid (UN_vcccaccccc.out.frame n9 (by show ¬ p = mb; omega) (by show ¬ ps = mb; omega) (by show ¬ pc = mb; omega) (fun a ha e => HAM.out a ha e))
                have HZ_z := Lib.hid ((n9.block rb (Array.getElem?_eq_some_iff.1 HZ_vcccaccccc.out).1 (by show ¬ rb = mb; omega)).trans HZ_vcccaccccc.out)
                have C_z := Lib.hid (C_vcccaccccc.out.trans n9 (fun i hi e => by have e : i = mb := e; have := HWR.out; omega))
                have M_z := Lib.hid m9
                have N_z := Lib.hid n9
                clear m9 n9 UN_vcccaccccc HZ_vcccaccccc C_vcccaccccc HM_vcccaccccc
                refine reg_do 18 rfl (by kernel_rfl) (by kernel_rfl) ?_
                intro K hK
                go_simp
                refine hK _ _ (N_z.out.mono (fun k _ (e : k = mb) => .inr (.inr (by omega)))) ?_
                clear hK K
                try simp only [Act.put, List.getElem_toArray, List.getElem_cons_zero, List.getElem_cons_succ, List.setIfInBounds_toArray, List.set_cons_zero, List.set_cons_succ]
                refine wpAnyH_done (by kernel_rfl) ?_ _
                go_wp2_with (fail)
                go_meet
                exact ⟨mb, rfl, M_z, UN_z, HZ_z, C_z, hb1, hb2, hb3, hb4, HAM⟩
            · intro K hK
              go_simp
              refine hK _ _ ((Chg.refl _ _).alloc _) ?_
              clear hK K
              try simp only [Act.put, List.getElem_toArray, List.getElem_cons_zero, List.getElem_cons_succ, List.setIfInBounds_toArray, List.set_cons_zero, List.set_cons_succ]
              have ca : Chg Pure' vcc (vcc.alloc (.cells #[.int .i64 0, .int .u64 0, .int .i64 0, .int .i64 0, .int .i64 0, .int .u64 0, .int .i64 0, .int .i64 0, .slice none 0 0] 25)) := (Chg.refl _ _).alloc _
              have UN_vcca := Lib.hid (UN_vcc.out.pure ca)
              have HZ_vcca := Lib.hid ((ca.block rb (Array.getElem?_eq_some_iff.1 HZ_vcc.out).1 (fun h => h)).trans HZ_vcc.out)
              have C_vcca := Lib.hid (C_vcc.out.pure ca)
              have HM_vcca := Lib.hid (heap_alloc_new vcc (.cells #[.int .i64 0, .int .u64 0, .int .i64 0, .int .i64 0, .int .i64 0, .int .u64 0, .int .i64 0, .int .i64 0, .slice none 0 0] 25))
              have hb1 : ps < vcc.heap.size := (Array.getElem?_eq_some_iff.1 UN_vcc.out.sblk).1
              have hb2 : p < vcc.heap.size := UN_vcc.out.cur.lt
              have hb3 : rb < vcc.heap.size := (Array.getElem?_eq_some_iff.1 HZ_vcc.out).1
              have hb4 : pc < vcc.heap.size := World.block_lt_of_cell? vcc _ UN_vcc.out.pcc
              have HAM : Hid (∀ a, A = some a → a.block ≠ vcc.heap.size) := Lib.hid (fun a ha => by have := HAL.out a ha; omega)
              have hb5 : s ≤ vcc.heap.size := hs_vcc
              have hs_vcca : s ≤ (vcc.alloc (.cells #[.int .i64 0, .int .u64 0, .int .i64 0, .int .i64 0, .int .i64 0, .int .u64 0, .int .i64 0, .int .i64 0, .slice none 0 0] 25)).heap.size := Nat.le_trans hs_vcc ca.size
              clear ca UN_vcc HZ_vcc C_vcc hs_vcc
              generalize (vcc.alloc (.cells #[.int .i64 0, .int .u64 0, .int .i64 0, .int .i64 0, .int .i64 0, .int .u64 0, .int .i64 0, .int .i64 0, .slice none 0 0] 25)) = vcca at *
              generalize vcc.heap.size = mb at *
              refine reg_do 5 rfl (by kernel_rfl) (by kernel_rfl) ?_
              intro K hK
              go_simp
              refine (number_un UN_vcca.out HN2.out HC3.out).mono ?_
              rintro e vccac ⟨rfl, hu, cc⟩
              refine hK _ _ (cc.mono (fun k _ h => h.elim .inl (fun h => .inr (.inl h)))) ?_
              clear hK K
              try simp only [Act.put, List.getElem_toArray, List.getElem_cons_zero, List.getElem_cons_succ, List.setIfInBounds_toArray, List.set_cons_zero, List.set_cons_succ]
              have UN_vccac := Lib.hid hu
              have HZ_vccac := Lib.hid ((cc.block rb (Array.getElem?_eq_some_iff.1 HZ_vcca.out).1 (by show ¬ (rb = p ∨ rb = ps); omega)).trans HZ_vcca.out)
              have C_vccac := Lib.hid (C_vcca.out.trans cc (fun i hi e => by have e : i = p ∨ i = ps := e; have := HWR.out; omega))
              have hs_vccac : s ≤ vccac.heap.size := Nat.le_trans hs_vcca cc.size
              have HM_vccac := Lib.hid ((cc.block mb (Array.getElem?_eq_some_iff.1 HM_vcca.out).1 (by show ¬ (mb = p ∨ mb = ps); omega)).trans HM_vcca.out)
              clear hu cc UN_vcca HZ_vcca C_vcca hs_vcca HM_vcca
              refine reg_do 7 rfl (by kernel_rfl) (by kernel_rfl) ?_
              intro K hK
              go_simp
              refine (number_un UN_vccac.out HN3.out HC4.out).mono ?_
              rintro e vccacc ⟨rfl, hu, cc⟩
              refine hK _ _ (cc.mono (fun k _ h => h.elim .inl (fun h => .inr (.inl h)))) ?_
              clear hK K
              try simp only [Act.put, List.getElem_toArray, List.getElem_cons_zero, List.getElem_cons_succ, List.setIfInBounds_toArray, List.set_cons_zero, List.set_cons_succ]
              have UN_vccacc := Lib.hid hu
              have HZ_vccacc := Lib.hid ((cc.block rb (Array.getElem?_eq_some_iff.1 HZ_vccac.out).1 (by show ¬ (rb = p ∨ rb = ps); omega)).trans HZ_vccac.out)
              have C_vccacc := Lib.hid (C_vccac.out.trans cc (fun i hi e => by have e : i = p ∨ i = ps := e; have := HWR.out; omega))
              have hs_vccacc : s ≤ vccacc.heap.size := Nat.le_trans hs_vccac cc.size
              have HM_vccacc := Lib.hid ((cc.block mb (Array.getElem?_eq_some_iff.1 HM_vccac.out).1 (by show ¬ (mb = p ∨ mb = ps); omega)).trans HM_vccac.out)
              clear hu cc UN_vccac HZ_vccac C_vccac hs_vccac HM_vccac
              refine reg_do 9 rfl (by kernel_rfl) (by kernel_rfl) ?_
              intro K hK
              go_simp
              refine (number_un UN_vccacc.out HN4.out HC5.out).mono ?_
              rintro e vccaccc ⟨rfl, hu, cc⟩
              refine hK _ _ (cc.mono (fun k _ h => h.elim .inl (fun h => .inr (.inl h)))) ?_
              clear hK K
              try simp only [Act.put, List.getElem_toArray, List.getElem_cons_zero, List.getElem_cons_succ, List.setIfInBounds_toArray, List.set_cons_zero, List.set_cons_succ]
              have UN_vccaccc := Lib.hid hu
              have HZ_vccaccc := Lib.hid ((cc.block rb (Array.getElem?_eq_some_iff.1 HZ_vccacc.out).1 (by show ¬ (rb = p ∨ rb = ps); omega)).trans HZ_vccacc.out)
              have C_vccaccc := Lib.hid (C_vccacc.out.trans cc (fun i hi e => by have e : i = p ∨ i = ps := e; have := HWR.out; omega))
              have hs_vccaccc : s ≤ vccaccc.heap.size := Nat.le_trans hs_vccacc cc.size
              have HM_vccaccc := Lib.hid ((cc.block mb (Array.getElem?_eq_some_iff.1 HM_vccacc.out).1 (by show ¬ (mb = p ∨ mb = ps); omega)).trans HM_vccacc.out)
              clear hu cc UN_vccacc HZ_vccacc C_vccacc hs_vccacc HM_vccacc
              refine reg_do 11 rfl (by kernel_rfl) (by kernel_rfl) ?_
              intro K hK
              go_simp
              refine (short_un UN_vccaccc.out HN5.out HC6.out).mono ?_
              rintro e vccacccc ⟨rfl, hu, cc⟩
              refine hK _ _ (cc.mono (fun k _ h => h.elim .inl (fun h => .inr (.inl h)))) ?_
              clear hK K
              try simp only [Act.put, List.getElem_toArray, List.getElem_cons_zero, List.getElem_cons_succ, List.setIfInBounds_toArray, List.set_cons_zero, List.set_cons_succ]
              have UN_vccacccc := Lib.hid hu
              have HZ_vccacccc := Lib.hid ((cc.block rb (Array.getElem?_eq_some_iff.1 HZ_vccaccc.out).1 (by show ¬ (rb = p ∨ rb = ps); omega)).trans HZ_vccaccc.out)
              have C_vccacccc := Lib.hid (C_vccaccc.out.trans cc (fun i hi e => by have e : i = p ∨ i = ps := e; have := HWR.out; omega))
              have hs_vccacccc : s ≤ vccacccc.heap.size := Nat.le_trans hs_vccaccc cc.size
              have HM_vccacccc := Lib.hid ((cc.block mb (Array.getElem?_eq_some_iff.1 HM_vccaccc.out).1 (by show ¬ (mb = p ∨ mb = ps); omega)).trans HM_vccaccc.out)
              clear hu cc UN_vccaccc HZ_vccaccc C_vccaccc hs_vccaccc HM_vccaccc
              refine reg_do 13 rfl (by kernel_rfl) (by kernel_rfl) ?_
              intro K hK
              go_simp
              refine (number_un UN_vccacccc.out HN6.out HC7.out).mono ?_
              rintro e vccaccccc ⟨rfl, hu, cc⟩
              refine hK _ _ (cc.mono (fun k _ h => h.elim .inl (fun h => .inr (.inl h)))) ?_
              clear hK K
              try simp only [Act.put, List.getElem_toArray, List.getElem_cons_zero, List.getElem_cons_succ, List.setIfInBounds_toArray, List.set_cons_zero, List.set_cons_succ]
              have UN_vccaccccc := Lib.hid hu
              have HZ_vccaccccc := Lib.hid ((cc.block rb (Array.getElem?_eq_some_iff.1 HZ_vccacccc.out).1 (by show ¬ (rb = p ∨ rb = ps); omega)).trans HZ_vccacccc.out)
              have C_vccaccccc := Lib.hid (C_vccacccc.out.trans cc (fun i hi e => by have e : i = p ∨ i = ps := e; have := HWR.out; omega))
              have hs_vccaccccc : s ≤ vccaccccc.heap.size := Nat.le_trans hs_vccacccc cc.size
              have HM_vccaccccc := Lib.hid ((cc.block mb (Array.getElem?_eq_some_iff.1 HM_vccacccc.out).1 (by show ¬ (mb = p ∨ mb = ps); omega)).trans HM_vccacccc.out)
              clear hu cc UN_vccacccc HZ_vccacccc C_vccacccc hs_vccacccc HM_vccacccc
              refine reg_do 15 rfl (by kernel_rfl) (by kernel_rfl) ?_
              intro K hK
              go_simp
              refine (number_un UN_vccaccccc.out HN7.out HC8.out).mono ?_
              rintro e vccacccccc ⟨rfl, hu, cc⟩
              refine hK _ _ (cc.mono (fun k _ h => h.elim .inl (fun h => .inr (.inl h)))) ?_
              clear hK K
              try simp only [Act.put, List.getElem_toArray, List.getElem_cons_zero, List.getElem_cons_succ, List.setIfInBounds_toArray, List.set_cons_zero, List.set_cons_succ]
              have UN_vccacccccc := Lib.hid hu
              have HZ_vccacccccc := Lib.hid ((cc.block rb (Array.getElem?_eq_some_iff.1 HZ_vccaccccc.out).1 (by show ¬ (rb = p ∨ rb = ps); omega)).trans HZ_vccaccccc.out)
              have C_vccacccccc := Lib.hid (C_vccaccccc.out.trans cc (fun i hi e => by have e : i = p ∨ i = ps := e; have := HWR.out; omega))
              have hs_vccacccccc : s ≤ vccacccccc.heap.size := Nat.le_trans hs_vccaccccc cc.size
              have HM_vccacccccc := Lib.hid ((cc.block mb (Array.getElem?_eq_some_iff.1 HM_vccaccccc.out).1 (by show ¬ (mb = p ∨ mb = ps); omega)).trans HM_vccaccccc.out)
              clear hu cc UN_vccaccccc HZ_vccaccccc C_vccaccccc hs_vccaccccc HM_vccaccccc
              refine reg_take 16 (v := ?_) rfl (by kernel_rfl) (by kernel_rfl) (by kernel_rfl) (fun _ _ _ h => h) (by kernel_rfl) ?_ ?_
              rotate_left
              · (intro w' hS; go_simp; (try go_bits); (try with_reducible rfl))
              try simp only [Act.put, List.getElem_toArray, List.getElem_cons_zero, List.getElem_cons_succ, List.setIfInBounds_toArray, List.set_cons_zero, List.set_cons_succ]
              have ff : ∀ j, vccacccccc.frozen? ⟨mb, j, none⟩ = false := fun j => free_at HM_vccacccccc.out
              have r0 := msg_cell HM_vccacccccc.out 0
              have r1 := msg_cell HM_vccacccccc.out 1
              have r2 := msg_cell HM_vccacccccc.out 2
              have r3 := msg_cell HM_vccacccccc.out 3
              have r4 := msg_cell HM_vccacccccc.out 4
              have r5 := msg_cell HM_vccacccccc.out 5
              have r6 := msg_cell HM_vccacccccc.out 6
              have r7 := msg_cell HM_vccacccccc.out 7
              have r8 := msg_cell HM_vccacccccc.out 8
              obtain ⟨n9, m9⟩ := nine HM_vccacccccc.out (.int .i64 (numM y0)) (.int .u64 (y1 : Int)) (.int .i64 (numM y2)) (.int .i64 (numM y3)) (.int .i64 (numM y4)) (.int .u64 (y5 : Int)) (.int .i64 (numM y6)) (.int .i64 (numM y7)) (.slice none 0 0)
              have UN_z := Lib.hid (UN_vccacccccc.out.frame n9 (by show ¬ p = mb; omega) (by show ¬ ps = mb; omega) (by show ¬ pc = mb; omega) (fun a ha e => HAM.out a ha e))
              have HZ_z := Lib.hid ((n9.block rb (Array.getElem?_eq_some_iff.1 HZ_vccacccccc.out).1 (by show ¬ rb = mb; omega)).trans HZ_vccacccccc.out)
              have C_z := Lib.hid (C_vccacccccc.out.trans n9 (fun i hi e => by have e : i = mb := e; have := HWR.out; omega))
              have M_z := Lib.hid m9
              have N_z := Lib.hid n9
              clear m9 n9 UN_vccacccccc HZ_vccacccccc C_vccacccccc HM_vccacccccc
              refine reg_do 18 rfl (by kernel_rfl) (by kernel_rfl) ?_
              intro K hK
              go_simp
              refine hK _ _ (N_z.out.mono (fun k _ (e : k = mb) => .inr (.inr (by omega)))) ?_
              clear hK K
              try simp only [Act.put, List.getElem_toArray, List.getElem_cons_zero, List.getElem_cons_succ, List.setIfInBounds_toArray, List.set_cons_zero, List.set_cons_succ]
              refine wpAnyH_done (by kernel_rfl) ?_ _
              go_wp2_with (fail)
              go_meet
              exact ⟨mb, rfl, M_z, UN_z, HZ_z, C_z, hb1, hb2, hb3, hb4, HAM⟩
          · intro K hK
            go_simp
            refine hK _ _ ((Chg.refl _ _).alloc _) ?_
            clear hK K
            try simp only [Act.put, List.getElem_toArray, List.getElem_cons_zero, List.getElem_cons_succ, List.setIfInBounds_toArray, List.set_cons_zero, List.set_cons_succ]
            have ca : Chg Pure' vc (vc.alloc (.cells #[.int .i64 0, .int .u64 0, .int .i64 0, .int .i64 0, .int .i64 0, .int .u64 0, .int .i64 0, .int .i64 0, .slice none 0 0] 25)) := (Chg.refl _ _).alloc _
            have UN_vca := Lib.hid (UN_vc.out.pure ca)
            have HZ_vca := Lib.hid ((ca.block rb (Array.getElem?_eq_some_iff.1 HZ_vc.out).1 (fun h => h)).trans HZ_vc.out)
            have C_vca := Lib.hid (C_vc.out.pure ca)
            have HM_vca := Lib.hid (heap_alloc_new vc (.cells #[.int .i64 0, .int .u64 0, .int .i64 0, .int .i64 0, .int .i64 0, .int .u64 0, .int .i64 0, .int .i64 0, .slice none 0 0] 25))
            have hb1 : ps < vc.heap.size := (Array.getElem?_eq_some_iff.1 UN_vc.out.sblk).1
            have hb2 : p < vc.heap.size := UN_vc.out.cur.lt
            have hb3 : rb < vc.heap.size := (Array.getElem?_eq_some_iff.1 HZ_vc.out).1
            have hb4 : pc < vc.heap.size := World.block_lt_of_cell? vc _ UN_vc.out.pcc
            have HAM : Hid (∀ a, A = some a → a.block ≠ vc.heap.size) := Lib.hid (fun a ha => by have := HAL.out a ha; omega)
            have hb5 : s ≤ vc.heap.size := hs_vc
            have hs_vca : s ≤ (vc.alloc (.cells #[.int .i64 0, .int .u64 0, .int .i64 0, .int .i64 0, .int .i64 0, .int .u64 0, .int .i64 0, .int .i64 0, .slice none 0 0] 25)).heap.size := Nat.le_trans hs_vc ca.size
            clear ca UN_vc HZ_vc C_vc hs_vc
            generalize (vc.alloc (.cells #[.int .i64 0, .int .u64 0, .int .i64 0, .int .i64 0, .int .i64 0, .int .u64 0, .int .i64 0, .int .i64 0, .slice none 0 0] 25)) = vca at *
            generalize vc.heap.size = mb at *
            refine reg_do 3 rfl (by kernel_rfl) (by kernel_rfl) ?_
            intro K hK
            go_simp
            refine (short_un UN_vca.out HN1.out HC2.out).mono ?_
            rintro e vcac ⟨rfl, hu, cc⟩
            refine hK _ _ (cc.mono (fun k _ h => h.elim .inl (fun h => .inr (.inl h)))) ?_
            clear hK K
            try simp only [Act.put, List.getElem_toArray, List.getElem_cons_zero, List.getElem_cons_succ, List.setIfInBounds_toArray, List.set_cons_zero, List.set_cons_succ]
            have UN_vcac := Lib.hid hu
            have HZ_vcac := Lib.hid ((cc.block rb (Array.getElem?_eq_some_iff.1 HZ_vca.out).1 (by show ¬ (rb = p ∨ rb = ps); omega)).trans HZ_vca.out)
            have C_vcac := Lib.hid (C_vca.out.trans cc (fun i hi e => by have e : i = p ∨ i = ps := e; have := HWR.out; omega))
            have hs_vcac : s ≤ vcac.heap.size := Nat.le_trans hs_vca cc.size
            have HM_vcac := Lib.hid ((cc.block mb (Array.getElem?_eq_some_iff.1 HM_vca.out).1 (by show ¬ (mb = p ∨ mb = ps); omega)).trans HM_vca.out)
            clear hu cc UN_vca HZ_vca C_vca hs_vca HM_vca
            refine reg_do 5 rfl (by kernel_rfl) (by kernel_rfl) ?_
            intro K hK
            go_simp
            refine (number_un UN_vcac.out HN2.out HC3.out).mono ?_
            rintro e vcacc ⟨rfl, hu, cc⟩
            refine hK _ _ (cc.mono (fun k _ h => h.elim .inl (fun h => .inr (.inl h)))) ?_
            clear hK K
            try simp only [Act.put, List.getElem_toArray, List.getElem_cons_zero, List.getElem_cons_succ, List.setIfInBounds_toArray, List.set_cons_zero, List.set_cons_succ]
            have UN_vcacc := Lib.hid hu
            have HZ_vcacc := Lib.hid ((cc.block rb (Array.getElem?_eq_some_iff.1 HZ_vcac.out).1 (by show ¬ (rb = p ∨ rb = ps); omega)).trans HZ_vcac.out)
            have C_vcacc := Lib.hid (C_vcac.out.trans cc (fun i hi e => by have e : i = p ∨ i = ps := e; have := HWR.out; omega))
            have hs_vcacc : s ≤ vcacc.heap.size := Nat.le_trans hs_vcac cc.size
            have HM_vcacc := Lib.hid ((cc.block mb (Array.getElem?_eq_some_iff.1 HM_vcac.out).1 (by show ¬ (mb = p ∨ mb = ps); omega)).trans HM_vcac.out)
            clear hu cc UN_vcac HZ_vcac C_vcac hs_vcac HM_vcac
            refine reg_do 7 rfl (by kernel_rfl) (by kernel_rfl) ?_
            intro K hK
            go_simp
            refine (number_un UN_vcacc.out HN3.out HC4.out).mono ?_
            rintro e vcaccc ⟨rfl, hu, cc⟩
            refine hK _ _ (cc.mono (fun k _ h => h.elim .inl (fun h => .inr (.inl h)))) ?_
            clear hK K
            try simp only [Act.put, List.getElem_toArray, List.getElem_cons_zero, List.getElem_cons_succ, List.setIfInBounds_toArray, List.set_cons_zero, List.set_cons_succ]
            have UN_vcaccc := Lib.hid hu
            have HZ_vcaccc := Lib.hid ((cc.block rb (Array.getElem?_eq_some_iff.1 HZ_vcacc.out).1 (by show ¬ (rb = p ∨ rb = ps); omega)).trans HZ_vcacc.out)
            have C_vcaccc := Lib.hid (C_vcacc.out.trans cc (fun i hi e => by have e : i = p ∨ i = ps := e; have := HWR.out; omega))
            have hs_vcaccc : s ≤ vcaccc.heap.size := Nat.le_trans hs_vcacc cc.size
            have HM_vcaccc := Lib.hid ((cc.block mb (Array.getElem?_eq_some_iff.1 HM_vcacc.out).1 (by show ¬ (mb = p ∨ mb = ps); omega)).trans HM_vcacc.out)
            clear hu cc UN_vcacc HZ_vcacc C_vcacc hs_vcacc HM_vcacc
            refine reg_do 9 rfl (by kernel_rfl) (by kernel_rfl) ?_
            intro K hK
            go_simp
            refine (number_un UN_vcaccc.out HN4.out HC5.out).mono ?_
            rintro e vcacccc ⟨rfl, hu, cc⟩
            refine hK _ _ (cc.mono (fun k _ h => h.elim .inl (fun h => .inr (.inl h)))) ?_
            clear hK K
            try simp only [Act.put, List.getElem_toArray, List.getElem_cons_zero, List.getElem_cons_succ, List.setIfInBounds_toArray, List.set_cons_zero, List.set_cons_succ]
            have UN_vcacccc := Lib.hid hu
            have HZ_vcacccc := Lib.hid ((cc.block rb (Array.getElem?_eq_some_iff.1 HZ_vcaccc.out).1 (by show ¬ (rb = p ∨ rb = ps); omega)).trans HZ_vcaccc.out)
            have C_vcacccc := Lib.hid (C_vcaccc.out.trans cc (fun i hi e => by have e : i = p ∨ i = ps := e; have := HWR.out; omega))
            have hs_vcacccc : s ≤ vcacccc.heap.size := Nat.le_trans hs_vcaccc cc.size
            have HM_vcacccc := Lib.hid ((cc.block mb (Array.getElem?_eq_some_iff.1 HM_vcaccc.out).1 (by show ¬ (mb = p ∨ mb = ps); omega)).trans HM_vcaccc.out)
            clear hu cc UN_vcaccc HZ_vcaccc C_vcaccc hs_vcaccc HM_vcaccc
            refine reg_do 11 rfl (by kernel_rfl) (by kernel_rfl) ?_
            intro K hK
            go_simp
            refine (short_un UN_vcacccc.out HN5.out HC6.out).mono ?_
            rintro e vcaccccc ⟨rfl, hu, cc⟩
            refine hK _ _ (cc.mono (fun k _ h => h.elim .inl (fun h => .inr (.inl h)))) ?_
            clear hK K
            try simp only [Act.put, List.getElem_toArray, List.getElem_cons_zero, List.getElem_cons_succ, List.setIfInBounds_toArray, List.set_cons_zero, List.set_cons_succ]
            have UN_vcaccccc := Lib.hid hu
            have HZ_vcaccccc := Lib.hid ((cc.block rb (Array.getElem?_eq_some_iff.1 HZ_vcacccc.out).1 (by show ¬ (rb = p ∨ rb = ps); omega)).trans HZ_vcacccc.out)
            have C_vcaccccc := Lib.hid (C_vcacccc.out.trans cc (fun i hi e => by have e : i = p ∨ i = ps := e; have := HWR.out; omega))
            have hs_vcaccccc : s ≤ vcaccccc.heap.size := Nat.le_trans hs_vcacccc cc.size
            have HM_vcaccccc := Lib.hid ((cc.block mb (Array.getElem?_eq_some_iff.1 HM_vcacccc.out).1 (by show ¬ (mb = p ∨ mb = ps); omega)).trans HM_vcacccc.out)
            clear hu cc UN_vcacccc HZ_vcacccc C_vcacccc hs_vcacccc HM_vcacccc
            refine reg_do 13 rfl (by kernel_rfl) (by kernel_rfl) ?_
            intro K hK
            go_simp
            refine (number_un UN_vcaccccc.out HN6.out HC7.out).mono ?_
            rintro e vcacccccc ⟨rfl, hu, cc⟩
            refine hK _ _ (cc.mono (fun k _ h => h.elim .inl (fun h => .inr (.inl h)))) ?_
            clear hK K
            try simp only [Act.put, List.getElem_toArray, List.getElem_cons_zero, List.getElem_cons_succ, List.setIfInBounds_toArray, List.set_cons_zero, List.set_cons_succ]
            have UN_vcacccccc := Lib.hid hu
            have HZ_vcacccccc := Lib.hid ((cc.block rb (Array.getElem?_eq_some_iff.1 HZ_vcaccccc.out).1 (by show ¬ (rb = p ∨ rb = ps); omega)).trans HZ_vcaccccc.out)
            have C_vcacccccc := Lib.hid (C_vcaccccc.out.trans cc (fun i hi e => by have e : i = p ∨ i = ps := e; have := HWR.out; omega))
            have hs_vcacccccc : s ≤ vcacccccc.heap.size := Nat.le_trans hs_vcaccccc cc.size
            have HM_vcacccccc := Lib.hid ((cc.block mb (Array.getElem?_eq_some_iff.1 HM_vcaccccc.out).1 (by show ¬ (mb = p ∨ mb = ps); omega)).trans HM_vcaccccc.out)
            clear hu cc UN_vcaccccc HZ_vcaccccc C_vcaccccc hs_vcaccccc HM_vcaccccc
            refine reg_do 15 rfl (by kernel_rfl) (by kernel_rfl) ?_
            intro K hK
            go_simp
            refine (number_un UN_vcacccccc.out HN7.out HC8.out).mono ?_
            rintro e vcaccccccc ⟨rfl, hu, cc⟩
            refine hK _ _ (cc.mono (fun k _ h => h.elim .inl (fun h => .inr (.inl h)))) ?_
            clear hK K
            try simp only [Act.put, List.getElem_toArray, List.getElem_cons_zero, List.getElem_cons_succ, List.setIfInBounds_toArray, List.set_cons_zero, List.set_cons_succ]
            have UN_vcaccccccc := Lib.hid hu
            have HZ_vcaccccccc := Lib.hid ((cc.block rb (Array.getElem?_eq_some_iff.1 HZ_vcacccccc.out).1 (by show ¬ (rb = p ∨ rb = ps); omega)).trans HZ_vcacccccc.out)
            have C_vcaccccccc := Lib.hid (C_vcacccccc.out.trans cc (fun i hi e => by have e : i = p ∨ i = ps := e; have := HWR.out; omega))
            have hs_vcaccccccc : s ≤ vcaccccccc.heap.size := Nat.le_trans hs_vcacccccc cc.size
            have HM_vcaccccccc := Lib.hid ((cc.block mb (Array.getElem?_eq_some_iff.1 HM_vcacccccc.out).1 (by show ¬ (mb = p ∨ mb = ps); omega)).trans HM_vcacccccc.out)
            clear hu cc UN_vcacccccc HZ_vcacccccc C_vcacccccc hs_vcacccccc HM_vcacccccc
            refine reg_take 16 (v := ?_) rfl (by kernel_rfl) (by kernel_rfl) (by kernel_rfl) (fun _ _ _ h => h) (by kernel_rfl) ?_ ?_
            rotate_left
            · (intro w' hS; go_simp; (try go_bits); (try with_reducible rfl))
            try simp only [Act.put, List.getElem_toArray, List.getElem_cons_zero, List.getElem_cons_succ, List.setIfInBounds_toArray, List.set_cons_zero, List.set_cons_succ]
            have ff : ∀ j, vcaccccccc.frozen? ⟨mb, j, none⟩ = false := fun j => free_at HM_vcaccccccc.out
            have r0 := msg_cell HM_vcaccccccc.out 0
            have r1 := msg_cell HM_vcaccccccc.out 1
            have r2 := msg_cell HM_vcaccccccc.out 2
            have r3 := msg_cell HM_vcaccccccc.out 3
            have r4 := msg_cell HM_vcaccccccc.out 4
            have r5 := msg_cell HM_vcaccccccc.out 5
            have r6 := msg_cell HM_vcaccccccc.out 6
            have r7 := msg_cell HM_vcaccccccc.out 7
            have r8 := msg_cell HM_vcaccccccc.out 8
            obtain ⟨n9, m9⟩ := nine HM_vcaccccccc.out (.int .i64 (numM y0)) (.int .u64 (y1 : Int)) (.int .i64 (numM y2)) (.int .i64 (numM y3)) (.int .i64 (numM y4)) (.int .u64 (y5 : Int)) (.int .i64 (numM y6)) (.int .i64 (numM y7)) (.slice none 0 0)
            have UN_z := Lib.hid (UN_vcaccccccc.out.frame n9 (by show ¬ p = mb; omega) (by show ¬ ps = mb; omega) (by show ¬ pc = mb; omega) (fun a ha e => HAM.out a ha e))
            have HZ_z := Lib.hid ((n9.block rb (Array.getElem?_eq_some_iff.1 HZ_vcaccccccc.out).1 (by show ¬ rb = mb; omega)).trans HZ_vcaccccccc.out)
            have C_z := Lib.hid (C_vcaccccccc.out.trans n9 (fun i hi e => by have e : i = mb := e; have := HWR.out; omega))
            have M_z := Lib.hid m9
            have N_z := Lib.hid n9
            clear m9 n9 UN_vcaccccccc HZ_vcaccccccc C_vcaccccccc HM_vcaccccccc
            refine reg_do 18 rfl (by kernel_rfl) (by kernel_rfl) ?_
            intro K hK
            go_simp
            refine hK _ _ (N_z.out.mono (fun k _ (e : k = mb) => .inr (.inr (by omega)))) ?_
            clear hK K
            try simp only [Act.put, List.getElem_toArray, List.getElem_cons_zero, List.getElem_cons_succ, List.setIfInBounds_toArray, List.set_cons_zero, List.set_cons_succ]
            refine wpAnyH_done (by kernel_rfl) ?_ _
            go_wp2_with (fail)
            go_meet
            exact ⟨mb, rfl, M_z, UN_z, HZ_z, C_z, hb1, hb2, hb3, hb4, HAM⟩
        · intro K hK
          go_simp
          refine hK _ _ ((Chg.refl _ _).alloc _) ?_
          clear hK K
          try simp only [Act.put, List.getElem_toArray, List.getElem_cons_zero, List.getElem_cons_succ, List.setIfInBounds_toArray, List.set_cons_zero, List.set_cons_succ]
          have ca : Chg Pure' v (v.alloc (.cells #[.int .i64 0, .int .u64 0, .int .i64 0, .int .i64 0, .int .i64 0, .int .u64 0, .int .i64 0, .int .i64 0, .slice none 0 0] 25)) := (Chg.refl _ _).alloc _
          have UN_va := Lib.hid (UN_v.out.pure ca)
          have HZ_va := Lib.hid ((ca.block rb (Array.getElem?_eq_some_iff.1 HZ_v.out).1 (fun h => h)).trans HZ_v.out)
          have C_va := Lib.hid (C_v.out.pure ca)
          have HM_va := Lib.hid (heap_alloc_new v (.cells #[.int .i64 0, .int .u64 0, .int .i64 0, .int .i64 0, .int .i64 0, .int .u64 0, .int .i64 0, .int .i64 0, .slice none 0 0] 25))
          have hb1 : ps < v.heap.size := (Array.getElem?_eq_some_iff.1 UN_v.out.sblk).1
          have hb2 : p < v.heap.size := UN_v.out.cur.lt
          have hb3 : rb < v.heap.size := (Array.getElem?_eq_some_iff.1 HZ_v.out).1
          have hb4 : pc < v.heap.size := World.block_lt_of_cell? v _ UN_v.out.pcc
          have HAM : Hid (∀ a, A = some a → a.block ≠ v.heap.size) := Lib.hid (fun a ha => by have := HAL.out a ha; omega)
          have hb5 : s ≤ v.heap.size := hs_v
          have hs_va : s ≤ (v.alloc (.cells #[.int .i64 0, .int .u64 0, .int .i64 0, .int .i64 0, .int .i64 0, .int .u64 0, .int .i64 0, .int .i64 0, .slice none 0 0] 25)).heap.size := Nat.le_trans hs_v ca.size
          clear ca UN_v HZ_v C_v hs_v
          generalize (v.alloc (.cells #[.int .i64 0, .int .u64 0, .int .i64 0, .int .i64 0, .int .i64 0, .int .u64 0, .int .i64 0, .int .i64 0, .slice none 0 0] 25)) = va at *
          generalize v.heap.size = mb at *
          refine reg_do 1 rfl (by kernel_rfl) (by kernel_rfl) ?_
          intro K hK
          go_simp
          refine (number_un UN_va.out HN0.out HC1.out).mono ?_
          rintro e vac ⟨rfl, hu, cc⟩
          refine hK _ _ (cc.mono (fun k _ h => h.elim .inl (fun h => .inr (.inl h)))) ?_
          clear hK K
          try simp only [Act.put, List.getElem_toArray, List.getElem_cons_zero, List.getElem_cons_succ, List.setIfInBounds_toArray, List.set_cons_zero, List.set_cons_succ]
          have UN_vac := Lib.hid hu
          have HZ_vac := Lib.hid ((cc.block rb (Array.getElem?_eq_some_iff.1 HZ_va.out).1 (by show ¬ (rb = p ∨ rb = ps); omega)).trans HZ_va.out)
          have C_vac := Lib.hid (C_va.out.trans cc (fun i hi e => by have e : i = p ∨ i = ps := e; have := HWR.out; omega))
          have hs_vac : s ≤ vac.heap.size := Nat.le_trans hs_va cc.size
          have HM_vac := Lib.hid ((cc.block mb (Array.getElem?_eq_some_iff.1 HM_va.out).1 (by show ¬ (mb = p ∨ mb = ps); omega)).trans HM_va.out)
          clear hu cc UN_va HZ_va C_va hs_va HM_va
          refine reg_do 3 rfl (by kernel_rfl) (by kernel_rfl) ?_
          intro K hK
          go_simp
          refine (short_un UN_vac.out HN1.out HC2.out).mono ?_
          rintro e vacc ⟨rfl, hu, cc⟩
          refine hK _ _ (cc.mono (fun k _ h => h.elim .inl (fun h => .inr (.inl h)))) ?_
          clear hK K
          try simp only [Act.put, List.getElem_toArray, List.getElem_cons_zero, List.getElem_cons_succ, List.setIfInBounds_toArray, List.set_cons_zero, List.set_cons_succ]
          have UN_vacc := Lib.hid hu
          have HZ_vacc := Lib.hid ((cc.block rb (Array.getElem?_eq_some_iff.1 HZ_vac.out).1 (by show ¬ (rb = p ∨ rb = ps); omega)).trans HZ_vac.out)
          have C_vacc := Lib.hid (C_vac.out.trans cc (fun i hi e => by have e : i = p ∨ i = ps := e; have := HWR.out; omega))
          have hs_vacc : s ≤ vacc.heap.size := Nat.le_trans hs_vac cc.size
          have HM_vacc := Lib.hid ((cc.block mb (Array.getElem?_eq_some_iff.1 HM_vac.out).1 (by show ¬ (mb = p ∨ mb = ps); omega)).trans HM_vac.out)
          clear hu cc UN_vac HZ_vac C_vac hs_vac HM_vac
          refine reg_do 5 rfl (by kernel_rfl) (by kernel_rfl) ?_
          intro K hK
          go_simp
          refine (number_un UN_vacc.out HN2.out HC3.out).mono ?_
          rintro e vaccc ⟨rfl, hu, cc⟩
          refine hK _ _ (cc.mono (fun k _ h => h.elim .inl (fun h => .inr (.inl h)))) ?_
          clear hK K
          try simp only [Act.put, List.getElem_toArray, List.getElem_cons_zero, List.getElem_cons_succ, List.setIfInBounds_toArray, List.set_cons_zero, List.set_cons_succ]
          have UN_vaccc := Lib.hid hu
          have HZ_vaccc := Lib.hid ((cc.block rb (Array.getElem?_eq_some_iff.1 HZ_vacc.out).1 (by show ¬ (rb = p ∨ rb = ps); omega)).trans HZ_vacc.out)
          have C_vaccc := Lib.hid (C_vacc.out.trans cc (fun i hi e => by have e : i = p ∨ i = ps := e; have := HWR.out; omega))
          have hs_vaccc : s ≤ vaccc.heap.size := Nat.le_trans hs_vacc cc.size
          have HM_vaccc := Lib.hid ((cc.block mb (Array.getElem?_eq_some_iff.1 HM_vacc.out).1 (by show ¬ (mb = p ∨ mb = ps); omega)).trans HM_vacc.out)
          clear hu cc UN_vacc HZ_vacc C_vacc hs_vacc HM_vacc
          refine reg_do 7 rfl (by kernel_rfl) (by kernel_rfl) ?_
          intro K hK
          go_simp
          refine (number_un UN_vaccc.out HN3.out HC4.out).mono ?_
          rintro e vacccc ⟨rfl, hu, cc⟩
          refine hK _ _ (cc.mono (fun k _ h => h.elim .inl (fun h => .inr (.inl h)))) ?_
          clear hK K
          try simp only [Act.put, List.getElem_toArray, List.getElem_cons_zero, List.getElem_cons_succ, List.setIfInBounds_toArray, List.set_cons_zero, List.set_cons_succ]
          have UN_vacccc := Lib.hid hu
          have HZ_vacccc := Lib.hid ((cc.block rb (Array.getElem?_eq_some_iff.1 HZ_vaccc.out).1 (by show ¬ (rb = p ∨ rb = ps); omega)).trans HZ_vaccc.out)
          have C_vacccc := Lib.hid (C_vaccc.out.trans cc (fun i hi e => by have e : i = p ∨ i = ps := e; have := HWR.out; omega))
          have hs_vacccc : s ≤ vacccc.heap.size := Nat.le_trans hs_vaccc cc.size
          have HM_vacccc := Lib.hid ((cc.block mb (Array.getElem?_eq_some_iff.1 HM_vaccc.out).1 (by show ¬ (mb = p ∨ mb = ps); omega)).trans HM_vaccc.out)
          clear hu cc UN_vaccc HZ_vaccc C_vaccc hs_vaccc HM_vaccc
          refine reg_do 9 rfl (by kernel_rfl) (by kernel_rfl) ?_
          intro K hK
          go_simp
          refine (number_un UN_vacccc.out HN4.out HC5.out).mono ?_
          rintro e vaccccc ⟨rfl, hu, cc⟩
          refine hK _ _ (cc.mono (fun k _ h => h.elim .inl (fun h => .inr (.inl h)))) ?_
          clear hK K
          try simp only [Act.put, List.getElem_toArray, List.getElem_cons_zero, List.getElem_cons_succ, List.setIfInBounds_toArray, List.set_cons_zero, List.set_cons_succ]
          have UN_vaccccc := Lib.hid hu
          have HZ_vaccccc := Lib.hid ((cc.block rb (Array.getElem?_eq_some_iff.1 HZ_vacccc.out).1 (by show ¬ (rb = p ∨ rb = ps); omega)).trans HZ_vacccc.out)
          have C_vaccccc := Lib.hid (C_vacccc.out.trans cc (fun i hi e => by have e : i = p ∨ i = ps := e; have := HWR.out; omega))
          have hs_vaccccc : s ≤ vaccccc.heap.size := Nat.le_trans hs_vacccc cc.size
          have HM_vaccccc := Lib.hid ((cc.block mb (Array.getElem?_eq_some_iff.1 HM_vacccc.out).1 (by show ¬ (mb = p ∨ mb = ps); omega)).trans HM_vacccc.out)
          clear hu cc UN_vacccc HZ_vacccc C_vacccc hs_vacccc HM_vacccc
          refine reg_do 11 rfl (by kernel_rfl) (by kernel_rfl) ?_
          intro K hK
          go_simp
          refine (short_un UN_vaccccc.out HN5.out HC6.out).mono ?_
          rintro e vacccccc ⟨rfl, hu, cc⟩
          refine hK _ _ (cc.mono (fun k _ h => h.elim .inl (fun h => .inr (.inl h)))) ?_
          clear hK K
          try simp only [Act.put, List.getElem_toArray, List.getElem_cons_zero, List.getElem_cons_succ, List.setIfInBounds_toArray, List.set_cons_zero, List.set_cons_succ]
          have UN_vacccccc := Lib.hid hu
          have HZ_vacccccc := Lib.hid ((cc.block rb (Array.getElem?_eq_some_iff.1 HZ_vaccccc.out).1 (by show ¬ (rb = p ∨ rb = ps); omega)).trans HZ_vaccccc.out)
          have C_vacccccc := Lib.hid (C_vaccccc.out.trans cc (fun i hi e => by have e : i = p ∨ i = ps := e; have := HWR.out; omega))
          have hs_vacccccc : s ≤ vacccccc.heap.size := Nat.le_trans hs_vaccccc cc.size
          have HM_vacccccc := Lib.hid ((cc.block mb (Array.getElem?_eq_some_iff.1 HM_vaccccc.out).1 (by show ¬ (mb = p ∨ mb = ps); omega)).trans HM_vaccccc.out)
          clear hu cc UN_vaccccc HZ_vaccccc C_vaccccc hs_vaccccc HM_vaccccc
          refine reg_do 13 rfl (by kernel_rfl) (by kernel_rfl) ?_
          intro K hK
          go_simp
          refine (number_un UN_vacccccc.out HN6.out HC7.out).mono ?_
          rintro e vaccccccc ⟨rfl, hu, cc⟩
          refine hK _ _ (cc.mono (fun k _ h => h.elim .inl (fun h => .inr (.inl h)))) ?_
          clear hK K
          try simp only [Act.put, List.getElem_toArray, List.getElem_cons_zero, List.getElem_cons_succ, List.setIfInBounds_toArray, List.set_cons_zero, List.set_cons_succ]
          have UN_vaccccccc := Lib.hid hu
          have HZ_vaccccccc := Lib.hid ((cc.block rb (Array.getElem?_eq_some_iff.1 HZ_vacccccc.out).1 (by show ¬ (rb = p ∨ rb = ps); omega)).trans HZ_vacccccc.out)
          have C_vaccccccc := Lib.hid (C_vacccccc.out.trans cc (fun i hi e => by have e : i = p ∨ i = ps := e; have := HWR.out; omega))
          have hs_vaccccccc : s ≤ vaccccccc.heap.size := Nat.le_trans hs_vacccccc cc.size
          have HM_vaccccccc := Lib.hid ((cc.block mb (Array.getElem?_eq_some_iff.1 HM_vacccccc.out).1 (by show ¬ (mb = p ∨ mb = ps); omega)).trans HM_vacccccc.out)
          clear hu cc UN_vacccccc HZ_vacccccc C_vacccccc hs_vacccccc HM_vacccccc
          refine reg_do 15 rfl (by kernel_rfl) (by kernel_rfl) ?_
          intro K hK
          go_simp
          refine (number_un UN_vaccccccc.out HN7.out HC8.out).mono ?_
          rintro e vacccccccc ⟨rfl, hu, cc⟩
          refine hK _ _ (cc.mono (fun k _ h => h.elim .inl (fun h => .inr (.inl h)))) ?_
          clear hK K
          try simp only [Act.put, List.getElem_toArray, List.getElem_cons_zero, List.getElem_cons_succ, List.setIfInBounds_toArray, List.set_cons_zero, List.set_cons_succ]
          have UN_vacccccccc := Lib.hid hu
          have HZ_vacccccccc := Lib.hid ((cc.block rb (Array.getElem?_eq_some_iff.1 HZ_vaccccccc.out).1 (by show ¬ (rb = p ∨ rb = ps); omega)).trans HZ_vaccccccc.out)
          have C_vacccccccc := Lib.hid (C_vaccccccc.out.trans cc (fun i hi e => by have e : i = p ∨ i = ps := e; have := HWR.out; omega))
          have hs_vacccccccc : s ≤ vacccccccc.heap.size := Nat.le_trans hs_vaccccccc cc.size
          have HM_vacccccccc := Lib.hid ((cc.block mb (Array.getElem?_eq_some_iff.1 HM_vaccccccc.out).1 (by show ¬ (mb = p ∨ mb = ps); omega)).trans HM_vaccccccc.out)
          clear hu cc UN_vaccccccc HZ_vaccccccc C_vaccccccc hs_vaccccccc HM_vaccccccc
          refine reg_take 16 (v := ?_) rfl (by kernel_rfl) (by kernel_rfl) (by kernel_rfl) (fun _ _ _ h => h) (by kernel_rfl) ?_ ?_
          rotate_left
          · (intro w' hS; go_simp; (try go_bits); (try with_reducible rfl))
          try simp only [Act.put, List.getElem_toArray, List.getElem_cons_zero, List.getElem_cons_succ, List.setIfInBounds_toArray, List.set_cons_zero, List.set_cons_succ]
          have ff : ∀ j, vacccccccc.frozen? ⟨mb, j, none⟩ = false := fun j => free_at HM_vacccccccc.out
          have r0 := msg_cell HM_vacccccccc.out 0
          have r1 := msg_cell HM_vacccccccc.out 1
          have r2 := msg_cell HM_vacccccccc.out 2
          have r3 := msg_cell HM_vacccccccc.out 3
          have r4 := msg_cell HM_vacccccccc.out 4
          have r5 := msg_cell HM_vacccccccc.out 5
          have r6 := msg_cell HM_vacccccccc.out 6
          have r7 := msg_cell HM_vacccccccc.out 7
          have r8 := msg_cell HM_vacccccccc.out 8
          obtain ⟨n9, m9⟩ := nine HM_vacccccccc.out (.int .i64 (numM y0)) (.int .u64 (y1 : Int)) (.int .i64 (numM y2)) (.int .i64 (numM y3)) (.int .i64 (numM y4)) (.int .u64 (y5 : Int)) (.int .i64 (numM y6)) (.int .i64 (numM y7)) (.slice none 0 0)
          have UN_z := Lib.hid (UN_vacccccccc.out.frame n9 (by show ¬ p = mb; omega) (by show ¬ ps = mb; omega) (by show ¬ pc = mb; omega) (fun a ha e => HAM.out a ha e))
          have HZ_z := Lib.hid ((n9.block rb (Array.getElem?_eq_some_iff.1 HZ_vacccccccc.out).1 (by show ¬ rb = mb; omega)).trans HZ_vacccccccc.out)
          have C_z := Lib.hid (C_vacccccccc.out.trans n9 (fun i hi e => by have e : i = mb := e; have := HWR.out; omega))
          have M_z := Lib.hid m9
          have N_z := Lib.hid n9
          clear m9 n9 UN_vacccccccc HZ_vacccccccc C_vacccccccc HM_vacccccccc
          refine reg_do 18 rfl (by kernel_rfl) (by kernel_rfl) ?_
          intro K hK
          go_simp
          refine hK _ _ (N_z.out.mono (fun k _ (e : k = mb) => .inr (.inr (by omega)))) ?_
          clear hK K
          try simp only [Act.put, List.getElem_toArray, List.getElem_cons_zero, List.getElem_cons_succ, List.setIfInBounds_toArray, List.set_cons_zero, List.set_cons_succ]
          refine wpAnyH_done (by kernel_rfl) ?_ _
          go_wp2_with (fail)
          go_meet
          exact ⟨mb, rfl, M_z, UN_z, HZ_z, C_z, hb1, hb2, hb3, hb4, HAM⟩
      case rest =>
        obtain ⟨mb, rfl, HM, UN, HZ, CX, hb1, hb2, hb3, hb4, HAM⟩ := hcut
        have xp := UN.out.pcc
        have hpm : ¬ (pc = p ∨ pc = mb) := by intro h; rcases h with h | h; exact UN.out.n2 h; omega
        have HL8 := Lib.hid (cleft_any (UN.out.pure ((Chg.refl Pure' wc).drew)).cur)
        have HM1 : Hid (wc.drew.heap[mb]? = some (.cells #[.int .i64 (numM y0), .int .u64 (y1 : Int), .int .i64 (numM y2), .int .i64 (numM y3), .int .i64 (numM y4), .int .u64 (y5 : Int), .int .i64 (numM y6), .int .i64 (numM y7), .slice none 0 0] 25 (0, 0))) := Lib.hid HM.out
        have HZ1 : Hid (wc.drew.heap[rb]? = some (.cells #[.int .i64 0, .int .u64 0, .int .i64 0, .int .i64 0, .int .i64 0, .int .u64 0, .int .i64 0, .int .i64 0, .slice none 0 0] 25 (0, 0))) := Lib.hid HZ.out
        have UN1 := Lib.hid (UN.out.pure ((Chg.refl Pure' wc).drew))
        have CX1 := Lib.hid (CX.out.pure ((Chg.refl Pure' wc).drew))
        clear HM UN HZ CX
        go_wp2_with (fail)
        refine reg_begin (fun k => k = p ∨ k = mb) (by kernel_rfl) ?_
        refine reg_take 0 (v := ?_) rfl (by kernel_rfl) (by kernel_rfl) (by kernel_rfl) (fun _ _ _ h => h) (by kernel_rfl) ?_ ?_
        rotate_left
        · (intro w' hS; have hz := hS.cell (w := wc.drew) xp hpm; go_simp; (try go_bits); (try with_reducible rfl))
        try simp only [Act.put, List.getElem_toArray, List.getElem_cons_zero, List.getElem_cons_succ, List.setIfInBounds_toArray, List.set_cons_zero, List.set_cons_succ]
        refine reg_take 1 (v := ?_) rfl (by kernel_rfl) (by kernel_rfl) (by kernel_rfl) (fun _ _ _ h => h) (by kernel_rfl) ?_ ?_
        rotate_left
        · (intro w' hS; have hz := hS.cell (w := wc.drew) xp hpm; go_simp; (try go_bits); (try with_reducible rfl))
        try simp only [Act.put, List.getElem_toArray, List.getElem_cons_zero, List.getElem_cons_succ, List.setIfInBounds_toArray, List.set_cons_zero, List.set_cons_succ]
        refine reg_do 2 rfl (by kernel_rfl) (by kernel_rfl) ?_
        intro K hK
        go_simp
        refine HL8.out.mono ?_
        rintro e wd ⟨rfl, cd⟩
        refine hK _ _ (cd.of_pure) ?_
        clear hK K
        try simp only [Act.put, List.getElem_toArray, List.getElem_cons_zero, List.getElem_cons_succ, List.setIfInBounds_toArray, List.set_cons_zero, List.set_cons_succ]
        have HM2 := Lib.hid ((cd.block mb (Array.getElem?_eq_some_iff.1 HM1.out).1 (fun h => h)).trans HM1.out)
        have HZ2 := Lib.hid ((cd.block rb (Array.getElem?_eq_some_iff.1 HZ1.out).1 (fun h => h)).trans HZ1.out)
        have UN2 := Lib.hid (UN1.out.pure cd)
        have CX2 := Lib.hid (CX1.out.pure cd)
        have HT := Lib.hid (ctake_any UN2.out.cur ((c8.b.length : Int) - c8.pos) rfl)
        clear HM1 HZ1 UN1 CX1 cd HL8 xp hpm
        refine reg_do 3 rfl (by kernel_rfl) (by kernel_rfl) ?_
        intro K hK
        go_simp
        refine HT.out.mono ?_
        rintro e we ⟨B, mm, d, rfl, hmd, hbt, hfB, hct, ce⟩
        refine hK _ _ (ce.mono (fun k _ (e : k = p) => .inl e)) ?_
        clear hK K
        try simp only [Act.put, List.getElem_toArray, List.getElem_cons_zero, List.getElem_cons_succ, List.setIfInBounds_toArray, List.set_cons_zero, List.set_cons_succ]
        have HM3 := Lib.hid ((ce.block mb (Array.getElem?_eq_some_iff.1 HM2.out).1 (by show ¬ mb = p; omega)).trans HM2.out)
        have HZ3 := Lib.hid ((ce.block rb (Array.getElem?_eq_some_iff.1 HZ2.out).1 (by show ¬ rb = p; omega)).trans HZ2.out)
        have UN3 := Lib.hid (UN2.out.goes ce hct)
        have CX3 := Lib.hid (CX2.out.trans ce (fun i hi e => by have e : i = p := e; have := HWR.out; omega))
        have hszd := (Array.getElem?_eq_some_iff.1 HM2.out).1
        have x := msg_cell HM3.out 8
        have f : we.frozen? ⟨mb, 8, none⟩ = false := free_at HM3.out
        have cs := setC (w := we) mb 8 (.slice B mm d)
        have HM9 : Hid ((we.setCell ⟨mb, 8, none⟩ (.slice B mm d)).heap[mb]? = some (.cells #[.int .i64 (numM y0), .int .u64 (y1 : Int), .int .i64 (numM y2), .int .i64 (numM y3), .int .i64 (numM y4), .int .u64 (y5 : Int), .int .i64 (numM y6), .int .i64 (numM y7), .slice B mm d] 25 (0, 0))) := Lib.hid (msg_set HM3.out 8 (.slice B mm d))
        have HZ9 := Lib.hid ((cs.block rb (Array.getElem?_eq_some_iff.1 HZ3.out).1 (by show ¬ rb = mb; omega)).trans HZ3.out)
        have UN9 := Lib.hid (UN3.out.frame cs (by show ¬ p = mb; omega) (by show ¬ ps = mb; omega) (by show ¬ pc = mb; omega) (fun a ha e => HAM.out a ha e))
        have CX9 := Lib.hid (CX3.out.trans cs (fun i hi e => by have e : i = mb := e; have := HWR.out; omega))
        have HBT : Hid (c8.why = 0 → mm = c8.b.length - c8.pos ∧ Bytes (we.setCell ⟨mb, 8, none⟩ (.slice B mm d)) B mm (c8.b.drop c8.pos)) := Lib.hid (fun h => ⟨(hbt h).1, (hbt h).2.chg cs (fun a ha e => by have e : a.block = mb := e; have := hfB a ha; omega)⟩)
        have HFR : Hid (∀ a, B = some a → a.block ≠ rb) := Lib.hid (fun a ha e => by have := hfB a ha; omega)
        have HFB : Hid (From B w.heap.size) := Lib.hid (fun a ha => by have := hfB a ha; have := CX2.out.size; omega)
        have CS := Lib.hid (cs.mono (T := fun k => k = p ∨ k = mb) (fun k _ (e : k = mb) => .inr e))
        clear cs ce hct hbt hfB hszd HM2 HZ2 UN2 CX2 HM3 HZ3 UN3 CX3 HT
        refine reg_take 4 (v := ?_) rfl (by kernel_rfl) (by kernel_rfl) (by kernel_rfl) (fun _ _ _ h => h) (by kernel_rfl) ?_ ?_
        rotate_left
        · (intro w' hS; go_simp; (try go_bits); (try with_reducible rfl))
        try simp only [Act.put, List.getElem_toArray, List.getElem_cons_zero, List.getElem_cons_succ, List.setIfInBounds_toArray, List.set_cons_zero, List.set_cons_succ]
        refine reg_do 5 rfl (by kernel_rfl) (by kernel_rfl) ?_
        intro K hK
        go_simp
        refine hK _ _ (CS.out) ?_
        clear hK K
        try simp only [Act.put, List.getElem_toArray, List.getElem_cons_zero, List.getElem_cons_succ, List.setIfInBounds_toArray, List.set_cons_zero, List.set_cons_succ]
        refine wpAnyH_done (by kernel_rfl) ?_ _
        clear x f CS
        generalize (we.setCell ⟨mb, 8, none⟩ (.slice B mm d)) = W9 at *
        have hok := UN9.out.cur.ok.zero
        have hf := cfault_any UN9.out.cur
        rw [takeC_why] at hf hok
        have htold : told l = ([y0, y1, y2, y3, y4, y5, y6, y7], c8) := by
          unfold told
          simp only [HC0.out, HN0.out, HC1.out, HN1.out, HC2.out, HN2.out, HC3.out, HN3.out, HC4.out, HN4.out, HC5.out, HN5.out, HC6.out, HN6.out, HC7.out, HN7.out, HC8.out]
        have HB8 := Lib.hid (show c8.b = l by rw [← HC8.out, shortC_b, ← HC7.out, shortC_b, ← HC6.out, shortC_b, ← HC5.out, shortC_b, ← HC4.out, shortC_b, ← HC3.out, shortC_b, ← HC2.out, shortC_b, ← HC1.out, shortC_b, ← HC0.out])
        have HTM := Lib.hid (tell_made htold)
        have xp := UN9.out.pcc
        clear htold HC0 HN0 HC1 HN1 HC2 HN2 HC3 HN3 HC4 HN4 HC5 HN5 HC6 HN6 HC7 HN7 HC8
        by_cases hw : c8.why = 0
        · rw [hok hw, hw] at hf
          have HF := Lib.hid hf
          obtain ⟨hmm, hbt⟩ := HBT.out hw
          have HBM := Lib.hid hbt
          have HMM := Lib.hid hmm
          clear hf hok hbt hmm HBT
          go_wp2_with (fail)
          refine HF.out.mono ?_
          rintro e W10 ⟨rfl, cf⟩
          have HM10 := Lib.hid ((cf.block mb (Array.getElem?_eq_some_iff.1 HM9.out).1 (fun h => h)).trans HM9.out)
          have HZ10 := Lib.hid ((cf.block rb (Array.getElem?_eq_some_iff.1 HZ9.out).1 (fun h => h)).trans HZ9.out)
          have CX10 := Lib.hid (CX9.out.pure cf)
          have HB10 := Lib.hid (HBM.out.pure cf)
          have hsb := (UN9.out.pure cf).sblk
          have xs := cell_of_row W10 ps 0 _ _ _ hsb
          obtain ⟨sm, hsm⟩ : ∃ sm, ((((((true && small y0) && small y2) && small y3) && small y4) && small y6) && small y7) = sm := ⟨_, rfl⟩
          rw [hsm] at xs
          clear hsb cf HF UN9 HM9 HZ9 CX9 HBM xp
          cases sm with
          | false =>
            have hmb : (madeM y0 y1 y2 y3 y4 y5 y6 y7 (l.drop c8.pos)).may = false := by
              cases hmb : (madeM y0 y1 y2 y3 y4 y5 y6 y7 (l.drop c8.pos)).may with
              | false => rfl
              | true =>
                obtain ⟨s1, s2, s3, s4, s5, s6⟩ := made_small hmb
                exfalso
                revert hsm
                simp [small, s1, s2, s3, s4, s5, s6]
            have htm := HTM.out
            have hu : unpackB b = .error 5 := by rw [HU.out, htm, if_neg (by rw [hmb]; simp)]
            have HU := Lib.hid hu
            clear htm hu hmb hsm HTM HB10 HM10
            have ff : ∀ j, W10.frozen? ⟨rb, j, none⟩ = false := fun j => free_at HZ10.out
            have r0 := msg_cell HZ10.out 0
            have r1 := msg_cell HZ10.out 1
            have r2 := msg_cell HZ10.out 2
            have r3 := msg_cell HZ10.out 3
            have r4 := msg_cell HZ10.out 4
            have r5 := msg_cell HZ10.out 5
            have r6 := msg_cell HZ10.out 6
            have r7 := msg_cell HZ10.out 7
            have r8 := msg_cell HZ10.out 8
            obtain ⟨n9, m9⟩ := nine HZ10.out (.int .i64 0) (.int .u64 0) (.int .i64 0) (.int .i64 0) (.int .i64 0) (.int .u64 0) (.int .i64 0) (.int .i64 0) (.slice none 0 0)
            have N9 := Lib.hid n9
            have M9 := Lib.hid m9
            clear n9 m9
            go_wp2
            have hq0 := fun j => msg_cell M9.out j
            refine bodyPost_ret (v := .tuple #[.agg #[.int .i64 0, .int .u64 0, .int .i64 0, .int .i64 0, .int .i64 0, .int .u64 0, .int .i64 0, .int .i64 0, .slice none 0 0], .int .i64 5]) ?_ rfl (bad 5 _ HU.out (CX10.out.trans N9.out (fun i hi e => by have e : i = rb := e; have := HWR.out; omega)))
            unfold results
            go_simp
          | true =>
            have hss : y0 ≤ 4611686018427387904 ∧ y2 ≤ 4611686018427387904 ∧ y3 ≤ 4611686018427387904 ∧ y4 ≤ 4611686018427387904 ∧ y6 ≤ 4611686018427387904 ∧ y7 ≤ 4611686018427387904 := by
              simp only [small, Bool.true_and, Bool.and_eq_true, decide_eq_true_eq] at hsm
              omega
            obtain ⟨s1, s2, s3, s4, s5, s6⟩ := hss
            have hmay := fun w => lmay_any (madeM y0 y1 y2 y3 y4 y5 y6 y7 (l.drop c8.pos)) B mm d w
            have hmv : (madeM y0 y1 y2 y3 y4 y5 y6 y7 (l.drop c8.pos)).val B mm d = .agg #[.int .i64 (numM y0), .int .u64 (y1 : Int), .int .i64 (numM y2), .int .i64 (numM y3), .int .i64 (numM y4), .int .u64 (y5 : Int), .int .i64 (numM y6), .int .i64 (numM y7), .slice B mm d] := by
              unfold Ms.val Ms.cells madeM
              simp only
              rw [u64_ofNat hlt1, u64_ofNat hlt5, numM_small s1, numM_small s2, numM_small s3, numM_small s4, numM_small s5, numM_small s6]
            rw [hmv] at hmay
            have hML : (madeM y0 y1 y2 y3 y4 y5 y6 y7 (l.drop c8.pos)).load = l.drop c8.pos := rfl
            have htm := HTM.out
            obtain ⟨MM, hMM⟩ : ∃ MM, madeM y0 y1 y2 y3 y4 y5 y6 y7 (l.drop c8.pos) = MM := ⟨_, rfl⟩
            rw [hMM] at hmay hmv hML htm
            have HMV := Lib.hid hmv
            have HML := Lib.hid hML
            clear hMM HTM hmv hML hsm s1 s2 s3 s4 s5 s6
            have m0 := msg_cell HM10.out 0
            have m1 := msg_cell HM10.out 1
            have m2 := msg_cell HM10.out 2
            have m3 := msg_cell HM10.out 3
            have m4 := msg_cell HM10.out 4
            have m5 := msg_cell HM10.out 5
            have m6 := msg_cell HM10.out 6
            have m7 := msg_cell HM10.out 7
            have m8 := msg_cell HM10.out 8
            cases hmb : MM.may with
            | false =>
              rw [hmb] at hmay htm
              have hu : unpackB b = .error 5 := by rw [HU.out, htm, if_neg (by simp)]
              have HMY := Lib.hid (hmay W10)
              have HU := Lib.hid hu
              clear hmay htm hu hmb
              go_wp2_with (fail)
              refine HMY.out.mono ?_
              rintro e W11 ⟨rfl, c11⟩
              have HZ11 := Lib.hid ((c11.block rb (Array.getElem?_eq_some_iff.1 HZ10.out).1 (fun h => h)).trans HZ10.out)
              have CX11 := Lib.hid (CX10.out.pure c11)
              clear c11 HMY m0 m1 m2 m3 m4 m5 m6 m7 m8 xs HZ10 CX10 HM10 HB10
              have ff : ∀ j, W11.frozen? ⟨rb, j, none⟩ = false := fun j => free_at HZ11.out
              have r0 := msg_cell HZ11.out 0
              have r1 := msg_cell HZ11.out 1
              have r2 := msg_cell HZ11.out 2
              have r3 := msg_cell HZ11.out 3
              have r4 := msg_cell HZ11.out 4
              have r5 := msg_cell HZ11.out 5
              have r6 := msg_cell HZ11.out 6
              have r7 := msg_cell HZ11.out 7
              have r8 := msg_cell HZ11.out 8
              obtain ⟨n9, m9⟩ := nine HZ11.out (.int .i64 0) (.int .u64 0) (.int .i64 0) (.int .i64 0) (.int .i64 0) (.int .u64 0) (.int .i64 0) (.int .i64 0) (.slice none 0 0)
              have N9 := Lib.hid n9
              have M9 := Lib.hid m9
              clear n9 m9
              go_wp2
              have hq0 := fun j => msg_cell M9.out j
              refine bodyPost_ret (v := .tuple #[.agg #[.int .i64 0, .int .u64 0, .int .i64 0, .int .i64 0, .int .i64 0, .int .u64 0, .int .i64 0, .int .i64 0, .slice none 0 0], .int .i64 5]) ?_ rfl (bad 5 _ HU.out (CX11.out.trans N9.out (fun i hi e => by have e : i = rb := e; have := HWR.out; omega)))
              unfold results
              go_simp
            | true =>
              rw [hmb] at hmay htm
              have hu : unpackB b = .ok MM := by rw [HU.out, htm, if_pos ⟨hw, rfl⟩]
              have HMY := Lib.hid (hmay W10)
              have HU5 := Lib.hid hu
              clear hmay htm hu hmb
              go_wp2_with (fail)
              refine HMY.out.mono ?_
              rintro e W11 ⟨rfl, c11⟩
              have HZ11 := Lib.hid ((c11.block rb (Array.getElem?_eq_some_iff.1 HZ10.out).1 (fun h => h)).trans HZ10.out)
              have CX11 := Lib.hid (CX10.out.pure c11)
              have q0 := c11.cell m0 (fun h => h)
              have q1 := c11.cell m1 (fun h => h)
              have q2 := c11.cell m2 (fun h => h)
              have q3 := c11.cell m3 (fun h => h)
              have q4 := c11.cell m4 (fun h => h)
              have q5 := c11.cell m5 (fun h => h)
              have q6 := c11.cell m6 (fun h => h)
              have q7 := c11.cell m7 (fun h => h)
              have q8 := c11.cell m8 (fun h => h)
              have HB11 := Lib.hid (HB10.out.pure c11)
              clear c11 HMY m0 m1 m2 m3 m4 m5 m6 m7 m8 xs HZ10 CX10 HM10 HB10
              have ff : ∀ j, W11.frozen? ⟨rb, j, none⟩ = false := fun j => free_at HZ11.out
              have r0 := msg_cell HZ11.out 0
              have r1 := msg_cell HZ11.out 1
              have r2 := msg_cell HZ11.out 2
              have r3 := msg_cell HZ11.out 3
              have r4 := msg_cell HZ11.out 4
              have r5 := msg_cell HZ11.out 5
              have r6 := msg_cell HZ11.out 6
              have r7 := msg_cell HZ11.out 7
              have r8 := msg_cell HZ11.out 8
              obtain ⟨n9, m9⟩ := nine HZ11.out (.int .i64 (numM y0)) (.int .u64 (y1 : Int)) (.int .i64 (numM y2)) (.int .i64 (numM y3)) (.int .i64 (numM y4)) (.int .u64 (y5 : Int)) (.int .i64 (numM y6)) (.int .i64 (numM y7)) (.slice B mm d)
              have N9 := Lib.hid n9
              have M9 := Lib.hid m9
              clear n9 m9
              go_wp2
              have hq0 := fun j => msg_cell M9.out j
              have CF : Chg Pure' w _ := CX11.out.trans N9.out (fun i hi e => by have e : i = rb := e; have := HWR.out; omega)
              have hlen : MM.load.length = mm := by rw [HMM.out, HML.out, HB8.out]; simp
              have hbf := HB11.out.chg N9.out (fun a ha e => HFR.out a ha e)
              have hres := unpack_good HU5.out CF (A := B) (q := d) (by rw [hlen, HML.out, ← HB8.out]; exact hbf) (by rw [hlen]; exact hmd) HFB.out
              rw [hlen, HMV.out] at hres
              refine bodyPost_ret (v := .tuple #[.agg #[.int .i64 (numM y0), .int .u64 (y1 : Int), .int .i64 (numM y2), .int .i64 (numM y3), .int .i64 (numM y4), .int .u64 (y5 : Int), .int .i64 (numM y6), .int .i64 (numM y7), .slice B mm d], .int .i64 0]) ?_ rfl hres
              unfold results
              go_simp
        · have i3 : ((c8.why : Int) == 0) = false := by rw [beq_eq_false_iff_ne]; omega
          have i4 : ((c8.why : Int) = 0) = False := eq_false (by omega)
          have htm := HTM.out
          have hu : unpackB b = .error 5 := by rw [HU.out, htm, if_neg (fun h => hw h.1)]
          have HU := Lib.hid hu
          have HF := Lib.hid hf
          clear htm hu HTM HBT hf hok
          go_wp2_with (fail)
          refine HF.out.mono ?_
          rintro e W10 ⟨rfl, cf⟩
          have HZ10 := Lib.hid ((cf.block rb (Array.getElem?_eq_some_iff.1 HZ9.out).1 (fun h => h)).trans HZ9.out)
          have CX10 := Lib.hid (CX9.out.pure cf)
          clear cf HF UN9 HM9 HZ9 CX9 xp
          generalize (takeC c8).fat = tf at *
          have ff : ∀ j, W10.frozen? ⟨rb, j, none⟩ = false := fun j => free_at HZ10.out
          have r0 := msg_cell HZ10.out 0
          have r1 := msg_cell HZ10.out 1
          have r2 := msg_cell HZ10.out 2
          have r3 := msg_cell HZ10.out 3
          have r4 := msg_cell HZ10.out 4
          have r5 := msg_cell HZ10.out 5
          have r6 := msg_cell HZ10.out 6
          have r7 := msg_cell HZ10.out 7
          have r8 := msg_cell HZ10.out 8
          obtain ⟨n9, m9⟩ := nine HZ10.out (.int .i64 0) (.int .u64 0) (.int .i64 0) (.int .i64 0) (.int .i64 0) (.int .u64 0) (.int .i64 0) (.int .i64 0) (.slice none 0 0)
          have N9 := Lib.hid n9
          have M9 := Lib.hid m9
          clear n9 m9
          go_wp2
          have hq0 := fun j => msg_cell M9.out j
          refine bodyPost_ret (v := .tuple #[.agg #[.int .i64 0, .int .u64 0, .int .i64 0, .int .i64 0, .int .i64 0, .int .u64 0, .int .i64 0, .int .i64 0, .slice none 0 0], .int .i64 5]) ?_ rfl (bad 5 _ HU.out (CX10.out.trans N9.out (fun i hi e => by have e : i = rb := e; have := HWR.out; omega)))
          unfold results
          go_simp
  · have hu : unpackB b = .error 4 := unpackB_none (fun l h => by rw [hls] at h; exact absurd (by rw [h]; rfl) h1)
    have HU := Lib.hid hu
    have i1 : ((ls.length : Int) != 1) = true := by rw [bne_iff_ne]; omega
    clear hu HLD hls h1
    generalize ls.length = nls at *
    have ff : ∀ j, w1.frozen? ⟨rb, j, none⟩ = false := fun j => free_at HZ1.out
    have r0 := msg_cell HZ1.out 0
    have r1 := msg_cell HZ1.out 1
    have r2 := msg_cell HZ1.out 2
    have r3 := msg_cell HZ1.out 3
    have r4 := msg_cell HZ1.out 4
    have r5 := msg_cell HZ1.out 5
    have r6 := msg_cell HZ1.out 6
    have r7 := msg_cell HZ1.out 7
    have r8 := msg_cell HZ1.out 8
    obtain ⟨n9, m9⟩ := nine HZ1.out (.int .i64 0) (.int .u64 0) (.int .i64 0) (.int .i64 0) (.int .i64 0) (.int .u64 0) (.int .i64 0) (.int .i64 0) (.slice none 0 0)
    have N9 := Lib.hid n9
    have M9 := Lib.hid m9
    clear n9 m9
    go_wp2
    have hq0 := fun j => msg_cell M9.out j
    refine bodyPost_ret (v := .tuple #[.agg #[.int .i64 0, .int .u64 0, .int .i64 0, .int .i64 0, .int .i64 0, .int .u64 0, .int .i64 0, .int .i64 0, .slice none 0 0], .int .i64 4]) ?_ rfl (bad 4 _ HU.out (C1.out.trans N9.out (fun i hi e => by have e : i = rb := e; have := HWR.out; omega)))
    unfold results
    go_simp
end Go.Proofs.Ytnpkpfcljkekfaa
