/- The laws of layer 20: SessStays. -/
import Derived.Test.YtpfnphkgmjgmeaaL20Q
import Derived.Test.YtpfnphkgmjgmeaaL20A
namespace Go.Proofs.Ytpfnphkgmjgmeaa
open Go Go.RowKit
set_option linter.unusedVariables false
set_option linter.unusedSimpArgs false

theorem and255 (a : Int) : 0 ≤ bits .and .i64 a 255 ∧ bits .and .i64 a 255 ≤ 255 := by
  have e : bits .and .i64 a 255 = IntKind.i64.wrap ((BitVec.ofInt 64 a &&& BitVec.ofInt 64 255).toNat : Int) := rfl
  have h : (BitVec.ofInt 64 a &&& BitVec.ofInt 64 255).toNat ≤ 255 := by
    rw [BitVec.toNat_and]
    exact Nat.le_trans Nat.and_le_right (by decide)
  rw [e, IntKind.wrap_i64]
  omega
set_option maxRecDepth 100000 in
set_option maxHeartbeats 8000000 in
theorem law_SessStays (a : Int) (A : Option Addr) (n c : Nat) (xs : List UInt8) (B : Option Addr) (m dd : Nat) (ys : List UInt64) (w : World) (ha : -9223372036854775808 ≤ a ∧ a ≤ 9223372036854775807) (hA : Bytes w A n xs) (hc : n ≤ c) (hn : n ≤ 140737488351232) (hB : Words w B m ys) (hm : m ≤ 140737488351232) (hb : n ≤ 1048576) :
    Calls Try.prog 6 #[.int .i64 a, .slice A n c, .slice B m dd] w fun e w' => e = .returned (.bool true) ∧ Chg Pure' w w' := by
  have hz := zero_msg20
  have hr := and255 a
  have HA := Lib.hid hA
  have HB := Lib.hid hB
  clear hA hB
  go_enter Try.func6, Try.ntmps6
  go_wp2_with (fail)
  obtain ⟨r, hrr⟩ : ∃ r : Nat, bits .and .i64 a 255 = r := ⟨(bits .and .i64 a 255).toNat, by omega⟩
  rw [hrr] at hr ⊢
  clear hrr
  rw [show ((r : Int) + 1) = ((r + 1 : Nat) : Int) from by omega]
  refine (ownt_new 64 (r + 1) _ (by omega) (by omega) (by omega) (by omega)).mono ?_
  rintro e w1 ⟨rfl, s1⟩
  go_wp2_with (fail)
  refine (alive20 _).mono ?_
  rintro e w2 ⟨rfl, c2⟩
  obtain ⟨ub0, bs0, v0, t0, f0, C2⟩ := s1.pure c2
  have T2 := Lib.hid t0
  have F2 := Lib.hid f0
  clear s1 c2 t0 f0
  generalize hp : w.heap.size + 1 = p at *
  have htk : (9223372036854775809 : Int) = ((tkS.toNat : Nat) : Int) := rfl
  go_wp2_with (fail)
  refine (hello_msg 0 _).mono ?_
  rintro e w3 ⟨rfl, c3⟩
  go_wp2_with (fail)
  refine (hello_of (T2.out.pure c3) (helloM 0) tkS 0 (by omega)).mono ?_
  obtain ⟨g1, g2, g3⟩ := stay_new (r + 1)
  rintro e w4 ⟨rfl, c4, bs4, v4, h4, f4⟩
  rw [g1, Mg.val_eq]
  generalize (helloOf (newT 64 (r + 1)) (helloM 0) tkS 0).1.1 = rm at *
  have ca : Chg Pure' w4 (w4.alloc (.cells #[.int .i64 rm.kind, .int .u64 (rm.token.toNat : Int), .int .i64 rm.epoch, .int .i64 rm.seq, .int .i64 rm.ack, .int .u64 (rm.bits.toNat : Int), .int .i64 rm.credit, .int .i64 rm.format, .slice rm.A rm.n rm.c] 32)) := (Chg.refl _ w4).alloc _
  have T5 := Lib.hid (h4.pure ca)
  have S5 := Lib.hid g2
  have I5 := Lib.hid g3
  have C5 := ((C2.pure c3).trans c4 (fun i hi e => by have := F2.out i e; omega)).pure ca
  have F5 : Hid (∀ k, TFoot p ub0 bs4 v4 k → w.heap.size ≤ k) := Lib.hid (fun k hk => (f4 k hk).elim (fun h => F2.out k h) (fun h => by have := (C2.pure c3).size; omega))
  clear h4 c4 f4 ca c3 T2 F2 C2 g1 g2 g3
  generalize (helloOf (newT 64 (r + 1)) (helloM 0) tkS 0).2 = T0 at *
  go_wp2_with (fail)
  go_loopw [9, 49] (fun u i wr => ∃ (k ub : Nat) (bs : List Nat) (v : Value) (T : Tb) (t : Nat), k ≤ n ∧ i = .int .i64 k ∧ u = .int .i64 t ∧ t ≤ k * 256 ∧ Hid (TabOf wr p ub bs v T (k + 1)) ∧ Hid (Stay T t t) ∧ Hid (T.idle = r + 1) ∧ Hid (∀ k, TFoot p ub bs v k → w.heap.size ≤ k) ∧ Chg Pure' w wr) (fun _ i _ => n - (intOf i).toNat)
  case atStart => exact ⟨0, _, _, _, _, 0, Nat.zero_le _, rfl, rfl, Nat.zero_le _, T5, S5, I5, F5, C5⟩
  case round =>
    clear T5 S5 I5 F5 C5
    obtain ⟨k, ub, bs, v, T, t, hk, rfl, rfl, htb, HT, HS, HI, HF, hC⟩ := hrel
    by_cases hlt : k < n
    · obtain ⟨b, off, rfl, hcell⟩ := HA.out.cells (by omega)
      have hkx : k < xs.length := by have := HA.out.len; omega
      have e0 := hC.cell (hcell k hkx) (fun h => h)
      generalize xs[k] = g at *
      have hg := g.toNat_lt
      clear hcell
      have hq1 : 0 ≤ (g.toNat : Int) % ((r : Int) + 1 + 1) := Int.emod_nonneg _ (by omega)
      have hq2 : (g.toNat : Int) % ((r : Int) + 1 + 1) < (r : Int) + 1 + 1 := Int.emod_lt_of_pos _ (by omega)
      obtain ⟨q, hqe⟩ : ∃ q : Nat, (g.toNat : Int) % ((r : Int) + 1 + 1) = ((q : Nat) : Int) := ⟨((g.toNat : Int) % ((r : Int) + 1 + 1)).toNat, by omega⟩
      rw [hqe] at hq1 hq2
      obtain ⟨t2, ht2⟩ : ∃ t2, t + q = t2 := ⟨_, rfl⟩
      have hcap : ((t2 : Nat) : Int) ≤ 1099511627776 := by omega
      have hti : ((t : Nat) : Int) + ((q : Nat) : Int) = ((t2 : Nat) : Int) := by omega
      have S4 := Lib.hid (HS.out.up (hi' := ((t2 : Nat) : Int)) (by omega))
      have hle : ((t2 : Nat) : Int) ≤ ((t : Nat) : Int) + ((r + 1 : Nat) : Int) := by omega
      have hid4 := HI
      have F4 := HF
      have hk2 : t2 ≤ (k + 1) * 256 := by omega
      clear HS ht2
      by_cases hkm : k < m
      · obtain ⟨b2, off2, rfl, hcell2⟩ := HB.out.cells (by omega)
        have hkx2 : k < ys.length := by have := HB.out.len; omega
        have z00 := hcell2 k hkx2
        have z0 := hC.cell z00 (fun h => h)
        generalize ys[k] = o at *
        clear hcell2
        by_cases ho : o = tkS
        · have io : ((o.toNat : Int) != ((tkS.toNat : Nat) : Int)) = false := by
            rw [bne_eq_false_iff_eq, ho]
          have T4 := Lib.hid HT.out.more
          have C4 := hC
          clear HT hC HI HF ho
          go_wp2_with (fail)
          refine (hear_of T4.out hearS ((t2 : Nat) : Int)).mono ?_
          obtain ⟨g1, g2, g3⟩ := S4.out.hear hcap (by rw [hid4.out]; omega)
          rintro e w5 ⟨rfl, c5, bs5, v5, h5, f5⟩
          rw [g1]
          have C5 := C4.trans c5 (fun i hi e => by have := F4.out i e; omega)
          have F5 : Hid (∀ k, TFoot p ub bs5 v5 k → w.heap.size ≤ k) := Lib.hid (fun k hk => F4.out k (f5 k hk))
          have T5 := Lib.hid h5
          have S5 := Lib.hid g2
          have hid5 := Lib.hid (g3.trans hid4.out)
          clear h5 c5 f5 g1 g2 g3 T4 S4 hid4 C4 F4
          go_wp2
          go_roundw
          case rel => exact ⟨k + 1, ub, bs5, v5, _, t2, by omega, by go_num, rfl, by omega, T5, S5, hid5, F5, C5⟩
          case measure => simp [intOf]; omega
        · have io : ((o.toNat : Int) != ((tkS.toNat : Nat) : Int)) = true := by
            rw [bne_iff_ne]
            exact fun e => ho (UInt64.toNat_inj.1 (by omega))
          go_wp2_with (fail)
          refine reg_begin (fun k => w.heap.size ≤ k) (by kernel_rfl) ?_
          have T3 := Lib.hid (HT.out.pure (Chg.refl Pure' wr).drew)
          have hb2 : b2 < w.heap.size := by
            have := World.block_lt_of_cell? w _ z00
            exact this
          refine reg_take 0 (v := ?_) rfl (by kernel_rfl) (by kernel_rfl) (by kernel_rfl) (fun _ _ _ h => h) (by kernel_rfl) ?_ ?_
          rotate_left
          · (intro w' hS; go_simp; (try go_bits); (try with_reducible rfl))
          try simp only [Act.put, List.getElem_toArray, List.getElem_cons_zero, List.getElem_cons_succ, List.setIfInBounds_toArray, List.set_cons_zero, List.set_cons_succ]
          refine reg_take 2 (v := ?_) rfl (by kernel_rfl) (by kernel_rfl) (by kernel_rfl) (fun _ _ _ h => h) (by kernel_rfl) ?_ ?_
          rotate_left
          · (intro w' hS; go_simp; (try go_bits); (try with_reducible rfl))
          try simp only [Act.put, List.getElem_toArray, List.getElem_cons_zero, List.getElem_cons_succ, List.setIfInBounds_toArray, List.set_cons_zero, List.set_cons_succ]
          refine reg_take 3 (v := ?_) rfl (by kernel_rfl) (by kernel_rfl) (by kernel_rfl) (fun _ _ _ h => h) (by kernel_rfl) ?_ ?_
          rotate_left
          · (intro w' hS; go_simp; (try go_bits); (try with_reducible rfl))
          try simp only [Act.put, List.getElem_toArray, List.getElem_cons_zero, List.getElem_cons_succ, List.setIfInBounds_toArray, List.set_cons_zero, List.set_cons_succ]
          refine reg_take 4 (v := ?_) rfl (by kernel_rfl) (by kernel_rfl) (by kernel_rfl) (fun _ _ _ h => h) (by kernel_rfl) ?_ ?_
          rotate_left
          · (intro w' hS; go_simp; (try go_bits); (try with_reducible rfl))
          try simp only [Act.put, List.getElem_toArray, List.getElem_cons_zero, List.getElem_cons_succ, List.setIfInBounds_toArray, List.set_cons_zero, List.set_cons_succ]
          refine reg_take 5 (v := ?_) rfl (by kernel_rfl) (by kernel_rfl) (by kernel_rfl) (fun _ _ _ h => h) (by kernel_rfl) ?_ ?_
          rotate_left
          · (intro w' hS; have hz := hS.cell (w := wr.drew) z0 (fun h => by simp only at h; omega); go_simp; (try go_bits); (try with_reducible rfl))
          try simp only [Act.put, List.getElem_toArray, List.getElem_cons_zero, List.getElem_cons_succ, List.setIfInBounds_toArray, List.set_cons_zero, List.set_cons_succ]
          refine reg_take 6 (v := ?_) rfl (by kernel_rfl) (by kernel_rfl) (by kernel_rfl) (fun _ _ _ h => h) (by kernel_rfl) ?_ ?_
          rotate_left
          · (intro w' hS; go_simp; (try go_bits); (try with_reducible rfl))
          try simp only [Act.put, List.getElem_toArray, List.getElem_cons_zero, List.getElem_cons_succ, List.setIfInBounds_toArray, List.set_cons_zero, List.set_cons_succ]
          refine reg_do 1 rfl (by kernel_rfl) (by kernel_rfl) ?_
          intro K hK
          go_simp
          refine (hello_msg 0 _).mono ?_
          rintro e w3 ⟨rfl, c3⟩
          go_simp
          refine hK _ _ (c3.of_pure) ?_
          clear hK K
          try simp only [Act.put, List.getElem_toArray, List.getElem_cons_zero, List.getElem_cons_succ, List.setIfInBounds_toArray, List.set_cons_zero, List.set_cons_succ]
          refine reg_do 7 rfl (by kernel_rfl) (by kernel_rfl) ?_
          intro K hK
          go_simp
          refine (hello_of (T3.out.pure c3) (helloM 0) o ((t2 : Nat) : Int) (by omega)).mono ?_
          obtain ⟨g1, g2⟩ := S4.out.hello hcap (by rw [HI.out]; omega) o ho
          rintro e w4' ⟨rfl, c4, bs4', v4', h4, f4⟩
          go_simp
          refine hK _ _ (c4.mono (fun k _ h => HF.out k h)) ?_
          clear hK K
          try simp only [Act.put, List.getElem_toArray, List.getElem_cons_zero, List.getElem_cons_succ, List.setIfInBounds_toArray, List.set_cons_zero, List.set_cons_succ]
          refine wpAnyH_done (by kernel_rfl) ?_ _
          have hwr : w.heap.size ≤ w3.heap.size := by have := hC.size; have := c3.size; simp at this; omega
          have T4 := Lib.hid h4
          have C4 := ((hC.drew).pure c3).trans c4 (fun i hi e => by have := HF.out i e; omega)
          have F4 : Hid (∀ k, TFoot p ub bs4' v4' k → w.heap.size ≤ k) := Lib.hid (fun k hk => (f4 k hk).elim (fun h => HF.out k h) (fun h => by omega))
          have S4 := Lib.hid g1
          have hid4 := Lib.hid (g2.trans HI.out)
          generalize (helloOf T (helloM 0) o ((t2 : Nat) : Int)).2 = T1 at *
          generalize (helloOf T (helloM 0) o ((t2 : Nat) : Int)).1.1 = r1 at *
          generalize (helloOf T (helloM 0) o ((t2 : Nat) : Int)).1.2 = E1 at *
          clear h4 c4 c3 f4 g1 g2 HT hC HI HF ho T3 z0
          go_wp2_with (fail)
          refine (hear_of T4.out hearS ((t2 : Nat) : Int)).mono ?_
          obtain ⟨g1, g2, g3⟩ := S4.out.hear hcap (by rw [hid4.out]; omega)
          rintro e w5 ⟨rfl, c5, bs5, v5, h5, f5⟩
          rw [g1]
          have C5 := C4.trans c5 (fun i hi e => by have := F4.out i e; omega)
          have F5 : Hid (∀ k, TFoot p ub bs5 v5 k → w.heap.size ≤ k) := Lib.hid (fun k hk => F4.out k (f5 k hk))
          have T5 := Lib.hid h5
          have S5 := Lib.hid g2
          have hid5 := Lib.hid (g3.trans hid4.out)
          clear h5 c5 f5 g1 g2 g3 T4 S4 hid4 C4 F4
          go_wp2
          go_roundw
          case rel => exact ⟨k + 1, ub, bs5, v5, _, t2, by omega, by go_num, rfl, by omega, T5, S5, hid5, F5, C5⟩
          case measure => simp [intOf]; omega
      · have T4 := Lib.hid HT.out.more
        have C4 := hC
        clear HT hC HI HF
        go_wp2_with (fail)
        refine (hear_of T4.out hearS ((t2 : Nat) : Int)).mono ?_
        obtain ⟨g1, g2, g3⟩ := S4.out.hear hcap (by rw [hid4.out]; omega)
        rintro e w5 ⟨rfl, c5, bs5, v5, h5, f5⟩
        rw [g1]
        have C5 := C4.trans c5 (fun i hi e => by have := F4.out i e; omega)
        have F5 : Hid (∀ k, TFoot p ub bs5 v5 k → w.heap.size ≤ k) := Lib.hid (fun k hk => F4.out k (f5 k hk))
        have T5 := Lib.hid h5
        have S5 := Lib.hid g2
        have hid5 := Lib.hid (g3.trans hid4.out)
        clear h5 c5 f5 g1 g2 g3 T4 S4 hid4 C4 F4
        go_wp2
        go_roundw
        case rel => exact ⟨k + 1, ub, bs5, v5, _, t2, by omega, by go_num, rfl, by omega, T5, S5, hid5, F5, C5⟩
        case measure => simp [intOf]; omega
    · have hcap : ((t : Nat) : Int) + ((r + 1 : Nat) : Int) + 1 ≤ 1099511627776 := by omega
      have hth : (findOf (tickT T (((t : Nat) : Int) + ((r + 1 : Nat) : Int))).L tkS).2.2 = true := by
        have := HS.out.there (by rw [HI.out]; omega) (by omega)
        rwa [HI.out] at this
      have hgo : (tickT (tickT T (((t : Nat) : Int) + ((r + 1 : Nat) : Int))) (((t : Nat) : Int) + ((r + 1 : Nat) : Int) + 1)).L = [] := by
        have := HS.out.gone (by rw [HI.out]; exact hcap)
        rwa [HI.out] at this
      have HTH := Lib.hid hth
      have HGO := Lib.hid hgo
      have hr1 : (((r + 1 : Nat)) : Int) = (r : Int) + 1 := by omega
      rw [hr1] at HTH HGO
      clear hth hgo hr1
      go_wp2_with (fail)
      refine (tick_of HT.out ((t : Int) + ((r : Int) + 1))).mono ?_
      rintro e w5 ⟨ve, rfl, hve, c5, bs5, v5, h5, f5⟩
      obtain ⟨Be, qe, rfl, -, -, -⟩ := own_slice hve
      have C5 := hC.trans c5 (fun i hi e => by have := HF.out i e; omega)
      have F5 : Hid (∀ k, TFoot p ub bs5 v5 k → w.heap.size ≤ k) := Lib.hid (fun k hk => HF.out k (f5 k hk))
      have T5 := Lib.hid h5
      clear h5 c5 f5 hve
      go_wp2_with (fail)
      refine (tfind_any T5.out tkS).mono ?_
      rintro e w6 ⟨rfl, c6⟩
      rw [HTH.out]
      have T6 := Lib.hid (T5.out.pure c6)
      have C6 := C5.pure c6
      clear c6
      go_wp2_with (fail)
      refine (tick_of T6.out ((t : Int) + ((r : Int) + 1) + 1)).mono ?_
      rintro e w7 ⟨ve, rfl, hve, c7, bs7, v7, h7, f7⟩
      obtain ⟨Be2, qe2, rfl, -, -, -⟩ := own_slice hve
      have C7 := C6.trans c7 (fun i hi e => by have := F5.out i e; omega)
      have T7 := Lib.hid h7
      clear h7 c7 f7 hve
      go_wp2_with (fail)
      refine (tfind_any T7.out tkS).mono ?_
      rintro e w8 ⟨rfl, c8⟩
      rw [HGO.out, show findOf [] tkS = (0, 0, false) from rfl]
      have T8 := Lib.hid (T7.out.pure c8)
      have C8 := C7.pure c8
      go_wp2_with (fail)
      refine (tlive_any T8.out).mono ?_
      rintro e w9 ⟨rfl, rfl⟩
      rw [HGO.out]
      go_wp2
      go_ret
      exact ⟨rfl, C8⟩
end Go.Proofs.Ytpfnphkgmjgmeaa
