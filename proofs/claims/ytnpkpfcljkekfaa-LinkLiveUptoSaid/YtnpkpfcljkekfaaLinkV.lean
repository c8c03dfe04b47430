/- A datagram is forged. -/
import Derived.Test.YtnpkpfcljkekfaaLinkU
import Derived.Test.YtnpkpfcljkekfaaLinkF
namespace Go.Proofs.Ytnpkpfcljkekfaa
open Go Go.RowKit
set_option linter.unusedVariables false
set_option maxRecDepth 100000
set_option linter.unusedSimpArgs false

set_option maxHeartbeats 8000000 in
theorem lforge_ok0 {w : World} {B : Base} {col : Nat → Nat} {L : Lm} (h : LinkAt w B col L) (A : Option Addr) (n c : Nat) (xs : List UInt8) (hA : Bytes w A n xs) (hc : n ≤ c) :
    Calls Try.prog 56 #[.pointer (some ⟨L.p, 0, none⟩), .int .i64 0, .slice A n c] w (outPost w B L.p (if 1208 < n then (8, L.pl) else if (unpR xs).2 = 0 ∧ (unpR xs).1.token = L.token then (1, L.pl) else (0, { L.pl with G0 := putG L.pl.G0 (xs, true) }))) := by
  have H := Lib.hid (lok_any h)
  have x5 := h.lk.c5
  by_cases hbig : 1208 < n
  · rw [if_pos hbig]
    have i1 : (1208 : Int) < (n : Int) := by omega
    have H0 := Lib.hid h
    clear h hA
    go_enter Try.func56, Try.ntmps56
    go_wp2_with (fail)
    refine H.out.mono ?_
    rintro e w1 ⟨rfl, rfl⟩
    go_wp2
    go_ret
    exact ⟨rfl, LinkIn.mk H0.out rfl rfl, Chg.refl _ _⟩
  · rw [if_neg hbig]
    have i1 : ((1208 : Int) < (n : Int)) = False := eq_false (by omega)
    have H0 := Lib.hid h
    have HUP := Lib.hid (lunpack_any A n c xs w hA hc (by omega))
    have HAA := Lib.hid hA
    have HLEN := Lib.hid hA.len
    clear h hA
    obtain ⟨⟨mm, ee⟩, hU⟩ : ∃ u, unpR xs = u := ⟨_, rfl⟩
    rw [hU]
    have HU := Lib.hid hU
    clear hU
    obtain ⟨R, hR⟩ : ∃ R, (if ((mm, ee) : Ms × Int).2 = 0 ∧ ((mm, ee) : Ms × Int).1.token = L.token then ((1 : Int), L.pl) else (0, { L.pl with G0 := putG L.pl.G0 (xs, true) })) = R := ⟨_, rfl⟩
    rw [hR]
    simp only at hR
    have HRR := Lib.hid hR
    clear hR
    go_enter Try.func56, Try.ntmps56
    go_wp2_with (fail)
    refine H.out.mono ?_
    rintro e w1 ⟨rfl, rfl⟩
    go_wp2_with (fail)
    refine HUP.out.mono ?_
    rintro e w4 ⟨c4, A4, q4, rfl, hb4, hq4, hA4⟩
    rw [HU.out] at hb4 hq4 ⊢
    simp only at hb4 hq4
    try simp only
    unfold Ms.val Ms.cells
    obtain ⟨w5, hw5⟩ : ∃ w5, w4.alloc (.cells (mm.cells A4 mm.load.length q4) 25) = w5 := ⟨_, rfl⟩
    have ca : Chg Pure' w4 w5 := by rw [← hw5]; exact (Chg.refl _ _).alloc _
    have hm4 : w5.heap[w4.heap.size]? = some (.cells (mm.cells A4 mm.load.length q4) 25 (0, 0)) := by rw [← hw5]; exact heap_alloc_new w4 _
    unfold Ms.cells at hw5
    have HW5 := Lib.hid hw5
    have HM5 := Lib.hid hm4
    have HL5 := Lib.hid ((H0.out.pure c4).pure ca)
    have C5 := Lib.hid (c4.pure ca)
    have y1 : w5.cell? ⟨w4.heap.size, 1, none⟩ = some (.int .u64 (mm.token.toNat : Int)) := by rw [msg_cell hm4 1]; rfl
    clear hm4 ca c4 hb4 hA4 x5 HUP H hw5
    go_upto_region 8 with (fail)
    rw [HW5.out]
    clear HW5
    generalize w4.heap.size = tb at *
    have x0 := HL5.out.lk.c0
    have hxl := HLEN.out
    subst hxl
    by_cases hyes : ee = 0 ∧ mm.token = L.token
    · obtain ⟨he, ht⟩ := hyes
      subst he
      have i4 : ((mm.token.toNat : Int) == (L.token.toNat : Int)) = true := by rw [ht]; simp
      have HT := Lib.hid ht
      clear ht
      go_quiet (fail)
      have cq : Chg Pure' w5 (w5.drewN nq) := (Chg.refl _ w5).drewN _
      go_wp2
      go_ret
      rw [← HRR.out, if_pos ⟨by first | rfl | trivial, HT.out⟩]
      exact ⟨rfl, LinkIn.mk (HL5.out.pure cq) rfl rfl, Chg.of_pure (C5.out.pure cq)⟩
    · have HY := Lib.hid hyes
      have hcase : (ee == 0) = false ∨ ((ee == 0) = true ∧ ((mm.token.toNat : Int) == (L.token.toNat : Int)) = false) := by
        by_cases he : ee = 0
        · refine .inr ⟨by rw [he]; rfl, ?_⟩
          rw [beq_eq_false_iff_ne]
          intro e
          exact hyes ⟨he, UInt64.toNat_inj.1 (by omega)⟩
        · exact .inl (by rw [beq_eq_false_iff_ne]; exact he)
      clear hyes
      have hw6 : ∀ w6, Chg Pure' w5 w6 → LinkAt w6 B col L := fun w6 c => HL5.out.pure c
      have HW6 := Lib.hid hw6
      clear hw6
      have KEY : ∀ w6, Chg Pure' w5 w6 → Bytes w6.drew A xs.length xs := fun w6 c => (HAA.out.pure (C5.out.pure c)).drew
      have HKEY := Lib.hid KEY
      clear KEY
      rcases hcase with i4 | ⟨i4, i5⟩
      · go_quiet (fail)
        have cq : Chg Pure' w5 (w5.drewN nq) := (Chg.refl _ w5).drewN _
        have C6 := Lib.hid (C5.out.pure cq)
        have H6 := Lib.hid ((HW6.out _ cq).pure ((Chg.refl Pure' _).drew))
        have HB6 := Lib.hid (HKEY.out _ cq)
        clear HKEY HW6 HL5 HM5 y1 x0 cq
        generalize w5.drewN nq = w6 at *
        have y5 := H6.out.lk.c5
        have yn := H6.out.nbk.c0
        have HCL := Lib.hid (clone_own A c xs.length xs w6.drew HB6.out (by omega))
        have hnp : ¬ (L.v0.ownBlock = some L.p ∨ L.p = L.g0) := by
          have h3 := H6.out.k3
          rintro (e | e)
          · have := H6.out.gr0.cv _ e; omega
          · have := H6.out.k5; rw [← e] at this; omega
        have hnn : ¬ (L.v0.ownBlock = some L.nb ∨ L.nb = L.g0) := by
          have h4 := H6.out.k4
          rintro (e | e)
          · have := H6.out.gr0.cv _ e; omega
          · have := H6.out.k5; rw [← e] at this; omega
        go_wp2_with (fail)
        refine reg_begin (fun k => L.v0.ownBlock = some k ∨ k = L.g0) (by kernel_rfl) ?_
        refine reg_take 0 (v := ?_) rfl (by kernel_rfl) (by kernel_rfl) (by kernel_rfl) (fun _ _ _ h => h) (by kernel_rfl) ?_ ?_
        rotate_left
        · (intro w' hS; go_simp; (try go_bits); (try with_reducible rfl))
        try simp only [Act.put, List.getElem_toArray, List.getElem_cons_zero, List.getElem_cons_succ, List.setIfInBounds_toArray, List.set_cons_zero, List.set_cons_succ]
        refine reg_take 1 (v := ?_) rfl (by kernel_rfl) (by kernel_rfl) (by kernel_rfl) (fun _ _ _ h => h) (by kernel_rfl) ?_ ?_
        rotate_left
        · (intro w' hS; go_simp; (try go_bits); (try with_reducible rfl))
        try simp only [Act.put, List.getElem_toArray, List.getElem_cons_zero, List.getElem_cons_succ, List.setIfInBounds_toArray, List.set_cons_zero, List.set_cons_succ]
        refine reg_take 2 (v := ?_) rfl (by kernel_rfl) (by kernel_rfl) (by kernel_rfl) (fun _ _ _ h => h) (by kernel_rfl) ?_ ?_
        rotate_left
        · (intro w' hS; go_simp; (try go_bits); (try with_reducible rfl))
        try simp only [Act.put, List.getElem_toArray, List.getElem_cons_zero, List.getElem_cons_succ, List.setIfInBounds_toArray, List.set_cons_zero, List.set_cons_succ]
        refine reg_take 3 (v := ?_) rfl (by kernel_rfl) (by kernel_rfl) (by kernel_rfl) (fun _ _ _ h => h) (by kernel_rfl) ?_ ?_
        rotate_left
        · (intro w' hS; have hz := hS.cell (w := w6.drew) y5 hnp; go_simp; (try go_bits); (try with_reducible rfl))
        try simp only [Act.put, List.getElem_toArray, List.getElem_cons_zero, List.getElem_cons_succ, List.setIfInBounds_toArray, List.set_cons_zero, List.set_cons_succ]
        refine reg_take 4 (v := ?_) rfl (by kernel_rfl) (by kernel_rfl) (by kernel_rfl) (fun _ _ _ h => h) (by kernel_rfl) ?_ ?_
        rotate_left
        · (intro w' hS; go_simp; (try go_bits); (try with_reducible rfl))
        try simp only [Act.put, List.getElem_toArray, List.getElem_cons_zero, List.getElem_cons_succ, List.setIfInBounds_toArray, List.set_cons_zero, List.set_cons_succ]
        refine reg_take 5 (v := ?_) rfl (by kernel_rfl) (by kernel_rfl) (by kernel_rfl) (fun _ _ _ h => h) (by kernel_rfl) ?_ ?_
        rotate_left
        · (intro w' hS; go_simp; (try go_bits); (try with_reducible rfl))
        try simp only [Act.put, List.getElem_toArray, List.getElem_cons_zero, List.getElem_cons_succ, List.setIfInBounds_toArray, List.set_cons_zero, List.set_cons_succ]
        refine reg_take 6 (v := ?_) rfl (by kernel_rfl) (by kernel_rfl) (by kernel_rfl) (fun _ _ _ h => h) (by kernel_rfl) ?_ ?_
        rotate_left
        · (intro w' hS; have hz := hS.cell (w := w6.drew) yn hnn; go_simp; (try go_bits); (try with_reducible rfl))
        try simp only [Act.put, List.getElem_toArray, List.getElem_cons_zero, List.getElem_cons_succ, List.setIfInBounds_toArray, List.set_cons_zero, List.set_cons_succ]
        refine reg_take 7 (v := ?_) rfl (by kernel_rfl) (by kernel_rfl) (by kernel_rfl) (fun _ _ _ h => h) (by kernel_rfl) ?_ ?_
        rotate_left
        · (intro w' hS; go_simp; (try go_bits); (try with_reducible rfl))
        try simp only [Act.put, List.getElem_toArray, List.getElem_cons_zero, List.getElem_cons_succ, List.setIfInBounds_toArray, List.set_cons_zero, List.set_cons_succ]
        refine reg_do 8 rfl (by kernel_rfl) (by kernel_rfl) ?_
        intro K hK
        go_simp
        refine HCL.out.mono ?_
        rintro e w7 ⟨v7, rfl, ho7, c7⟩
        refine hK _ _ (c7.of_pure) ?_
        clear hK K
        try simp only [Act.put, List.getElem_toArray, List.getElem_cons_zero, List.getElem_cons_succ, List.setIfInBounds_toArray, List.set_cons_zero, List.set_cons_succ]
        obtain ⟨A7, q7, rfl, hq7, -, hA7⟩ := own_slice ho7
        obtain ⟨A7', q7', hv7, -, hb7, -⟩ := Bytes.of_own ho7
        cases hv7
        have hL7 := H6.out.fresh c7 9
        have hG7 : GdAt w7 (paint col w6.drew.heap.size w7.heap.size 9) ⟨A7, q7, xs, true⟩ := ⟨hb7, hq7, by show xs.length ≤ 1208; omega, fun a ha => paint_new H6.out _ 9 _ (hA7 a ha).1 (hA7 a ha).2⟩
        have hne : L.v0.ownBlock ≠ some L.g0 := fun e => by have h1 := hL7.gr0.cv _ e; have h2 := hL7.k5; omega
        have HPT := Lib.hid (put_core hL7.n0 hL7.gr0.row ⟨A7, q7, xs, true⟩ hne hL7.base_le hL7.l0)
        have HL7 := Lib.hid hL7
        have HG7 := Lib.hid hG7
        have C7 := Lib.hid ((C6.out.drew).pure c7)
        clear hL7 hG7 hne ho7 hb7 c7 hA7 HCL
        refine reg_take 9 (v := ?_) rfl (by kernel_rfl) (by kernel_rfl) (by kernel_rfl) (fun _ _ _ h => h) (by kernel_rfl) ?_ ?_
        rotate_left
        · (intro w' hS; go_simp; (try go_bits); (try with_reducible rfl))
        try simp only [Act.put, List.getElem_toArray, List.getElem_cons_zero, List.getElem_cons_succ, List.setIfInBounds_toArray, List.set_cons_zero, List.set_cons_succ]
        refine reg_do 10 rfl (by kernel_rfl) (by kernel_rfl) ?_
        intro K hK
        go_simp
        refine HPT.out.mono ?_
        rintro e w8 ⟨rfl, v', hn8, hr8, hb8, c8⟩
        refine hK _ _ (c8) ?_
        clear hK K
        try simp only [Act.put, List.getElem_toArray, List.getElem_cons_zero, List.getElem_cons_succ, List.setIfInBounds_toArray, List.set_cons_zero, List.set_cons_succ]
        refine wpAnyH_done (by kernel_rfl) ?_ _
        have hL8 := HL7.out.net0 hn8 hr8 hb8 c8 (fun x hx => by
          rcases putG_mem hx with h | rfl
          · exact HL7.out.gr0.ds x h
          · exact HG7.out) (putG_len _ _ HL7.out.l0)
        have C8 : Chg (fun k => B.ok k) w w8 := C7.out.of_pure.trans' (c8.mono (fun k _ e => by
          rcases e with e | rfl
          · exact (HL7.out.own k (by rw [HL7.out.gr0.cv k e]; decide)).1
          · exact (HL7.out.own _ (by rw [HL7.out.k5]; decide)).1))
        have HL8 := Lib.hid hL8
        clear hL8 hn8 hr8 hb8 c8 HPT HL7 HG7 y5 yn
        go_wp2
        go_ret
        rw [← HRR.out, if_neg HY.out]
        refine ⟨rfl, LinkIn.mk HL8.out rfl ?_, C8⟩
        unfold Lm.pl
        simp only [putG_map]
      · go_quiet (fail)
        have cq : Chg Pure' w5 (w5.drewN nq) := (Chg.refl _ w5).drewN _
        have C6 := Lib.hid (C5.out.pure cq)
        have H6 := Lib.hid ((HW6.out _ cq).pure ((Chg.refl Pure' _).drew))
        have HB6 := Lib.hid (HKEY.out _ cq)
        clear HKEY HW6 HL5 HM5 y1 x0 cq
        generalize w5.drewN nq = w6 at *
        have y5 := H6.out.lk.c5
        have yn := H6.out.nbk.c0
        have HCL := Lib.hid (clone_own A c xs.length xs w6.drew HB6.out (by omega))
        have hnp : ¬ (L.v0.ownBlock = some L.p ∨ L.p = L.g0) := by
          have h3 := H6.out.k3
          rintro (e | e)
          · have := H6.out.gr0.cv _ e; omega
          · have := H6.out.k5; rw [← e] at this; omega
        have hnn : ¬ (L.v0.ownBlock = some L.nb ∨ L.nb = L.g0) := by
          have h4 := H6.out.k4
          rintro (e | e)
          · have := H6.out.gr0.cv _ e; omega
          · have := H6.out.k5; rw [← e] at this; omega
        go_wp2_with (fail)
        refine reg_begin (fun k => L.v0.ownBlock = some k ∨ k = L.g0) (by kernel_rfl) ?_
        refine reg_take 0 (v := ?_) rfl (by kernel_rfl) (by kernel_rfl) (by kernel_rfl) (fun _ _ _ h => h) (by kernel_rfl) ?_ ?_
        rotate_left
        · (intro w' hS; go_simp; (try go_bits); (try with_reducible rfl))
        try simp only [Act.put, List.getElem_toArray, List.getElem_cons_zero, List.getElem_cons_succ, List.setIfInBounds_toArray, List.set_cons_zero, List.set_cons_succ]
        refine reg_take 1 (v := ?_) rfl (by kernel_rfl) (by kernel_rfl) (by kernel_rfl) (fun _ _ _ h => h) (by kernel_rfl) ?_ ?_
        rotate_left
        · (intro w' hS; go_simp; (try go_bits); (try with_reducible rfl))
        try simp only [Act.put, List.getElem_toArray, List.getElem_cons_zero, List.getElem_cons_succ, List.setIfInBounds_toArray, List.set_cons_zero, List.set_cons_succ]
        refine reg_take 2 (v := ?_) rfl (by kernel_rfl) (by kernel_rfl) (by kernel_rfl) (fun _ _ _ h => h) (by kernel_rfl) ?_ ?_
        rotate_left
        · (intro w' hS; go_simp; (try go_bits); (try with_reducible rfl))
        try simp only [Act.put, List.getElem_toArray, List.getElem_cons_zero, List.getElem_cons_succ, List.setIfInBounds_toArray, List.set_cons_zero, List.set_cons_succ]
        refine reg_take 3 (v := ?_) rfl (by kernel_rfl) (by kernel_rfl) (by kernel_rfl) (fun _ _ _ h => h) (by kernel_rfl) ?_ ?_
        rotate_left
        · (intro w' hS; have hz := hS.cell (w := w6.drew) y5 hnp; go_simp; (try go_bits); (try with_reducible rfl))
        try simp only [Act.put, List.getElem_toArray, List.getElem_cons_zero, List.getElem_cons_succ, List.setIfInBounds_toArray, List.set_cons_zero, List.set_cons_succ]
        refine reg_take 4 (v := ?_) rfl (by kernel_rfl) (by kernel_rfl) (by kernel_rfl) (fun _ _ _ h => h) (by kernel_rfl) ?_ ?_
        rotate_left
        · (intro w' hS; go_simp; (try go_bits); (try with_reducible rfl))
        try simp only [Act.put, List.getElem_toArray, List.getElem_cons_zero, List.getElem_cons_succ, List.setIfInBounds_toArray, List.set_cons_zero, List.set_cons_succ]
        refine reg_take 5 (v := ?_) rfl (by kernel_rfl) (by kernel_rfl) (by kernel_rfl) (fun _ _ _ h => h) (by kernel_rfl) ?_ ?_
        rotate_left
        · (intro w' hS; go_simp; (try go_bits); (try with_reducible rfl))
        try simp only [Act.put, List.getElem_toArray, List.getElem_cons_zero, List.getElem_cons_succ, List.setIfInBounds_toArray, List.set_cons_zero, List.set_cons_succ]
        refine reg_take 6 (v := ?_) rfl (by kernel_rfl) (by kernel_rfl) (by kernel_rfl) (fun _ _ _ h => h) (by kernel_rfl) ?_ ?_
        rotate_left
        · (intro w' hS; have hz := hS.cell (w := w6.drew) yn hnn; go_simp; (try go_bits); (try with_reducible rfl))
        try simp only [Act.put, List.getElem_toArray, List.getElem_cons_zero, List.getElem_cons_succ, List.setIfInBounds_toArray, List.set_cons_zero, List.set_cons_succ]
        refine reg_take 7 (v := ?_) rfl (by kernel_rfl) (by kernel_rfl) (by kernel_rfl) (fun _ _ _ h => h) (by kernel_rfl) ?_ ?_
        rotate_left
        · (intro w' hS; go_simp; (try go_bits); (try with_reducible rfl))
        try simp only [Act.put, List.getElem_toArray, List.getElem_cons_zero, List.getElem_cons_succ, List.setIfInBounds_toArray, List.set_cons_zero, List.set_cons_succ]
        refine reg_do 8 rfl (by kernel_rfl) (by kernel_rfl) ?_
        intro K hK
        go_simp
        refine HCL.out.mono ?_
        rintro e w7 ⟨v7, rfl, ho7, c7⟩
        refine hK _ _ (c7.of_pure) ?_
        clear hK K
        try simp only [Act.put, List.getElem_toArray, List.getElem_cons_zero, List.getElem_cons_succ, List.setIfInBounds_toArray, List.set_cons_zero, List.set_cons_succ]
        obtain ⟨A7, q7, rfl, hq7, -, hA7⟩ := own_slice ho7
        obtain ⟨A7', q7', hv7, -, hb7, -⟩ := Bytes.of_own ho7
        cases hv7
        have hL7 := H6.out.fresh c7 9
        have hG7 : GdAt w7 (paint col w6.drew.heap.size w7.heap.size 9) ⟨A7, q7, xs, true⟩ := ⟨hb7, hq7, by show xs.length ≤ 1208; omega, fun a ha => paint_new H6.out _ 9 _ (hA7 a ha).1 (hA7 a ha).2⟩
        have hne : L.v0.ownBlock ≠ some L.g0 := fun e => by have h1 := hL7.gr0.cv _ e; have h2 := hL7.k5; omega
        have HPT := Lib.hid (put_core hL7.n0 hL7.gr0.row ⟨A7, q7, xs, true⟩ hne hL7.base_le hL7.l0)
        have HL7 := Lib.hid hL7
        have HG7 := Lib.hid hG7
        have C7 := Lib.hid ((C6.out.drew).pure c7)
        clear hL7 hG7 hne ho7 hb7 c7 hA7 HCL
        refine reg_take 9 (v := ?_) rfl (by kernel_rfl) (by kernel_rfl) (by kernel_rfl) (fun _ _ _ h => h) (by kernel_rfl) ?_ ?_
        rotate_left
        · (intro w' hS; go_simp; (try go_bits); (try with_reducible rfl))
        try simp only [Act.put, List.getElem_toArray, List.getElem_cons_zero, List.getElem_cons_succ, List.setIfInBounds_toArray, List.set_cons_zero, List.set_cons_succ]
        refine reg_do 10 rfl (by kernel_rfl) (by kernel_rfl) ?_
        intro K hK
        go_simp
        refine HPT.out.mono ?_
        rintro e w8 ⟨rfl, v', hn8, hr8, hb8, c8⟩
        refine hK _ _ (c8) ?_
        clear hK K
        try simp only [Act.put, List.getElem_toArray, List.getElem_cons_zero, List.getElem_cons_succ, List.setIfInBounds_toArray, List.set_cons_zero, List.set_cons_succ]
        refine wpAnyH_done (by kernel_rfl) ?_ _
        have hL8 := HL7.out.net0 hn8 hr8 hb8 c8 (fun x hx => by
          rcases putG_mem hx with h | rfl
          · exact HL7.out.gr0.ds x h
          · exact HG7.out) (putG_len _ _ HL7.out.l0)
        have C8 : Chg (fun k => B.ok k) w w8 := C7.out.of_pure.trans' (c8.mono (fun k _ e => by
          rcases e with e | rfl
          · exact (HL7.out.own k (by rw [HL7.out.gr0.cv k e]; decide)).1
          · exact (HL7.out.own _ (by rw [HL7.out.k5]; decide)).1))
        have HL8 := Lib.hid hL8
        clear hL8 hn8 hr8 hb8 c8 HPT HL7 HG7 y5 yn
        go_wp2
        go_ret
        rw [← HRR.out, if_neg HY.out]
        refine ⟨rfl, LinkIn.mk HL8.out rfl ?_, C8⟩
        unfold Lm.pl
        simp only [putG_map]
set_option maxHeartbeats 8000000 in
theorem lforge_ok1 {w : World} {B : Base} {col : Nat → Nat} {L : Lm} (h : LinkAt w B col L) (A : Option Addr) (n c : Nat) (xs : List UInt8) (hA : Bytes w A n xs) (hc : n ≤ c) :
    Calls Try.prog 56 #[.pointer (some ⟨L.p, 0, none⟩), .int .i64 1, .slice A n c] w (outPost w B L.p (if 1208 < n then (8, L.pl) else if (unpR xs).2 = 0 ∧ (unpR xs).1.token = L.token then (1, L.pl) else (0, { L.pl with G1 := putG L.pl.G1 (xs, true) }))) := by
  have H := Lib.hid (lok_any h)
  have x5 := h.lk.c5
  by_cases hbig : 1208 < n
  · rw [if_pos hbig]
    have i1 : (1208 : Int) < (n : Int) := by omega
    have H0 := Lib.hid h
    clear h hA
    go_enter Try.func56, Try.ntmps56
    go_wp2_with (fail)
    refine H.out.mono ?_
    rintro e w1 ⟨rfl, rfl⟩
    go_wp2
    go_ret
    exact ⟨rfl, LinkIn.mk H0.out rfl rfl, Chg.refl _ _⟩
  · rw [if_neg hbig]
    have i1 : ((1208 : Int) < (n : Int)) = False := eq_false (by omega)
    have H0 := Lib.hid h
    have HUP := Lib.hid (lunpack_any A n c xs w hA hc (by omega))
    have HAA := Lib.hid hA
    have HLEN := Lib.hid hA.len
    clear h hA
    obtain ⟨⟨mm, ee⟩, hU⟩ : ∃ u, unpR xs = u := ⟨_, rfl⟩
    rw [hU]
    have HU := Lib.hid hU
    clear hU
    obtain ⟨R, hR⟩ : ∃ R, (if ((mm, ee) : Ms × Int).2 = 0 ∧ ((mm, ee) : Ms × Int).1.token = L.token then ((1 : Int), L.pl) else (0, { L.pl with G1 := putG L.pl.G1 (xs, true) })) = R := ⟨_, rfl⟩
    rw [hR]
    simp only at hR
    have HRR := Lib.hid hR
    clear hR
    go_enter Try.func56, Try.ntmps56
    go_wp2_with (fail)
    refine H.out.mono ?_
    rintro e w1 ⟨rfl, rfl⟩
    go_wp2_with (fail)
    refine HUP.out.mono ?_
    rintro e w4 ⟨c4, A4, q4, rfl, hb4, hq4, hA4⟩
    rw [HU.out] at hb4 hq4 ⊢
    simp only at hb4 hq4
    try simp only
    unfold Ms.val Ms.cells
    obtain ⟨w5, hw5⟩ : ∃ w5, w4.alloc (.cells (mm.cells A4 mm.load.length q4) 25) = w5 := ⟨_, rfl⟩
    have ca : Chg Pure' w4 w5 := by rw [← hw5]; exact (Chg.refl _ _).alloc _
    have hm4 : w5.heap[w4.heap.size]? = some (.cells (mm.cells A4 mm.load.length q4) 25 (0, 0)) := by rw [← hw5]; exact heap_alloc_new w4 _
    unfold Ms.cells at hw5
    have HW5 := Lib.hid hw5
    have HM5 := Lib.hid hm4
    have HL5 := Lib.hid ((H0.out.pure c4).pure ca)
    have C5 := Lib.hid (c4.pure ca)
    have y1 : w5.cell? ⟨w4.heap.size, 1, none⟩ = some (.int .u64 (mm.token.toNat : Int)) := by rw [msg_cell hm4 1]; rfl
    clear hm4 ca c4 hb4 hA4 x5 HUP H hw5
    go_upto_region 8 with (fail)
    rw [HW5.out]
    clear HW5
    generalize w4.heap.size = tb at *
    have x0 := HL5.out.lk.c0
    have hxl := HLEN.out
    subst hxl
    by_cases hyes : ee = 0 ∧ mm.token = L.token
    · obtain ⟨he, ht⟩ := hyes
      subst he
      have i4 : ((mm.token.toNat : Int) == (L.token.toNat : Int)) = true := by rw [ht]; simp
      have HT := Lib.hid ht
      clear ht
      go_quiet (fail)
      have cq : Chg Pure' w5 (w5.drewN nq) := (Chg.refl _ w5).drewN _
      go_wp2
      go_ret
      rw [← HRR.out, if_pos ⟨by first | rfl | trivial, HT.out⟩]
      exact ⟨rfl, LinkIn.mk (HL5.out.pure cq) rfl rfl, Chg.of_pure (C5.out.pure cq)⟩
    · have HY := Lib.hid hyes
      have hcase : (ee == 0) = false ∨ ((ee == 0) = true ∧ ((mm.token.toNat : Int) == (L.token.toNat : Int)) = false) := by
        by_cases he : ee = 0
        · refine .inr ⟨by rw [he]; rfl, ?_⟩
          rw [beq_eq_false_iff_ne]
          intro e
          exact hyes ⟨he, UInt64.toNat_inj.1 (by omega)⟩
        · exact .inl (by rw [beq_eq_false_iff_ne]; exact he)
      clear hyes
      have hw6 : ∀ w6, Chg Pure' w5 w6 → LinkAt w6 B col L := fun w6 c => HL5.out.pure c
      have HW6 := Lib.hid hw6
      clear hw6
      have KEY : ∀ w6, Chg Pure' w5 w6 → Bytes w6.drew A xs.length xs := fun w6 c => (HAA.out.pure (C5.out.pure c)).drew
      have HKEY := Lib.hid KEY
      clear KEY
      rcases hcase with i4 | ⟨i4, i5⟩
      · go_quiet (fail)
        have cq : Chg Pure' w5 (w5.drewN nq) := (Chg.refl _ w5).drewN _
        have C6 := Lib.hid (C5.out.pure cq)
        have H6 := Lib.hid ((HW6.out _ cq).pure ((Chg.refl Pure' _).drew))
        have HB6 := Lib.hid (HKEY.out _ cq)
        clear HKEY HW6 HL5 HM5 y1 x0 cq
        generalize w5.drewN nq = w6 at *
        have y5 := H6.out.lk.c5
        have yn := H6.out.nbk.c1
        have HCL := Lib.hid (clone_own A c xs.length xs w6.drew HB6.out (by omega))
        have hnp : ¬ (L.v1.ownBlock = some L.p ∨ L.p = L.g1) := by
          have h3 := H6.out.k3
          rintro (e | e)
          · have := H6.out.gr1.cv _ e; omega
          · have := H6.out.k6; rw [← e] at this; omega
        have hnn : ¬ (L.v1.ownBlock = some L.nb ∨ L.nb = L.g1) := by
          have h4 := H6.out.k4
          rintro (e | e)
          · have := H6.out.gr1.cv _ e; omega
          · have := H6.out.k6; rw [← e] at this; omega
        go_wp2_with (fail)
        refine reg_begin (fun k => L.v1.ownBlock = some k ∨ k = L.g1) (by kernel_rfl) ?_
        refine reg_take 0 (v := ?_) rfl (by kernel_rfl) (by kernel_rfl) (by kernel_rfl) (fun _ _ _ h => h) (by kernel_rfl) ?_ ?_
        rotate_left
        · (intro w' hS; go_simp; (try go_bits); (try with_reducible rfl))
        try simp only [Act.put, List.getElem_toArray, List.getElem_cons_zero, List.getElem_cons_succ, List.setIfInBounds_toArray, List.set_cons_zero, List.set_cons_succ]
        refine reg_take 1 (v := ?_) rfl (by kernel_rfl) (by kernel_rfl) (by kernel_rfl) (fun _ _ _ h => h) (by kernel_rfl) ?_ ?_
        rotate_left
        · (intro w' hS; go_simp; (try go_bits); (try with_reducible rfl))
        try simp only [Act.put, List.getElem_toArray, List.getElem_cons_zero, List.getElem_cons_succ, List.setIfInBounds_toArray, List.set_cons_zero, List.set_cons_succ]
        refine reg_take 2 (v := ?_) rfl (by kernel_rfl) (by kernel_rfl) (by kernel_rfl) (fun _ _ _ h => h) (by kernel_rfl) ?_ ?_
        rotate_left
        · (intro w' hS; go_simp; (try go_bits); (try with_reducible rfl))
        try simp only [Act.put, List.getElem_toArray, List.getElem_cons_zero, List.getElem_cons_succ, List.setIfInBounds_toArray, List.set_cons_zero, List.set_cons_succ]
        refine reg_take 3 (v := ?_) rfl (by kernel_rfl) (by kernel_rfl) (by kernel_rfl) (fun _ _ _ h => h) (by kernel_rfl) ?_ ?_
        rotate_left
        · (intro w' hS; have hz := hS.cell (w := w6.drew) y5 hnp; go_simp; (try go_bits); (try with_reducible rfl))
        try simp only [Act.put, List.getElem_toArray, List.getElem_cons_zero, List.getElem_cons_succ, List.setIfInBounds_toArray, List.set_cons_zero, List.set_cons_succ]
        refine reg_take 4 (v := ?_) rfl (by kernel_rfl) (by kernel_rfl) (by kernel_rfl) (fun _ _ _ h => h) (by kernel_rfl) ?_ ?_
        rotate_left
        · (intro w' hS; go_simp; (try go_bits); (try with_reducible rfl))
        try simp only [Act.put, List.getElem_toArray, List.getElem_cons_zero, List.getElem_cons_succ, List.setIfInBounds_toArray, List.set_cons_zero, List.set_cons_succ]
        refine reg_take 5 (v := ?_) rfl (by kernel_rfl) (by kernel_rfl) (by kernel_rfl) (fun _ _ _ h => h) (by kernel_rfl) ?_ ?_
        rotate_left
        · (intro w' hS; go_simp; (try go_bits); (try with_reducible rfl))
        try simp only [Act.put, List.getElem_toArray, List.getElem_cons_zero, List.getElem_cons_succ, List.setIfInBounds_toArray, List.set_cons_zero, List.set_cons_succ]
        refine reg_take 6 (v := ?_) rfl (by kernel_rfl) (by kernel_rfl) (by kernel_rfl) (fun _ _ _ h => h) (by kernel_rfl) ?_ ?_
        rotate_left
        · (intro w' hS; have hz := hS.cell (w := w6.drew) yn hnn; go_simp; (try go_bits); (try with_reducible rfl))
        try simp only [Act.put, List.getElem_toArray, List.getElem_cons_zero, List.getElem_cons_succ, List.setIfInBounds_toArray, List.set_cons_zero, List.set_cons_succ]
        refine reg_take 7 (v := ?_) rfl (by kernel_rfl) (by kernel_rfl) (by kernel_rfl) (fun _ _ _ h => h) (by kernel_rfl) ?_ ?_
        rotate_left
        · (intro w' hS; go_simp; (try go_bits); (try with_reducible rfl))
        try simp only [Act.put, List.getElem_toArray, List.getElem_cons_zero, List.getElem_cons_succ, List.setIfInBounds_toArray, List.set_cons_zero, List.set_cons_succ]
        refine reg_do 8 rfl (by kernel_rfl) (by kernel_rfl) ?_
        intro K hK
        go_simp
        refine HCL.out.mono ?_
        rintro e w7 ⟨v7, rfl, ho7, c7⟩
        refine hK _ _ (c7.of_pure) ?_
        clear hK K
        try simp only [Act.put, List.getElem_toArray, List.getElem_cons_zero, List.getElem_cons_succ, List.setIfInBounds_toArray, List.set_cons_zero, List.set_cons_succ]
        obtain ⟨A7, q7, rfl, hq7, -, hA7⟩ := own_slice ho7
        obtain ⟨A7', q7', hv7, -, hb7, -⟩ := Bytes.of_own ho7
        cases hv7
        have hL7 := H6.out.fresh c7 9
        have hG7 : GdAt w7 (paint col w6.drew.heap.size w7.heap.size 9) ⟨A7, q7, xs, true⟩ := ⟨hb7, hq7, by show xs.length ≤ 1208; omega, fun a ha => paint_new H6.out _ 9 _ (hA7 a ha).1 (hA7 a ha).2⟩
        have hne : L.v1.ownBlock ≠ some L.g1 := fun e => by have h1 := hL7.gr1.cv _ e; have h2 := hL7.k6; omega
        have HPT := Lib.hid (put_core hL7.n1 hL7.gr1.row ⟨A7, q7, xs, true⟩ hne hL7.base_le hL7.l1)
        have HL7 := Lib.hid hL7
        have HG7 := Lib.hid hG7
        have C7 := Lib.hid ((C6.out.drew).pure c7)
        clear hL7 hG7 hne ho7 hb7 c7 hA7 HCL
        refine reg_take 9 (v := ?_) rfl (by kernel_rfl) (by kernel_rfl) (by kernel_rfl) (fun _ _ _ h => h) (by kernel_rfl) ?_ ?_
        rotate_left
        · (intro w' hS; go_simp; (try go_bits); (try with_reducible rfl))
        try simp only [Act.put, List.getElem_toArray, List.getElem_cons_zero, List.getElem_cons_succ, List.setIfInBounds_toArray, List.set_cons_zero, List.set_cons_succ]
        refine reg_do 10 rfl (by kernel_rfl) (by kernel_rfl) ?_
        intro K hK
        go_simp
        refine HPT.out.mono ?_
        rintro e w8 ⟨rfl, v', hn8, hr8, hb8, c8⟩
        refine hK _ _ (c8) ?_
        clear hK K
        try simp only [Act.put, List.getElem_toArray, List.getElem_cons_zero, List.getElem_cons_succ, List.setIfInBounds_toArray, List.set_cons_zero, List.set_cons_succ]
        refine wpAnyH_done (by kernel_rfl) ?_ _
        have hL8 := HL7.out.net1 hn8 hr8 hb8 c8 (fun x hx => by
          rcases putG_mem hx with h | rfl
          · exact HL7.out.gr1.ds x h
          · exact HG7.out) (putG_len _ _ HL7.out.l1)
        have C8 : Chg (fun k => B.ok k) w w8 := C7.out.of_pure.trans' (c8.mono (fun k _ e => by
          rcases e with e | rfl
          · exact (HL7.out.own k (by rw [HL7.out.gr1.cv k e]; decide)).1
          · exact (HL7.out.own _ (by rw [HL7.out.k6]; decide)).1))
        have HL8 := Lib.hid hL8
        clear hL8 hn8 hr8 hb8 c8 HPT HL7 HG7 y5 yn
        go_wp2
        go_ret
        rw [← HRR.out, if_neg HY.out]
        refine ⟨rfl, LinkIn.mk HL8.out rfl ?_, C8⟩
        unfold Lm.pl
        simp only [putG_map]
      · go_quiet (fail)
        have cq : Chg Pure' w5 (w5.drewN nq) := (Chg.refl _ w5).drewN _
        have C6 := Lib.hid (C5.out.pure cq)
        have H6 := Lib.hid ((HW6.out _ cq).pure ((Chg.refl Pure' _).drew))
        have HB6 := Lib.hid (HKEY.out _ cq)
        clear HKEY HW6 HL5 HM5 y1 x0 cq
        generalize w5.drewN nq = w6 at *
        have y5 := H6.out.lk.c5
        have yn := H6.out.nbk.c1
        have HCL := Lib.hid (clone_own A c xs.length xs w6.drew HB6.out (by omega))
        have hnp : ¬ (L.v1.ownBlock = some L.p ∨ L.p = L.g1) := by
          have h3 := H6.out.k3
          rintro (e | e)
          · have := H6.out.gr1.cv _ e; omega
          · have := H6.out.k6; rw [← e] at this; omega
        have hnn : ¬ (L.v1.ownBlock = some L.nb ∨ L.nb = L.g1) := by
          have h4 := H6.out.k4
          rintro (e | e)
          · have := H6.out.gr1.cv _ e; omega
          · have := H6.out.k6; rw [← e] at this; omega
        go_wp2_with (fail)
        refine reg_begin (fun k => L.v1.ownBlock = some k ∨ k = L.g1) (by kernel_rfl) ?_
        refine reg_take 0 (v := ?_) rfl (by kernel_rfl) (by kernel_rfl) (by kernel_rfl) (fun _ _ _ h => h) (by kernel_rfl) ?_ ?_
        rotate_left
        · (intro w' hS; go_simp; (try go_bits); (try with_reducible rfl))
        try simp only [Act.put, List.getElem_toArray, List.getElem_cons_zero, List.getElem_cons_succ, List.setIfInBounds_toArray, List.set_cons_zero, List.set_cons_succ]
        refine reg_take 1 (v := ?_) rfl (by kernel_rfl) (by kernel_rfl) (by kernel_rfl) (fun _ _ _ h => h) (by kernel_rfl) ?_ ?_
        rotate_left
        · (intro w' hS; go_simp; (try go_bits); (try with_reducible rfl))
        try simp only [Act.put, List.getElem_toArray, List.getElem_cons_zero, List.getElem_cons_succ, List.setIfInBounds_toArray, List.set_cons_zero, List.set_cons_succ]
        refine reg_take 2 (v := ?_) rfl (by kernel_rfl) (by kernel_rfl) (by kernel_rfl) (fun _ _ _ h => h) (by kernel_rfl) ?_ ?_
        rotate_left
        · (intro w' hS; go_simp; (try go_bits); (try with_reducible rfl))
        try simp only [Act.put, List.getElem_toArray, List.getElem_cons_zero, List.getElem_cons_succ, List.setIfInBounds_toArray, List.set_cons_zero, List.set_cons_succ]
        refine reg_take 3 (v := ?_) rfl (by kernel_rfl) (by kernel_rfl) (by kernel_rfl) (fun _ _ _ h => h) (by kernel_rfl) ?_ ?_
        rotate_left
        · (intro w' hS; have hz := hS.cell (w := w6.drew) y5 hnp; go_simp; (try go_bits); (try with_reducible rfl))
        try simp only [Act.put, List.getElem_toArray, List.getElem_cons_zero, List.getElem_cons_succ, List.setIfInBounds_toArray, List.set_cons_zero, List.set_cons_succ]
        refine reg_take 4 (v := ?_) rfl (by kernel_rfl) (by kernel_rfl) (by kernel_rfl) (fun _ _ _ h => h) (by kernel_rfl) ?_ ?_
        rotate_left
        · (intro w' hS; go_simp; (try go_bits); (try with_reducible rfl))
        try simp only [Act.put, List.getElem_toArray, List.getElem_cons_zero, List.getElem_cons_succ, List.setIfInBounds_toArray, List.set_cons_zero, List.set_cons_succ]
        refine reg_take 5 (v := ?_) rfl (by kernel_rfl) (by kernel_rfl) (by kernel_rfl) (fun _ _ _ h => h) (by kernel_rfl) ?_ ?_
        rotate_left
        · (intro w' hS; go_simp; (try go_bits); (try with_reducible rfl))
        try simp only [Act.put, List.getElem_toArray, List.getElem_cons_zero, List.getElem_cons_succ, List.setIfInBounds_toArray, List.set_cons_zero, List.set_cons_succ]
        refine reg_take 6 (v := ?_) rfl (by kernel_rfl) (by kernel_rfl) (by kernel_rfl) (fun _ _ _ h => h) (by kernel_rfl) ?_ ?_
        rotate_left
        · (intro w' hS; have hz := hS.cell (w := w6.drew) yn hnn; go_simp; (try go_bits); (try with_reducible rfl))
        try simp only [Act.put, List.getElem_toArray, List.getElem_cons_zero, List.getElem_cons_succ, List.setIfInBounds_toArray, List.set_cons_zero, List.set_cons_succ]
        refine reg_take 7 (v := ?_) rfl (by kernel_rfl) (by kernel_rfl) (by kernel_rfl) (fun _ _ _ h => h) (by kernel_rfl) ?_ ?_
        rotate_left
        · (intro w' hS; go_simp; (try go_bits); (try with_reducible rfl))
        try simp only [Act.put, List.getElem_toArray, List.getElem_cons_zero, List.getElem_cons_succ, List.setIfInBounds_toArray, List.set_cons_zero, List.set_cons_succ]
        refine reg_do 8 rfl (by kernel_rfl) (by kernel_rfl) ?_
        intro K hK
        go_simp
        refine HCL.out.mono ?_
        rintro e w7 ⟨v7, rfl, ho7, c7⟩
        refine hK _ _ (c7.of_pure) ?_
        clear hK K
        try simp only [Act.put, List.getElem_toArray, List.getElem_cons_zero, List.getElem_cons_succ, List.setIfInBounds_toArray, List.set_cons_zero, List.set_cons_succ]
        obtain ⟨A7, q7, rfl, hq7, -, hA7⟩ := own_slice ho7
        obtain ⟨A7', q7', hv7, -, hb7, -⟩ := Bytes.of_own ho7
        cases hv7
        have hL7 := H6.out.fresh c7 9
        have hG7 : GdAt w7 (paint col w6.drew.heap.size w7.heap.size 9) ⟨A7, q7, xs, true⟩ := ⟨hb7, hq7, by show xs.length ≤ 1208; omega, fun a ha => paint_new H6.out _ 9 _ (hA7 a ha).1 (hA7 a ha).2⟩
        have hne : L.v1.ownBlock ≠ some L.g1 := fun e => by have h1 := hL7.gr1.cv _ e; have h2 := hL7.k6; omega
        have HPT := Lib.hid (put_core hL7.n1 hL7.gr1.row ⟨A7, q7, xs, true⟩ hne hL7.base_le hL7.l1)
        have HL7 := Lib.hid hL7
        have HG7 := Lib.hid hG7
        have C7 := Lib.hid ((C6.out.drew).pure c7)
        clear hL7 hG7 hne ho7 hb7 c7 hA7 HCL
        refine reg_take 9 (v := ?_) rfl (by kernel_rfl) (by kernel_rfl) (by kernel_rfl) (fun _ _ _ h => h) (by kernel_rfl) ?_ ?_
        rotate_left
        · (intro w' hS; go_simp; (try go_bits); (try with_reducible rfl))
        try simp only [Act.put, List.getElem_toArray, List.getElem_cons_zero, List.getElem_cons_succ, List.setIfInBounds_toArray, List.set_cons_zero, List.set_cons_succ]
        refine reg_do 10 rfl (by kernel_rfl) (by kernel_rfl) ?_
        intro K hK
        go_simp
        refine HPT.out.mono ?_
        rintro e w8 ⟨rfl, v', hn8, hr8, hb8, c8⟩
        refine hK _ _ (c8) ?_
        clear hK K
        try simp only [Act.put, List.getElem_toArray, List.getElem_cons_zero, List.getElem_cons_succ, List.setIfInBounds_toArray, List.set_cons_zero, List.set_cons_succ]
        refine wpAnyH_done (by kernel_rfl) ?_ _
        have hL8 := HL7.out.net1 hn8 hr8 hb8 c8 (fun x hx => by
          rcases putG_mem hx with h | rfl
          · exact HL7.out.gr1.ds x h
          · exact HG7.out) (putG_len _ _ HL7.out.l1)
        have C8 : Chg (fun k => B.ok k) w w8 := C7.out.of_pure.trans' (c8.mono (fun k _ e => by
          rcases e with e | rfl
          · exact (HL7.out.own k (by rw [HL7.out.gr1.cv k e]; decide)).1
          · exact (HL7.out.own _ (by rw [HL7.out.k6]; decide)).1))
        have HL8 := Lib.hid hL8
        clear hL8 hn8 hr8 hb8 c8 HPT HL7 HG7 y5 yn
        go_wp2
        go_ret
        rw [← HRR.out, if_neg HY.out]
        refine ⟨rfl, LinkIn.mk HL8.out rfl ?_, C8⟩
        unfold Lm.pl
        simp only [putG_map]
end Go.Proofs.Ytnpkpfcljkekfaa
