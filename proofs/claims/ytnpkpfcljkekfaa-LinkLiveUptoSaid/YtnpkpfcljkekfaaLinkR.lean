/- A datagram is delivered. -/
import Derived.Test.YtnpkpfcljkekfaaKG
import Derived.Test.YtnpkpfcljkekfaaLinkF
namespace Go.Proofs.Ytnpkpfcljkekfaa
open Go Go.RowKit
set_option linter.unusedVariables false
set_option maxRecDepth 100000
set_option linter.unusedSimpArgs false

/-- What is done with a message that came over net n. -/
def cameL (s : Lp) (n : Int) (m : Ms) (e : Int) : Int × Lp :=
  if e ≠ 0 then (e, s) else if m.token ≠ s.token ∨ m.kind ≠ n + 1 then (12, s) else if m.epoch ≠ (s.epoch : Int) then (17, s)
  else if n = 0 then ((dataR s.W s.T s.L m.seq m.load).1, { s with L := (dataR s.W s.T s.L m.seq m.load).2 })
  else ((ackOf s.base s.lim s.Ls m.ack m.bits m.credit).1, { s with base := (ackOf s.base s.lim s.Ls m.ack m.bits m.credit).2.1, lim := (ackOf s.base s.lim s.Ls m.ack m.bits m.credit).2.2.1, Ls := (ackOf s.base s.lim s.Ls m.ack m.bits m.credit).2.2.2 })
def deliverL (s : Lp) (n i : Int) : Int × Lp :=
  if n = 0 then (if 0 ≤ i ∧ i < s.G0.length then cameL { s with G0 := s.G0.eraseIdx i.toNat } n (unpR (s.G0.getD i.toNat ([], false)).1).1 (unpR (s.G0.getD i.toNat ([], false)).1).2 else (15, s))
  else if n = 1 then (if 0 ≤ i ∧ i < s.G1.length then cameL { s with G1 := s.G1.eraseIdx i.toNat } n (unpR (s.G1.getD i.toNat ([], false)).1).1 (unpR (s.G1.getD i.toNat ([], false)).1).2 else (15, s))
  else (1, s)
def delivPost (w : World) (B : Base) (p : Nat) (r : Int × Lp) (e : Ending) (w' : World) : Prop :=
  e = .returned (.int .i64 r.1) ∧ LinkIn w' B p r.2 ∧ Chg (fun k => B.ok k) w w'
theorem unpR_in (b : List UInt8) : (-9223372036854775808 ≤ (unpR b).1.seq ∧ (unpR b).1.seq ≤ 9223372036854775807) ∧ (unpR b).1.load.length ≤ 1200 := by
  unfold unpR
  cases hu : unpackB b with
  | error k => simp only; exact ⟨⟨by decide, by decide⟩, by decide⟩
  | ok m =>
    simp only
    have hm : m.may = true ∧ m.load.length ≤ 1200 := by
      unfold unpackB at hu
      split at hu
      · rename_i l hl
        have h12 : l.length ≤ 1200 := by obtain ⟨g1, g2, g3, -⟩ := look_whole hl; omega
        split at hu
        · split at hu
          · rename_i m' hm'
            cases hu
            unfold tellM at hm'
            split at hm'
            · split at hm'
              · simp only at hm'
                split at hm'
                · rename_i hmay
                  cases hm'
                  exact ⟨hmay, by simp; omega⟩
                · cases hm'
              · cases hm'
            · cases hm'
          · cases hu
        · cases hu
      · cases hu
    have := (m.may_iff.1 hm.1).1 2 (by decide)
    have e : m.int 2 = m.seq := rfl
    rw [e] at this
    exact ⟨by omega, hm.2⟩
theorem erase_map {α β : Type} (f : α → β) (G : List α) (i : Nat) : (G.eraseIdx i).map f = (G.map f).eraseIdx i := by
  rw [List.eraseIdx_eq_take_drop_succ, List.eraseIdx_eq_take_drop_succ, List.map_append, List.map_take, List.map_drop]
theorem gcells_get (G : List Gd) (i : Nat) (h : i < G.length) : (gcells G)[i * 2]? = some (.slice (G[i]).A (G[i]).xs.length (G[i]).c) := by
  have h1 : (gcells G)[i * 2]? = ((gcells G).drop (i * 2))[0]? := by rw [List.getElem?_drop]; simp
  rw [h1, gcells_drop, List.drop_eq_getElem_cons h]
  rfl
set_option maxHeartbeats 16000000 in
theorem ldeliver_ok0 {w : World} {B : Base} {col : Nat → Nat} {L : Lm} (h : LinkAt w B col L) (i : Nat) (hi : i < L.G0.length) (hT : L.T ≤ 4611686018427387904) :
    Calls Try.prog 26 #[.pointer (some ⟨L.p, 0, none⟩), .int .i64 0, .int .i64 (i : Nat)] w (delivPost w B L.p (cameL { L.pl with G0 := L.pl.G0.eraseIdx i } 0 (unpR (L.G0[i]).xs).1 (unpR (L.G0[i]).xs).2)) := by
  have H := Lib.hid (lfind_ok0 h i hi)
  have y0 := h.n0.c0
  have hrow := h.gr0.row
  have hne : ¬ L.v0.ownBlock = some L.g0 := fun e => by have h1 := h.gr0.cv _ e; have h2 := h.k5; omega
  have HDL := Lib.hid (delg_any hrow hi h.l0)
  have hd := h.gr0.ds _ (List.getElem_mem hi)
  obtain ⟨d, hdE⟩ : ∃ d, L.G0[i] = d := ⟨_, rfl⟩
  have hget := gcells_get L.G0 i hi
  rw [hdE] at hd hget ⊢
  obtain ⟨V, q, hv, hnq, hV, -⟩ := own_slice hrow
  obtain ⟨g, rfl, -⟩ := hV (by omega)
  rw [hv] at y0 hrow HDL hne
  have xg := (hrow.cellAt (i * 2) (by omega)).trans hget
  have HH := Lib.hid h
  have HGD := Lib.hid hd
  have HV := Lib.hid hv
  have hmem : ∀ x ∈ L.G0.eraseIdx i, x ∈ L.G0 := fun x hx => List.mem_of_mem_eraseIdx hx
  have hlen : (L.G0.eraseIdx i).length = L.G0.length - 1 := by rw [List.length_eraseIdx]; rw [if_pos hi]
  have HMEM := Lib.hid hmem
  have HLEN := Lib.hid hlen
  have hl256 := h.l0
  obtain ⟨R, hR⟩ : ∃ R, cameL { L.pl with G0 := L.pl.G0.eraseIdx i } 0 (unpR d.xs).1 (unpR d.xs).2 = R := ⟨_, rfl⟩
  rw [hR]
  have HR := Lib.hid hR
  clear h hd hv hrow hget hR hmem hlen
  have i1 : (i : Int) < (L.G0.length : Int) := by omega
  have HDE := Lib.hid hdE
  clear hdE
  obtain ⟨n, hn⟩ : ∃ n, L.G0.length = n := ⟨_, rfl⟩
  have HN := Lib.hid hn
  rw [hn] at i1 y0 HDL hi hl256 hnq hne
  clear hn
  go_enter Try.func26, Try.ntmps26
  go_wp2_with (fail)
  refine H.out.mono ?_
  rintro e w1 ⟨rfl, rfl⟩
  go_wp2_with (fail)
  refine HDL.out.mono ?_
  rintro e w2 ⟨v', rfl, hr2, c2, hb2⟩
  obtain ⟨V', q', rfl, -⟩ := own_slice hr2
  have hn2 := HH.out.n0.frame c2 hne
  obtain ⟨cs, b1, b2⟩ := hn2.blk
  have f2 : w2.frozen? ⟨L.g0, 0, none⟩ = false := free_at b1
  have x2 := hn2.c0
  have cs3 := setC (w := w2) L.g0 0 (.slice V' (L.G0.length - 1) q')
  have hn3 : NetBlk (w2.setCell ⟨L.g0, 0, none⟩ (.slice V' (L.G0.length - 1) q')) L.g0 (.slice V' (L.G0.length - 1) q') 1 50 L.p :=
    ⟨⟨_, heap_setCell_same w2 L.g0 0 _ _ _ b1, by simpa using b2⟩, set_at hn2.c0, (set_far (by decide)).trans hn2.c1, (set_far (by decide)).trans hn2.c2⟩
  have hr3 := own_keep hr2 cs3 (fun k hk e => hne (by rw [← show k = L.g0 from e]; exact hb2 k hk))
  have c2' : Chg (fun k => L.v0.ownBlock = some k) w w2 := by rw [HV.out, HN.out]; exact c2
  have hb2' : ∀ k, (Value.slice V' (L.G0.length - 1) q').ownBlock = some k → L.v0.ownBlock = some k := by rw [HV.out]; exact hb2
  have c3 : Chg (fun k => L.v0.ownBlock = some k ∨ k = L.g0) w (w2.setCell ⟨L.g0, 0, none⟩ (.slice V' (L.G0.length - 1) q')) := (c2'.mono (fun k _ e => .inl e)).trans' (cs3.mono (fun k _ e => .inr e))
  have hL3 := HH.out.net0 hn3 (by rw [HLEN.out]; exact hr3) (fun k hk => .inl (hb2' k hk)) c3 (fun x hx => HH.out.gr0.ds x (HMEM.out x hx)) (by rw [HLEN.out, HN.out]; omega)
  have hd3 := HGD.out.bytes.chg c3 (fun a ha e => by
    have h9 := HGD.out.cd a ha
    rcases e with e | e
    · have := HH.out.gr0.cv _ e; omega
    · rw [e, HH.out.k5] at h9; omega)
  have C3 : Chg (fun k => B.ok k) w _ := c3.mono (fun k _ e => by
    rcases e with e | rfl
    · exact (HH.out.own k (by rw [HH.out.gr0.cv k e]; decide)).1
    · exact (HH.out.own _ (by rw [HH.out.k5]; decide)).1)
  have HL3 := Lib.hid hL3
  have HD3 := Lib.hid hd3
  have HC3 := Lib.hid C3
  have HBIG := Lib.hid HGD.out.big
  have HCAP := Lib.hid HGD.out.cap
  clear hL3 hd3 C3 c3 c2' hb2' hr3 hn3 cs3 b1 b2 hn2 c2 hb2 hr2 HH HGD HV HDL hne y0 xg
  go_upto_region 6 with (fail)
  clear f2 x2
  generalize (w2.setCell ⟨L.g0, 0, none⟩ (.slice V' (L.G0.length - 1) q')) = w3 at *
  have HUP := Lib.hid (lunpack_any d.A d.xs.length d.c d.xs w3 HD3.out HCAP.out (by have := HBIG.out; omega))
  go_wp2_with (fail)
  refine HUP.out.mono ?_
  rintro e w4 ⟨c4, A4, q4, rfl, hb4, hq4, hA4⟩
  obtain ⟨hseq, hl12⟩ := unpR_in d.xs
  obtain ⟨⟨mm, ee⟩, hU⟩ : ∃ u, unpR d.xs = u := ⟨_, rfl⟩
  rw [hU] at hb4 hq4 hseq hl12 ⊢
  have HR2 := HR.out
  rw [hU] at HR2
  have HR := Lib.hid HR2
  simp only at hb4 hq4 hseq hl12
  clear hU HR2 HUP
  simp only
  unfold Ms.val Ms.cells
  have HL4 := Lib.hid (HL3.out.pure c4)
  have HC4 := Lib.hid (HC3.out.pure c4)
  have HB4 := Lib.hid hb4
  clear hb4 c4 HL3 HC3 HD3 hA4
  by_cases he : ee = 0
  · subst he
    have hm4 : (w4.alloc (.cells (mm.cells A4 mm.load.length q4) 25)).heap[w4.heap.size]? = some (.cells (mm.cells A4 mm.load.length q4) 25 (0, 0)) := heap_alloc_new w4 _
    have ca : Chg Pure' w4 (w4.alloc (.cells (mm.cells A4 mm.load.length q4) 25)) := (Chg.refl _ _).alloc _
    have HL5 := Lib.hid (HL4.out.pure ca)
    have HC5 := Lib.hid (HC4.out.pure ca)
    have HB5 := Lib.hid (HB4.out.pure ca)
    have HM5 := Lib.hid hm4
    have HL4b := HL4
    clear HL4 HC4 HB4 hm4 ca
    unfold Ms.cells at HL5 HC5 HB5 HM5
    go_upto_region 9 with (fail)
    generalize (w4.alloc (.cells _ 25)) = w5 at *
    have htb := fun e : w4.heap.size = L.rp => (by have := HL4b.out.rcv.lt _ HL4b.out.rcv.own; have e2 : (L.rp : Nat) < w4.heap.size := this; omega : False)
    have HTB := Lib.hid htb
    clear htb
    generalize w4.heap.size = tb at *
    have m0 := msg_cell HM5.out 0
    have m1 := msg_cell HM5.out 1
    have x0 := HL5.out.lk.c0
    have xk := HL5.out.n0.c1
    have hpl : ({ L with v0 := Value.slice V' (L.G0.length - 1) q', G0 := L.G0.eraseIdx i } : Lm).pl = { L.pl with G0 := L.pl.G0.eraseIdx i } := by unfold Lm.pl; simp only [erase_map]
    have HPL := Lib.hid hpl
    clear hpl
    have fin12 : (mm.token ≠ L.token ∨ mm.kind ≠ 0 + 1) → ∀ w7, Chg Pure' w5 w7 → delivPost w B L.p R (.returned (.int .i64 12)) w7 := fun hb w7 hc7 => by
      have hR5 : R = (12, { L.pl with G0 := L.pl.G0.eraseIdx i }) := by rw [← HR.out]; unfold cameL; simp only; rw [if_neg (by simp), if_pos (show mm.token ≠ L.pl.token ∨ mm.kind ≠ 0 + 1 from hb)]
      rw [hR5]
      exact ⟨rfl, LinkIn.mk (HL5.out.pure hc7) rfl HPL.out, HC5.out.pure hc7⟩
    have F12 := Lib.hid fin12
    clear fin12
    by_cases ht : mm.token = L.token
    · have i4 : ((mm.token.toNat : Int) != (L.token.toNat : Int)) = false := by rw [ht]; simp
      by_cases hk : mm.kind = 1
      · have i5 : (mm.kind != 1) = false := by rw [hk]; rfl
        have HT1 := Lib.hid ht
        have HK1 := Lib.hid hk
        clear ht hk
        go_quiet (fail)
        have cq : Chg Pure' w5 (w5.drewN nq) := (Chg.refl _ w5).drewN _
        have HL6 := Lib.hid (HL5.out.pure cq)
        have HC6 := Lib.hid (HC5.out.pure cq)
        have HB6 := Lib.hid (HB5.out.pure cq)
        have HM6 := Lib.hid ((cq.block tb (Array.getElem?_eq_some_iff.1 HM5.out).1 (fun h => h)).trans HM5.out)
        clear cq m0 m1 x0 xk HL5 HC5 HB5 HM5 F12
        generalize w5.drewN nq = w6 at *
        have m2 := msg_cell HM6.out 2
        have x2 := HL6.out.lk.c2
        go_upto_region 11 with (fail)
        by_cases hep : mm.epoch = (L.epoch : Int)
        · have i6 : (mm.epoch != (L.epoch : Int)) = false := by rw [hep]; simp
          have HE1 := Lib.hid hep
          clear hep
          go_quiet (fail)
          have cq : Chg Pure' w6 (w6.drewN nq) := (Chg.refl _ w6).drewN _
          have HL7 := Lib.hid (HL6.out.pure cq)
          have HC7 := Lib.hid (HC6.out.pure cq)
          have HB7 := Lib.hid (HB6.out.pure cq)
          have HM7 := Lib.hid ((cq.block tb (Array.getElem?_eq_some_iff.1 HM6.out).1 (fun h => h)).trans HM6.out)
          clear cq m2 x2 HL6 HC6 HB6 HM6
          generalize w6.drewN nq = w7 at *
          have xf := HL7.out.n0.c2
          have m0 := msg_cell HM7.out 0
          have m1 := msg_cell HM7.out 1
          have m2 := msg_cell HM7.out 2
          have m3 := msg_cell HM7.out 3
          have m4 := msg_cell HM7.out 4
          have m5 := msg_cell HM7.out 5
          have m6 := msg_cell HM7.out 6
          have m7 := msg_cell HM7.out 7
          have m8 := msg_cell HM7.out 8
          have hL8 := HL7.out.pure ((Chg.refl Pure' w7).drew)
          have HQALL := Lib.hid (ldata_any hL8 mm A4 q4 (HB7.out.pure ((Chg.refl Pure' w7).drew)) (by omega) hT hseq)
          have npg : ¬ (fun k : Nat => k = L.rp) L.g0 := fun e => by have h1 := HL7.out.k2 _ HL7.out.rcv.own; have h2 := HL7.out.k5; have e : L.g0 = L.rp := e; simp only [e] at h1 h2; omega
          have npt : ¬ (fun k : Nat => k = L.rp) tb := HTB.out
          have HL8 := Lib.hid hL8
          have HC8 := Lib.hid (HC7.out.pure ((Chg.refl Pure' w7).drew))
          clear hL8 HL7 HC7 HB7 HM7
          unfold Ms.val Ms.cells at HQALL
          go_wp2_with (fail)
          refine reg_begin (fun k => k = L.rp) (by kernel_rfl) ?_
          refine reg_take 0 (v := ?_) rfl (by kernel_rfl) (by kernel_rfl) (by kernel_rfl) (fun _ _ _ h => h) (by kernel_rfl) ?_ ?_
          rotate_left
          · (intro w' hS; go_simp; (try go_bits); (try with_reducible rfl))
          try simp only [Act.put, List.getElem_toArray, List.getElem_cons_zero, List.getElem_cons_succ, List.setIfInBounds_toArray, List.set_cons_zero, List.set_cons_succ]
          refine reg_take 1 (v := ?_) rfl (by kernel_rfl) (by kernel_rfl) (by kernel_rfl) (fun _ _ _ h => h) (by kernel_rfl) ?_ ?_
          rotate_left
          · (intro w' hS; go_simp; (try go_bits); (try with_reducible rfl))
          try simp only [Act.put, List.getElem_toArray, List.getElem_cons_zero, List.getElem_cons_succ, List.setIfInBounds_toArray, List.set_cons_zero, List.set_cons_succ]
          refine reg_take 2 (v := ?_) rfl (by kernel_rfl) (by kernel_rfl) (by kernel_rfl) (fun _ _ _ h => h) (by kernel_rfl) ?_ ?_
          rotate_left
          · (intro w' hS; go_simp; (try go_bits); (try with_reducible rfl))
          try simp only [Act.put, List.getElem_toArray, List.getElem_cons_zero, List.getElem_cons_succ, List.setIfInBounds_toArray, List.set_cons_zero, List.set_cons_succ]
          refine reg_take 3 (v := ?_) rfl (by kernel_rfl) (by kernel_rfl) (by kernel_rfl) (fun _ _ _ h => h) (by kernel_rfl) ?_ ?_
          rotate_left
          · (intro w' hS; have hz := hS.cell (w := w7.drew) xf npg; go_simp; (try go_bits); (try with_reducible rfl))
          try simp only [Act.put, List.getElem_toArray, List.getElem_cons_zero, List.getElem_cons_succ, List.setIfInBounds_toArray, List.set_cons_zero, List.set_cons_succ]
          refine reg_take 4 (v := ?_) rfl (by kernel_rfl) (by kernel_rfl) (by kernel_rfl) (fun _ _ _ h => h) (by kernel_rfl) ?_ ?_
          rotate_left
          · (intro w' hS; have hz := hS.cell (w := w7.drew) m0 npt; have hz1 := hS.cell (w := w7.drew) m1 npt; have hz2 := hS.cell (w := w7.drew) m2 npt; have hz3 := hS.cell (w := w7.drew) m3 npt; have hz4 := hS.cell (w := w7.drew) m4 npt; have hz5 := hS.cell (w := w7.drew) m5 npt; have hz6 := hS.cell (w := w7.drew) m6 npt; have hz7 := hS.cell (w := w7.drew) m7 npt; have hz8 := hS.cell (w := w7.drew) m8 npt; go_simp; (try go_bits); (try with_reducible rfl))
          try simp only [Act.put, List.getElem_toArray, List.getElem_cons_zero, List.getElem_cons_succ, List.setIfInBounds_toArray, List.set_cons_zero, List.set_cons_succ]
          refine reg_do 5 rfl (by kernel_rfl) (by kernel_rfl) ?_
          intro K hK
          go_simp
          refine HQALL.out.mono ?_
          rintro e w9 ⟨rfl, c9, col9, F9, hL9⟩
          refine hK _ _ (c9) ?_
          clear hK K
          try simp only [Act.put, List.getElem_toArray, List.getElem_cons_zero, List.getElem_cons_succ, List.setIfInBounds_toArray, List.set_cons_zero, List.set_cons_succ]
          refine reg_take 6 (v := ?_) rfl (by kernel_rfl) (by kernel_rfl) (by kernel_rfl) (fun _ _ _ h => h) (by kernel_rfl) ?_ ?_
          rotate_left
          · (intro w' hS; go_simp; (try go_bits); (try with_reducible rfl))
          try simp only [Act.put, List.getElem_toArray, List.getElem_cons_zero, List.getElem_cons_succ, List.setIfInBounds_toArray, List.set_cons_zero, List.set_cons_succ]
          refine wpAnyH_done (by kernel_rfl) ?_ _
          have C9 := HC8.out.trans' (c9.mono (T := fun k => B.ok k) (fun k _ hk => by rw [show k = L.rp from hk]; exact (HL8.out.own _ (by rw [HL8.out.k2 _ HL8.out.rcv.own]; decide)).1))
          have hR5 : R = ((dataR L.W L.T L.L mm.seq mm.load).1, { L.pl with G0 := L.pl.G0.eraseIdx i, L := (dataR L.W L.T L.L mm.seq mm.load).2 }) := by rw [← HR.out]; unfold cameL; simp only; rw [if_neg (by simp), if_neg (by rintro (h | h); exact h HT1.out; exact h HK1.out), if_neg (show ¬ mm.epoch ≠ (L.pl.epoch : Int) from fun h => h HE1.out)]; rfl
          have HR5 := Lib.hid hR5
          have HL9 := Lib.hid hL9
          clear hR5 hL9 c9 HQALL HL8 HC8 xf m0 m1 m2 m3 m4 m5 m6 m7 m8
          go_wp2
          go_ret
          rw [HR5.out]
          refine ⟨rfl, LinkIn.mk HL9.out rfl ?_, C9⟩
          have e2 := HPL.out
          unfold Lm.pl at e2 ⊢
          simp only [Lp.mk.injEq] at e2 ⊢
          simp only [e2, and_self, true_and]
        · have i6 : (mm.epoch != (L.epoch : Int)) = true := by rw [bne_iff_ne]; exact hep
          have i7 : (mm.epoch = (L.epoch : Int)) = False := eq_false hep
          have hR5 : R = (17, { L.pl with G0 := L.pl.G0.eraseIdx i }) := by rw [← HR.out]; unfold cameL; simp only; rw [if_neg (by simp), if_neg (by rintro (h | h); exact h HT1.out; exact h HK1.out), if_pos (show mm.epoch ≠ (L.pl.epoch : Int) from hep)]
          have HR5 := Lib.hid hR5
          clear hR5 hep
          go_quiet (fail)
          have cq : Chg Pure' w6 (w6.drewN nq) := (Chg.refl _ w6).drewN _
          go_wp2
          go_ret
          rw [HR5.out]
          exact ⟨rfl, LinkIn.mk (HL6.out.pure cq) rfl HPL.out, HC6.out.pure cq⟩
      · have i5 : (mm.kind != 1) = true := by rw [bne_iff_ne]; exact hk
        have i8 : (mm.kind = 1) = False := eq_false hk
        have hb : mm.token ≠ L.token ∨ mm.kind ≠ 0 + 1 := .inr hk
        have FF := Lib.hid (F12.out hb)
        clear hb hk F12 ht
        go_quiet (fail)
        have cq : Chg Pure' w5 (w5.drewN nq) := (Chg.refl _ w5).drewN _
        go_wp2
        go_ret
        exact FF.out _ cq
    · have hne : ((mm.token.toNat : Int) = (L.token.toNat : Int)) = False := eq_false (fun e => ht (UInt64.toNat_inj.1 (by omega)))
      have i4 : ((mm.token.toNat : Int) != (L.token.toNat : Int)) = true := by rw [bne_iff_ne]; intro e; exact ht (UInt64.toNat_inj.1 (by omega))
      have hb : mm.token ≠ L.token ∨ mm.kind ≠ 0 + 1 := .inl ht
      have FF := Lib.hid (F12.out hb)
      clear hb F12 ht
      go_quiet (fail)
      have cq : Chg Pure' w5 (w5.drewN nq) := (Chg.refl _ w5).drewN _
      go_wp2
      go_ret
      exact FF.out _ cq
  · have i2 : (ee != 0) = true := by rw [bne_iff_ne]; exact he
    have i3 : (ee = 0) = False := eq_false he
    have hR5 : R = (ee, { L.pl with G0 := L.pl.G0.eraseIdx i }) := by rw [← HR.out]; unfold cameL; simp only; rw [if_pos he]
    have HR5 := Lib.hid hR5
    have HE := Lib.hid he
    clear hR5 he
    go_wp2
    go_ret
    rw [HR5.out]
    refine ⟨rfl, LinkIn.mk (HL4.out.pure ((Chg.refl _ w4).alloc _)) rfl ?_, HC4.out.alloc _⟩
    unfold Lm.pl
    simp only [erase_map]
set_option maxHeartbeats 16000000 in
theorem ldeliver_ok1 {w : World} {B : Base} {col : Nat → Nat} {L : Lm} (h : LinkAt w B col L) (i : Nat) (hi : i < L.G1.length) (hT : L.T ≤ 4611686018427387904) :
    Calls Try.prog 26 #[.pointer (some ⟨L.p, 0, none⟩), .int .i64 1, .int .i64 (i : Nat)] w (delivPost w B L.p (cameL { L.pl with G1 := L.pl.G1.eraseIdx i } 1 (unpR (L.G1[i]).xs).1 (unpR (L.G1[i]).xs).2)) := by
  have H := Lib.hid (lfind_ok1 h i hi)
  have y0 := h.n1.c0
  have hrow := h.gr1.row
  have hne : ¬ L.v1.ownBlock = some L.g1 := fun e => by have h1 := h.gr1.cv _ e; have h2 := h.k6; omega
  have HDL := Lib.hid (delg_any hrow hi h.l1)
  have hd := h.gr1.ds _ (List.getElem_mem hi)
  obtain ⟨d, hdE⟩ : ∃ d, L.G1[i] = d := ⟨_, rfl⟩
  have hget := gcells_get L.G1 i hi
  rw [hdE] at hd hget ⊢
  obtain ⟨V, q, hv, hnq, hV, -⟩ := own_slice hrow
  obtain ⟨g, rfl, -⟩ := hV (by omega)
  rw [hv] at y0 hrow HDL hne
  have xg := (hrow.cellAt (i * 2) (by omega)).trans hget
  have HH := Lib.hid h
  have HGD := Lib.hid hd
  have HV := Lib.hid hv
  have hmem : ∀ x ∈ L.G1.eraseIdx i, x ∈ L.G1 := fun x hx => List.mem_of_mem_eraseIdx hx
  have hlen : (L.G1.eraseIdx i).length = L.G1.length - 1 := by rw [List.length_eraseIdx]; rw [if_pos hi]
  have HMEM := Lib.hid hmem
  have HLEN := Lib.hid hlen
  have hl256 := h.l1
  obtain ⟨R, hR⟩ : ∃ R, cameL { L.pl with G1 := L.pl.G1.eraseIdx i } 1 (unpR d.xs).1 (unpR d.xs).2 = R := ⟨_, rfl⟩
  rw [hR]
  have HR := Lib.hid hR
  clear h hd hv hrow hget hR hmem hlen
  have i1 : (i : Int) < (L.G1.length : Int) := by omega
  have HDE := Lib.hid hdE
  clear hdE
  obtain ⟨n, hn⟩ : ∃ n, L.G1.length = n := ⟨_, rfl⟩
  have HN := Lib.hid hn
  rw [hn] at i1 y0 HDL hi hl256 hnq hne
  clear hn
  go_enter Try.func26, Try.ntmps26
  go_wp2_with (fail)
  refine H.out.mono ?_
  rintro e w1 ⟨rfl, rfl⟩
  go_wp2_with (fail)
  refine HDL.out.mono ?_
  rintro e w2 ⟨v', rfl, hr2, c2, hb2⟩
  obtain ⟨V', q', rfl, -⟩ := own_slice hr2
  have hn2 := HH.out.n1.frame c2 hne
  obtain ⟨cs, b1, b2⟩ := hn2.blk
  have f2 : w2.frozen? ⟨L.g1, 0, none⟩ = false := free_at b1
  have x2 := hn2.c0
  have cs3 := setC (w := w2) L.g1 0 (.slice V' (L.G1.length - 1) q')
  have hn3 : NetBlk (w2.setCell ⟨L.g1, 0, none⟩ (.slice V' (L.G1.length - 1) q')) L.g1 (.slice V' (L.G1.length - 1) q') 2 51 L.p :=
    ⟨⟨_, heap_setCell_same w2 L.g1 0 _ _ _ b1, by simpa using b2⟩, set_at hn2.c0, (set_far (by decide)).trans hn2.c1, (set_far (by decide)).trans hn2.c2⟩
  have hr3 := own_keep hr2 cs3 (fun k hk e => hne (by rw [← show k = L.g1 from e]; exact hb2 k hk))
  have c2' : Chg (fun k => L.v1.ownBlock = some k) w w2 := by rw [HV.out, HN.out]; exact c2
  have hb2' : ∀ k, (Value.slice V' (L.G1.length - 1) q').ownBlock = some k → L.v1.ownBlock = some k := by rw [HV.out]; exact hb2
  have c3 : Chg (fun k => L.v1.ownBlock = some k ∨ k = L.g1) w (w2.setCell ⟨L.g1, 0, none⟩ (.slice V' (L.G1.length - 1) q')) := (c2'.mono (fun k _ e => .inl e)).trans' (cs3.mono (fun k _ e => .inr e))
  have hL3 := HH.out.net1 hn3 (by rw [HLEN.out]; exact hr3) (fun k hk => .inl (hb2' k hk)) c3 (fun x hx => HH.out.gr1.ds x (HMEM.out x hx)) (by rw [HLEN.out, HN.out]; omega)
  have hd3 := HGD.out.bytes.chg c3 (fun a ha e => by
    have h9 := HGD.out.cd a ha
    rcases e with e | e
    · have := HH.out.gr1.cv _ e; omega
    · rw [e, HH.out.k6] at h9; omega)
  have C3 : Chg (fun k => B.ok k) w _ := c3.mono (fun k _ e => by
    rcases e with e | rfl
    · exact (HH.out.own k (by rw [HH.out.gr1.cv k e]; decide)).1
    · exact (HH.out.own _ (by rw [HH.out.k6]; decide)).1)
  have HL3 := Lib.hid hL3
  have HD3 := Lib.hid hd3
  have HC3 := Lib.hid C3
  have HBIG := Lib.hid HGD.out.big
  have HCAP := Lib.hid HGD.out.cap
  clear hL3 hd3 C3 c3 c2' hb2' hr3 hn3 cs3 b1 b2 hn2 c2 hb2 hr2 HH HGD HV HDL hne y0 xg
  go_upto_region 6 with (fail)
  clear f2 x2
  generalize (w2.setCell ⟨L.g1, 0, none⟩ (.slice V' (L.G1.length - 1) q')) = w3 at *
  have HUP := Lib.hid (lunpack_any d.A d.xs.length d.c d.xs w3 HD3.out HCAP.out (by have := HBIG.out; omega))
  go_wp2_with (fail)
  refine HUP.out.mono ?_
  rintro e w4 ⟨c4, A4, q4, rfl, hb4, hq4, hA4⟩
  obtain ⟨hseq, hl12⟩ := unpR_in d.xs
  obtain ⟨⟨mm, ee⟩, hU⟩ : ∃ u, unpR d.xs = u := ⟨_, rfl⟩
  rw [hU] at hb4 hq4 hseq hl12 ⊢
  have HR2 := HR.out
  rw [hU] at HR2
  have HR := Lib.hid HR2
  simp only at hb4 hq4 hseq hl12
  clear hU HR2 HUP
  simp only
  unfold Ms.val Ms.cells
  have HL4 := Lib.hid (HL3.out.pure c4)
  have HC4 := Lib.hid (HC3.out.pure c4)
  have HB4 := Lib.hid hb4
  clear hb4 c4 HL3 HC3 HD3 hA4
  by_cases he : ee = 0
  · subst he
    have hm4 : (w4.alloc (.cells (mm.cells A4 mm.load.length q4) 25)).heap[w4.heap.size]? = some (.cells (mm.cells A4 mm.load.length q4) 25 (0, 0)) := heap_alloc_new w4 _
    have ca : Chg Pure' w4 (w4.alloc (.cells (mm.cells A4 mm.load.length q4) 25)) := (Chg.refl _ _).alloc _
    have HL5 := Lib.hid (HL4.out.pure ca)
    have HC5 := Lib.hid (HC4.out.pure ca)
    have HB5 := Lib.hid (HB4.out.pure ca)
    have HM5 := Lib.hid hm4
    have HL4b := HL4
    clear HL4 HC4 HB4 hm4 ca
    unfold Ms.cells at HL5 HC5 HB5 HM5
    go_upto_region 9 with (fail)
    generalize (w4.alloc (.cells _ 25)) = w5 at *
    have htb := fun e : Foot L.sp L.sb L.adr L.D L.base L.Ls.length w4.heap.size => (by have := HL4b.out.snd.foot_lt _ e; omega : False)
    have HTB := Lib.hid htb
    clear htb
    generalize w4.heap.size = tb at *
    have m0 := msg_cell HM5.out 0
    have m1 := msg_cell HM5.out 1
    have x0 := HL5.out.lk.c0
    have xk := HL5.out.n1.c1
    have hpl : ({ L with v1 := Value.slice V' (L.G1.length - 1) q', G1 := L.G1.eraseIdx i } : Lm).pl = { L.pl with G1 := L.pl.G1.eraseIdx i } := by unfold Lm.pl; simp only [erase_map]
    have HPL := Lib.hid hpl
    clear hpl
    have fin12 : (mm.token ≠ L.token ∨ mm.kind ≠ 1 + 1) → ∀ w7, Chg Pure' w5 w7 → delivPost w B L.p R (.returned (.int .i64 12)) w7 := fun hb w7 hc7 => by
      have hR5 : R = (12, { L.pl with G1 := L.pl.G1.eraseIdx i }) := by rw [← HR.out]; unfold cameL; simp only; rw [if_neg (by simp), if_pos (show mm.token ≠ L.pl.token ∨ mm.kind ≠ 1 + 1 from hb)]
      rw [hR5]
      exact ⟨rfl, LinkIn.mk (HL5.out.pure hc7) rfl HPL.out, HC5.out.pure hc7⟩
    have F12 := Lib.hid fin12
    clear fin12
    by_cases ht : mm.token = L.token
    · have i4 : ((mm.token.toNat : Int) != (L.token.toNat : Int)) = false := by rw [ht]; simp
      by_cases hk : mm.kind = 2
      · have i5 : (mm.kind != 2) = false := by rw [hk]; rfl
        have HT1 := Lib.hid ht
        have HK1 := Lib.hid hk
        clear ht hk
        go_quiet (fail)
        have cq : Chg Pure' w5 (w5.drewN nq) := (Chg.refl _ w5).drewN _
        have HL6 := Lib.hid (HL5.out.pure cq)
        have HC6 := Lib.hid (HC5.out.pure cq)
        have HB6 := Lib.hid (HB5.out.pure cq)
        have HM6 := Lib.hid ((cq.block tb (Array.getElem?_eq_some_iff.1 HM5.out).1 (fun h => h)).trans HM5.out)
        clear cq m0 m1 x0 xk HL5 HC5 HB5 HM5 F12
        generalize w5.drewN nq = w6 at *
        have m2 := msg_cell HM6.out 2
        have x2 := HL6.out.lk.c2
        go_upto_region 11 with (fail)
        by_cases hep : mm.epoch = (L.epoch : Int)
        · have i6 : (mm.epoch != (L.epoch : Int)) = false := by rw [hep]; simp
          have HE1 := Lib.hid hep
          clear hep
          go_quiet (fail)
          have cq : Chg Pure' w6 (w6.drewN nq) := (Chg.refl _ w6).drewN _
          have HL7 := Lib.hid (HL6.out.pure cq)
          have HC7 := Lib.hid (HC6.out.pure cq)
          have HB7 := Lib.hid (HB6.out.pure cq)
          have HM7 := Lib.hid ((cq.block tb (Array.getElem?_eq_some_iff.1 HM6.out).1 (fun h => h)).trans HM6.out)
          clear cq m2 x2 HL6 HC6 HB6 HM6
          generalize w6.drewN nq = w7 at *
          have xf := HL7.out.n1.c2
          have m0 := msg_cell HM7.out 0
          have m1 := msg_cell HM7.out 1
          have m2 := msg_cell HM7.out 2
          have m3 := msg_cell HM7.out 3
          have m4 := msg_cell HM7.out 4
          have m5 := msg_cell HM7.out 5
          have m6 := msg_cell HM7.out 6
          have m7 := msg_cell HM7.out 7
          have m8 := msg_cell HM7.out 8
          have hL8 := HL7.out.pure ((Chg.refl Pure' w7).drew)
          have HQALL := Lib.hid (lack_any hL8 mm A4 mm.load.length q4)
          have npg : ¬ (Foot L.sp L.sb L.adr L.D L.base L.Ls.length) L.g1 := fun e => by have h1 := HL7.out.k1 _ e; have h2 := HL7.out.k6; simp only at h1 h2; omega
          have npt : ¬ (Foot L.sp L.sb L.adr L.D L.base L.Ls.length) tb := HTB.out
          have HL8 := Lib.hid hL8
          have HC8 := Lib.hid (HC7.out.pure ((Chg.refl Pure' w7).drew))
          clear hL8 HL7 HC7 HB7 HM7
          unfold Ms.val Ms.cells at HQALL
          go_wp2_with (fail)
          refine reg_begin (Foot L.sp L.sb L.adr L.D L.base L.Ls.length) (by kernel_rfl) ?_
          refine reg_take 0 (v := ?_) rfl (by kernel_rfl) (by kernel_rfl) (by kernel_rfl) (fun _ _ _ h => h) (by kernel_rfl) ?_ ?_
          rotate_left
          · (intro w' hS; go_simp; (try go_bits); (try with_reducible rfl))
          try simp only [Act.put, List.getElem_toArray, List.getElem_cons_zero, List.getElem_cons_succ, List.setIfInBounds_toArray, List.set_cons_zero, List.set_cons_succ]
          refine reg_take 1 (v := ?_) rfl (by kernel_rfl) (by kernel_rfl) (by kernel_rfl) (fun _ _ _ h => h) (by kernel_rfl) ?_ ?_
          rotate_left
          · (intro w' hS; go_simp; (try go_bits); (try with_reducible rfl))
          try simp only [Act.put, List.getElem_toArray, List.getElem_cons_zero, List.getElem_cons_succ, List.setIfInBounds_toArray, List.set_cons_zero, List.set_cons_succ]
          refine reg_take 2 (v := ?_) rfl (by kernel_rfl) (by kernel_rfl) (by kernel_rfl) (fun _ _ _ h => h) (by kernel_rfl) ?_ ?_
          rotate_left
          · (intro w' hS; go_simp; (try go_bits); (try with_reducible rfl))
          try simp only [Act.put, List.getElem_toArray, List.getElem_cons_zero, List.getElem_cons_succ, List.setIfInBounds_toArray, List.set_cons_zero, List.set_cons_succ]
          refine reg_take 3 (v := ?_) rfl (by kernel_rfl) (by kernel_rfl) (by kernel_rfl) (fun _ _ _ h => h) (by kernel_rfl) ?_ ?_
          rotate_left
          · (intro w' hS; have hz := hS.cell (w := w7.drew) xf npg; go_simp; (try go_bits); (try with_reducible rfl))
          try simp only [Act.put, List.getElem_toArray, List.getElem_cons_zero, List.getElem_cons_succ, List.setIfInBounds_toArray, List.set_cons_zero, List.set_cons_succ]
          refine reg_take 4 (v := ?_) rfl (by kernel_rfl) (by kernel_rfl) (by kernel_rfl) (fun _ _ _ h => h) (by kernel_rfl) ?_ ?_
          rotate_left
          · (intro w' hS; have hz := hS.cell (w := w7.drew) m0 npt; have hz1 := hS.cell (w := w7.drew) m1 npt; have hz2 := hS.cell (w := w7.drew) m2 npt; have hz3 := hS.cell (w := w7.drew) m3 npt; have hz4 := hS.cell (w := w7.drew) m4 npt; have hz5 := hS.cell (w := w7.drew) m5 npt; have hz6 := hS.cell (w := w7.drew) m6 npt; have hz7 := hS.cell (w := w7.drew) m7 npt; have hz8 := hS.cell (w := w7.drew) m8 npt; go_simp; (try go_bits); (try with_reducible rfl))
          try simp only [Act.put, List.getElem_toArray, List.getElem_cons_zero, List.getElem_cons_succ, List.setIfInBounds_toArray, List.set_cons_zero, List.set_cons_succ]
          refine reg_do 5 rfl (by kernel_rfl) (by kernel_rfl) ?_
          intro K hK
          go_simp
          refine HQALL.out.mono ?_
          rintro e w9 ⟨rfl, c9, col9, hL9⟩
          refine hK _ _ (c9) ?_
          clear hK K
          try simp only [Act.put, List.getElem_toArray, List.getElem_cons_zero, List.getElem_cons_succ, List.setIfInBounds_toArray, List.set_cons_zero, List.set_cons_succ]
          refine reg_take 6 (v := ?_) rfl (by kernel_rfl) (by kernel_rfl) (by kernel_rfl) (fun _ _ _ h => h) (by kernel_rfl) ?_ ?_
          rotate_left
          · (intro w' hS; go_simp; (try go_bits); (try with_reducible rfl))
          try simp only [Act.put, List.getElem_toArray, List.getElem_cons_zero, List.getElem_cons_succ, List.setIfInBounds_toArray, List.set_cons_zero, List.set_cons_succ]
          refine wpAnyH_done (by kernel_rfl) ?_ _
          have C9 := HC8.out.trans' (c9.mono (T := fun k => B.ok k) (fun k _ hk => (HL8.out.own _ (by rw [HL8.out.k1 _ hk]; decide)).1))
          have hR5 : R = ((ackOf L.base L.lim L.Ls mm.ack mm.bits mm.credit).1, { L.pl with G1 := L.pl.G1.eraseIdx i, base := (ackOf L.base L.lim L.Ls mm.ack mm.bits mm.credit).2.1, lim := (ackOf L.base L.lim L.Ls mm.ack mm.bits mm.credit).2.2.1, Ls := (ackOf L.base L.lim L.Ls mm.ack mm.bits mm.credit).2.2.2 }) := by rw [← HR.out]; unfold cameL; simp only; rw [if_neg (by simp), if_neg (by rintro (h | h); exact h HT1.out; exact h HK1.out), if_neg (show ¬ mm.epoch ≠ (L.pl.epoch : Int) from fun h => h HE1.out)]; rfl
          have HR5 := Lib.hid hR5
          have HL9 := Lib.hid hL9
          clear hR5 hL9 c9 HQALL HL8 HC8 xf m0 m1 m2 m3 m4 m5 m6 m7 m8
          go_wp2
          go_ret
          rw [HR5.out]
          refine ⟨rfl, LinkIn.mk HL9.out rfl ?_, C9⟩
          have e2 := HPL.out
          unfold Lm.pl at e2 ⊢
          simp only [Lp.mk.injEq] at e2 ⊢
          simp only [e2, and_self, true_and]
        · have i6 : (mm.epoch != (L.epoch : Int)) = true := by rw [bne_iff_ne]; exact hep
          have i7 : (mm.epoch = (L.epoch : Int)) = False := eq_false hep
          have hR5 : R = (17, { L.pl with G1 := L.pl.G1.eraseIdx i }) := by rw [← HR.out]; unfold cameL; simp only; rw [if_neg (by simp), if_neg (by rintro (h | h); exact h HT1.out; exact h HK1.out), if_pos (show mm.epoch ≠ (L.pl.epoch : Int) from hep)]
          have HR5 := Lib.hid hR5
          clear hR5 hep
          go_quiet (fail)
          have cq : Chg Pure' w6 (w6.drewN nq) := (Chg.refl _ w6).drewN _
          go_wp2
          go_ret
          rw [HR5.out]
          exact ⟨rfl, LinkIn.mk (HL6.out.pure cq) rfl HPL.out, HC6.out.pure cq⟩
      · have i5 : (mm.kind != 2) = true := by rw [bne_iff_ne]; exact hk
        have i8 : (mm.kind = 2) = False := eq_false hk
        have hb : mm.token ≠ L.token ∨ mm.kind ≠ 1 + 1 := .inr hk
        have FF := Lib.hid (F12.out hb)
        clear hb hk F12 ht
        go_quiet (fail)
        have cq : Chg Pure' w5 (w5.drewN nq) := (Chg.refl _ w5).drewN _
        go_wp2
        go_ret
        exact FF.out _ cq
    · have hne : ((mm.token.toNat : Int) = (L.token.toNat : Int)) = False := eq_false (fun e => ht (UInt64.toNat_inj.1 (by omega)))
      have i4 : ((mm.token.toNat : Int) != (L.token.toNat : Int)) = true := by rw [bne_iff_ne]; intro e; exact ht (UInt64.toNat_inj.1 (by omega))
      have hb : mm.token ≠ L.token ∨ mm.kind ≠ 1 + 1 := .inl ht
      have FF := Lib.hid (F12.out hb)
      clear hb F12 ht
      go_quiet (fail)
      have cq : Chg Pure' w5 (w5.drewN nq) := (Chg.refl _ w5).drewN _
      go_wp2
      go_ret
      exact FF.out _ cq
  · have i2 : (ee != 0) = true := by rw [bne_iff_ne]; exact he
    have i3 : (ee = 0) = False := eq_false he
    have hR5 : R = (ee, { L.pl with G1 := L.pl.G1.eraseIdx i }) := by rw [← HR.out]; unfold cameL; simp only; rw [if_pos he]
    have HR5 := Lib.hid hR5
    have HE := Lib.hid he
    clear hR5 he
    go_wp2
    go_ret
    rw [HR5.out]
    refine ⟨rfl, LinkIn.mk (HL4.out.pure ((Chg.refl _ w4).alloc _)) rfl ?_, HC4.out.alloc _⟩
    unfold Lm.pl
    simp only [erase_map]
end Go.Proofs.Ytnpkpfcljkekfaa
