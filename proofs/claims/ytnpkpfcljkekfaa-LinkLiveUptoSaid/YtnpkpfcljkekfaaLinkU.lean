/- A datagram is lost, or comes twice. -/
import Derived.Test.YtnpkpfcljkekfaaLinkT
namespace Go.Proofs.Ytnpkpfcljkekfaa
open Go Go.RowKit
set_option linter.unusedVariables false
set_option maxRecDepth 100000
set_option linter.unusedSimpArgs false

def outPost (w : World) (B : Base) (p : Nat) (r : Int × Lp) (e : Ending) (w' : World) : Prop :=
  e = .returned (.int .i64 r.1) ∧ LinkIn w' B p r.2 ∧ Chg (fun k => B.ok k) w w'
theorem erase_mapU {α β : Type} (f : α → β) (G : List α) (i : Nat) : (G.eraseIdx i).map f = (G.map f).eraseIdx i := by
  rw [List.eraseIdx_eq_take_drop_succ, List.eraseIdx_eq_take_drop_succ, List.map_append, List.map_take, List.map_drop]
theorem gcells_getU (G : List Gd) (i : Nat) (h : i < G.length) : (gcells G)[i * 2]? = some (.slice (G[i]).A (G[i]).xs.length (G[i]).c) := by
  have h1 : (gcells G)[i * 2]? = ((gcells G).drop (i * 2))[0]? := by rw [List.getElem?_drop]; simp
  rw [h1, gcells_drop, List.drop_eq_getElem_cons h]
  rfl
theorem gcells_getV (G : List Gd) (i : Nat) (h : i < G.length) : (gcells G)[i * 2 + 1]? = some (.bool (G[i]).sp) := by
  have h1 : (gcells G)[i * 2 + 1]? = ((gcells G).drop (i * 2))[1]? := by rw [List.getElem?_drop]
  rw [h1, gcells_drop, List.drop_eq_getElem_cons h]
  rfl
set_option maxHeartbeats 16000000 in
theorem ldrop_ok0 {w : World} {B : Base} {col : Nat → Nat} {L : Lm} (h : LinkAt w B col L) (i : Nat) (hi : i < L.G0.length) :
    Calls Try.prog 53 #[.pointer (some ⟨L.p, 0, none⟩), .int .i64 0, .int .i64 (i : Nat)] w (outPost w B L.p (0, { L.pl with G0 := L.pl.G0.eraseIdx i })) := by
  have H := Lib.hid (lfind_ok0 h i hi)
  have y0 := h.n0.c0
  have hrow := h.gr0.row
  have hne : ¬ L.v0.ownBlock = some L.g0 := fun e => by have h1 := h.gr0.cv _ e; have h2 := h.k5; omega
  have HDL := Lib.hid (delg_any hrow hi h.l0)
  have hd := h.gr0.ds _ (List.getElem_mem hi)
  obtain ⟨d, hdE⟩ : ∃ d, L.G0[i] = d := ⟨_, rfl⟩
  have hget := gcells_getU L.G0 i hi
  rw [hdE] at hd hget
  obtain ⟨V, q, hv, hnq, hV, -⟩ := own_slice hrow
  obtain ⟨g, rfl, -⟩ := hV (by omega)
  rw [hv] at y0 hrow HDL hne
  have xg := (hrow.cellAt (i * 2) (by omega)).trans hget
  have HH := Lib.hid h
  have HGD := Lib.hid hd
  have HV := Lib.hid hv
  have hmem : ∀ x ∈ L.G0.eraseIdx i, x ∈ L.G0 := fun x hx => List.mem_of_mem_eraseIdx hx
  have hlen : (L.G0.eraseIdx i).length = L.G0.length - 1 := by rw [List.length_eraseIdx]; rw [if_pos hi]
  have HMEM := Lib.hid hmem
  have HLEN := Lib.hid hlen
  have hl256 := h.l0
  clear h hd hv hrow hget hmem hlen
  have i1 : (i : Int) < (L.G0.length : Int) := by omega
  have HDE := Lib.hid hdE
  clear hdE
  obtain ⟨n, hn⟩ : ∃ n, L.G0.length = n := ⟨_, rfl⟩
  have HN := Lib.hid hn
  rw [hn] at i1 y0 HDL hi hl256 hnq hne
  clear hn
  go_enter Try.func53, Try.ntmps53
  go_wp2_with (fail)
  refine H.out.mono ?_
  rintro e w1 ⟨rfl, rfl⟩
  go_wp2_with (fail)
  refine HDL.out.mono ?_
  rintro e w2 ⟨v', rfl, hr2, c2, hb2⟩
  obtain ⟨V', q', rfl, -⟩ := own_slice hr2
  have hn2 := HH.out.n0.frame c2 hne
  obtain ⟨cs, b1, b2⟩ := hn2.blk
  have f2 : w2.frozen? ⟨L.g0, 0, none⟩ = false := free_at b1
  have x2 := hn2.c0
  have cs3 := setC (w := w2) L.g0 0 (.slice V' (L.G0.length - 1) q')
  have hn3 : NetBlk (w2.setCell ⟨L.g0, 0, none⟩ (.slice V' (L.G0.length - 1) q')) L.g0 (.slice V' (L.G0.length - 1) q') 1 50 L.p :=
    ⟨⟨_, heap_setCell_same w2 L.g0 0 _ _ _ b1, by simpa using b2⟩, set_at hn2.c0, (set_far (by decide)).trans hn2.c1, (set_far (by decide)).trans hn2.c2⟩
  have hr3 := own_keep hr2 cs3 (fun k hk e => hne (by rw [← show k = L.g0 from e]; exact hb2 k hk))
  have c2' : Chg (fun k => L.v0.ownBlock = some k) w w2 := by rw [HV.out, HN.out]; exact c2
  have hb2' : ∀ k, (Value.slice V' (L.G0.length - 1) q').ownBlock = some k → L.v0.ownBlock = some k := by rw [HV.out]; exact hb2
  have c3 : Chg (fun k => L.v0.ownBlock = some k ∨ k = L.g0) w (w2.setCell ⟨L.g0, 0, none⟩ (.slice V' (L.G0.length - 1) q')) := (c2'.mono (fun k _ e => .inl e)).trans' (cs3.mono (fun k _ e => .inr e))
  have hL3 := HH.out.net0 hn3 (by rw [HLEN.out]; exact hr3) (fun k hk => .inl (hb2' k hk)) c3 (fun x hx => HH.out.gr0.ds x (HMEM.out x hx)) (by rw [HLEN.out, HN.out]; omega)
  have C3 : Chg (fun k => B.ok k) w _ := c3.mono (fun k _ e => by
    rcases e with e | rfl
    · exact (HH.out.own k (by rw [HH.out.gr0.cv k e]; decide)).1
    · exact (HH.out.own _ (by rw [HH.out.k5]; decide)).1)
  have HL3 := Lib.hid hL3
  have HC3 := Lib.hid C3
  clear hL3 C3 c3 c2' hb2' hr3 hn3 cs3 b1 b2 hn2 c2 hb2 hr2 HH HGD HV HDL hne y0 xg
  go_wp2
  go_ret
  refine ⟨rfl, LinkIn.mk HL3.out rfl ?_, HC3.out⟩
  unfold Lm.pl
  simp only [erase_mapU]
set_option maxHeartbeats 8000000 in
theorem ltwice_ok0 {w : World} {B : Base} {col : Nat → Nat} {L : Lm} (h : LinkAt w B col L) (i : Nat) (hi : i < L.G0.length) :
    Calls Try.prog 54 #[.pointer (some ⟨L.p, 0, none⟩), .int .i64 0, .int .i64 (i : Nat)] w (outPost w B L.p (0, { L.pl with G0 := putG L.pl.G0 ((L.G0[i]).xs, (L.G0[i]).sp) })) := by
  have H := Lib.hid (lfind_ok0 h i hi)
  have y0 := h.n0.c0
  have hrow := h.gr0.row
  have hne : ¬ L.v0.ownBlock = some L.g0 := fun e => by have h1 := h.gr0.cv _ e; have h2 := h.k5; omega
  have hd := h.gr0.ds _ (List.getElem_mem hi)
  obtain ⟨d, hdE⟩ : ∃ d, L.G0[i] = d := ⟨_, rfl⟩
  have hget := gcells_getU L.G0 i hi
  have hget2 := gcells_getV L.G0 i hi
  rw [hdE] at hd hget hget2 ⊢
  have HPUT := Lib.hid (put_core h.n0 hrow d hne h.base_le h.l0)
  obtain ⟨V, q, hv, hnq, hV, -⟩ := own_slice hrow
  obtain ⟨g, rfl, -⟩ := hV (by omega)
  rw [hv] at y0 hrow
  have xg := (hrow.cellAt (i * 2) (by omega)).trans hget
  have xh := (hrow.cellAt (i * 2 + 1) (by omega)).trans hget2
  have HH := Lib.hid h
  have HGD := Lib.hid hd
  clear h hd hv hrow hget hget2
  have i1 : (i : Int) < (L.G0.length : Int) := by omega
  clear hdE
  obtain ⟨n, hn⟩ : ∃ n, L.G0.length = n := ⟨_, rfl⟩
  rw [hn] at i1 y0 hnq hi
  clear hn
  go_enter Try.func54, Try.ntmps54
  go_wp2_with (fail)
  refine H.out.mono ?_
  rintro e w1 ⟨rfl, rfl⟩
  go_wp2_with (fail)
  refine HPUT.out.mono ?_
  rintro e w2 ⟨rfl, v', hn2, hr2, hb2, c2⟩
  have hL2 := HH.out.net0 hn2 hr2 hb2 c2 (fun x hx => by
    rcases putG_mem hx with h | rfl
    · exact HH.out.gr0.ds x h
    · exact HGD.out) (putG_len _ _ HH.out.l0)
  have C2 : Chg (fun k => B.ok k) w w2 := c2.mono (fun k _ e => by
    rcases e with e | rfl
    · exact (HH.out.own k (by rw [HH.out.gr0.cv k e]; decide)).1
    · exact (HH.out.own _ (by rw [HH.out.k5]; decide)).1)
  have HL2 := Lib.hid hL2
  clear hL2 hn2 hr2 hb2 c2 HPUT HH xg xh y0
  go_wp2
  go_ret
  refine ⟨rfl, LinkIn.mk HL2.out rfl ?_, C2⟩
  unfold Lm.pl
  simp only [putG_map]
set_option maxHeartbeats 16000000 in
theorem ldrop_ok1 {w : World} {B : Base} {col : Nat → Nat} {L : Lm} (h : LinkAt w B col L) (i : Nat) (hi : i < L.G1.length) :
    Calls Try.prog 53 #[.pointer (some ⟨L.p, 0, none⟩), .int .i64 1, .int .i64 (i : Nat)] w (outPost w B L.p (0, { L.pl with G1 := L.pl.G1.eraseIdx i })) := by
  have H := Lib.hid (lfind_ok1 h i hi)
  have y0 := h.n1.c0
  have hrow := h.gr1.row
  have hne : ¬ L.v1.ownBlock = some L.g1 := fun e => by have h1 := h.gr1.cv _ e; have h2 := h.k6; omega
  have HDL := Lib.hid (delg_any hrow hi h.l1)
  have hd := h.gr1.ds _ (List.getElem_mem hi)
  obtain ⟨d, hdE⟩ : ∃ d, L.G1[i] = d := ⟨_, rfl⟩
  have hget := gcells_getU L.G1 i hi
  rw [hdE] at hd hget
  obtain ⟨V, q, hv, hnq, hV, -⟩ := own_slice hrow
  obtain ⟨g, rfl, -⟩ := hV (by omega)
  rw [hv] at y0 hrow HDL hne
  have xg := (hrow.cellAt (i * 2) (by omega)).trans hget
  have HH := Lib.hid h
  have HGD := Lib.hid hd
  have HV := Lib.hid hv
  have hmem : ∀ x ∈ L.G1.eraseIdx i, x ∈ L.G1 := fun x hx => List.mem_of_mem_eraseIdx hx
  have hlen : (L.G1.eraseIdx i).length = L.G1.length - 1 := by rw [List.length_eraseIdx]; rw [if_pos hi]
  have HMEM := Lib.hid hmem
  have HLEN := Lib.hid hlen
  have hl256 := h.l1
  clear h hd hv hrow hget hmem hlen
  have i1 : (i : Int) < (L.G1.length : Int) := by omega
  have HDE := Lib.hid hdE
  clear hdE
  obtain ⟨n, hn⟩ : ∃ n, L.G1.length = n := ⟨_, rfl⟩
  have HN := Lib.hid hn
  rw [hn] at i1 y0 HDL hi hl256 hnq hne
  clear hn
  go_enter Try.func53, Try.ntmps53
  go_wp2_with (fail)
  refine H.out.mono ?_
  rintro e w1 ⟨rfl, rfl⟩
  go_wp2_with (fail)
  refine HDL.out.mono ?_
  rintro e w2 ⟨v', rfl, hr2, c2, hb2⟩
  obtain ⟨V', q', rfl, -⟩ := own_slice hr2
  have hn2 := HH.out.n1.frame c2 hne
  obtain ⟨cs, b1, b2⟩ := hn2.blk
  have f2 : w2.frozen? ⟨L.g1, 0, none⟩ = false := free_at b1
  have x2 := hn2.c0
  have cs3 := setC (w := w2) L.g1 0 (.slice V' (L.G1.length - 1) q')
  have hn3 : NetBlk (w2.setCell ⟨L.g1, 0, none⟩ (.slice V' (L.G1.length - 1) q')) L.g1 (.slice V' (L.G1.length - 1) q') 2 51 L.p :=
    ⟨⟨_, heap_setCell_same w2 L.g1 0 _ _ _ b1, by simpa using b2⟩, set_at hn2.c0, (set_far (by decide)).trans hn2.c1, (set_far (by decide)).trans hn2.c2⟩
  have hr3 := own_keep hr2 cs3 (fun k hk e => hne (by rw [← show k = L.g1 from e]; exact hb2 k hk))
  have c2' : Chg (fun k => L.v1.ownBlock = some k) w w2 := by rw [HV.out, HN.out]; exact c2
  have hb2' : ∀ k, (Value.slice V' (L.G1.length - 1) q').ownBlock = some k → L.v1.ownBlock = some k := by rw [HV.out]; exact hb2
  have c3 : Chg (fun k => L.v1.ownBlock = some k ∨ k = L.g1) w (w2.setCell ⟨L.g1, 0, none⟩ (.slice V' (L.G1.length - 1) q')) := (c2'.mono (fun k _ e => .inl e)).trans' (cs3.mono (fun k _ e => .inr e))
  have hL3 := HH.out.net1 hn3 (by rw [HLEN.out]; exact hr3) (fun k hk => .inl (hb2' k hk)) c3 (fun x hx => HH.out.gr1.ds x (HMEM.out x hx)) (by rw [HLEN.out, HN.out]; omega)
  have C3 : Chg (fun k => B.ok k) w _ := c3.mono (fun k _ e => by
    rcases e with e | rfl
    · exact (HH.out.own k (by rw [HH.out.gr1.cv k e]; decide)).1
    · exact (HH.out.own _ (by rw [HH.out.k6]; decide)).1)
  have HL3 := Lib.hid hL3
  have HC3 := Lib.hid C3
  clear hL3 C3 c3 c2' hb2' hr3 hn3 cs3 b1 b2 hn2 c2 hb2 hr2 HH HGD HV HDL hne y0 xg
  go_wp2
  go_ret
  refine ⟨rfl, LinkIn.mk HL3.out rfl ?_, HC3.out⟩
  unfold Lm.pl
  simp only [erase_mapU]
set_option maxHeartbeats 8000000 in
theorem ltwice_ok1 {w : World} {B : Base} {col : Nat → Nat} {L : Lm} (h : LinkAt w B col L) (i : Nat) (hi : i < L.G1.length) :
    Calls Try.prog 54 #[.pointer (some ⟨L.p, 0, none⟩), .int .i64 1, .int .i64 (i : Nat)] w (outPost w B L.p (0, { L.pl with G1 := putG L.pl.G1 ((L.G1[i]).xs, (L.G1[i]).sp) })) := by
  have H := Lib.hid (lfind_ok1 h i hi)
  have y0 := h.n1.c0
  have hrow := h.gr1.row
  have hne : ¬ L.v1.ownBlock = some L.g1 := fun e => by have h1 := h.gr1.cv _ e; have h2 := h.k6; omega
  have hd := h.gr1.ds _ (List.getElem_mem hi)
  obtain ⟨d, hdE⟩ : ∃ d, L.G1[i] = d := ⟨_, rfl⟩
  have hget := gcells_getU L.G1 i hi
  have hget2 := gcells_getV L.G1 i hi
  rw [hdE] at hd hget hget2 ⊢
  have HPUT := Lib.hid (put_core h.n1 hrow d hne h.base_le h.l1)
  obtain ⟨V, q, hv, hnq, hV, -⟩ := own_slice hrow
  obtain ⟨g, rfl, -⟩ := hV (by omega)
  rw [hv] at y0 hrow
  have xg := (hrow.cellAt (i * 2) (by omega)).trans hget
  have xh := (hrow.cellAt (i * 2 + 1) (by omega)).trans hget2
  have HH := Lib.hid h
  have HGD := Lib.hid hd
  clear h hd hv hrow hget hget2
  have i1 : (i : Int) < (L.G1.length : Int) := by omega
  clear hdE
  obtain ⟨n, hn⟩ : ∃ n, L.G1.length = n := ⟨_, rfl⟩
  rw [hn] at i1 y0 hnq hi
  clear hn
  go_enter Try.func54, Try.ntmps54
  go_wp2_with (fail)
  refine H.out.mono ?_
  rintro e w1 ⟨rfl, rfl⟩
  go_wp2_with (fail)
  refine HPUT.out.mono ?_
  rintro e w2 ⟨rfl, v', hn2, hr2, hb2, c2⟩
  have hL2 := HH.out.net1 hn2 hr2 hb2 c2 (fun x hx => by
    rcases putG_mem hx with h | rfl
    · exact HH.out.gr1.ds x h
    · exact HGD.out) (putG_len _ _ HH.out.l1)
  have C2 : Chg (fun k => B.ok k) w w2 := c2.mono (fun k _ e => by
    rcases e with e | rfl
    · exact (HH.out.own k (by rw [HH.out.gr1.cv k e]; decide)).1
    · exact (HH.out.own _ (by rw [HH.out.k6]; decide)).1)
  have HL2 := Lib.hid hL2
  clear hL2 hn2 hr2 hb2 c2 HPUT HH xg xh y0
  go_wp2
  go_ret
  refine ⟨rfl, LinkIn.mk HL2.out rfl ?_, C2⟩
  unfold Lm.pl
  simp only [putG_map]
end Go.Proofs.Ytnpkpfcljkekfaa
