/- A datagram is put on its way. -/
import Derived.Test.YtnpkpfcljkekfaaKE
import Derived.Test.YtnpkpfcljkekfaaRegL
namespace Go.Proofs.Ytnpkpfcljkekfaa
open Go Go.RowKit
set_option linter.unusedVariables false
set_option maxRecDepth 100000
set_option linter.unusedSimpArgs false

theorem infoGram : (Try.prog.info? 109).map (fun i => (i.zero, i.size, i.bytes)) = some (some (.agg #[.slice none 0 0, .bool false]), 2, 32) := by kernel_rfl
def putG {α : Type} (G : List α) (d : α) : List α := if G.length < 256 then G ++ [d] else G
theorem gcells_append (G : List Gd) (d : Gd) : gcells (G ++ [d]) = gcells G ++ [.slice d.A d.xs.length d.c, .bool d.sp] := by simp [gcells]
theorem gcells_length (G : List Gd) : (gcells G).length = G.length * 2 := by
  induction G with
  | nil => rfl
  | cons g G ih => simp [gcells] at ih ⊢; omega
/-- What put leaves. -/
def putPost (w : World) (B g : Nat) (v : Value) (kind : Int) (f : FuncId) (p : Nat) (G : List Gd) (e : Ending) (w' : World) : Prop :=
  e = .returned (.tuple #[]) ∧ ∃ v', NetBlk w' g v' kind f p ∧ w'.ownsRow B 109 2 v' G.length (gcells G) ∧ (∀ k, v'.ownBlock = some k → v.ownBlock = some k ∨ w.heap.size ≤ k) ∧ Chg (fun k => v.ownBlock = some k ∨ k = g) w w'
set_option maxHeartbeats 4000000 in
theorem put_core {w : World} {B g : Nat} {v : Value} {kind : Int} {f : FuncId} {p : Nat} {G : List Gd} (hn : NetBlk w g v kind f p) (hg : w.ownsRow B 109 2 v G.length (gcells G)) (d : Gd) (hne : v.ownBlock ≠ some g) (hB : B ≤ w.heap.size) (hG : G.length ≤ 256) :
    Calls Try.prog 82 #[.pointer (some ⟨g, 0, none⟩), .agg #[.slice d.A d.xs.length d.c, .bool d.sp]] w (putPost w B g v kind f p (putG G d)) := by
  have ca : Chg Pure' w (w.alloc (.cells #[.slice d.A d.xs.length d.c, .bool d.sp] 109)) := (Chg.refl _ w).alloc _
  have hn1 := hn.frame ca (fun h => h)
  have hg1 := own_keep hg ca (fun _ _ h => h)
  obtain ⟨V, q, rfl, hq, -⟩ := own_slice hg
  have x0 := hn1.c0
  by_cases hfull : G.length < 256
  · have hE : putG G d = G ++ [d] := by unfold putG; rw [if_pos hfull]
    rw [hE]
    have i1 : (G.length : Int) < 256 := by omega
    have hrow : Row (((w.alloc (.cells #[.slice d.A d.xs.length d.c, .bool d.sp] 109)).drew).alloc (.cells #[.slice d.A d.xs.length d.c, .bool d.sp] 109)) (some ⟨((w.alloc (.cells #[.slice d.A d.xs.length d.c, .bool d.sp] 109)).drew).heap.size, 0, none⟩) [.slice d.A d.xs.length d.c, .bool d.sp] := by
      refine ⟨fun _ => ⟨_, 0, rfl, fun j y hy => ?_⟩⟩
      rw [Nat.zero_add, cellAt_alloc_lit, ← hy]
      simp
    obtain ⟨w1, hw1⟩ : ∃ w1, w.alloc (.cells #[.slice d.A d.xs.length d.c, .bool d.sp] 109) = w1 := ⟨_, rfl⟩
    have x00 := x0
    rw [hw1] at ca hn1 hg1 x0 hrow
    have cb : Chg Pure' w1.drew (w1.drew.alloc (.cells #[.slice d.A d.xs.length d.c, .bool d.sp] 109)) := (Chg.refl _ _).alloc _
    have hg2 := own_keep (hg1.drew) cb (fun _ _ h => h)
    obtain ⟨v6, w6, hr6, ho6, hgr, hb6⟩ := app_own (P := Try.prog) _ B 93 93 109 Try.underlying93 infoGram rfl (by decide) _ _ _ hg2 _ 1 1 _ hrow rfl (by intro u hu; simp at hu; rcases hu with rfl | rfl <;> rfl) (by decide) (by omega) (Nat.le_trans hB (Nat.le_trans ca.size cb.size))
    rw [← gcells_append] at ho6
    have c6 : Chg (fun k => (Value.slice V G.length q).ownBlock = some k) (w1.drew.alloc (.cells #[.slice d.A d.xs.length d.c, .bool d.sp] 109)) w6 := (Chg.refl _ _).grown hgr (fun k hk => .inr hk)
    have C6 : Chg (fun k => (Value.slice V G.length q).ownBlock = some k) w1.drew w6 := (Chg.of_pure cb).trans' c6
    have C7 : Chg (fun k => (Value.slice V G.length q).ownBlock = some k) w w6 := (Chg.of_pure ca).trans' ((Chg.refl _ w1).drew.trans' C6)
    have hn6 := hn1.frame ((Chg.refl _ w1).drew.trans' C6) hne
    have hgsz : g < w.heap.size := hn.lt
    have z1 := ca.size
    obtain ⟨V6, q6, rfl, hq6, -, hV6⟩ := own_slice ho6
    have hn7 : NetBlk (w6.setCell ⟨g, 0, none⟩ (.slice V6 (G.length + 1) q6)) g (.slice V6 (G.length + 1) q6) kind f p := by
      obtain ⟨cs, b1, b2⟩ := hn6.blk
      exact ⟨⟨_, heap_setCell_same w6 g 0 _ _ _ b1, by simpa using b2⟩, set_at hn6.c0, (set_far (by decide)).trans hn6.c1, (set_far (by decide)).trans hn6.c2⟩
    have cs8 : Chg (fun k => k = g) w6 (w6.setCell ⟨g, 0, none⟩ (.slice V6 (G.length + 1) q6)) := Chg.setCell (S := fun k => k = g) (Chg.refl _ w6) (p := ⟨g, 0, none⟩) (.inr rfl) _
    have hb7 : ∀ k, (Value.slice V6 (G.length + 1) q6).ownBlock = some k → (Value.slice V G.length q).ownBlock = some k ∨ w.heap.size ≤ k := fun k hk => (hb6 k hk).imp id (fun h => by have := cb.size; have h : (w1.drew.alloc (.cells #[.slice d.A d.xs.length d.c, .bool d.sp] 109)).heap.size ≤ k := h; exact Nat.le_trans (Nat.le_trans z1 this) h)
    have ho7 := own_keep ho6 cs8 (fun k hk e => by
      rcases hb7 k hk with h | h
      · rw [show k = g from e] at h; exact hne h
      · have e : k = g := e; omega)
    obtain ⟨cs, b1, b2⟩ := hn6.blk
    have f6 : w6.frozen? ⟨g, 0, none⟩ = false := free_at b1
    have x6 := hn6.c0
    have HN7 := Lib.hid hn7
    have HO7 := Lib.hid ho7
    have HB7 := Lib.hid hb7
    have C8 : Chg (fun k => (Value.slice V G.length q).ownBlock = some k ∨ k = g) w _ := (C7.mono (fun k _ h => .inl h)).trans' (cs8.mono (fun k _ e => .inr e))
    have HW1 := Lib.hid hw1
    have HC6 := Lib.hid c6
    have hne2 : ¬ (Value.slice V G.length q).ownBlock = some g := hne
    have l0 : w1.cell? ⟨w.heap.size, 0, none⟩ = some (.slice d.A d.xs.length d.c) := by rw [← hw1]; exact cellAt_alloc_lit w #[.slice d.A d.xs.length d.c, .bool d.sp] 109 0
    have l1 : w1.cell? ⟨w.heap.size, 1, none⟩ = some (.bool d.sp) := by rw [← hw1]; exact cellAt_alloc_lit w #[.slice d.A d.xs.length d.c, .bool d.sp] 109 1
    have hnd : ¬ (Value.slice V G.length q).ownBlock = some w.heap.size := fun e => by have := (hg.lt _ e).2; omega
    clear hw1 hn7 ho7 hb7 hn6 ho6 hgr hb6 c6 C6 C7 cs8 b1 b2 hn1 hg1 hrow hg2 cb ca hn hg hE hfull hne hV6
    go_enter Try.func82, Try.ntmps82
    go_wp2_with (fail)
    rw [HW1.out]
    clear x00
    refine regL_begin 10 (fun k => (Value.slice V G.length q).ownBlock = some k) (by kernel_rfl) ?_
    refine regL_take 0 (v := ?_) rfl (by kernel_rfl) (by kernel_rfl) (by kernel_rfl) (by kernel_rfl) (fun _ _ _ h => h) (by kernel_rfl) ?_ ?_
    rotate_left
    · (intro w' hS; go_simp; (try go_bits); (try with_reducible rfl))
    try simp only [Act.put, List.getElem_toArray, List.getElem_cons_zero, List.getElem_cons_succ, List.setIfInBounds_toArray, List.set_cons_zero, List.set_cons_succ]
    refine regL_take 1 (v := ?_) rfl (by kernel_rfl) (by kernel_rfl) (by kernel_rfl) (by kernel_rfl) (fun _ _ _ h => h) (by kernel_rfl) ?_ ?_
    rotate_left
    · (intro w' hS; go_simp; (try go_bits); (try with_reducible rfl))
    try simp only [Act.put, List.getElem_toArray, List.getElem_cons_zero, List.getElem_cons_succ, List.setIfInBounds_toArray, List.set_cons_zero, List.set_cons_succ]
    refine regL_take 2 (v := ?_) rfl (by kernel_rfl) (by kernel_rfl) (by kernel_rfl) (by kernel_rfl) (fun _ _ _ h => h) (by kernel_rfl) ?_ ?_
    rotate_left
    · (intro w' hS; go_simp; (try go_bits); (try with_reducible rfl))
    try simp only [Act.put, List.getElem_toArray, List.getElem_cons_zero, List.getElem_cons_succ, List.setIfInBounds_toArray, List.set_cons_zero, List.set_cons_succ]
    refine regL_take 3 (v := ?_) rfl (by kernel_rfl) (by kernel_rfl) (by kernel_rfl) (by kernel_rfl) (fun _ _ _ h => h) (by kernel_rfl) ?_ ?_
    rotate_left
    · (intro w' hS; go_simp; (try go_bits); (try with_reducible rfl))
    try simp only [Act.put, List.getElem_toArray, List.getElem_cons_zero, List.getElem_cons_succ, List.setIfInBounds_toArray, List.set_cons_zero, List.set_cons_succ]
    refine regL_take 4 (v := ?_) rfl (by kernel_rfl) (by kernel_rfl) (by kernel_rfl) (by kernel_rfl) (fun _ _ _ h => h) (by kernel_rfl) ?_ ?_
    rotate_left
    · (intro w' hS; have hz := hS.cell (w := w1.drew) x0 hne2; go_simp; (try go_bits); (try with_reducible rfl))
    try simp only [Act.put, List.getElem_toArray, List.getElem_cons_zero, List.getElem_cons_succ, List.setIfInBounds_toArray, List.set_cons_zero, List.set_cons_succ]
    refine regL_take 5 (v := ?_) rfl (by kernel_rfl) (by kernel_rfl) (by kernel_rfl) (by kernel_rfl) (fun _ _ _ h => h) (by kernel_rfl) ?_ ?_
    rotate_left
    · (intro w' hS; have hz := hS.cell (w := w1.drew) l0 hnd; have hz1 := hS.cell (w := w1.drew) l1 hnd; go_simp; (try go_bits); (try with_reducible rfl))
    try simp only [Act.put, List.getElem_toArray, List.getElem_cons_zero, List.getElem_cons_succ, List.setIfInBounds_toArray, List.set_cons_zero, List.set_cons_succ]
    refine regL_do 6 rfl (by kernel_rfl) (by kernel_rfl) ?_
    intro K hK
    go_simp
    refine hK _ _ ((Chg.refl _ _).alloc _) ?_
    clear hK K
    refine regL_do 7 rfl (by kernel_rfl) (by kernel_rfl) ?_
    intro K hK
    refine Lib.wp_append_run _ _ _ _ _ rfl _ _ rfl rfl _ _ hr6 ?_
    refine hK _ _ HC6.out ?_
    clear hK K
    refine regL_do 8 rfl (by kernel_rfl) (by kernel_rfl) ?_
    intro K hK
    go_simp
    refine hK _ _ (Chg.refl _ _) ?_
    clear hK K
    refine regL_take 9 (v := ?_) rfl (by kernel_rfl) (by kernel_rfl) (by kernel_rfl) (by kernel_rfl) (fun _ _ _ h => h) (by kernel_rfl) ?_ ?_
    rotate_left
    · (intro w' hS; go_simp; (try go_bits); (try with_reducible rfl))
    try simp only [Act.put, List.getElem_toArray, List.getElem_cons_zero, List.getElem_cons_succ, List.setIfInBounds_toArray, List.set_cons_zero, List.set_cons_succ]
    refine regL_last rfl (by kernel_rfl) (by kernel_rfl) ?_
    intro K hK
    go_simp
    refine hK _ _ ?_
    clear hK K
    try simp only [Act.put, List.getElem_toArray, List.getElem_cons_zero, List.getElem_cons_succ, List.setIfInBounds_toArray, List.set_cons_zero, List.set_cons_succ]
    refine wpAnyL_done (by kernel_rfl) ?_ _
    clear x6 f6 x0 l0 l1
    first | go_end0 | (refine bodyPost_ret (results_none rfl _ _ _) rfl ?_)
    refine ⟨rfl, _, HN7.out, ?_, HB7.out, C8⟩
    have := HO7.out
    rwa [List.length_append]
  · have hE : putG G d = G := by unfold putG; rw [if_neg hfull]
    rw [hE]
    have i1 : ((G.length : Int) < 256) = False := eq_false (by omega)
    have HN := Lib.hid hn1
    have HG := Lib.hid hg1
    clear hn hg hn1 hg1 hE hfull hG
    go_enter Try.func82, Try.ntmps82
    go_wp2_with (fail)
    first | go_end0 | (refine bodyPost_ret (results_none rfl _ _ _) rfl ?_)
    exact ⟨rfl, _, HN.out, HG.out, fun k hk => .inl hk, Chg.of_pure ca⟩
end Go.Proofs.Ytnpkpfcljkekfaa
namespace Go.Proofs.Ytnpkpfcljkekfaa
open Go Go.RowKit
set_option linter.unusedVariables false
set_option maxRecDepth 100000
set_option linter.unusedSimpArgs false

theorem putG_len {α : Type} (G : List α) (d : α) (h : G.length ≤ 256) : (putG G d).length ≤ 256 := by
  unfold putG
  split
  · simp; omega
  · exact h
theorem putG_mem {α : Type} {G : List α} {d x : α} (h : x ∈ putG G d) : x ∈ G ∨ x = d := by
  unfold putG at h
  split at h
  · simpa using h
  · exact .inl h
theorem putG_map {α β : Type} (f : α → β) (G : List α) (d : α) : (putG G d).map f = putG (G.map f) (f d) := by
  unfold putG
  rw [List.length_map]
  split <;> simp
/-- New blocks, of which nothing is the link's yet, get a colour. -/
theorem LinkAt.fresh {w w' : World} {B : Base} {col : Nat → Nat} {m : Lm} (h : LinkAt w B col m) (hc : Chg Pure' w w') (c : Nat) : LinkAt w' B (paint col w.heap.size w'.heap.size c) m := by
  have s := h.stays (col' := paint col w.heap.size w'.heap.size c) (fun _ => False) hc (fun k _ hk => hk.elim) (fun h => h) (fun k hk => paint_old _ _ _ _ _ hk)
  exact ⟨paint_own h c h.base_le hc.size, s.lk (fun h => h), s.nbk (fun h => h), s.n0 (fun h => h), s.n1 (fun h => h), s.snd (fun h => h), s.rcv (fun h => h), s.gr0 (fun h => h), s.gr1 (fun h => h), s.k3, s.k4, s.k5, s.k6, s.k1, s.k2, h.l0, h.l1, h.now⟩
theorem GdAt.frame {S : Nat → Prop} {w w' : World} {col col' : Nat → Nat} {d : Gd} (h : GdAt w col d) (hc : Chg S w w') (hd : ∀ k, col k = 9 → ¬ S k) (he : ∀ k, col k ≠ 0 → col' k = col k) : GdAt w' col' d :=
  ⟨h.bytes.chg hc (fun a ha => hd _ (h.cd a ha)), h.cap, h.big, fun a ha => by have h9 := h.cd a ha; rw [he _ (by omega), h9]⟩
/-- The first net has another row. -/
theorem LinkAt.net0 {w w' : World} {B : Base} {col : Nat → Nat} {m : Lm} {v' : Value} {G : List Gd} (h : LinkAt w B col m) (hn : NetBlk w' m.g0 v' 1 50 m.p) (hr : w'.ownsRow B 109 2 v' G.length (gcells G))
    (hb : ∀ k, v'.ownBlock = some k → m.v0.ownBlock = some k ∨ w.heap.size ≤ k) (hc : Chg (fun k => m.v0.ownBlock = some k ∨ k = m.g0) w w') (hG : ∀ d ∈ G, GdAt w col d) (hl : G.length ≤ 256) :
    LinkAt w' B (paint col w.heap.size w'.heap.size 7) { m with v0 := v', G0 := G } := by
  have hS : ∀ k, k < w.heap.size → (m.v0.ownBlock = some k ∨ k = m.g0) → (col k = 7 ∨ col k = 5) := fun k _ hk => hk.elim (fun e => .inl (h.gr0.cv k e)) (fun e => .inr (by rw [e]; exact h.k5))
  have s := h.stays (col' := paint col w.heap.size w'.heap.size 7) (fun c => c = 7 ∨ c = 5) hc hS (by decide) (fun k hk => paint_old _ _ _ _ _ hk)
  refine ⟨paint_own h 7 h.base_le hc.size, (s.lk (by decide)).of rfl rfl rfl rfl rfl rfl rfl rfl rfl, (s.nbk (by decide)).of rfl rfl rfl, hn, s.n1 (by decide), s.snd (by decide), s.rcv (by decide), ⟨hr, ?_, ?_⟩, s.gr1 (by decide), s.k3, s.k4, s.k5, s.k6, s.k1, s.k2, hl, h.l1, h.now⟩
  · intro g hg
    rcases hb g hg with h1 | h1
    · rw [paint_old _ _ _ _ _ (by rw [h.gr0.cv g h1]; decide), h.gr0.cv g h1]
    · exact paint_new h _ 7 g h1 (hr.lt g hg).2
  · intro d hd
    refine (hG d hd).frame hc (fun k hk hs => ?_) (fun k hk => paint_old _ _ _ _ _ hk)
    have := hS k (h.own k (by omega)).2.1 hs
    omega
theorem LinkAt.net1 {w w' : World} {B : Base} {col : Nat → Nat} {m : Lm} {v' : Value} {G : List Gd} (h : LinkAt w B col m) (hn : NetBlk w' m.g1 v' 2 51 m.p) (hr : w'.ownsRow B 109 2 v' G.length (gcells G))
    (hb : ∀ k, v'.ownBlock = some k → m.v1.ownBlock = some k ∨ w.heap.size ≤ k) (hc : Chg (fun k => m.v1.ownBlock = some k ∨ k = m.g1) w w') (hG : ∀ d ∈ G, GdAt w col d) (hl : G.length ≤ 256) :
    LinkAt w' B (paint col w.heap.size w'.heap.size 8) { m with v1 := v', G1 := G } := by
  have hS : ∀ k, k < w.heap.size → (m.v1.ownBlock = some k ∨ k = m.g1) → (col k = 8 ∨ col k = 6) := fun k _ hk => hk.elim (fun e => .inl (h.gr1.cv k e)) (fun e => .inr (by rw [e]; exact h.k6))
  have s := h.stays (col' := paint col w.heap.size w'.heap.size 8) (fun c => c = 8 ∨ c = 6) hc hS (by decide) (fun k hk => paint_old _ _ _ _ _ hk)
  refine ⟨paint_own h 8 h.base_le hc.size, (s.lk (by decide)).of rfl rfl rfl rfl rfl rfl rfl rfl rfl, (s.nbk (by decide)).of rfl rfl rfl, s.n0 (by decide), hn, s.snd (by decide), s.rcv (by decide), s.gr0 (by decide), ⟨hr, ?_, ?_⟩, s.k3, s.k4, s.k5, s.k6, s.k1, s.k2, h.l0, hl, h.now⟩
  · intro g hg
    rcases hb g hg with h1 | h1
    · rw [paint_old _ _ _ _ _ (by rw [h.gr1.cv g h1]; decide), h.gr1.cv g h1]
    · exact paint_new h _ 8 g h1 (hr.lt g hg).2
  · intro d hd
    refine (hG d hd).frame hc (fun k hk hs => ?_) (fun k hk => paint_old _ _ _ _ _ hk)
    have := hS k (h.own k (by omega)).2.1 hs
    omega
/-- What a datagram's bytes are; nothing, if it is refused. -/
def packB (m : Ms) : List UInt8 := if m.may = true ∧ m.bytes.length ≤ 1200 then frameB m.bytes else []
/-- What Pack answered, as a datagram. -/
theorem pack_gram {w w' : World} {col : Nat → Nat} {B : Base} {L : Lm} {m : Ms} {e : Ending} (hL : LinkAt w B col L) (h : packPost w m e w') :
    ∃ (d : Gd) (k : Int), e = .returned (.tuple #[.slice d.A d.xs.length d.c, .int .i64 k]) ∧ d.xs = packB m ∧ d.sp = false ∧ GdAt w' (paint col w.heap.size w'.heap.size 9) d ∧ LinkAt w' B (paint col w.heap.size w'.heap.size 9) L := by
  obtain ⟨hc, hp⟩ := h
  have hL2 := hL.fresh hc 9
  rcases hp with ⟨h1, rfl⟩ | ⟨h1, h2, rfl⟩ | ⟨h1, h2, v, rfl, ho⟩
  · exact ⟨⟨none, 0, [], false⟩, 1, rfl, by unfold packB; rw [if_neg (by rw [h1]; simp)], rfl, ⟨Bytes.nil _ _, Nat.le_refl _, Nat.zero_le _, fun a ha => by cases ha⟩, hL2⟩
  · exact ⟨⟨none, 0, [], false⟩, 8, rfl, by unfold packB; rw [if_neg (by omega)], rfl, ⟨Bytes.nil _ _, Nat.le_refl _, Nat.zero_le _, fun a ha => by cases ha⟩, hL2⟩
  · obtain ⟨A, q, rfl, hq, -, hA⟩ := own_slice ho
    obtain ⟨A', q', hv, -, hb, -⟩ := Bytes.of_own ho
    cases hv
    have hl : (frameB m.bytes).length = m.bytes.length + 8 := frameB_length _
    refine ⟨⟨A, q, frameB m.bytes, false⟩, 0, by show _ = Ending.returned (.tuple #[.slice A (frameB m.bytes).length q, .int .i64 0]); rw [hl], by unfold packB; rw [if_pos ⟨h1, h2⟩], rfl, ⟨by show Bytes w' A (frameB m.bytes).length _; rw [hl]; exact hb, by show (frameB m.bytes).length ≤ q; rw [hl]; exact hq, by show (frameB m.bytes).length ≤ 1208; rw [hl]; omega, fun a ha => paint_new hL _ 9 _ (hA a ha).1 (hA a ha).2⟩, hL2⟩
end Go.Proofs.Ytnpkpfcljkekfaa
namespace Go.Proofs.Ytnpkpfcljkekfaa
open Go Go.RowKit
set_option linter.unusedVariables false
set_option maxRecDepth 100000
set_option linter.unusedSimpArgs false

theorem paint_eq {col : Nat → Nat} {n n' c k x : Nat} (h : paint col n n' c k = x) (h1 : x ≠ c) (h2 : x ≠ 0) : col k = x := by
  unfold paint at h
  split at h
  · exact h
  · split at h <;> omega
def Ms.sealed (m : Ms) (token : UInt64) (epoch : Nat) : Ms := { m with token := token, epoch := epoch }
/-- What tell leaves. -/
def tell0_Post (w : World) (B : Base) (col0 : Nat → Nat) (L : Lm) (m : Ms) (e : Ending) (w' : World) : Prop :=
  e = .returned (.tuple #[]) ∧ Chg (fun k => col0 k = 5 ∨ col0 k = 7) w w' ∧ ∃ (col : Nat → Nat) (v : Value) (d : Gd), (∀ k, col0 k ≠ 0 → col k = col0 k) ∧ d.xs = packB (m.sealed L.token L.epoch) ∧ d.sp = false ∧ LinkAt w' B col { L with v0 := v, G0 := putG L.G0 d }
set_option maxHeartbeats 4000000 in
theorem tell0_any {w : World} {B : Base} {col : Nat → Nat} {L : Lm} (h : LinkAt w B col L) (m : Ms) (A : Option Addr) (c : Nat) (hA : Bytes w A m.load.length m.load) (hc : m.load.length ≤ c) (hn : m.load.length ≤ 140737488351000) :
    Calls Try.prog 61 #[.pointer (some ⟨L.p, 0, none⟩), .pointer (some ⟨L.g0, 0, none⟩), m.val A m.load.length c] w (tell0_Post w B col L m) := by
  obtain ⟨w1, hw1⟩ : ∃ w1, w.alloc (.cells (m.cells A m.load.length c) 25) = w1 := ⟨_, rfl⟩
  have ca : Chg Pure' w w1 := by rw [← hw1]; exact (Chg.refl _ _).alloc _
  have hb1 : w1.heap[w.heap.size]? = some (.cells (m.cells A m.load.length c) 25 (0, 0)) := by rw [← hw1]; exact heap_alloc_new w _
  have h1 := h.pure ca
  have hpw : L.p ≠ w.heap.size := by have := h.lk.lt; omega
  have x0 := (h1.pure ((Chg.refl Pure' w1).drew)).lk.c0
  have x2 := (h1.pure ((Chg.refl Pure' w1).drew)).lk.c2
  have cT := setC (w := w1.drew) w.heap.size 1 (.int .u64 (L.token.toNat : Int))
  have cE := setC (w := w1.drew.setCell ⟨w.heap.size, 1, none⟩ (.int .u64 (L.token.toNat : Int))) w.heap.size 2 (.int .i64 (L.epoch : Nat))
  have hb2 : w1.drew.heap[w.heap.size]? = some (.cells (m.cells A m.load.length c) 25 (0, 0)) := hb1
  have y1 : w1.drew.cell? ⟨w.heap.size, 1, none⟩ = some (.int .u64 (m.token.toNat : Int)) := by rw [msg_cell hb2 1]; rfl
  have hb3 : (w1.drew.setCell ⟨w.heap.size, 1, none⟩ (.int .u64 (L.token.toNat : Int))).heap[w.heap.size]? = some (.cells ((m.sealed L.token 0).cells A m.load.length c |>.setIfInBounds 2 (.int .i64 m.epoch)) 25 (0, 0)) := msg_set hb2 1 _
  have y2 : (w1.drew.setCell ⟨w.heap.size, 1, none⟩ (.int .u64 (L.token.toNat : Int))).cell? ⟨w.heap.size, 2, none⟩ = some (.int .i64 m.epoch) := by rw [msg_cell hb3 2]; rfl
  have fr1 : w1.drew.frozen? ⟨w.heap.size, 1, none⟩ = false := free_at hb2
  have fr2 : (w1.drew.setCell ⟨w.heap.size, 1, none⟩ (.int .u64 (L.token.toNat : Int))).frozen? ⟨w.heap.size, 2, none⟩ = false := free_at hb3
  have hb4 : ((w1.drew.setCell ⟨w.heap.size, 1, none⟩ (.int .u64 (L.token.toNat : Int))).setCell ⟨w.heap.size, 2, none⟩ (.int .i64 (L.epoch : Nat))).heap[w.heap.size]? = some (.cells ((m.sealed L.token L.epoch).cells A m.load.length c) 25 (0, 0)) := msg_set hb3 2 _
  have C0 : Chg Pure' w ((w1.drew.setCell ⟨w.heap.size, 1, none⟩ (.int .u64 (L.token.toNat : Int))).setCell ⟨w.heap.size, 2, none⟩ (.int .i64 (L.epoch : Nat))) := (ca.trans' ((Chg.refl _ w1).drew)).trans (cT.trans' cE) (fun i hi e => by have e : i = w.heap.size := e; omega)
  have H2 := Lib.hid (h.pure C0)
  have HP := Lib.hid (lpack_any (m.sealed L.token L.epoch) A c ((w1.drew.setCell ⟨w.heap.size, 1, none⟩ (.int .u64 (L.token.toNat : Int))).setCell ⟨w.heap.size, 2, none⟩ (.int .i64 (L.epoch : Nat))) (hA.pure C0) hc (Nat.le_trans hn (by decide)))
  have HB4 := Lib.hid hb4
  have CC0 := Lib.hid C0
  have CT := Lib.hid cT
  have CE := Lib.hid cE
  have HW1 := Lib.hid hw1
  have hBw := h.base_le
  clear hw1 ca hb1 h1 h hb2 hb3 hb4 C0 cT cE hA
  unfold Ms.val Ms.cells at *
  go_enter Try.func61, Try.ntmps61
  go_wp2_with (fail)
  rw [HW1.out]
  refine reg_begin (fun k => k = w.heap.size) (by kernel_rfl) ?_
  clear HW1
  generalize w1.drew = wd at *
  refine reg_take 0 (v := ?_) rfl (by kernel_rfl) (by kernel_rfl) (by kernel_rfl) (fun _ _ _ h => h) (by kernel_rfl) ?_ ?_
  rotate_left
  · (intro w' hS; go_simp; (try go_bits); (try with_reducible rfl))
  try simp only [Act.put, List.getElem_toArray, List.getElem_cons_zero, List.getElem_cons_succ, List.setIfInBounds_toArray, List.set_cons_zero, List.set_cons_succ]
  refine reg_take 1 (v := ?_) rfl (by kernel_rfl) (by kernel_rfl) (by kernel_rfl) (fun _ _ _ h => h) (by kernel_rfl) ?_ ?_
  rotate_left
  · (intro w' hS; go_simp; (try go_bits); (try with_reducible rfl))
  try simp only [Act.put, List.getElem_toArray, List.getElem_cons_zero, List.getElem_cons_succ, List.setIfInBounds_toArray, List.set_cons_zero, List.set_cons_succ]
  refine reg_take 2 (v := ?_) rfl (by kernel_rfl) (by kernel_rfl) (by kernel_rfl) (fun _ _ _ h => h) (by kernel_rfl) ?_ ?_
  rotate_left
  · (intro w' hS; go_simp; (try go_bits); (try with_reducible rfl))
  try simp only [Act.put, List.getElem_toArray, List.getElem_cons_zero, List.getElem_cons_succ, List.setIfInBounds_toArray, List.set_cons_zero, List.set_cons_succ]
  refine reg_take 3 (v := ?_) rfl (by kernel_rfl) (by kernel_rfl) (by kernel_rfl) (fun _ _ _ h => h) (by kernel_rfl) ?_ ?_
  rotate_left
  · (intro w' hS; have hz := hS.cell (w := wd) x0 hpw; go_simp; (try go_bits); (try with_reducible rfl))
  try simp only [Act.put, List.getElem_toArray, List.getElem_cons_zero, List.getElem_cons_succ, List.setIfInBounds_toArray, List.set_cons_zero, List.set_cons_succ]
  refine reg_take 4 (v := ?_) rfl (by kernel_rfl) (by kernel_rfl) (by kernel_rfl) (fun _ _ _ h => h) (by kernel_rfl) ?_ ?_
  rotate_left
  · (intro w' hS; go_simp; (try go_bits); (try with_reducible rfl))
  try simp only [Act.put, List.getElem_toArray, List.getElem_cons_zero, List.getElem_cons_succ, List.setIfInBounds_toArray, List.set_cons_zero, List.set_cons_succ]
  refine reg_take 5 (v := ?_) rfl (by kernel_rfl) (by kernel_rfl) (by kernel_rfl) (fun _ _ _ h => h) (by kernel_rfl) ?_ ?_
  rotate_left
  · (intro w' hS; go_simp; (try go_bits); (try with_reducible rfl))
  try simp only [Act.put, List.getElem_toArray, List.getElem_cons_zero, List.getElem_cons_succ, List.setIfInBounds_toArray, List.set_cons_zero, List.set_cons_succ]
  refine reg_take 6 (v := ?_) rfl (by kernel_rfl) (by kernel_rfl) (by kernel_rfl) (fun _ _ _ h => h) (by kernel_rfl) ?_ ?_
  rotate_left
  · (intro w' hS; go_simp; (try go_bits); (try with_reducible rfl))
  try simp only [Act.put, List.getElem_toArray, List.getElem_cons_zero, List.getElem_cons_succ, List.setIfInBounds_toArray, List.set_cons_zero, List.set_cons_succ]
  refine reg_take 7 (v := ?_) rfl (by kernel_rfl) (by kernel_rfl) (by kernel_rfl) (fun _ _ _ h => h) (by kernel_rfl) ?_ ?_
  rotate_left
  · (intro w' hS; have hz := hS.cell (w := wd) x2 hpw; go_simp; (try go_bits); (try with_reducible rfl))
  try simp only [Act.put, List.getElem_toArray, List.getElem_cons_zero, List.getElem_cons_succ, List.setIfInBounds_toArray, List.set_cons_zero, List.set_cons_succ]
  refine reg_take 8 (v := ?_) rfl (by kernel_rfl) (by kernel_rfl) (by kernel_rfl) (fun _ _ _ h => h) (by kernel_rfl) ?_ ?_
  rotate_left
  · (intro w' hS; go_simp; (try go_bits); (try with_reducible rfl))
  try simp only [Act.put, List.getElem_toArray, List.getElem_cons_zero, List.getElem_cons_succ, List.setIfInBounds_toArray, List.set_cons_zero, List.set_cons_succ]
  refine reg_do 9 rfl (by kernel_rfl) (by kernel_rfl) ?_
  intro K hK
  go_simp
  refine hK _ _ (CT.out) ?_
  clear hK K
  try simp only [Act.put, List.getElem_toArray, List.getElem_cons_zero, List.getElem_cons_succ, List.setIfInBounds_toArray, List.set_cons_zero, List.set_cons_succ]
  refine reg_take 10 (v := ?_) rfl (by kernel_rfl) (by kernel_rfl) (by kernel_rfl) (fun _ _ _ h => h) (by kernel_rfl) ?_ ?_
  rotate_left
  · (intro w' hS; go_simp; (try go_bits); (try with_reducible rfl))
  try simp only [Act.put, List.getElem_toArray, List.getElem_cons_zero, List.getElem_cons_succ, List.setIfInBounds_toArray, List.set_cons_zero, List.set_cons_succ]
  refine reg_do 11 rfl (by kernel_rfl) (by kernel_rfl) ?_
  intro K hK
  go_simp
  refine hK _ _ (CE.out) ?_
  clear hK K
  try simp only [Act.put, List.getElem_toArray, List.getElem_cons_zero, List.getElem_cons_succ, List.setIfInBounds_toArray, List.set_cons_zero, List.set_cons_succ]
  refine wpAnyH_done (by kernel_rfl) ?_ _
  clear x0 x2 y1 y2 fr1 fr2 CT CE
  generalize ((wd.setCell ⟨w.heap.size, 1, none⟩ (.int .u64 (L.token.toNat : Int))).setCell ⟨w.heap.size, 2, none⟩ (.int .i64 (L.epoch : Nat))) = w2 at *
  have m0 := msg_cell HB4.out 0
  have m1 := msg_cell HB4.out 1
  have m2 := msg_cell HB4.out 2
  have m3 := msg_cell HB4.out 3
  have m4 := msg_cell HB4.out 4
  have m5 := msg_cell HB4.out 5
  have m6 := msg_cell HB4.out 6
  have m7 := msg_cell HB4.out 7
  have m8 := msg_cell HB4.out 8
  go_wp2_with (fail)
  refine HP.out.mono ?_
  intro e w3 hpp
  have hpc : Chg Pure' w2 w3 := hpp.1
  obtain ⟨d, k, rfl, hdx, hds, hgd, hL3⟩ := pack_gram H2.out hpp
  have hne : L.v0.ownBlock ≠ some L.g0 := fun e => by have h1 := hL3.gr0.cv _ e; have h2 := hL3.k5; omega
  have HPT := Lib.hid (put_core hL3.n0 hL3.gr0.row d hne hL3.base_le hL3.l0)
  have HL3 := Lib.hid hL3
  have HGD := Lib.hid hgd
  have HDX := Lib.hid hdx
  have HDS := Lib.hid hds
  have C3 := Lib.hid (CC0.out.pure hpc)
  rw [hds] at HPT
  clear hpp hdx hds hgd hL3 HP m0 m1 m2 m3 m4 m5 m6 m7 m8 HB4 hpc hne
  go_wp2_with (fail)
  refine HPT.out.mono ?_
  rintro e w4 ⟨rfl, v', hn4, hr4, hb4, c4⟩
  have hL4 := HL3.out.net0 hn4 hr4 hb4 c4 (fun x hx => by
    rcases putG_mem hx with h | rfl
    · exact HL3.out.gr0.ds x h
    · exact HGD.out) (putG_len _ _ HL3.out.l0)
  have C4 : Chg (fun k => col k = 5 ∨ col k = 7) w w4 := C3.out.of_pure.trans' (c4.mono (fun k _ h => by
    rcases h with h | rfl
    · exact .inr (paint_eq (HL3.out.gr0.cv k h) (by decide) (by decide))
    · exact .inl (paint_eq HL3.out.k5 (by decide) (by decide))))
  have hco : ∀ k, col k ≠ 0 → paint (paint col w2.heap.size w3.heap.size 9) w3.heap.size w4.heap.size 7 k = col k := fun k hk => by
    rw [paint_old _ _ _ _ _ (by rw [paint_old _ _ _ _ _ hk]; exact hk), paint_old _ _ _ _ _ hk]
  have HL4 := Lib.hid hL4
  clear hL4 hn4 hr4 hb4 c4 HPT HL3
  go_wp2
  first | go_end0 | (refine bodyPost_ret (results_none rfl _ _ _) rfl ?_)
  exact ⟨rfl, C4, _, v', d, hco, HDX.out, HDS.out, HL4.out⟩
/-- What tell leaves. -/
def tell1_Post (w : World) (B : Base) (col0 : Nat → Nat) (L : Lm) (m : Ms) (e : Ending) (w' : World) : Prop :=
  e = .returned (.tuple #[]) ∧ Chg (fun k => col0 k = 6 ∨ col0 k = 8) w w' ∧ ∃ (col : Nat → Nat) (v : Value) (d : Gd), (∀ k, col0 k ≠ 0 → col k = col0 k) ∧ d.xs = packB (m.sealed L.token L.epoch) ∧ d.sp = false ∧ LinkAt w' B col { L with v1 := v, G1 := putG L.G1 d }
set_option maxHeartbeats 4000000 in
theorem tell1_any {w : World} {B : Base} {col : Nat → Nat} {L : Lm} (h : LinkAt w B col L) (m : Ms) (A : Option Addr) (c : Nat) (hA : Bytes w A m.load.length m.load) (hc : m.load.length ≤ c) (hn : m.load.length ≤ 140737488351000) :
    Calls Try.prog 61 #[.pointer (some ⟨L.p, 0, none⟩), .pointer (some ⟨L.g1, 0, none⟩), m.val A m.load.length c] w (tell1_Post w B col L m) := by
  obtain ⟨w1, hw1⟩ : ∃ w1, w.alloc (.cells (m.cells A m.load.length c) 25) = w1 := ⟨_, rfl⟩
  have ca : Chg Pure' w w1 := by rw [← hw1]; exact (Chg.refl _ _).alloc _
  have hb1 : w1.heap[w.heap.size]? = some (.cells (m.cells A m.load.length c) 25 (0, 0)) := by rw [← hw1]; exact heap_alloc_new w _
  have h1 := h.pure ca
  have hpw : L.p ≠ w.heap.size := by have := h.lk.lt; omega
  have x0 := (h1.pure ((Chg.refl Pure' w1).drew)).lk.c0
  have x2 := (h1.pure ((Chg.refl Pure' w1).drew)).lk.c2
  have cT := setC (w := w1.drew) w.heap.size 1 (.int .u64 (L.token.toNat : Int))
  have cE := setC (w := w1.drew.setCell ⟨w.heap.size, 1, none⟩ (.int .u64 (L.token.toNat : Int))) w.heap.size 2 (.int .i64 (L.epoch : Nat))
  have hb2 : w1.drew.heap[w.heap.size]? = some (.cells (m.cells A m.load.length c) 25 (0, 0)) := hb1
  have y1 : w1.drew.cell? ⟨w.heap.size, 1, none⟩ = some (.int .u64 (m.token.toNat : Int)) := by rw [msg_cell hb2 1]; rfl
  have hb3 : (w1.drew.setCell ⟨w.heap.size, 1, none⟩ (.int .u64 (L.token.toNat : Int))).heap[w.heap.size]? = some (.cells ((m.sealed L.token 0).cells A m.load.length c |>.setIfInBounds 2 (.int .i64 m.epoch)) 25 (0, 0)) := msg_set hb2 1 _
  have y2 : (w1.drew.setCell ⟨w.heap.size, 1, none⟩ (.int .u64 (L.token.toNat : Int))).cell? ⟨w.heap.size, 2, none⟩ = some (.int .i64 m.epoch) := by rw [msg_cell hb3 2]; rfl
  have fr1 : w1.drew.frozen? ⟨w.heap.size, 1, none⟩ = false := free_at hb2
  have fr2 : (w1.drew.setCell ⟨w.heap.size, 1, none⟩ (.int .u64 (L.token.toNat : Int))).frozen? ⟨w.heap.size, 2, none⟩ = false := free_at hb3
  have hb4 : ((w1.drew.setCell ⟨w.heap.size, 1, none⟩ (.int .u64 (L.token.toNat : Int))).setCell ⟨w.heap.size, 2, none⟩ (.int .i64 (L.epoch : Nat))).heap[w.heap.size]? = some (.cells ((m.sealed L.token L.epoch).cells A m.load.length c) 25 (0, 0)) := msg_set hb3 2 _
  have C0 : Chg Pure' w ((w1.drew.setCell ⟨w.heap.size, 1, none⟩ (.int .u64 (L.token.toNat : Int))).setCell ⟨w.heap.size, 2, none⟩ (.int .i64 (L.epoch : Nat))) := (ca.trans' ((Chg.refl _ w1).drew)).trans (cT.trans' cE) (fun i hi e => by have e : i = w.heap.size := e; omega)
  have H2 := Lib.hid (h.pure C0)
  have HP := Lib.hid (lpack_any (m.sealed L.token L.epoch) A c ((w1.drew.setCell ⟨w.heap.size, 1, none⟩ (.int .u64 (L.token.toNat : Int))).setCell ⟨w.heap.size, 2, none⟩ (.int .i64 (L.epoch : Nat))) (hA.pure C0) hc (Nat.le_trans hn (by decide)))
  have HB4 := Lib.hid hb4
  have CC0 := Lib.hid C0
  have CT := Lib.hid cT
  have CE := Lib.hid cE
  have HW1 := Lib.hid hw1
  have hBw := h.base_le
  clear hw1 ca hb1 h1 h hb2 hb3 hb4 C0 cT cE hA
  unfold Ms.val Ms.cells at *
  go_enter Try.func61, Try.ntmps61
  go_wp2_with (fail)
  rw [HW1.out]
  refine reg_begin (fun k => k = w.heap.size) (by kernel_rfl) ?_
  clear HW1
  generalize w1.drew = wd at *
  refine reg_take 0 (v := ?_) rfl (by kernel_rfl) (by kernel_rfl) (by kernel_rfl) (fun _ _ _ h => h) (by kernel_rfl) ?_ ?_
  rotate_left
  · (intro w' hS; go_simp; (try go_bits); (try with_reducible rfl))
  try simp only [Act.put, List.getElem_toArray, List.getElem_cons_zero, List.getElem_cons_succ, List.setIfInBounds_toArray, List.set_cons_zero, List.set_cons_succ]
  refine reg_take 1 (v := ?_) rfl (by kernel_rfl) (by kernel_rfl) (by kernel_rfl) (fun _ _ _ h => h) (by kernel_rfl) ?_ ?_
  rotate_left
  · (intro w' hS; go_simp; (try go_bits); (try with_reducible rfl))
  try simp only [Act.put, List.getElem_toArray, List.getElem_cons_zero, List.getElem_cons_succ, List.setIfInBounds_toArray, List.set_cons_zero, List.set_cons_succ]
  refine reg_take 2 (v := ?_) rfl (by kernel_rfl) (by kernel_rfl) (by kernel_rfl) (fun _ _ _ h => h) (by kernel_rfl) ?_ ?_
  rotate_left
  · (intro w' hS; go_simp; (try go_bits); (try with_reducible rfl))
  try simp only [Act.put, List.getElem_toArray, List.getElem_cons_zero, List.getElem_cons_succ, List.setIfInBounds_toArray, List.set_cons_zero, List.set_cons_succ]
  refine reg_take 3 (v := ?_) rfl (by kernel_rfl) (by kernel_rfl) (by kernel_rfl) (fun _ _ _ h => h) (by kernel_rfl) ?_ ?_
  rotate_left
  · (intro w' hS; have hz := hS.cell (w := wd) x0 hpw; go_simp; (try go_bits); (try with_reducible rfl))
  try simp only [Act.put, List.getElem_toArray, List.getElem_cons_zero, List.getElem_cons_succ, List.setIfInBounds_toArray, List.set_cons_zero, List.set_cons_succ]
  refine reg_take 4 (v := ?_) rfl (by kernel_rfl) (by kernel_rfl) (by kernel_rfl) (fun _ _ _ h => h) (by kernel_rfl) ?_ ?_
  rotate_left
  · (intro w' hS; go_simp; (try go_bits); (try with_reducible rfl))
  try simp only [Act.put, List.getElem_toArray, List.getElem_cons_zero, List.getElem_cons_succ, List.setIfInBounds_toArray, List.set_cons_zero, List.set_cons_succ]
  refine reg_take 5 (v := ?_) rfl (by kernel_rfl) (by kernel_rfl) (by kernel_rfl) (fun _ _ _ h => h) (by kernel_rfl) ?_ ?_
  rotate_left
  · (intro w' hS; go_simp; (try go_bits); (try with_reducible rfl))
  try simp only [Act.put, List.getElem_toArray, List.getElem_cons_zero, List.getElem_cons_succ, List.setIfInBounds_toArray, List.set_cons_zero, List.set_cons_succ]
  refine reg_take 6 (v := ?_) rfl (by kernel_rfl) (by kernel_rfl) (by kernel_rfl) (fun _ _ _ h => h) (by kernel_rfl) ?_ ?_
  rotate_left
  · (intro w' hS; go_simp; (try go_bits); (try with_reducible rfl))
  try simp only [Act.put, List.getElem_toArray, List.getElem_cons_zero, List.getElem_cons_succ, List.setIfInBounds_toArray, List.set_cons_zero, List.set_cons_succ]
  refine reg_take 7 (v := ?_) rfl (by kernel_rfl) (by kernel_rfl) (by kernel_rfl) (fun _ _ _ h => h) (by kernel_rfl) ?_ ?_
  rotate_left
  · (intro w' hS; have hz := hS.cell (w := wd) x2 hpw; go_simp; (try go_bits); (try with_reducible rfl))
  try simp only [Act.put, List.getElem_toArray, List.getElem_cons_zero, List.getElem_cons_succ, List.setIfInBounds_toArray, List.set_cons_zero, List.set_cons_succ]
  refine reg_take 8 (v := ?_) rfl (by kernel_rfl) (by kernel_rfl) (by kernel_rfl) (fun _ _ _ h => h) (by kernel_rfl) ?_ ?_
  rotate_left
  · (intro w' hS; go_simp; (try go_bits); (try with_reducible rfl))
  try simp only [Act.put, List.getElem_toArray, List.getElem_cons_zero, List.getElem_cons_succ, List.setIfInBounds_toArray, List.set_cons_zero, List.set_cons_succ]
  refine reg_do 9 rfl (by kernel_rfl) (by kernel_rfl) ?_
  intro K hK
  go_simp
  refine hK _ _ (CT.out) ?_
  clear hK K
  try simp only [Act.put, List.getElem_toArray, List.getElem_cons_zero, List.getElem_cons_succ, List.setIfInBounds_toArray, List.set_cons_zero, List.set_cons_succ]
  refine reg_take 10 (v := ?_) rfl (by kernel_rfl) (by kernel_rfl) (by kernel_rfl) (fun _ _ _ h => h) (by kernel_rfl) ?_ ?_
  rotate_left
  · (intro w' hS; go_simp; (try go_bits); (try with_reducible rfl))
  try simp only [Act.put, List.getElem_toArray, List.getElem_cons_zero, List.getElem_cons_succ, List.setIfInBounds_toArray, List.set_cons_zero, List.set_cons_succ]
  refine reg_do 11 rfl (by kernel_rfl) (by kernel_rfl) ?_
  intro K hK
  go_simp
  refine hK _ _ (CE.out) ?_
  clear hK K
  try simp only [Act.put, List.getElem_toArray, List.getElem_cons_zero, List.getElem_cons_succ, List.setIfInBounds_toArray, List.set_cons_zero, List.set_cons_succ]
  refine wpAnyH_done (by kernel_rfl) ?_ _
  clear x0 x2 y1 y2 fr1 fr2 CT CE
  generalize ((wd.setCell ⟨w.heap.size, 1, none⟩ (.int .u64 (L.token.toNat : Int))).setCell ⟨w.heap.size, 2, none⟩ (.int .i64 (L.epoch : Nat))) = w2 at *
  have m0 := msg_cell HB4.out 0
  have m1 := msg_cell HB4.out 1
  have m2 := msg_cell HB4.out 2
  have m3 := msg_cell HB4.out 3
  have m4 := msg_cell HB4.out 4
  have m5 := msg_cell HB4.out 5
  have m6 := msg_cell HB4.out 6
  have m7 := msg_cell HB4.out 7
  have m8 := msg_cell HB4.out 8
  go_wp2_with (fail)
  refine HP.out.mono ?_
  intro e w3 hpp
  have hpc : Chg Pure' w2 w3 := hpp.1
  obtain ⟨d, k, rfl, hdx, hds, hgd, hL3⟩ := pack_gram H2.out hpp
  have hne : L.v1.ownBlock ≠ some L.g1 := fun e => by have h1 := hL3.gr1.cv _ e; have h2 := hL3.k6; omega
  have HPT := Lib.hid (put_core hL3.n1 hL3.gr1.row d hne hL3.base_le hL3.l1)
  have HL3 := Lib.hid hL3
  have HGD := Lib.hid hgd
  have HDX := Lib.hid hdx
  have HDS := Lib.hid hds
  have C3 := Lib.hid (CC0.out.pure hpc)
  rw [hds] at HPT
  clear hpp hdx hds hgd hL3 HP m0 m1 m2 m3 m4 m5 m6 m7 m8 HB4 hpc hne
  go_wp2_with (fail)
  refine HPT.out.mono ?_
  rintro e w4 ⟨rfl, v', hn4, hr4, hb4, c4⟩
  have hL4 := HL3.out.net1 hn4 hr4 hb4 c4 (fun x hx => by
    rcases putG_mem hx with h | rfl
    · exact HL3.out.gr1.ds x h
    · exact HGD.out) (putG_len _ _ HL3.out.l1)
  have C4 : Chg (fun k => col k = 6 ∨ col k = 8) w w4 := C3.out.of_pure.trans' (c4.mono (fun k _ h => by
    rcases h with h | rfl
    · exact .inr (paint_eq (HL3.out.gr1.cv k h) (by decide) (by decide))
    · exact .inl (paint_eq HL3.out.k6 (by decide) (by decide))))
  have hco : ∀ k, col k ≠ 0 → paint (paint col w2.heap.size w3.heap.size 9) w3.heap.size w4.heap.size 8 k = col k := fun k hk => by
    rw [paint_old _ _ _ _ _ (by rw [paint_old _ _ _ _ _ hk]; exact hk), paint_old _ _ _ _ _ hk]
  have HL4 := Lib.hid hL4
  clear hL4 hn4 hr4 hb4 c4 HPT HL3
  go_wp2
  first | go_end0 | (refine bodyPost_ret (results_none rfl _ _ _) rfl ?_)
  exact ⟨rfl, C4, _, v', d, hco, HDX.out, HDS.out, HL4.out⟩
end Go.Proofs.Ytnpkpfcljkekfaa
