/- The laws of layer 19, going on: a watcher of a link. -/
import Derived.Test.YtnpkpfcljkekfaaL19C
namespace Go.Proofs.Ytnpkpfcljkekfaa
open Go Go.RowKit
set_option linter.unusedVariables false
set_option maxRecDepth 100000
set_option linter.unusedSimpArgs false

/-- What is new, and what is written of what stays apart, stays apart. -/
theorem LinkIn.apartS {S : Nat → Prop} {w w' : World} {B : Base} {p : Nat} {s : Lp} (h : LinkIn w B p s) (hc : Chg S w w') (hS : ∀ k, S k → B.X k) :
    ∃ B' : Base, LinkIn w' B' p s ∧ B'.n = B.n ∧ (∀ k, B.X k → B'.X k) ∧ ∀ k, w.heap.size ≤ k → k < w'.heap.size → B'.X k := by
  obtain ⟨m, col, hp, hs, h⟩ := h
  have h1 := (h.own m.p (by rw [h.k3]; decide)).2.2
  have h2 := hc.size
  have st := h.stays (col' := col) (fun c => c = 0) hc (fun k _ hk => by
    apply Classical.byContradiction
    intro h0
    exact (h.own k h0).1.2 (hS k hk)) (by decide) (fun _ _ => rfl)
  refine ⟨⟨B.n, fun k => B.X k ∨ (w.heap.size ≤ k ∧ k < w'.heap.size), w'.heap.size, fun k hk => ?_⟩, ⟨m, col, hp, hs, ⟨fun k hk => ?_, st.lk (by decide), st.nbk (by decide), st.n0 (by decide), st.n1 (by decide), st.snd (by decide), st.rcv (by decide), ⟨(st.gr0 (by decide)).row, (st.gr0 (by decide)).cv, (st.gr0 (by decide)).ds⟩, ⟨(st.gr1 (by decide)).row, (st.gr1 (by decide)).cv, (st.gr1 (by decide)).ds⟩, st.k3, st.k4, st.k5, st.k6, st.k1, st.k2, h.l0, h.l1, h.now⟩⟩, rfl, fun k hk => .inl hk, fun k a b => .inr ⟨a, b⟩⟩
  · rcases hk with hk | hk
    · have := B.lt k hk; omega
    · exact hk.2
  · have g := h.own k hk
    refine ⟨⟨g.1.1, fun hx => ?_⟩, Nat.lt_of_lt_of_le g.2.1 h2, Nat.le_refl _⟩
    rcases hx with hx | hx
    · exact g.1.2 hx
    · omega
/-- A watcher in memory: the loads that were taken, as they came in. -/
structure Watch (w0 w : World) (q p : Nat) (v : Value) (cs : List Value) (S : List (List UInt8)) (got : Nat) : Prop where
  blk : ∃ cs, w.heap[q]? = some (.cells cs 46 (0, 0)) ∧ cs.size = 3
  c0 : w.cell? ⟨q, 0, none⟩ = some (.pointer (some ⟨p, 0, none⟩))
  c1 : w.cell? ⟨q, 1, none⟩ = some v
  c2 : w.cell? ⟨q, 2, none⟩ = some (.int .i64 (got : Nat))
  row : w.ownsRow w0.heap.size 23 1 v S.length cs
  cells : ∀ i (h : i < S.length), ∃ Ai ni ci, cs[i]? = some (.slice Ai ni ci) ∧ Bytes w0 Ai ni (S[i]'h)
theorem Watch.frame {T : Nat → Prop} {w0 w w' : World} {q p : Nat} {v : Value} {cs : List Value} {S : List (List UInt8)} {got : Nat} (h : Watch w0 w q p v cs S got) (hc : Chg T w w') (hq : ¬ T q) (hv : ∀ k, v.ownBlock = some k → ¬ T k) : Watch w0 w' q p v cs S got := by
  obtain ⟨b, h1, h2⟩ := h.blk
  exact ⟨⟨b, (hc.block q (Array.getElem?_eq_some_iff.1 h1).1 hq).trans h1, h2⟩, hc.cell h.c0 hq, hc.cell h.c1 hq, hc.cell h.c2 hq, own_keep h.row hc hv, h.cells⟩
/-- A link under a watcher's eyes. -/
def Watched (w0 w : World) (p q : Nat) (s : Lp) (S : List (List UInt8)) : Prop :=
  ∃ B v cs, LinkIn w B p s ∧ Watch w0 w q p v cs S s.got ∧ B.X q ∧ (∀ k, v.ownBlock = some k → B.X k ∧ k ≠ q) ∧ Chg Pure' w0 w ∧ w0.heap.size ≤ q ∧ B.n = w0.heap.size
theorem infoLoads : (Try.prog.info? 23).map (fun i => (i.zero, i.size, i.bytes)) = some (some (.slice none 0 0), 1, 24) := by kernel_rfl
/-- What a call under a watcher's eyes leaves. -/
def stepPost (w0 w : World) (p q : Nat) (S : List (List UInt8)) (kind : Int) (xs : List UInt8) (r : (List UInt8 × Bool × Int) × Lp) (e : Ending) (w' : World) : Prop :=
  e = .returned (.bool true) ∧ Watched w0 w' p q r.2 (if kind = 0 ∧ r.1.2.2 = 0 then S ++ [xs] else S) ∧ Chg (fun k => w0.heap.size ≤ k) w w' 
/-- Where the walk stands behind does. -/
structure Seen (w0 w : World) (B : Base) (p q bx : Nat) (s : Lp) (v : Value) (cs : List Value) (S : List (List UInt8)) (got : Nat) : Prop where
  link : LinkIn w B p s
  watch : Watch w0 w q p v cs S got
  xq : B.X q
  xv : ∀ k, v.ownBlock = some k → B.X k ∧ k ≠ q
  chg : Chg Pure' w0 w
  qle : w0.heap.size ≤ q
  bn : B.n = w0.heap.size
theorem Seen.ok {w0 w : World} {B : Base} {p q bx : Nat} {s : Lp} {v : Value} {cs : List Value} {S : List (List UInt8)} (h : Seen w0 w B p q bx s v cs S s.got) : Watched w0 w p q s S :=
  ⟨B, v, cs, h.link, h.watch, h.xq, h.xv, h.chg, h.qle, h.bn⟩
set_option maxHeartbeats 16000000 in
theorem lstep_any {w0 w : World} {p q : Nat} {s : Lp} {S : List (List UInt8)} (h : Watched w0 w p q s S) (hb : Room s) (h8 : Framed s) (hS : (S.length + 1) * 24 ≤ 140737488355328) (kind net i at_ : Int) (hat : -9223372036854775808 ≤ at_ ∧ at_ ≤ 9223372036854775807) (b : UInt32)
    (A : Option Addr) (n c : Nat) (xs : List UInt8) (hA : Bytes w0 A n xs) (hc : n ≤ c) (hn : n ≤ 140737488351232) (hgot : s.got = s.T)
    (hg : kind = 1 → (actL s kind net i at_ b xs).1.2.1 = true → s.T < S.length ∧ (actL s kind net i at_ b xs).1.1 = S.getD s.T [] ∧ (actL s kind net i at_ b xs).2.got = s.got + 1)
    (hk : ¬ (kind = 1 ∧ (actL s kind net i at_ b xs).1.2.1 = true) → (actL s kind net i at_ b xs).2.got = s.got) :
    Calls Try.prog 17 #[.pointer (some ⟨q, 0, none⟩), .agg (actV kind net i at_ b A n c)] w (stepPost w0 w p q S kind xs (actL s kind net i at_ b xs)) := by
  obtain ⟨B, v, cs, hL, hW, xq, xv, hC, hq0, hbn⟩ := h
  have ca : Chg Pure' w (w.alloc (.cells (actV kind net i at_ b A n c) 49)) := (Chg.refl _ _).alloc _
  obtain ⟨B1, hL1, n1, x1, y1⟩ := hL.apartS ca (fun k h => h.elim)
  have hbx : B1.X w.heap.size := y1 _ (Nat.le_refl _) (by simp)
  have hWd := hW.frame ca (fun h => h) (fun _ _ h => h)
  have HD := Lib.hid (ldoes_any (hL1.pure ((Chg.refl Pure' _).drew)) hb kind net i at_ hat b h8 A n c xs ((hA.pure (hC.pure ca)).drew) hc hn)
  obtain ⟨⟨⟨r1, r2, r3⟩, s'⟩, hr⟩ : ∃ r, actL s kind net i at_ b xs = r := ⟨_, rfl⟩
  rw [hr] at HD hg hk ⊢
  simp only at hg hk
  have hqn : ¬ B1.ok q := fun h => h.2 (x1 _ xq)
  have hbn1 : ¬ B1.ok w.heap.size := fun h => h.2 hbx
  have hqs : q ≠ w.heap.size := by
    obtain ⟨cs, h1, -⟩ := hW.blk
    have := (Array.getElem?_eq_some_iff.1 h1).1
    omega
  have hvs : ∀ k, v.ownBlock = some k → k < w.heap.size := fun k hk => (hW.row.lt k hk).2
  have C1 := Lib.hid (hC.pure ca)
  have CA := Lib.hid ca
  obtain ⟨w1, hw1⟩ : ∃ w1, w.alloc (.cells (actV kind net i at_ b A n c) 49) = w1 := ⟨_, rfl⟩
  have hbox : w1.heap[w.heap.size]? = some (.cells (actV kind net i at_ b A n c) 49 (0, 0)) := by rw [← hw1]; exact heap_alloc_new w _
  have hs1 : w1.heap.size = w.heap.size + 1 := by rw [← hw1]; simp
  have bxc : ∀ j u, (actV kind net i at_ b A n c)[j]? = some u → w1.cell? ⟨w.heap.size, j, none⟩ = some u := fun j u hu => by rw [← hw1, cellAt_alloc_lit]; exact hu
  rw [hw1] at HD C1 hWd CA
  have z0 := bxc 0 (.int .i64 kind) rfl
  have z1 := bxc 1 (.int .i64 net) rfl
  have z2 := bxc 2 (.int .i64 i) rfl
  have z3 := bxc 3 (.int .i64 at_) rfl
  have z4 := bxc 4 (.int .u32 (b.toNat : Int)) rfl
  have z5 := bxc 5 (.slice A n c) rfl
  have y0 := hWd.c0
  have HW1 := Lib.hid hw1
  have HWD := Lib.hid hWd
  have XV1 := Lib.hid (fun k (hk : v.ownBlock = some k) => And.intro (x1 _ (xv k hk).1) (And.intro (xv k hk).2 (hvs k hk)))
  have XQ1 := Lib.hid (x1 _ xq)
  have HBX := Lib.hid hbx
  have HBN := Lib.hid (n1.trans hbn)
  have HA0 := Lib.hid hA
  have HQ0 := Lib.hid hq0
  have HG := Lib.hid hg
  have HK := Lib.hid hk
  have HGOT := Lib.hid hgot
  have HBOX := Lib.hid hbox
  clear hL hW xq xv hC hbn hL1 n1 x1 y1 hbx hWd hr hg hk ca bxc hvs hb h8 hA hq0 hgot hbox hat
  unfold actV at *
  go_enter Try.func17, Try.ntmps17
  go_wp2_with (fail)
  try rw [HW1.out]
  refine reg_begin (fun k => B1.ok k) (by kernel_rfl) ?_
  refine reg_take 0 (v := ?_) rfl (by kernel_rfl) (by kernel_rfl) (by kernel_rfl) (fun _ _ _ h => h) (by kernel_rfl) ?_ ?_
  rotate_left
  · (intro w' hS; go_simp; (try go_bits); (try with_reducible rfl))
  try simp only [Act.put, List.getElem_toArray, List.getElem_cons_zero, List.getElem_cons_succ, List.setIfInBounds_toArray, List.set_cons_zero, List.set_cons_succ]
  refine reg_take 1 (v := ?_) rfl (by kernel_rfl) (by kernel_rfl) (by kernel_rfl) (fun _ _ _ h => h) (by kernel_rfl) ?_ ?_
  rotate_left
  · (intro w' hS; go_simp; (try go_bits); (try with_reducible rfl))
  try simp only [Act.put, List.getElem_toArray, List.getElem_cons_zero, List.getElem_cons_succ, List.setIfInBounds_toArray, List.set_cons_zero, List.set_cons_succ]
  refine reg_take 2 (v := ?_) rfl (by kernel_rfl) (by kernel_rfl) (by kernel_rfl) (fun _ _ _ h => h) (by kernel_rfl) ?_ ?_
  rotate_left
  · (intro w' hS; go_simp; (try go_bits); (try with_reducible rfl))
  try simp only [Act.put, List.getElem_toArray, List.getElem_cons_zero, List.getElem_cons_succ, List.setIfInBounds_toArray, List.set_cons_zero, List.set_cons_succ]
  refine reg_take 3 (v := ?_) rfl (by kernel_rfl) (by kernel_rfl) (by kernel_rfl) (fun _ _ _ h => h) (by kernel_rfl) ?_ ?_
  rotate_left
  · (intro w' hS; have hz := hS.cell (w := w1.drew) y0 hqn; go_simp; (try go_bits); (try with_reducible rfl))
  try simp only [Act.put, List.getElem_toArray, List.getElem_cons_zero, List.getElem_cons_succ, List.setIfInBounds_toArray, List.set_cons_zero, List.set_cons_succ]
  refine reg_take 4 (v := ?_) rfl (by kernel_rfl) (by kernel_rfl) (by kernel_rfl) (fun _ _ _ h => h) (by kernel_rfl) ?_ ?_
  rotate_left
  · (intro w' hS; have hz := hS.cell (w := w1.drew) z0 hbn1; have hz1 := hS.cell (w := w1.drew) z1 hbn1; have hz2 := hS.cell (w := w1.drew) z2 hbn1; have hz3 := hS.cell (w := w1.drew) z3 hbn1; have hz4 := hS.cell (w := w1.drew) z4 hbn1; have hz5 := hS.cell (w := w1.drew) z5 hbn1; go_simp; (try go_bits); (try with_reducible rfl))
  try simp only [Act.put, List.getElem_toArray, List.getElem_cons_zero, List.getElem_cons_succ, List.setIfInBounds_toArray, List.set_cons_zero, List.set_cons_succ]
  refine reg_do 5 rfl (by kernel_rfl) (by kernel_rfl) ?_
  intro K hK
  go_simp
  refine HD.out.mono ?_
  rintro e w2 ⟨h2, c2, A2, n2, q2, rfl, -, -, hb2⟩
  refine hK _ _ (c2) ?_
  clear hK K
  try simp only [Act.put, List.getElem_toArray, List.getElem_cons_zero, List.getElem_cons_succ, List.setIfInBounds_toArray, List.set_cons_zero, List.set_cons_succ]
  refine reg_take 6 (v := ?_) rfl (by kernel_rfl) (by kernel_rfl) (by kernel_rfl) (fun _ _ _ h => h) (by kernel_rfl) ?_ ?_
  rotate_left
  · (intro w' hS; go_simp; (try go_bits); (try with_reducible rfl))
  try simp only [Act.put, List.getElem_toArray, List.getElem_cons_zero, List.getElem_cons_succ, List.setIfInBounds_toArray, List.set_cons_zero, List.set_cons_succ]
  refine reg_take 7 (v := ?_) rfl (by kernel_rfl) (by kernel_rfl) (by kernel_rfl) (fun _ _ _ h => h) (by kernel_rfl) ?_ ?_
  rotate_left
  · (intro w' hS; go_simp; (try go_bits); (try with_reducible rfl))
  try simp only [Act.put, List.getElem_toArray, List.getElem_cons_zero, List.getElem_cons_succ, List.setIfInBounds_toArray, List.set_cons_zero, List.set_cons_succ]
  refine reg_take 8 (v := ?_) rfl (by kernel_rfl) (by kernel_rfl) (by kernel_rfl) (fun _ _ _ h => h) (by kernel_rfl) ?_ ?_
  rotate_left
  · (intro w' hS; go_simp; (try go_bits); (try with_reducible rfl))
  try simp only [Act.put, List.getElem_toArray, List.getElem_cons_zero, List.getElem_cons_succ, List.setIfInBounds_toArray, List.set_cons_zero, List.set_cons_succ]
  refine reg_take 9 (v := ?_) rfl (by kernel_rfl) (by kernel_rfl) (by kernel_rfl) (fun _ _ _ h => h) (by kernel_rfl) ?_ ?_
  rotate_left
  · (intro w' hS; go_simp; (try go_bits); (try with_reducible rfl))
  try simp only [Act.put, List.getElem_toArray, List.getElem_cons_zero, List.getElem_cons_succ, List.setIfInBounds_toArray, List.set_cons_zero, List.set_cons_succ]
  refine reg_take 10 (v := ?_) rfl (by kernel_rfl) (by kernel_rfl) (by kernel_rfl) (fun _ _ _ h => h) (by kernel_rfl) ?_ ?_
  rotate_left
  · (intro w' hS; go_simp; (try go_bits); (try with_reducible rfl))
  try simp only [Act.put, List.getElem_toArray, List.getElem_cons_zero, List.getElem_cons_succ, List.setIfInBounds_toArray, List.set_cons_zero, List.set_cons_succ]
  refine reg_take 11 (v := ?_) rfl (by kernel_rfl) (by kernel_rfl) (by kernel_rfl) (fun _ _ _ h => h) (by kernel_rfl) ?_ ?_
  rotate_left
  · (intro w' hS; go_simp; (try go_bits); (try with_reducible rfl))
  try simp only [Act.put, List.getElem_toArray, List.getElem_cons_zero, List.getElem_cons_succ, List.setIfInBounds_toArray, List.set_cons_zero, List.set_cons_succ]
  refine reg_take 12 (v := ?_) rfl (by kernel_rfl) (by kernel_rfl) (by kernel_rfl) (fun _ _ _ h => h) (by kernel_rfl) ?_ ?_
  rotate_left
  · (intro w' hS; go_simp; (try go_bits); (try with_reducible rfl))
  try simp only [Act.put, List.getElem_toArray, List.getElem_cons_zero, List.getElem_cons_succ, List.setIfInBounds_toArray, List.set_cons_zero, List.set_cons_succ]
  refine wpAnyH_done (by kernel_rfl) ?_ _
  simp only at h2 hb2
  have hW2 := (HWD.out.frame ((Chg.refl Pure' w1).drew) (fun h => h) (fun _ _ h => h)).frame c2 hqn (fun k hk h => h.2 (XV1.out k hk).1)
  have e0 : w2.cell? ⟨w.heap.size, 0, none⟩ = some (.int .i64 kind) := c2.cell (w := w1.drew) z0 hbn1
  have e5 : w2.cell? ⟨w.heap.size, 5, none⟩ = some (.slice A n c) := c2.cell (w := w1.drew) z5 hbn1
  have C2 := Lib.hid (C1.out.drew.trans c2 (fun k hk h => by
    have h1 : B1.n ≤ k := h.1
    rw [HBN.out] at h1
    omega))
  have D2 : Hid (Chg (fun k => w0.heap.size ≤ k) w w2) := Lib.hid ((Chg.of_pure CA.out).drew.trans' (c2.mono (fun k _ h => by
    have h1 : B1.n ≤ k := h.1
    rw [HBN.out] at h1
    exact h1)))
  have HL2 := Lib.hid h2
  have HW2 := Lib.hid hW2
  have HB2 := Lib.hid hb2
  have hs2 : w1.heap.size ≤ w2.heap.size := c2.size
  clear h2 hW2 hb2 c2 z0 z1 z2 z3 z4 z5 y0 HW1 HWD C1 HD HBOX hqn
  by_cases k0 : kind = 0
  · subst k0
    clear HG
    have hgot' : s'.got = s.got := HK.out (by omega)
    clear HK
    by_cases k3 : r3 = 0
    · subst k3
      obtain ⟨V, qv, hv, hvq, -⟩ := own_slice HW2.out.row
      subst hv
      have y1 := HW2.out.c1
      have hnd : ¬ (Value.slice V S.length qv).ownBlock = some q := fun e => (XV1.out q e).2.1 rfl
      have hnb : ¬ (Value.slice V S.length qv).ownBlock = some w.heap.size := fun e => by have := (XV1.out _ e).2.2; omega
      have cb : Chg Pure' w2.drew (w2.drew.alloc (.cells #[.slice A n c] 23)) := (Chg.refl _ _).alloc _
      have hrow : Row (w2.drew.alloc (.cells #[.slice A n c] 23)) (some ⟨w2.drew.heap.size, 0, none⟩) [.slice A n c] := by
        refine ⟨fun _ => ⟨_, 0, rfl, fun j y hy => ?_⟩⟩
        rw [Nat.zero_add, cellAt_alloc_lit, ← hy]
        simp
      have hg2 := own_keep (HW2.out.row.drew) cb (fun _ _ h => h)
      have hsz := C2.out.size
      obtain ⟨v6, w6, hr6, ho6, hgr, hb6⟩ := app_own (P := Try.prog) _ w0.heap.size 44 44 23 Try.underlying44 infoLoads rfl (by decide) _ _ _ hg2 _ 1 1 _ hrow rfl (by intro u hu; simp at hu; subst hu; rfl) (by decide) hS (Nat.le_trans hsz cb.size)
      have c6 : Chg (fun k => (Value.slice V S.length qv).ownBlock = some k) (w2.drew.alloc (.cells #[.slice A n c] 23)) w6 := (Chg.refl _ _).grown hgr (fun k hk => .inr hk)
      have C6 : Chg (fun k => (Value.slice V S.length qv).ownBlock = some k) w2 w6 := (Chg.of_pure ((Chg.refl Pure' w2).drew)).trans' ((Chg.of_pure cb).trans' c6)
      have hW6c := C6.cell HW2.out.c0 hnd
      have hW6d := C6.cell HW2.out.c2 hnd
      have hW6e := C6.cell HW2.out.c1 hnd
      obtain ⟨cs0, b0, b1⟩ := HW2.out.blk
      have hqw2 : q < w2.heap.size := (Array.getElem?_eq_some_iff.1 b0).1
      have b6 := (C6.block q hqw2 hnd).trans b0
      have f6 : w6.frozen? ⟨q, 1, none⟩ = false := free_at b6
      obtain ⟨V6, q6, rfl, hq6, -, hV6⟩ := own_slice ho6
      have cs7 : Chg (fun k => k = q) w6 (w6.setCell ⟨q, 1, none⟩ (.slice V6 (S.length + 1) q6)) := Chg.setCell (S := fun k => k = q) (Chg.refl _ w6) (p := ⟨q, 1, none⟩) (.inr rfl) _
      have hs3 : w2.heap.size ≤ (w2.drew.alloc (.cells #[.slice A n c] 23)).heap.size := cb.size
      have hb7 : ∀ k, (Value.slice V6 (S.length + 1) q6).ownBlock = some k → (Value.slice V S.length qv).ownBlock = some k ∨ w2.heap.size ≤ k := fun k hk => (hb6 k hk).imp id (fun h => Nat.le_trans hs3 h)
      have hn7 : ∀ k, (Value.slice V6 (S.length + 1) q6).ownBlock = some k → k ≠ q := fun k hk e => by
        rcases hb7 k hk with h | h
        · exact (XV1.out k h).2.1 e
        · omega
      have ho7 := own_keep ho6 cs7 (fun k hk e => hn7 k hk e)
      have C7 : Chg (fun k => (Value.slice V S.length qv).ownBlock = some k ∨ k = q) w2 (w6.setCell ⟨q, 1, none⟩ (.slice V6 (S.length + 1) q6)) := (C6.mono (fun k _ h => .inl h)).trans' (cs7.mono (fun k _ h => .inr h))
      obtain ⟨B7, hL7, n7, x7, y7⟩ := HL2.out.apartS C7 (fun k hk => by
        rcases hk with hk | rfl
        · exact (XV1.out k hk).1
        · exact XQ1.out)
      have hcl : cs.length = S.length := by have := HW2.out.row.1; simpa using this
      have hW7 : Watch w0 (w6.setCell ⟨q, 1, none⟩ (.slice V6 (S.length + 1) q6)) q p (.slice V6 (S.length + 1) q6) (cs ++ [.slice A n c]) (S ++ [xs]) s.got := by
        refine ⟨⟨_, heap_setCell_same w6 q 1 _ _ _ b6, by simpa using b1⟩, (set_far (by decide)).trans hW6c, set_at hW6e, (set_far (by decide)).trans hW6d, by rw [List.length_append]; exact ho7, fun j hj => ?_⟩
        by_cases hjs : j < S.length
        · obtain ⟨Ai, ni, ci, z1, z2⟩ := HW2.out.cells j hjs
          exact ⟨Ai, ni, ci, by rw [List.getElem?_append_left (by omega)]; exact z1, by rw [List.getElem_append_left hjs]; exact z2⟩
        · have hje : j = S.length := by simp at hj; omega
          subst hje
          refine ⟨A, n, c, ?_, ?_⟩
          · rw [List.getElem?_append_right (by omega), hcl, Nat.sub_self]; rfl
          · rw [List.getElem_append_right (by omega)]; simpa using HA0.out
      have HFIN : Hid (Watched w0 (w6.setCell ⟨q, 1, none⟩ (.slice V6 (S.length + 1) q6)) p q s' (S ++ [xs])) := Lib.hid ⟨B7, _, _, hL7, by rw [hgot']; exact hW7, x7 q XQ1.out, fun k hk => ⟨by
        rcases hb7 k hk with h | h
        · exact x7 k (XV1.out k h).1
        · exact y7 k h ((ho7.lt k hk).2), hn7 k hk⟩, C2.out.trans C7 (fun k hk h => by
          rcases h with h | rfl
          · have := (HW2.out.row.lt k h).1; omega
          · have := HQ0.out; omega), HQ0.out, n7.trans HBN.out⟩
      have D7 := Lib.hid (D2.out.trans' (C7.mono (T := fun k => w0.heap.size ≤ k) (fun k hk h => by
        rcases h with h | rfl
        · exact (HW2.out.row.lt k h).1
        · exact HQ0.out)))
      have e7 := C7.cell e0 (fun h => by
        rcases h with h | h
        · exact hnb h
        · exact hqs (Eq.symm h))
      have HC6 := Lib.hid c6
      clear C6 hW6c hW6d b0 b1 b6 ho6 hV6 cs7 hb7 hn7 ho7 C7 hL7 n7 x7 y7 hcl hW7 hg2 hrow hgr hb6 c6 HW2 HL2 C2
      go_wp2_with (fail)
      refine regL_begin 11 (fun k => (Value.slice V S.length qv).ownBlock = some k) (by kernel_rfl) ?_
      refine regL_take 0 (v := ?_) rfl (by kernel_rfl) (by kernel_rfl) (by kernel_rfl) (by kernel_rfl) (fun _ _ _ h => h) (by kernel_rfl) ?_ ?_
      rotate_left
      · (intro w' hS; go_simp; (try go_bits); (try with_reducible rfl))
      try simp only [Act.put, List.getElem_toArray, List.getElem_cons_zero, List.getElem_cons_succ, List.setIfInBounds_toArray, List.set_cons_zero, List.set_cons_succ]
      refine regL_take 1 (v := ?_) rfl (by kernel_rfl) (by kernel_rfl) (by kernel_rfl) (by kernel_rfl) (fun _ _ _ h => h) (by kernel_rfl) ?_ ?_
      rotate_left
      · (intro w' hS; go_simp; (try go_bits); (try with_reducible rfl))
      try simp only [Act.put, List.getElem_toArray, List.getElem_cons_zero, List.getElem_cons_succ, List.setIfInBounds_toArray, List.set_cons_zero, List.set_cons_succ]
      refine regL_take 2 (v := ?_) rfl (by kernel_rfl) (by kernel_rfl) (by kernel_rfl) (by kernel_rfl) (fun _ _ _ h => h) (by kernel_rfl) ?_ ?_
      rotate_left
      · (intro w' hS; go_simp; (try go_bits); (try with_reducible rfl))
      try simp only [Act.put, List.getElem_toArray, List.getElem_cons_zero, List.getElem_cons_succ, List.setIfInBounds_toArray, List.set_cons_zero, List.set_cons_succ]
      refine regL_take 3 (v := ?_) rfl (by kernel_rfl) (by kernel_rfl) (by kernel_rfl) (by kernel_rfl) (fun _ _ _ h => h) (by kernel_rfl) ?_ ?_
      rotate_left
      · (intro w' hS; go_simp; (try go_bits); (try with_reducible rfl))
      try simp only [Act.put, List.getElem_toArray, List.getElem_cons_zero, List.getElem_cons_succ, List.setIfInBounds_toArray, List.set_cons_zero, List.set_cons_succ]
      refine regL_take 4 (v := ?_) rfl (by kernel_rfl) (by kernel_rfl) (by kernel_rfl) (by kernel_rfl) (fun _ _ _ h => h) (by kernel_rfl) ?_ ?_
      rotate_left
      · (intro w' hS; have hz := hS.cell (w := w2.drew) y1 hnd; go_simp; (try go_bits); (try with_reducible rfl))
      try simp only [Act.put, List.getElem_toArray, List.getElem_cons_zero, List.getElem_cons_succ, List.setIfInBounds_toArray, List.set_cons_zero, List.set_cons_succ]
      refine regL_take 5 (v := ?_) rfl (by kernel_rfl) (by kernel_rfl) (by kernel_rfl) (by kernel_rfl) (fun _ _ _ h => h) (by kernel_rfl) ?_ ?_
      rotate_left
      · (intro w' hS; go_simp; (try go_bits); (try with_reducible rfl))
      try simp only [Act.put, List.getElem_toArray, List.getElem_cons_zero, List.getElem_cons_succ, List.setIfInBounds_toArray, List.set_cons_zero, List.set_cons_succ]
      refine regL_take 6 (v := ?_) rfl (by kernel_rfl) (by kernel_rfl) (by kernel_rfl) (by kernel_rfl) (fun _ _ _ h => h) (by kernel_rfl) ?_ ?_
      rotate_left
      · (intro w' hS; have hz := hS.cell (w := w2.drew) e5 hnb; go_simp; (try go_bits); (try with_reducible rfl))
      try simp only [Act.put, List.getElem_toArray, List.getElem_cons_zero, List.getElem_cons_succ, List.setIfInBounds_toArray, List.set_cons_zero, List.set_cons_succ]
      refine regL_do 7 rfl (by kernel_rfl) (by kernel_rfl) ?_
      intro K hK
      go_simp
      refine hK _ _ (Chg.of_pure cb) ?_
      clear hK K
      refine regL_do 8 rfl (by kernel_rfl) (by kernel_rfl) ?_
      intro K hK
      refine Lib.wp_append_run _ _ _ _ _ rfl _ _ rfl rfl _ _ hr6 ?_
      refine hK _ _ HC6.out ?_
      clear hK K
      refine regL_do 9 rfl (by kernel_rfl) (by kernel_rfl) ?_
      intro K hK
      go_simp
      refine hK _ _ (Chg.refl _ _) ?_
      clear hK K
      refine regL_take 10 (v := ?_) rfl (by kernel_rfl) (by kernel_rfl) (by kernel_rfl) (by kernel_rfl) (fun _ _ _ h => h) (by kernel_rfl) ?_ ?_
      rotate_left
      · (intro w' hS; go_simp; (try go_bits); (try with_reducible rfl))
      try simp only [Act.put, List.getElem_toArray, List.getElem_cons_zero, List.getElem_cons_succ, List.setIfInBounds_toArray, List.set_cons_zero, List.set_cons_succ]
      refine regL_last rfl (by kernel_rfl) (by kernel_rfl) ?_
      intro K hK
      go_simp
      refine hK _ _ ?_
      clear hK K
      try simp only [Act.put, List.getElem_toArray, List.getElem_cons_zero, List.getElem_cons_succ, List.setIfInBounds_toArray, List.set_cons_zero, List.set_cons_succ]
      refine wpAnyL_done (by kernel_rfl) ?_ _
      clear y1 hr6 cb f6 HC6 e0 e5
      go_wp2
      go_ret
      refine ⟨rfl, ?_, D7.out⟩
      rw [if_pos ⟨rfl, rfl⟩]
      exact HFIN.out
    · have i3 : (r3 == 0) = false := by rw [beq_eq_false_iff_ne]; exact k3
      have HK3 := Lib.hid k3
      clear k3
      go_wp2
      go_ret
      refine ⟨rfl, ?_, D2.out⟩
      rw [if_neg (fun h => HK3.out h.2)]
      exact ⟨B1, v, cs, HL2.out, by rw [hgot']; exact HW2.out, XQ1.out, fun k hk => ⟨(XV1.out k hk).1, (XV1.out k hk).2.1⟩, C2.out, HQ0.out, HBN.out⟩
  by_cases k1 : kind = 1
  · subst k1
    clear k0
    cases r2 with
    | false =>
      have hgot' : s'.got = s.got := HK.out (fun h => by cases h.2)
      clear HK HG
      go_wp2
      go_ret
      refine ⟨rfl, ?_, D2.out⟩
      rw [if_neg (fun h => by cases h.1)]
      exact ⟨B1, v, cs, HL2.out, by rw [hgot']; exact HW2.out, XQ1.out, fun k hk => ⟨(XV1.out k hk).1, (XV1.out k hk).2.1⟩, C2.out, HQ0.out, HBN.out⟩
    | true =>
      obtain ⟨g1, g2, g3⟩ := HG.out rfl rfl
      clear HK HG
      have y1 := HW2.out.c1
      have y2 := HW2.out.c2
      obtain ⟨cs0, b0, b1⟩ := HW2.out.blk
      have f2 : w2.frozen? ⟨q, 2, none⟩ = false := free_at b0
      have hqw2 : q < w2.heap.size := (Array.getElem?_eq_some_iff.1 b0).1
      obtain ⟨V, qv, hv, hvq, hV, -⟩ := own_slice HW2.out.row
      subst hv
      obtain ⟨gv, rfl, -⟩ := hV (by omega)
      have hnd : ¬ gv = q := fun e => (XV1.out gv rfl).2.1 e
      obtain ⟨Ai, ni, ci, z1, z2⟩ := HW2.out.cells s.T g1
      have k1 := (HW2.out.row.cellAt s.T (by omega)).trans z1
      have hx : r1 = S[s.T] := by rw [g2, List.getD_eq_getElem?_getD, List.getElem?_eq_getElem g1]; rfl
      have cs7 : Chg (fun k => k = q) w2 (w2.setCell ⟨q, 2, none⟩ (.int .i64 ((s.got : Int) + 1))) := Chg.setCell (S := fun k => k = q) (Chg.refl _ w2) (p := ⟨q, 2, none⟩) (.inr rfl) _
      obtain ⟨B7, hL7, n7, x7, y7⟩ := HL2.out.apartS cs7 (fun k hk => by rw [show k = q from hk]; exact XQ1.out)
      have hrow7 := own_keep HW2.out.row cs7 (fun k hk e => (XV1.out k hk).2.1 e)
      have hW7 : Watch w0 (w2.setCell ⟨q, 2, none⟩ (.int .i64 ((s.got : Int) + 1))) q p (.slice (some ⟨gv, 0, none⟩) S.length qv) cs S (s.got + 1) := by
        refine ⟨⟨_, heap_setCell_same w2 q 2 _ _ _ b0, by simpa using b1⟩, (set_far (by decide)).trans HW2.out.c0, (set_far (by decide)).trans y1, ?_, hrow7, HW2.out.cells⟩
        rw [set_at y2]
        congr 2
      have C7 : Chg Pure' w0 (w2.setCell ⟨q, 2, none⟩ (.int .i64 ((s.got : Int) + 1))) := C2.out.trans cs7 (fun k hk (e : k = q) => by have := HQ0.out; omega)
      have D7 := Lib.hid (D2.out.trans' (cs7.mono (T := fun k => w0.heap.size ≤ k) (fun k hk (e : k = q) => by rw [e]; exact HQ0.out)))
      have HFIN : Hid (∀ w9, Chg Pure' (w2.setCell ⟨q, 2, none⟩ (.int .i64 ((s.got : Int) + 1))) w9 → Watched w0 w9 p q s' S) := Lib.hid (fun w9 c9 => ⟨B7, _, _, hL7.pure c9, by rw [g3]; exact hW7.frame c9 (fun h => h) (fun _ _ h => h), x7 q XQ1.out, fun k hk => ⟨x7 k (XV1.out k hk).1, (XV1.out k hk).2.1⟩, C7.pure c9, HQ0.out, n7.trans HBN.out⟩)
      have HB7 : Hid (Bytes (w2.setCell ⟨q, 2, none⟩ (.int .i64 ((s.got : Int) + 1))) A2 n2 S[s.T]) := by
        rw [← hx]
        have hb := HB2.out
        refine Lib.hid ⟨hb.len, fun hn => ?_⟩
        obtain ⟨bb, off, rfl, hcell⟩ := hb.cells hn
        refine ⟨bb, off, rfl, fun j hj => ?_⟩
        have hc := hcell j hj
        by_cases hbq : bb = q
        · exfalso
          subst hbq
          have hc0 := HW2.out.c0
          generalize off + j = o at hc
          match o, hc with
          | 0, hc => rw [hc0] at hc; cases hc
          | 1, hc => rw [y1] at hc; cases hc
          | 2, hc => rw [y2] at hc; cases hc
          | o + 3, hc =>
            have : cs0[o + 3]? = none := Array.getElem?_eq_none (by omega)
            simp [World.cell?, b0, this] at hc
        · exact cs7.cell hc (fun e => hbq e)
      have HB8 : Hid (Bytes (w2.setCell ⟨q, 2, none⟩ (.int .i64 ((s.got : Int) + 1))) Ai ni S[s.T]) := Lib.hid (z2.pure C7)
      have v1 := hW7.c1
      have v2 := set_at (v := .int .i64 ((s.got : Int) + 1)) y2
      have k7 := cs7.cell k1 (fun e : gv = q => hnd e)
      have hgT := HGOT.out
      rw [hgT] at v2
      have hgs : s.got + 1 ≤ S.length := by omega
      rw [hgT] at hgs
      have i1 : (s.T : Int) + 1 ≤ (S.length : Int) := by omega
      have i2 : (s.T : Int) < (S.length : Int) := by omega
      have i3 : (s.T : Int) ≤ 140737488355328 := by omega
      generalize S[s.T] = x at *
      clear HL2 HW2 HB2 C2 b0 b1 z1 z2 k1 hx cs7 hL7 n7 x7 y7 hrow7 hW7 C7 g1 g2 g3 hV
      rw [hgT] at HFIN HB7 HB8 v1 k7 y2 D7
      clear hgT
      generalize s.T = T0 at *
      generalize S.length = sl at *
      go_upto_region 7 with (fail)
      clear y1 y2 f2 e0 e5 XV1 XQ1 HBX
      generalize (w2.setCell ⟨q, 2, none⟩ (.int .i64 ((T0 : Int) + 1))) = w7 at *
      have HSM := Lib.hid (same_is true A2 q2 n2 x Ai ci ni x w7.drew HB7.out.drew HB8.out.drew (by simp))
      refine reg_begin (Pure') (by kernel_rfl) ?_
      refine reg_take 0 (v := ?_) rfl (by kernel_rfl) (by kernel_rfl) (by kernel_rfl) (fun _ _ _ h => h) (by kernel_rfl) ?_ ?_
      rotate_left
      · (intro w' hS; go_simp; (try go_bits); (try with_reducible rfl))
      try simp only [Act.put, List.getElem_toArray, List.getElem_cons_zero, List.getElem_cons_succ, List.setIfInBounds_toArray, List.set_cons_zero, List.set_cons_succ]
      refine reg_take 1 (v := ?_) rfl (by kernel_rfl) (by kernel_rfl) (by kernel_rfl) (fun _ _ _ h => h) (by kernel_rfl) ?_ ?_
      rotate_left
      · (intro w' hS; go_simp; (try go_bits); (try with_reducible rfl))
      try simp only [Act.put, List.getElem_toArray, List.getElem_cons_zero, List.getElem_cons_succ, List.setIfInBounds_toArray, List.set_cons_zero, List.set_cons_succ]
      refine reg_take 2 (v := ?_) rfl (by kernel_rfl) (by kernel_rfl) (by kernel_rfl) (fun _ _ _ h => h) (by kernel_rfl) ?_ ?_
      rotate_left
      · (intro w' hS; go_simp; (try go_bits); (try with_reducible rfl))
      try simp only [Act.put, List.getElem_toArray, List.getElem_cons_zero, List.getElem_cons_succ, List.setIfInBounds_toArray, List.set_cons_zero, List.set_cons_succ]
      refine reg_take 3 (v := ?_) rfl (by kernel_rfl) (by kernel_rfl) (by kernel_rfl) (fun _ _ _ h => h) (by kernel_rfl) ?_ ?_
      rotate_left
      · (intro w' hS; have hz := hS.cell (w := w7.drew) v2 (fun h => h); go_simp; (try go_bits); (try with_reducible rfl))
      try simp only [Act.put, List.getElem_toArray, List.getElem_cons_zero, List.getElem_cons_succ, List.setIfInBounds_toArray, List.set_cons_zero, List.set_cons_succ]
      refine reg_take 4 (v := ?_) rfl (by kernel_rfl) (by kernel_rfl) (by kernel_rfl) (fun _ _ _ h => h) (by kernel_rfl) ?_ ?_
      rotate_left
      · (intro w' hS; go_simp; (try go_bits); (try with_reducible rfl))
      try simp only [Act.put, List.getElem_toArray, List.getElem_cons_zero, List.getElem_cons_succ, List.setIfInBounds_toArray, List.set_cons_zero, List.set_cons_succ]
      refine reg_take 5 (v := ?_) rfl (by kernel_rfl) (by kernel_rfl) (by kernel_rfl) (fun _ _ _ h => h) (by kernel_rfl) ?_ ?_
      rotate_left
      · (intro w' hS; go_simp; (try go_bits); (try with_reducible rfl))
      try simp only [Act.put, List.getElem_toArray, List.getElem_cons_zero, List.getElem_cons_succ, List.setIfInBounds_toArray, List.set_cons_zero, List.set_cons_succ]
      refine reg_take 6 (v := ?_) rfl (by kernel_rfl) (by kernel_rfl) (by kernel_rfl) (fun _ _ _ h => h) (by kernel_rfl) ?_ ?_
      rotate_left
      · (intro w' hS; go_simp; (try go_bits); (try with_reducible rfl))
      try simp only [Act.put, List.getElem_toArray, List.getElem_cons_zero, List.getElem_cons_succ, List.setIfInBounds_toArray, List.set_cons_zero, List.set_cons_succ]
      refine reg_take 7 (v := ?_) rfl (by kernel_rfl) (by kernel_rfl) (by kernel_rfl) (fun _ _ _ h => h) (by kernel_rfl) ?_ ?_
      rotate_left
      · (intro w' hS; have hz := hS.cell (w := w7.drew) v1 (fun h => h); go_simp; (try go_bits); (try with_reducible rfl))
      try simp only [Act.put, List.getElem_toArray, List.getElem_cons_zero, List.getElem_cons_succ, List.setIfInBounds_toArray, List.set_cons_zero, List.set_cons_succ]
      refine reg_take 8 (v := ?_) rfl (by kernel_rfl) (by kernel_rfl) (by kernel_rfl) (fun _ _ _ h => h) (by kernel_rfl) ?_ ?_
      rotate_left
      · (intro w' hS; go_simp; (try go_bits); (try with_reducible rfl))
      try simp only [Act.put, List.getElem_toArray, List.getElem_cons_zero, List.getElem_cons_succ, List.setIfInBounds_toArray, List.set_cons_zero, List.set_cons_succ]
      refine reg_take 9 (v := ?_) rfl (by kernel_rfl) (by kernel_rfl) (by kernel_rfl) (fun _ _ _ h => h) (by kernel_rfl) ?_ ?_
      rotate_left
      · (intro w' hS; go_simp; (try go_bits); (try with_reducible rfl))
      try simp only [Act.put, List.getElem_toArray, List.getElem_cons_zero, List.getElem_cons_succ, List.setIfInBounds_toArray, List.set_cons_zero, List.set_cons_succ]
      refine reg_take 10 (v := ?_) rfl (by kernel_rfl) (by kernel_rfl) (by kernel_rfl) (fun _ _ _ h => h) (by kernel_rfl) ?_ ?_
      rotate_left
      · (intro w' hS; go_simp; (try go_bits); (try with_reducible rfl))
      try simp only [Act.put, List.getElem_toArray, List.getElem_cons_zero, List.getElem_cons_succ, List.setIfInBounds_toArray, List.set_cons_zero, List.set_cons_succ]
      refine reg_take 11 (v := ?_) rfl (by kernel_rfl) (by kernel_rfl) (by kernel_rfl) (fun _ _ _ h => h) (by kernel_rfl) ?_ ?_
      rotate_left
      · (intro w' hS; go_simp; (try go_bits); (try with_reducible rfl))
      try simp only [Act.put, List.getElem_toArray, List.getElem_cons_zero, List.getElem_cons_succ, List.setIfInBounds_toArray, List.set_cons_zero, List.set_cons_succ]
      refine reg_take 12 (v := ?_) rfl (by kernel_rfl) (by kernel_rfl) (by kernel_rfl) (fun _ _ _ h => h) (by kernel_rfl) ?_ ?_
      rotate_left
      · (intro w' hS; go_simp; (try go_bits); (try with_reducible rfl))
      try simp only [Act.put, List.getElem_toArray, List.getElem_cons_zero, List.getElem_cons_succ, List.setIfInBounds_toArray, List.set_cons_zero, List.set_cons_succ]
      refine reg_take 13 (v := ?_) rfl (by kernel_rfl) (by kernel_rfl) (by kernel_rfl) (fun _ _ _ h => h) (by kernel_rfl) ?_ ?_
      rotate_left
      · (intro w' hS; go_simp; (try go_bits); (try with_reducible rfl))
      try simp only [Act.put, List.getElem_toArray, List.getElem_cons_zero, List.getElem_cons_succ, List.setIfInBounds_toArray, List.set_cons_zero, List.set_cons_succ]
      refine reg_take 14 (v := ?_) rfl (by kernel_rfl) (by kernel_rfl) (by kernel_rfl) (fun _ _ _ h => h) (by kernel_rfl) ?_ ?_
      rotate_left
      · (intro w' hS; go_simp; (try go_bits); (try with_reducible rfl))
      try simp only [Act.put, List.getElem_toArray, List.getElem_cons_zero, List.getElem_cons_succ, List.setIfInBounds_toArray, List.set_cons_zero, List.set_cons_succ]
      refine reg_take 15 (v := ?_) rfl (by kernel_rfl) (by kernel_rfl) (by kernel_rfl) (fun _ _ _ h => h) (by kernel_rfl) ?_ ?_
      rotate_left
      · (intro w' hS; have hz := hS.cell (w := w7.drew) v1 (fun h => h); go_simp; (try go_bits); (try with_reducible rfl))
      try simp only [Act.put, List.getElem_toArray, List.getElem_cons_zero, List.getElem_cons_succ, List.setIfInBounds_toArray, List.set_cons_zero, List.set_cons_succ]
      refine reg_take 16 (v := ?_) rfl (by kernel_rfl) (by kernel_rfl) (by kernel_rfl) (fun _ _ _ h => h) (by kernel_rfl) ?_ ?_
      rotate_left
      · (intro w' hS; go_simp; (try go_bits); (try with_reducible rfl))
      try simp only [Act.put, List.getElem_toArray, List.getElem_cons_zero, List.getElem_cons_succ, List.setIfInBounds_toArray, List.set_cons_zero, List.set_cons_succ]
      refine reg_take 17 (v := ?_) rfl (by kernel_rfl) (by kernel_rfl) (by kernel_rfl) (fun _ _ _ h => h) (by kernel_rfl) ?_ ?_
      rotate_left
      · (intro w' hS; go_simp; (try go_bits); (try with_reducible rfl))
      try simp only [Act.put, List.getElem_toArray, List.getElem_cons_zero, List.getElem_cons_succ, List.setIfInBounds_toArray, List.set_cons_zero, List.set_cons_succ]
      refine reg_take 18 (v := ?_) rfl (by kernel_rfl) (by kernel_rfl) (by kernel_rfl) (fun _ _ _ h => h) (by kernel_rfl) ?_ ?_
      rotate_left
      · (intro w' hS; go_simp; (try go_bits); (try with_reducible rfl))
      try simp only [Act.put, List.getElem_toArray, List.getElem_cons_zero, List.getElem_cons_succ, List.setIfInBounds_toArray, List.set_cons_zero, List.set_cons_succ]
      refine reg_take 19 (v := ?_) rfl (by kernel_rfl) (by kernel_rfl) (by kernel_rfl) (fun _ _ _ h => h) (by kernel_rfl) ?_ ?_
      rotate_left
      · (intro w' hS; have hz := hS.cell (w := w7.drew) v2 (fun h => h); go_simp; (try go_bits); (try with_reducible rfl))
      try simp only [Act.put, List.getElem_toArray, List.getElem_cons_zero, List.getElem_cons_succ, List.setIfInBounds_toArray, List.set_cons_zero, List.set_cons_succ]
      refine reg_take 20 (v := ?_) rfl (by kernel_rfl) (by kernel_rfl) (by kernel_rfl) (fun _ _ _ h => h) (by kernel_rfl) ?_ ?_
      rotate_left
      · (intro w' hS; go_simp; (try go_bits); (try with_reducible rfl))
      try simp only [Act.put, List.getElem_toArray, List.getElem_cons_zero, List.getElem_cons_succ, List.setIfInBounds_toArray, List.set_cons_zero, List.set_cons_succ]
      refine reg_take 21 (v := ?_) rfl (by kernel_rfl) (by kernel_rfl) (by kernel_rfl) (fun _ _ _ h => h) (by kernel_rfl) ?_ ?_
      rotate_left
      · (intro w' hS; go_simp; (try go_bits); (try with_reducible rfl))
      try simp only [Act.put, List.getElem_toArray, List.getElem_cons_zero, List.getElem_cons_succ, List.setIfInBounds_toArray, List.set_cons_zero, List.set_cons_succ]
      refine reg_take 22 (v := ?_) rfl (by kernel_rfl) (by kernel_rfl) (by kernel_rfl) (fun _ _ _ h => h) (by kernel_rfl) ?_ ?_
      rotate_left
      · (intro w' hS; have hz := hS.cell (w := w7.drew) k7 (fun h => h); go_simp; (try go_bits); (try with_reducible rfl))
      try simp only [Act.put, List.getElem_toArray, List.getElem_cons_zero, List.getElem_cons_succ, List.setIfInBounds_toArray, List.set_cons_zero, List.set_cons_succ]
      refine reg_do 23 rfl (by kernel_rfl) (by kernel_rfl) ?_
      intro K hK
      go_simp
      refine HSM.out.mono ?_
      rintro e w8 ⟨rfl, rfl⟩
      refine hK _ _ (Chg.refl _ _) ?_
      clear hK K
      try simp only [Act.put, List.getElem_toArray, List.getElem_cons_zero, List.getElem_cons_succ, List.setIfInBounds_toArray, List.set_cons_zero, List.set_cons_succ]
      refine reg_take 24 (v := ?_) rfl (by kernel_rfl) (by kernel_rfl) (by kernel_rfl) (fun _ _ _ h => h) (by kernel_rfl) ?_ ?_
      rotate_left
      · (intro w' hS; go_simp; (try go_bits); (try with_reducible rfl))
      try simp only [Act.put, List.getElem_toArray, List.getElem_cons_zero, List.getElem_cons_succ, List.setIfInBounds_toArray, List.set_cons_zero, List.set_cons_succ]
      refine reg_take 25 (v := ?_) rfl (by kernel_rfl) (by kernel_rfl) (by kernel_rfl) (fun _ _ _ h => h) (by kernel_rfl) ?_ ?_
      rotate_left
      · (intro w' hS; go_simp; (try go_bits); (try with_reducible rfl))
      try simp only [Act.put, List.getElem_toArray, List.getElem_cons_zero, List.getElem_cons_succ, List.setIfInBounds_toArray, List.set_cons_zero, List.set_cons_succ]
      refine wpAnyH_done (by kernel_rfl) ?_ _
      go_wp2
      go_ret
      refine ⟨rfl, ?_, D7.out.drew⟩
      rw [if_neg (fun h => by cases h.1)]
      exact HFIN.out _ ((Chg.refl _ _).drew)
  · have hgot' : s'.got = s.got := HK.out (fun h => k1 h.1)
    have i0 : (kind == 0) = false := by rw [beq_eq_false_iff_ne]; exact k0
    have i1 : (kind != 1) = true := by rw [bne_iff_ne]; exact k1
    have HK0 := Lib.hid k0
    clear HK HG k0 k1
    go_wp2
    go_ret
    refine ⟨rfl, ?_, D2.out⟩
    rw [if_neg (fun h => HK0.out h.1)]
    exact ⟨B1, v, cs, HL2.out, by rw [hgot']; exact HW2.out, XQ1.out, fun k hk => ⟨(XV1.out k hk).1, (XV1.out k hk).2.1⟩, C2.out, HQ0.out, HBN.out⟩
end Go.Proofs.Ytnpkpfcljkekfaa
