/- A link, and blocks that are none of its own. -/
import Derived.Test.YtnpkpfcljkekfaaLinkY
namespace Go.Proofs.Ytnpkpfcljkekfaa
open Go Go.RowKit
set_option linter.unusedVariables false
set_option maxRecDepth 100000
set_option linter.unusedSimpArgs false

/-- A link at p, of which the blocks of X are no part. -/
def LinkIX (w : World) (B p : Nat) (s : Lp) (X : Nat → Prop) : Prop := ∃ m col, m.p = p ∧ m.pl = s ∧ LinkAt w B col m ∧ ∀ k, X k → col k = 0 ∧ k < w.heap.size
theorem LinkIX.mk {w : World} {B p : Nat} {col : Nat → Nat} {m : Lm} {s : Lp} {X : Nat → Prop} (h : LinkAt w B col m) (hp : m.p = p) (hs : m.pl = s) (hX : ∀ k, X k → col k = 0 ∧ k < w.heap.size) : LinkIX w B p s X := ⟨m, col, hp, hs, h, hX⟩
theorem LinkIn.apart {w w' : World} {B p : Nat} {s : Lp} (h : LinkIn w B p s) (hc : Chg Pure' w w') : LinkIX w' B p s (fun k => w.heap.size ≤ k ∧ k < w'.heap.size) := by
  obtain ⟨m, col, hp, hs, h⟩ := h
  refine ⟨m, col, hp, hs, h.pure hc, fun k hk => ⟨?_, hk.2⟩⟩
  apply Classical.byContradiction
  intro h0
  have := (h.own k h0).2
  omega
theorem LinkIX.link {w : World} {B p : Nat} {s : Lp} {X : Nat → Prop} (h : LinkIX w B p s X) : LinkIn w B p s := by
  obtain ⟨m, col, hp, hs, h, -⟩ := h
  exact ⟨m, col, hp, hs, h⟩
theorem LinkIX.write {w w' : World} {B p : Nat} {s : Lp} {X S : Nat → Prop} (h : LinkIX w B p s X) (hc : Chg S w w') (hS : ∀ k, S k → X k) : LinkIX w' B p s X := by
  obtain ⟨m, col, hp, hs, h, hX⟩ := h
  have st := h.stays (col' := col) (fun c => c = 0) hc (fun k _ hk => (hX k (hS k hk)).1) (by decide) (fun _ _ => rfl)
  exact ⟨m, col, hp, hs, ⟨fun k hk => ⟨(h.own k hk).1, Nat.lt_of_lt_of_le (h.own k hk).2 hc.size⟩, st.lk (by decide), st.nbk (by decide), st.n0 (by decide), st.n1 (by decide), st.snd (by decide), st.rcv (by decide), st.gr0 (by decide), st.gr1 (by decide), st.k3, st.k4, st.k5, st.k6, st.k1, st.k2, h.l0, h.l1, h.now⟩, fun k hk => ⟨(hX k hk).1, Nat.lt_of_lt_of_le (hX k hk).2 hc.size⟩⟩
theorem paint_zero {col : Nat → Nat} {n n' c k : Nat} (h : col k = 0) (hk : k < n) : paint col n n' c k = 0 := by
  unfold paint
  rw [if_neg (by omega), if_neg (by omega)]
set_option maxHeartbeats 4000000 in
theorem lsend_x {w : World} {B p : Nat} {s : Lp} {X : Nat → Prop} (h : LinkIX w B p s X) (A : Option Addr) (n c : Nat) (xs : List UInt8) (hA : Bytes w A n xs) (hn : n ≤ 140737488351232) (hcnt : s.cnt ≤ 4611686018427387904) (hsent : s.sent ≤ 4611686018427387904) :
    Calls Try.prog 24 #[.pointer (some ⟨p, 0, none⟩), .slice A n c] w fun e w' => e = .returned (.int .i64 (sendL s xs).1) ∧ LinkIX w' B p (sendL s xs).2 X ∧ Chg (fun k => B ≤ k ∧ ¬ X k) w w' := by
  have hl := hA.len
  have h0 := h
  obtain ⟨m, col, rfl, rfl, h, hX⟩ := h
  have HXX := Lib.hid hX
  clear hX
  have H := Lib.hid (lok_any h)
  by_cases hbig : 1100 < n
  · have hR : sendL m.pl xs = (8, m.pl) := by unfold sendL; rw [if_pos (by omega)]
    have i1 : (1100 : Int) < (n : Int) := by omega
    rw [hR]
    have H0 := Lib.hid h0
    clear h h0 hA hR hl
    go_enter Try.func24, Try.ntmps24
    go_wp2_with (fail)
    refine H.out.mono ?_
    rintro e w1 ⟨rfl, rfl⟩
    go_wp2
    go_ret
    exact ⟨rfl, H0.out, Chg.refl _ _⟩
  · have hR : sendL m.pl xs = ((pushOf m.W m.base m.lim m.Ls xs m.now).1.2, { m.pl with Ls := (pushOf m.W m.base m.lim m.Ls xs m.now).2, cnt := m.cnt + 1, sent := if (pushOf m.W m.base m.lim m.Ls xs m.now).1.2 = 0 then m.sent + 1 else m.sent }) := by unfold sendL; rw [if_neg (by omega)]; rfl
    have i1 : ((1100 : Int) < (n : Int)) = False := eq_false (by omega)
    rw [hR]
    have hd := h.pure ((Chg.refl Pure' w).drew)
    have HP := Lib.hid (spush_any hd.snd A n c xs (m.now : Int) (hA.pure ((Chg.refl Pure' w).drew)) hn hcnt)
    have HD := Lib.hid hd
    have y3 := hd.lk.c3
    have y1 := hd.lk.c1
    have np : ¬ (m.p = m.sp ∨ m.p = m.sb) := by
      have h3 := h.k3
      rintro (e | e)
      · have := h.k1 m.sp (.inl rfl); rw [← e] at this; omega
      · have := h.k1 m.sb (.inr (.inl rfl)); rw [← e] at this; omega
    have hbw := h.base_le
    obtain ⟨r, hr⟩ : ∃ r, pushOf m.W m.base m.lim m.Ls xs m.now = r := ⟨_, rfl⟩
    rw [hr] at HP ⊢
    have HF := Lib.hid (show m.pl.sent = m.sent from rfl)
    have hsent : m.sent ≤ 4611686018427387904 := hsent
    obtain ⟨⟨r1, r2⟩, r3⟩ := r
    clear h h0 hA hR hl hd hr
    go_enter Try.func24, Try.ntmps24
    go_wp2_with (fail)
    refine H.out.mono ?_
    rintro e w1 ⟨rfl, rfl⟩
    go_wp2_with (fail)
    refine reg_begin (fun k => k = m.sp ∨ k = m.sb) (by kernel_rfl) ?_
    refine reg_take 0 (v := ?_) rfl (by kernel_rfl) (by kernel_rfl) (by kernel_rfl) (fun _ _ _ h => h) (by kernel_rfl) ?_ ?_
    rotate_left
    · (intro w' hS; go_simp; (try go_bits); (try with_reducible rfl))
    try simp only [Act.put, List.getElem_toArray, List.getElem_cons_zero, List.getElem_cons_succ, List.setIfInBounds_toArray, List.set_cons_zero, List.set_cons_succ]
    refine reg_take 1 (v := ?_) rfl (by kernel_rfl) (by kernel_rfl) (by kernel_rfl) (fun _ _ _ h => h) (by kernel_rfl) ?_ ?_
    rotate_left
    · (intro w' hS; go_simp; (try go_bits); (try with_reducible rfl))
    try simp only [Act.put, List.getElem_toArray, List.getElem_cons_zero, List.getElem_cons_succ, List.setIfInBounds_toArray, List.set_cons_zero, List.set_cons_succ]
    refine reg_take 2 (v := ?_) rfl (by kernel_rfl) (by kernel_rfl) (by kernel_rfl) (fun _ _ _ h => h) (by kernel_rfl) ?_ ?_
    rotate_left
    · (intro w' hS; go_simp; (try go_bits); (try with_reducible rfl))
    try simp only [Act.put, List.getElem_toArray, List.getElem_cons_zero, List.getElem_cons_succ, List.setIfInBounds_toArray, List.set_cons_zero, List.set_cons_succ]
    refine reg_take 3 (v := ?_) rfl (by kernel_rfl) (by kernel_rfl) (by kernel_rfl) (fun _ _ _ h => h) (by kernel_rfl) ?_ ?_
    rotate_left
    · (intro w' hS; have hz := hS.cell (w := w.drew) y3 np; go_simp; (try go_bits); (try with_reducible rfl))
    try simp only [Act.put, List.getElem_toArray, List.getElem_cons_zero, List.getElem_cons_succ, List.setIfInBounds_toArray, List.set_cons_zero, List.set_cons_succ]
    refine reg_take 4 (v := ?_) rfl (by kernel_rfl) (by kernel_rfl) (by kernel_rfl) (fun _ _ _ h => h) (by kernel_rfl) ?_ ?_
    rotate_left
    · (intro w' hS; go_simp; (try go_bits); (try with_reducible rfl))
    try simp only [Act.put, List.getElem_toArray, List.getElem_cons_zero, List.getElem_cons_succ, List.setIfInBounds_toArray, List.set_cons_zero, List.set_cons_succ]
    refine reg_take 5 (v := ?_) rfl (by kernel_rfl) (by kernel_rfl) (by kernel_rfl) (fun _ _ _ h => h) (by kernel_rfl) ?_ ?_
    rotate_left
    · (intro w' hS; go_simp; (try go_bits); (try with_reducible rfl))
    try simp only [Act.put, List.getElem_toArray, List.getElem_cons_zero, List.getElem_cons_succ, List.setIfInBounds_toArray, List.set_cons_zero, List.set_cons_succ]
    refine reg_take 6 (v := ?_) rfl (by kernel_rfl) (by kernel_rfl) (by kernel_rfl) (fun _ _ _ h => h) (by kernel_rfl) ?_ ?_
    rotate_left
    · (intro w' hS; go_simp; (try go_bits); (try with_reducible rfl))
    try simp only [Act.put, List.getElem_toArray, List.getElem_cons_zero, List.getElem_cons_succ, List.setIfInBounds_toArray, List.set_cons_zero, List.set_cons_succ]
    refine reg_take 7 (v := ?_) rfl (by kernel_rfl) (by kernel_rfl) (by kernel_rfl) (fun _ _ _ h => h) (by kernel_rfl) ?_ ?_
    rotate_left
    · (intro w' hS; go_simp; (try go_bits); (try with_reducible rfl))
    try simp only [Act.put, List.getElem_toArray, List.getElem_cons_zero, List.getElem_cons_succ, List.setIfInBounds_toArray, List.set_cons_zero, List.set_cons_succ]
    refine reg_take 8 (v := ?_) rfl (by kernel_rfl) (by kernel_rfl) (by kernel_rfl) (fun _ _ _ h => h) (by kernel_rfl) ?_ ?_
    rotate_left
    · (intro w' hS; have hz := hS.cell (w := w.drew) y1 np; go_simp; (try go_bits); (try with_reducible rfl))
    try simp only [Act.put, List.getElem_toArray, List.getElem_cons_zero, List.getElem_cons_succ, List.setIfInBounds_toArray, List.set_cons_zero, List.set_cons_succ]
    refine reg_do 9 rfl (by kernel_rfl) (by kernel_rfl) ?_
    intro K hK
    go_simp
    refine HP.out.mono ?_
    rintro e w2 ⟨rfl, c2, hp⟩
    refine hK _ _ (c2) ?_
    clear hK K
    try simp only [Act.put, List.getElem_toArray, List.getElem_cons_zero, List.getElem_cons_succ, List.setIfInBounds_toArray, List.set_cons_zero, List.set_cons_succ]
    refine reg_take 10 (v := ?_) rfl (by kernel_rfl) (by kernel_rfl) (by kernel_rfl) (fun _ _ _ h => h) (by kernel_rfl) ?_ ?_
    rotate_left
    · (intro w' hS; go_simp; (try go_bits); (try with_reducible rfl))
    try simp only [Act.put, List.getElem_toArray, List.getElem_cons_zero, List.getElem_cons_succ, List.setIfInBounds_toArray, List.set_cons_zero, List.set_cons_succ]
    refine reg_take 11 (v := ?_) rfl (by kernel_rfl) (by kernel_rfl) (by kernel_rfl) (fun _ _ _ h => h) (by kernel_rfl) ?_ ?_
    rotate_left
    · (intro w' hS; go_simp; (try go_bits); (try with_reducible rfl))
    try simp only [Act.put, List.getElem_toArray, List.getElem_cons_zero, List.getElem_cons_succ, List.setIfInBounds_toArray, List.set_cons_zero, List.set_cons_succ]
    refine reg_take 12 (v := ?_) rfl (by kernel_rfl) (by kernel_rfl) (by kernel_rfl) (fun _ _ _ h => h) (by kernel_rfl) ?_ ?_
    rotate_left
    · (intro w' hS; go_simp; (try go_bits); (try with_reducible rfl))
    try simp only [Act.put, List.getElem_toArray, List.getElem_cons_zero, List.getElem_cons_succ, List.setIfInBounds_toArray, List.set_cons_zero, List.set_cons_succ]
    refine reg_take 13 (v := ?_) rfl (by kernel_rfl) (by kernel_rfl) (by kernel_rfl) (fun _ _ _ h => h) (by kernel_rfl) ?_ ?_
    rotate_left
    · (intro w' hS; go_simp; (try go_bits); (try with_reducible rfl))
    try simp only [Act.put, List.getElem_toArray, List.getElem_cons_zero, List.getElem_cons_succ, List.setIfInBounds_toArray, List.set_cons_zero, List.set_cons_succ]
    refine reg_take 14 (v := ?_) rfl (by kernel_rfl) (by kernel_rfl) (by kernel_rfl) (fun _ _ _ h => h) (by kernel_rfl) ?_ ?_
    rotate_left
    · (intro w' hS; go_simp; (try go_bits); (try with_reducible rfl))
    try simp only [Act.put, List.getElem_toArray, List.getElem_cons_zero, List.getElem_cons_succ, List.setIfInBounds_toArray, List.set_cons_zero, List.set_cons_succ]
    refine wpAnyH_done (by kernel_rfl) ?_ _
    obtain ⟨adr', D', hs2, hf2⟩ := hp
    have hL2 := HD.out.sender c2 (fun k hk => hk.elim (fun e => .inl (.inl e)) (fun e => .inl (.inr (.inl e)))) hs2 hf2
    have C2 : Chg (fun k => B ≤ k ∧ ¬ X k) w w2 := ((Chg.refl Pure' w).drew).of_pure.trans' (c2.mono (fun k _ hk => by
      rcases hk with rfl | rfl
      · exact ⟨(HD.out.own _ (by rw [HD.out.k1 _ (.inl rfl)]; decide)).1, fun hx => by have := (HXX.out _ hx).1; rw [HD.out.k1 _ (.inl rfl)] at this; cases this⟩
      · exact ⟨(HD.out.own _ (by rw [HD.out.k1 _ (.inr (.inl rfl))]; decide)).1, fun hx => by have := (HXX.out _ hx).1; rw [HD.out.k1 _ (.inr (.inl rfl))] at this; cases this⟩))
    have HL2 := Lib.hid hL2
    clear hL2 hs2 hf2 c2 HP y1 y3 H
    by_cases h0 : r2 = 0
    · subst h0
      obtain ⟨hL3, c3⟩ := HL2.out.lcell 6 (.int .i64 ((m.sent : Int) + 1)) m.now m.epoch (m.sent + 1) m.got HL2.out.now (HL2.out.lk.sent (m.sent + 1) _ (by omega))
      obtain ⟨cs, hb1, hb2⟩ := HL2.out.lk.blk
      have y6 := HL2.out.lk.c6
      have f6 : w2.frozen? ⟨m.p, 6, none⟩ = false := free_at hb1
      have hpB : B ≤ m.p ∧ ¬ X m.p := ⟨(HD.out.own m.p (by rw [HD.out.k3]; decide)).1, fun hx => by have := (HXX.out _ hx).1; have h3 : col m.p = 3 := HD.out.k3; omega⟩
      have HL3 := Lib.hid hL3
      have C3 := C2.trans' (c3.mono (T := fun k => B ≤ k ∧ ¬ X k) (fun k _ (e : k = m.p) => by rw [e]; exact hpB))
      clear hL3 c3 hb1 hb2 C2 HL2 HD
      go_wp2
      go_ret
      exact ⟨rfl, LinkIX.mk HL3.out rfl rfl (fun k hk => ⟨paint_zero (HXX.out k hk).1 (HXX.out k hk).2, Nat.lt_of_lt_of_le (HXX.out k hk).2 C3.size⟩), C3⟩
    · have i2 : (r2 == 0) = false := by rw [beq_eq_false_iff_ne]; exact h0
      have i3 : (r2 = 0) = False := eq_false h0
      have HN := Lib.hid h0
      clear HD h0
      go_wp2
      go_ret
      exact ⟨rfl, LinkIX.mk HL2.out rfl (by unfold Lm.pl; first | rfl | (simp only; rw [if_neg HN.out])) (fun k hk => ⟨paint_zero (HXX.out k hk).1 (HXX.out k hk).2, Nat.lt_of_lt_of_le (HXX.out k hk).2 C2.size⟩), C2⟩
end Go.Proofs.Ytnpkpfcljkekfaa
