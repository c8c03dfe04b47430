/- Package frame: FrameFeeds. -/
import Derived.Test.YtemofjaonoofhaaFrameN
import Derived.Test.YtemofjaonoofhaaFrameI
namespace Go.Proofs.Ytemofjaonoofhaa
open Go Go.RowKit
set_option linter.unusedVariables false
set_option linter.unusedSimpArgs false

theorem reg_pure {P : Program} {md : Region.Mode} {ops : Array Oper} {Q : Exit → Act → World → Prop} {T : Nat → Prop} {fuel : Nat} {listed : Array Bool} {a : Act} {w : World}
    (h : wpAnyH P md ops Q (Chg Pure' w) fuel listed a w) : wpAnyH P md ops Q (Chg T w) fuel listed a w := wpAnyH_imp (fun _ h => h.of_pure) _ _ _ _ h
theorem flush_le : ∀ (n : Nat) (r : List UInt8), r.length ≤ n → (flushB r).2 ≤ r.length
  | 0, r, h => by
    obtain rfl : r = [] := List.eq_nil_of_length_eq_zero (by omega)
    exact Nat.le_refl _
  | n + 1, r, h => by
    by_cases hr : r = []
    · subst hr; exact Nat.le_refl _
    · have hl : 0 < r.length := List.length_pos_iff.2 hr
      rw [flush_eq r hr]
      obtain ⟨h1, -⟩ := scan_le (r.drop 1).length (r.drop 1) (Nat.le_refl _)
      have h2 := flush_le n ((r.drop 1).drop (scan (r.drop 1)).2) (by simp; omega)
      simp only [List.length_drop] at h1 h2 ⊢
      omega
theorem flush_size : ∀ (n : Nat) (r : List UInt8), r.length ≤ n → sizeL (flushB r).1 ≤ r.length
  | 0, r, h => by
    obtain rfl : r = [] := List.eq_nil_of_length_eq_zero (by omega)
    exact Nat.le_refl _
  | n + 1, r, h => by
    by_cases hr : r = []
    · subst hr; exact Nat.le_refl _
    · have hl : 0 < r.length := List.length_pos_iff.2 hr
      rw [flush_eq r hr]
      obtain ⟨h1, h3, -⟩ := scan_le (r.drop 1).length (r.drop 1) (Nat.le_refl _)
      have h2 := flush_size n ((r.drop 1).drop (scan (r.drop 1)).2) (by simp; omega)
      simp only [List.length_drop] at h1 h2 ⊢
      rw [sizeL_append]
      omega
theorem fnew_q (w : World) :
    Calls Try.prog 18 #[] w fun e w' => e = .returned (.pointer (some ⟨w.heap.size, 0, none⟩)) ∧ (∀ q, q ≠ w.heap.size → StrAt w' w.heap.size q [] 0) ∧ Chg Pure' w w' ∧ w'.heap.size = w.heap.size + 1 := by
  go_enter Try.func18, Try.ntmps18
  go_wp2
  go_ret
  have lit := fun j => cellAt_alloc_lit w #[.bool true, .slice none 0 0, .int .i64 0] 47 j
  refine ⟨rfl, fun q hq => ⟨fun e => hq e.symm, ⟨_, heap_alloc_new w _⟩, lit 0, ⟨none, 0, lit 1, Nat.le_refl _, Bytes.nil _ _, fun a h => by cases h⟩, lit 2⟩, (Chg.refl _ w).alloc _, by simp⟩
theorem rnew_q (w w' : World) (h : w' = w.alloc (.cells #[.slice none 0 0, .int .i64 0] 41)) (q : Nat) (hq : q ≠ w.heap.size) : RStr w' w.heap.size q [] 0 := by
  subst h
  have lit := fun j => cellAt_alloc_lit w #[.slice none 0 0, .int .i64 0] 41 j
  exact ⟨fun e => hq e.symm, ⟨_, heap_alloc_new w _⟩, ⟨none, 0, lit 0, Nat.le_refl _, Bytes.nil _ _, fun a h => by cases h⟩, lit 1⟩
set_option maxRecDepth 100000 in
set_option maxHeartbeats 4000000 in
theorem law_FrameFeeds (A : Option Addr) (n c : Nat) (xss : List (List UInt8)) (fl : Int) (w : World) (hA : BytesL w A n xss) (hc : n ≤ c) (hn : n ≤ 1048576) (hx : ∀ x ∈ xss, x.length ≤ 1048576) (hfl : -9223372036854775808 ≤ fl ∧ fl ≤ 9223372036854775807) :
    Calls Try.prog 8 #[.slice A n c, .int .i64 fl] w fun e w' => e = .returned (.bool true) ∧ Chg Pure' w w' := by
  go_enter Try.func8, Try.ntmps8
  go_wp2_with (fail)
  refine (fnew_q w).mono ?_
  rintro e w1 ⟨rfl, h1, c1, z1⟩
  have Z1 := Lib.hid z1
  clear z1
  go_wp2_with (fail)
  have hr := rnew_q w1 _ rfl (w1.heap.size + 1) (by omega)
  have c2 : Chg Pure' w1 (w1.alloc (.cells #[.slice none 0 0, .int .i64 0] 41)) := (Chg.refl _ w1).alloc _
  have h1 := (h1 (w1.heap.size + 1) (by have := Z1.out; omega)).pure c2
  generalize w1.alloc (.cells #[.slice none 0 0, .int .i64 0] 41) = w2 at *
  refine (alive03 w2).mono ?_
  rintro e w3 ⟨rfl, c3⟩
  have h1 := h1.pure c3
  have hr := hr.pure c3
  have C3 := (c1.pure c2).pure c3
  have hpr : w.heap.size < w1.heap.size := by have := Z1.out; omega
  have hz3 := hr.plt
  clear c1 c2 c3 Z1
  generalize hp : w.heap.size = p at *
  generalize w1.heap.size = pr at *
  have HP := Lib.hid hp
  clear hp
  have H1 := Lib.hid h1
  have HR := Lib.hid hr
  clear h1 hr
  go_wp2_with (fail)
  go_loopw [18] (fun i wr => ∃ (k : Nat) (rest : List UInt8) (lost q qr : Nat), k ≤ n ∧ i = .int .i64 k ∧ pr < q ∧ pr < qr ∧ lost + rest.length ≤ k * 1048576 ∧ Hid (StrAt wr p q rest lost ∧ RStr wr pr qr rest lost ∧ Chg Pure' w wr)) (fun i _ => n - (intOf i).toNat)
  case atStart => exact ⟨0, [], 0, pr + 1, pr + 1, Nat.zero_le _, rfl, by omega, by omega, Nat.le_refl _, Lib.hid ⟨H1.out, HR.out, C3⟩⟩
  case round =>
    obtain ⟨k, rest, lost, q, qr, hk, rfl, hq, hqr, hb, HS⟩ := hrel
    clear H1 HR
    by_cases hlt : k < n
    · have hlx := hA.len
      obtain ⟨b, off, rfl, -⟩ := hA.cells (by omega)
      have hkx : k < xss.length := by omega
      obtain ⟨Aj, nj, cj, e1, e2, e3⟩ := hA.at' hkx
      have x1 := HS.out.2.2.cell e1 (fun h => h)
      have b1 := e3.pure HS.out.2.2
      have hxl : (xss[k]'hkx).length ≤ 1048576 := hx _ (List.getElem_mem hkx)
      have hj := e3.len
      rw [hj] at hxl
      generalize xss[k] = x at *
      have E3 := Lib.hid e3
      clear e1 e3 hkx hlx
      have hb2 : lost + rest.length ≤ 1099511627776 := by have := Nat.mul_le_mul_right 1048576 hk; omega
      obtain ⟨z1, z2, -⟩ := scan_le (rest ++ x).length (rest ++ x) (Nat.le_refl _)
      have z3 := sizeL_len (scan (rest ++ x)).1
      have hrl : (rest ++ x).length = rest.length + nj := by simp [hj]
      rw [hrl] at z1
      have HB := Lib.hid hb
      have HJ := Lib.hid hj
      have HRL := Lib.hid hrl
      clear hb hj hrl
      have hplt := HS.out.1.plt
      have hprlt := HS.out.2.1.plt
      go_wp2_with (fail)
      refine reg_begin (fun k => k = p ∨ k = pr) (by kernel_rfl) ?_
      refine reg_take 0 (v := ?_) rfl (by kernel_rfl) (by kernel_rfl) (by kernel_rfl) (fun _ _ _ h => h) (by kernel_rfl) ?_ ?_
      rotate_left
      · (intro w' hS; go_simp; (try go_bits); (try with_reducible rfl))
      try simp only [Act.put, List.getElem_toArray, List.getElem_cons_zero, List.getElem_cons_succ, List.setIfInBounds_toArray, List.set_cons_zero, List.set_cons_succ]
      refine reg_take 1 (v := ?_) rfl (by kernel_rfl) (by kernel_rfl) (by kernel_rfl) (fun _ _ _ h => h) (by kernel_rfl) ?_ ?_
      rotate_left
      · (intro w' hS; go_simp; (try go_bits); (try with_reducible rfl))
      try simp only [Act.put, List.getElem_toArray, List.getElem_cons_zero, List.getElem_cons_succ, List.setIfInBounds_toArray, List.set_cons_zero, List.set_cons_succ]
      refine reg_take 3 (v := ?_) rfl (by kernel_rfl) (by kernel_rfl) (by kernel_rfl) (fun _ _ _ h => h) (by kernel_rfl) ?_ ?_
      rotate_left
      · (intro w' hS; go_simp; (try go_bits); (try with_reducible rfl))
      try simp only [Act.put, List.getElem_toArray, List.getElem_cons_zero, List.getElem_cons_succ, List.setIfInBounds_toArray, List.set_cons_zero, List.set_cons_succ]
      refine reg_do 2 rfl (by kernel_rfl) (by kernel_rfl) ?_
      intro K hK
      go_simp
      refine (feed_any (HS.out.1.pure (Chg.refl _ wr).drew) Aj nj cj x (b1.drew) e2 (by omega) (by omega)).mono ?_
      rintro e w5 ⟨v5, q5, rfl, hq5, hl5, hs5, c5⟩
      have hq5 : wr.heap.size ≤ q5 := hq5
      obtain ⟨A5, d5, rfl, -⟩ := hl5.val
      have hr5 := (HS.out.2.1.pure (Chg.refl Pure' wr).drew).frame c5 (by omega) (by omega)
      have C5 : Chg Pure' w w5 := (HS.out.2.2.drew).trans c5 (fun i hi e => by have := HP.out; omega)
      have hb5 := E3.out.pure C5
      refine hK _ _ (c5.mono (fun _ _ e => .inl e)) ?_
      clear hK K
      try simp only [Act.put, List.getElem_toArray, List.getElem_cons_zero, List.getElem_cons_succ, List.setIfInBounds_toArray, List.set_cons_zero, List.set_cons_succ]
      refine reg_do 4 rfl (by kernel_rfl) (by kernel_rfl) ?_
      intro K hK
      go_simp
      refine (rfeed_any hr5 Aj nj cj x hb5 e2 (by omega) (by omega)).mono ?_
      rintro e w6 ⟨v6, q6, rfl, hq6, hl6, hr6, c6⟩
      obtain ⟨A6, d6, rfl, -⟩ := hl6.val
      have hz5 := c5.size
      have hz5 : wr.heap.size ≤ w5.heap.size := hz5
      have hs6 := hs5.frame c6 (by omega) (by omega)
      have hz6 : wr.heap.size ≤ w6.heap.size := Nat.le_trans hz5 c6.size
      have hl5 := hl5.keep c6 (fun k hk e => by omega)
      have C6 : Chg Pure' w w6 := C5.trans c6 (fun i hi e => by have := HP.out; omega)
      have bl5 := hl5.bl
      have bl6 := hl6.bl
      refine hK _ _ (c6.mono (fun _ _ e => .inr e)) ?_
      clear hK K
      try simp only [Act.put, List.getElem_toArray, List.getElem_cons_zero, List.getElem_cons_succ, List.setIfInBounds_toArray, List.set_cons_zero, List.set_cons_succ]
      refine reg_pure ?_
      have hb3 : lost + (scan (rest ++ x)).2 - sizeL (scan (rest ++ x)).1 + ((rest ++ x).drop (scan (rest ++ x)).2).length ≤ lost + rest.length + nj := by
        rw [List.length_drop, HRL.out]; omega
      have hll : (scan (rest ++ x)).1.length ≤ 2199023255552 := by omega
      have hdl : ((rest ++ x).drop (scan (rest ++ x)).2).length ≤ 2199023255552 := by rw [List.length_drop, HRL.out]; omega
      clear hl5 hl6 c5 c6 hs5 hr5 hb5 z1 z2 z3 C5 b1
      generalize (rest ++ x).drop (scan (rest ++ x)).2 = rest' at *
      generalize lost + (scan (rest ++ x)).2 - sizeL (scan (rest ++ x)).1 = lost' at *
      generalize (scan (rest ++ x)).1 = ls at *
      refine reg_do 5 rfl (by kernel_rfl) (by kernel_rfl) ?_
      intro K hK
      go_simp
      refine (sames_any A5 ls.length d5 ls A6 ls.length d6 ls w6 bl5 bl6 (by omega) (by omega) true (by simp)).mono ?_
      rintro e w7 ⟨rfl, c7⟩
      have hs7 := hs6.pure c7
      have hr7 := hr6.pure c7
      have C7 := C6.pure c7
      refine hK _ _ (c7) ?_
      clear hK K
      try simp only [Act.put, List.getElem_toArray, List.getElem_cons_zero, List.getElem_cons_succ, List.setIfInBounds_toArray, List.set_cons_zero, List.set_cons_succ]
      refine reg_take 6 (v := ?_) rfl (by kernel_rfl) (by kernel_rfl) (by kernel_rfl) (fun _ _ _ h => h) (by kernel_rfl) ?_ ?_
      rotate_left
      · (intro w' hS; go_simp; (try go_bits); (try with_reducible rfl))
      try simp only [Act.put, List.getElem_toArray, List.getElem_cons_zero, List.getElem_cons_succ, List.setIfInBounds_toArray, List.set_cons_zero, List.set_cons_succ]
      refine reg_take 7 (v := ?_) rfl (by kernel_rfl) (by kernel_rfl) (by kernel_rfl) (fun _ _ _ h => h) (by kernel_rfl) ?_ ?_
      rotate_left
      · (intro w' hS; go_simp; (try go_bits); (try with_reducible rfl))
      try simp only [Act.put, List.getElem_toArray, List.getElem_cons_zero, List.getElem_cons_succ, List.setIfInBounds_toArray, List.set_cons_zero, List.set_cons_succ]
      refine reg_take 8 (v := ?_) rfl (by kernel_rfl) (by kernel_rfl) (by kernel_rfl) (fun _ _ _ h => h) (by kernel_rfl) ?_ ?_
      rotate_left
      · (intro w' hS; go_simp; (try go_bits); (try with_reducible rfl))
      try simp only [Act.put, List.getElem_toArray, List.getElem_cons_zero, List.getElem_cons_succ, List.setIfInBounds_toArray, List.set_cons_zero, List.set_cons_succ]
      obtain ⟨A0, k0, y0, -⟩ := hr7.c0
      have y1 := hr7.c1
      refine reg_take 10 (v := ?_) rfl (by kernel_rfl) (by kernel_rfl) (by kernel_rfl) (fun _ _ _ h => h) (by kernel_rfl) ?_ ?_
      rotate_left
      · (intro w' hS; go_simp; (try go_bits); (try with_reducible rfl))
      try simp only [Act.put, List.getElem_toArray, List.getElem_cons_zero, List.getElem_cons_succ, List.setIfInBounds_toArray, List.set_cons_zero, List.set_cons_succ]
      refine reg_take 11 (v := ?_) rfl (by kernel_rfl) (by kernel_rfl) (by kernel_rfl) (fun _ _ _ h => h) (by kernel_rfl) ?_ ?_
      rotate_left
      · (intro w' hS; have hz := hS.cell (w := w7) y1 (fun h => h); go_simp; (try go_bits); (try with_reducible rfl))
      try simp only [Act.put, List.getElem_toArray, List.getElem_cons_zero, List.getElem_cons_succ, List.setIfInBounds_toArray, List.set_cons_zero, List.set_cons_succ]
      refine reg_do 9 rfl (by kernel_rfl) (by kernel_rfl) ?_
      intro K hK
      go_simp
      refine (lost_any hs7).mono ?_
      rintro e w8 ⟨rfl, rfl⟩
      refine hK _ _ (Chg.refl _ _) ?_
      clear hK K
      try simp only [Act.put, List.getElem_toArray, List.getElem_cons_zero, List.getElem_cons_succ, List.setIfInBounds_toArray, List.set_cons_zero, List.set_cons_succ]
      refine reg_take 12 (v := ?_) rfl (by kernel_rfl) (by kernel_rfl) (by kernel_rfl) (fun _ _ _ h => h) (by kernel_rfl) ?_ ?_
      rotate_left
      · (intro w' hS; go_simp; (try go_bits); (try with_reducible rfl))
      try simp only [Act.put, List.getElem_toArray, List.getElem_cons_zero, List.getElem_cons_succ, List.setIfInBounds_toArray, List.set_cons_zero, List.set_cons_succ]
      refine reg_take 13 (v := ?_) rfl (by kernel_rfl) (by kernel_rfl) (by kernel_rfl) (fun _ _ _ h => h) (by kernel_rfl) ?_ ?_
      rotate_left
      · (intro w' hS; go_simp; (try go_bits); (try with_reducible rfl))
      try simp only [Act.put, List.getElem_toArray, List.getElem_cons_zero, List.getElem_cons_succ, List.setIfInBounds_toArray, List.set_cons_zero, List.set_cons_succ]
      refine reg_take 14 (v := ?_) rfl (by kernel_rfl) (by kernel_rfl) (by kernel_rfl) (fun _ _ _ h => h) (by kernel_rfl) ?_ ?_
      rotate_left
      · (intro w' hS; go_simp; (try go_bits); (try with_reducible rfl))
      try simp only [Act.put, List.getElem_toArray, List.getElem_cons_zero, List.getElem_cons_succ, List.setIfInBounds_toArray, List.set_cons_zero, List.set_cons_succ]
      refine reg_take 15 (v := ?_) rfl (by kernel_rfl) (by kernel_rfl) (by kernel_rfl) (fun _ _ _ h => h) (by kernel_rfl) ?_ ?_
      rotate_left
      · (intro w' hS; go_simp; (try go_bits); (try with_reducible rfl))
      try simp only [Act.put, List.getElem_toArray, List.getElem_cons_zero, List.getElem_cons_succ, List.setIfInBounds_toArray, List.set_cons_zero, List.set_cons_succ]
      refine reg_take 17 (v := ?_) rfl (by kernel_rfl) (by kernel_rfl) (by kernel_rfl) (fun _ _ _ h => h) (by kernel_rfl) ?_ ?_
      rotate_left
      · (intro w' hS; go_simp; (try go_bits); (try with_reducible rfl))
      try simp only [Act.put, List.getElem_toArray, List.getElem_cons_zero, List.getElem_cons_succ, List.setIfInBounds_toArray, List.set_cons_zero, List.set_cons_succ]
      refine reg_take 18 (v := ?_) rfl (by kernel_rfl) (by kernel_rfl) (by kernel_rfl) (fun _ _ _ h => h) (by kernel_rfl) ?_ ?_
      rotate_left
      · (intro w' hS; have hz := hS.cell (w := w7) y0 (fun h => h); go_simp; (try go_bits); (try with_reducible rfl))
      try simp only [Act.put, List.getElem_toArray, List.getElem_cons_zero, List.getElem_cons_succ, List.setIfInBounds_toArray, List.set_cons_zero, List.set_cons_succ]
      refine reg_take 19 (v := ?_) rfl (by kernel_rfl) (by kernel_rfl) (by kernel_rfl) (fun _ _ _ h => h) (by kernel_rfl) ?_ ?_
      rotate_left
      · (intro w' hS; go_simp; (try go_bits); (try with_reducible rfl))
      try simp only [Act.put, List.getElem_toArray, List.getElem_cons_zero, List.getElem_cons_succ, List.setIfInBounds_toArray, List.set_cons_zero, List.set_cons_succ]
      refine reg_do 16 rfl (by kernel_rfl) (by kernel_rfl) ?_
      intro K hK
      go_simp
      refine (waits_any hs7).mono ?_
      rintro e w8 ⟨rfl, rfl⟩
      refine hK _ _ (Chg.refl _ _) ?_
      clear hK K
      try simp only [Act.put, List.getElem_toArray, List.getElem_cons_zero, List.getElem_cons_succ, List.setIfInBounds_toArray, List.set_cons_zero, List.set_cons_succ]
      refine reg_take 20 (v := ?_) rfl (by kernel_rfl) (by kernel_rfl) (by kernel_rfl) (fun _ _ _ h => h) (by kernel_rfl) ?_ ?_
      rotate_left
      · (intro w' hS; go_simp; (try go_bits); (try with_reducible rfl))
      try simp only [Act.put, List.getElem_toArray, List.getElem_cons_zero, List.getElem_cons_succ, List.setIfInBounds_toArray, List.set_cons_zero, List.set_cons_succ]
      refine reg_take 21 (v := ?_) rfl (by kernel_rfl) (by kernel_rfl) (by kernel_rfl) (fun _ _ _ h => h) (by kernel_rfl) ?_ ?_
      rotate_left
      · (intro w' hS; go_simp; (try go_bits); (try with_reducible rfl))
      try simp only [Act.put, List.getElem_toArray, List.getElem_cons_zero, List.getElem_cons_succ, List.setIfInBounds_toArray, List.set_cons_zero, List.set_cons_succ]
      refine wpAnyH_done (by kernel_rfl) ?_ _
      have hK1 : lost' + rest'.length ≤ (k + 1) * 1048576 := by have := HB.out; rw [Nat.succ_mul]; omega
      by_cases hfk : (k : Int) = fl
      · have e1 : ((k : Int) == fl) = true := by rw [beq_iff_eq]; exact hfk
        have hs7 := Lib.hid hs7
        have hr7 := Lib.hid hr7
        have hq6 : wr.heap.size ≤ q6 := by omega
        have hz7 : wr.heap.size ≤ w7.heap.size := by have := c7.size; omega
        clear hfk y0 y1 hs6 hr6 bl5 bl6
        go_wp2_with (fail)
        refine reg_begin (fun k => k = p ∨ k = pr) (by kernel_rfl) ?_
        refine reg_take 0 (v := ?_) rfl (by kernel_rfl) (by kernel_rfl) (by kernel_rfl) (fun _ _ _ h => h) (by kernel_rfl) ?_ ?_
        rotate_left
        · (intro w' hS; go_simp; (try go_bits); (try with_reducible rfl))
        try simp only [Act.put, List.getElem_toArray, List.getElem_cons_zero, List.getElem_cons_succ, List.setIfInBounds_toArray, List.set_cons_zero, List.set_cons_succ]
        refine reg_take 1 (v := ?_) rfl (by kernel_rfl) (by kernel_rfl) (by kernel_rfl) (fun _ _ _ h => h) (by kernel_rfl) ?_ ?_
        rotate_left
        · (intro w' hS; go_simp; (try go_bits); (try with_reducible rfl))
        try simp only [Act.put, List.getElem_toArray, List.getElem_cons_zero, List.getElem_cons_succ, List.setIfInBounds_toArray, List.set_cons_zero, List.set_cons_succ]
        refine reg_take 2 (v := ?_) rfl (by kernel_rfl) (by kernel_rfl) (by kernel_rfl) (fun _ _ _ h => h) (by kernel_rfl) ?_ ?_
        rotate_left
        · (intro w' hS; go_simp; (try go_bits); (try with_reducible rfl))
        try simp only [Act.put, List.getElem_toArray, List.getElem_cons_zero, List.getElem_cons_succ, List.setIfInBounds_toArray, List.set_cons_zero, List.set_cons_succ]
        refine reg_take 3 (v := ?_) rfl (by kernel_rfl) (by kernel_rfl) (by kernel_rfl) (fun _ _ _ h => h) (by kernel_rfl) ?_ ?_
        rotate_left
        · (intro w' hS; go_simp; (try go_bits); (try with_reducible rfl))
        try simp only [Act.put, List.getElem_toArray, List.getElem_cons_zero, List.getElem_cons_succ, List.setIfInBounds_toArray, List.set_cons_zero, List.set_cons_succ]
        refine reg_take 4 (v := ?_) rfl (by kernel_rfl) (by kernel_rfl) (by kernel_rfl) (fun _ _ _ h => h) (by kernel_rfl) ?_ ?_
        rotate_left
        · (intro w' hS; go_simp; (try go_bits); (try with_reducible rfl))
        try simp only [Act.put, List.getElem_toArray, List.getElem_cons_zero, List.getElem_cons_succ, List.setIfInBounds_toArray, List.set_cons_zero, List.set_cons_succ]
        refine reg_do 5 rfl (by kernel_rfl) (by kernel_rfl) ?_
        intro K hK
        go_simp
        refine (flush_any (hs7.out.pure (Chg.refl _ w7).drew) (by omega) (by omega)).mono ?_
        rintro e w8 ⟨v8, q8, rfl, hl8, hs8, c8, hq8⟩
        have hq8 : pr < q8 := by rcases hq8 with rfl | h; omega; (have h : w7.heap.size ≤ q8 := h; omega)
        obtain ⟨A8, d8, rfl, -⟩ := hl8.val
        have hr8 := (hr7.out.pure (Chg.refl Pure' w7).drew).frame c8 (by omega) (by omega)
        have C8 : Chg Pure' w w8 := (C7.drew).trans c8 (fun i hi e => by have := HP.out; omega)
        refine hK _ _ (c8.mono (fun _ _ e => .inl e)) ?_
        clear hK K
        try simp only [Act.put, List.getElem_toArray, List.getElem_cons_zero, List.getElem_cons_succ, List.setIfInBounds_toArray, List.set_cons_zero, List.set_cons_succ]
        refine reg_do 6 rfl (by kernel_rfl) (by kernel_rfl) ?_
        intro K hK
        go_simp
        refine (rflush_any hr8 (by omega) (by omega)).mono ?_
        rintro e w9 ⟨v9, q9, rfl, hl9, hr9, c9, hq9⟩
        have hz8 := c8.size
        have hz8 : w7.heap.size ≤ w8.heap.size := hz8
        have hq9 : pr < q9 := by rcases hq9 with rfl | h; omega; omega
        obtain ⟨A9, d9, rfl, -⟩ := hl9.val
        have hs9 := hs8.frame c9 (by omega) (by omega)
        have hl8 := hl8.keep c9 (fun k hk e => by have hk : w7.heap.size ≤ k := hk; omega)
        have C9 : Chg Pure' w w9 := C8.trans c9 (fun i hi e => by have := HP.out; omega)
        have bl8 := hl8.bl
        have bl9 := hl9.bl
        refine hK _ _ (c9.mono (fun _ _ e => .inr e)) ?_
        clear hK K
        try simp only [Act.put, List.getElem_toArray, List.getElem_cons_zero, List.getElem_cons_succ, List.setIfInBounds_toArray, List.set_cons_zero, List.set_cons_succ]
        refine reg_pure ?_
        have hfl := flush_le rest'.length rest' (Nat.le_refl _)
        have hK2 : lost' + (flushB rest').2 + ([] : List UInt8).length ≤ (k + 1) * 1048576 := by simp only [List.length_nil]; omega
        have hfn : (flushB rest').1.length ≤ 2199023255552 := by
          have h1 := flush_size rest'.length rest' (Nat.le_refl _)
          have h2 := sizeL_len (flushB rest').1
          omega
        clear hl8 hl9 c8 c9 hs8 hr8 C8 hs7 hr7
        generalize lost' + (flushB rest').2 = lost2 at *
        generalize (flushB rest').1 = ls2 at *
        refine reg_do 7 rfl (by kernel_rfl) (by kernel_rfl) ?_
        intro K hK
        go_simp
        refine (sames_any A8 ls2.length d8 ls2 A9 ls2.length d9 ls2 w9 bl8 bl9 (by omega) (by omega) true (by simp)).mono ?_
        rintro e w10 ⟨rfl, c10⟩
        have hs10 := hs9.pure c10
        have hr10 := hr9.pure c10
        have C10 := C9.pure c10
        refine hK _ _ (c10) ?_
        clear hK K
        try simp only [Act.put, List.getElem_toArray, List.getElem_cons_zero, List.getElem_cons_succ, List.setIfInBounds_toArray, List.set_cons_zero, List.set_cons_succ]
        refine reg_take 8 (v := ?_) rfl (by kernel_rfl) (by kernel_rfl) (by kernel_rfl) (fun _ _ _ h => h) (by kernel_rfl) ?_ ?_
        rotate_left
        · (intro w' hS; go_simp; (try go_bits); (try with_reducible rfl))
        try simp only [Act.put, List.getElem_toArray, List.getElem_cons_zero, List.getElem_cons_succ, List.setIfInBounds_toArray, List.set_cons_zero, List.set_cons_succ]
        refine reg_take 9 (v := ?_) rfl (by kernel_rfl) (by kernel_rfl) (by kernel_rfl) (fun _ _ _ h => h) (by kernel_rfl) ?_ ?_
        rotate_left
        · (intro w' hS; go_simp; (try go_bits); (try with_reducible rfl))
        try simp only [Act.put, List.getElem_toArray, List.getElem_cons_zero, List.getElem_cons_succ, List.setIfInBounds_toArray, List.set_cons_zero, List.set_cons_succ]
        refine reg_take 10 (v := ?_) rfl (by kernel_rfl) (by kernel_rfl) (by kernel_rfl) (fun _ _ _ h => h) (by kernel_rfl) ?_ ?_
        rotate_left
        · (intro w' hS; go_simp; (try go_bits); (try with_reducible rfl))
        try simp only [Act.put, List.getElem_toArray, List.getElem_cons_zero, List.getElem_cons_succ, List.setIfInBounds_toArray, List.set_cons_zero, List.set_cons_succ]
        have y1 := hr10.c1
        refine reg_take 12 (v := ?_) rfl (by kernel_rfl) (by kernel_rfl) (by kernel_rfl) (fun _ _ _ h => h) (by kernel_rfl) ?_ ?_
        rotate_left
        · (intro w' hS; go_simp; (try go_bits); (try with_reducible rfl))
        try simp only [Act.put, List.getElem_toArray, List.getElem_cons_zero, List.getElem_cons_succ, List.setIfInBounds_toArray, List.set_cons_zero, List.set_cons_succ]
        refine reg_take 13 (v := ?_) rfl (by kernel_rfl) (by kernel_rfl) (by kernel_rfl) (fun _ _ _ h => h) (by kernel_rfl) ?_ ?_
        rotate_left
        · (intro w' hS; have hz := hS.cell (w := w10) y1 (fun h => h); go_simp; (try go_bits); (try with_reducible rfl))
        try simp only [Act.put, List.getElem_toArray, List.getElem_cons_zero, List.getElem_cons_succ, List.setIfInBounds_toArray, List.set_cons_zero, List.set_cons_succ]
        refine reg_do 11 rfl (by kernel_rfl) (by kernel_rfl) ?_
        intro K hK
        go_simp
        refine (lost_any hs10).mono ?_
        rintro e w11 ⟨rfl, rfl⟩
        refine hK _ _ (Chg.refl _ _) ?_
        clear hK K
        try simp only [Act.put, List.getElem_toArray, List.getElem_cons_zero, List.getElem_cons_succ, List.setIfInBounds_toArray, List.set_cons_zero, List.set_cons_succ]
        refine reg_take 14 (v := ?_) rfl (by kernel_rfl) (by kernel_rfl) (by kernel_rfl) (fun _ _ _ h => h) (by kernel_rfl) ?_ ?_
        rotate_left
        · (intro w' hS; go_simp; (try go_bits); (try with_reducible rfl))
        try simp only [Act.put, List.getElem_toArray, List.getElem_cons_zero, List.getElem_cons_succ, List.setIfInBounds_toArray, List.set_cons_zero, List.set_cons_succ]
        refine reg_take 15 (v := ?_) rfl (by kernel_rfl) (by kernel_rfl) (by kernel_rfl) (fun _ _ _ h => h) (by kernel_rfl) ?_ ?_
        rotate_left
        · (intro w' hS; go_simp; (try go_bits); (try with_reducible rfl))
        try simp only [Act.put, List.getElem_toArray, List.getElem_cons_zero, List.getElem_cons_succ, List.setIfInBounds_toArray, List.set_cons_zero, List.set_cons_succ]
        refine reg_take 16 (v := ?_) rfl (by kernel_rfl) (by kernel_rfl) (by kernel_rfl) (fun _ _ _ h => h) (by kernel_rfl) ?_ ?_
        rotate_left
        · (intro w' hS; go_simp; (try go_bits); (try with_reducible rfl))
        try simp only [Act.put, List.getElem_toArray, List.getElem_cons_zero, List.getElem_cons_succ, List.setIfInBounds_toArray, List.set_cons_zero, List.set_cons_succ]
        refine reg_take 17 (v := ?_) rfl (by kernel_rfl) (by kernel_rfl) (by kernel_rfl) (fun _ _ _ h => h) (by kernel_rfl) ?_ ?_
        rotate_left
        · (intro w' hS; go_simp; (try go_bits); (try with_reducible rfl))
        try simp only [Act.put, List.getElem_toArray, List.getElem_cons_zero, List.getElem_cons_succ, List.setIfInBounds_toArray, List.set_cons_zero, List.set_cons_succ]
        refine reg_do 18 rfl (by kernel_rfl) (by kernel_rfl) ?_
        intro K hK
        go_simp
        refine (waits_any hs10).mono ?_
        rintro e w11 ⟨rfl, rfl⟩
        rw [List.length_nil]
        refine hK _ _ (Chg.refl _ _) ?_
        clear hK K
        try simp only [Act.put, List.getElem_toArray, List.getElem_cons_zero, List.getElem_cons_succ, List.setIfInBounds_toArray, List.set_cons_zero, List.set_cons_succ]
        refine reg_take 19 (v := ?_) rfl (by kernel_rfl) (by kernel_rfl) (by kernel_rfl) (fun _ _ _ h => h) (by kernel_rfl) ?_ ?_
        rotate_left
        · (intro w' hS; go_simp; (try go_bits); (try with_reducible rfl))
        try simp only [Act.put, List.getElem_toArray, List.getElem_cons_zero, List.getElem_cons_succ, List.setIfInBounds_toArray, List.set_cons_zero, List.set_cons_succ]
        refine reg_take 20 (v := ?_) rfl (by kernel_rfl) (by kernel_rfl) (by kernel_rfl) (fun _ _ _ h => h) (by kernel_rfl) ?_ ?_
        rotate_left
        · (intro w' hS; go_simp; (try go_bits); (try with_reducible rfl))
        try simp only [Act.put, List.getElem_toArray, List.getElem_cons_zero, List.getElem_cons_succ, List.setIfInBounds_toArray, List.set_cons_zero, List.set_cons_succ]
        refine reg_take 21 (v := ?_) rfl (by kernel_rfl) (by kernel_rfl) (by kernel_rfl) (fun _ _ _ h => h) (by kernel_rfl) ?_ ?_
        rotate_left
        · (intro w' hS; go_simp; (try go_bits); (try with_reducible rfl))
        try simp only [Act.put, List.getElem_toArray, List.getElem_cons_zero, List.getElem_cons_succ, List.setIfInBounds_toArray, List.set_cons_zero, List.set_cons_succ]
        refine wpAnyH_done (by kernel_rfl) ?_ _
        have HN := Lib.hid (And.intro hs10 (And.intro hr10 C10))
        clear hs10 hr10 C10 y1 hs9 hr9 C9 bl8 bl9
        go_wp2
        go_roundw
        case rel => exact ⟨k + 1, [], lost2, q8, q9, by omega, by go_num, hq8, hq9, hK2, HN⟩
        case measure => simp [intOf]; omega
      · have e1 : ((k : Int) == fl) = false := by rw [beq_eq_false_iff_ne]; exact hfk
        have HN : Hid (StrAt w7.drew p q5 rest' lost' ∧ RStr w7.drew pr q6 rest' lost' ∧ Chg Pure' w w7.drew) := Lib.hid ⟨hs7.pure (Chg.refl _ w7).drew, hr7.pure (Chg.refl _ w7).drew, C7.drew⟩
        clear hfk y0 y1 hs6 hr6 bl5 bl6 hs7 hr7
        go_wp2_with (fail)
        refine reg_begin (Pure') (by kernel_rfl) ?_
        refine reg_take 0 (v := ?_) rfl (by kernel_rfl) (by kernel_rfl) (by kernel_rfl) (fun _ _ _ h => h) (by kernel_rfl) ?_ ?_
        rotate_left
        · (intro w' hS; go_simp; (try go_bits); (try with_reducible rfl))
        try simp only [Act.put, List.getElem_toArray, List.getElem_cons_zero, List.getElem_cons_succ, List.setIfInBounds_toArray, List.set_cons_zero, List.set_cons_succ]
        refine reg_take 1 (v := ?_) rfl (by kernel_rfl) (by kernel_rfl) (by kernel_rfl) (fun _ _ _ h => h) (by kernel_rfl) ?_ ?_
        rotate_left
        · (intro w' hS; go_simp; (try go_bits); (try with_reducible rfl))
        try simp only [Act.put, List.getElem_toArray, List.getElem_cons_zero, List.getElem_cons_succ, List.setIfInBounds_toArray, List.set_cons_zero, List.set_cons_succ]
        refine reg_take 2 (v := ?_) rfl (by kernel_rfl) (by kernel_rfl) (by kernel_rfl) (fun _ _ _ h => h) (by kernel_rfl) ?_ ?_
        rotate_left
        · (intro w' hS; go_simp; (try go_bits); (try with_reducible rfl))
        try simp only [Act.put, List.getElem_toArray, List.getElem_cons_zero, List.getElem_cons_succ, List.setIfInBounds_toArray, List.set_cons_zero, List.set_cons_succ]
        refine reg_take 3 (v := ?_) rfl (by kernel_rfl) (by kernel_rfl) (by kernel_rfl) (fun _ _ _ h => h) (by kernel_rfl) ?_ ?_
        rotate_left
        · (intro w' hS; go_simp; (try go_bits); (try with_reducible rfl))
        try simp only [Act.put, List.getElem_toArray, List.getElem_cons_zero, List.getElem_cons_succ, List.setIfInBounds_toArray, List.set_cons_zero, List.set_cons_succ]
        refine reg_off 4 rfl (by kernel_rfl) (by kernel_rfl) (by kernel_rfl) (fun _ _ _ h => h) (by kernel_rfl) ?_
        try simp only [Act.put, List.getElem_toArray, List.getElem_cons_zero, List.getElem_cons_succ, List.setIfInBounds_toArray, List.set_cons_zero, List.set_cons_succ]
        refine reg_off 5 rfl (by kernel_rfl) (by kernel_rfl) (by kernel_rfl) (fun _ _ _ h => h) (by kernel_rfl) ?_
        try simp only [Act.put, List.getElem_toArray, List.getElem_cons_zero, List.getElem_cons_succ, List.setIfInBounds_toArray, List.set_cons_zero, List.set_cons_succ]
        refine reg_off 6 rfl (by kernel_rfl) (by kernel_rfl) (by kernel_rfl) (fun _ _ _ h => h) (by kernel_rfl) ?_
        try simp only [Act.put, List.getElem_toArray, List.getElem_cons_zero, List.getElem_cons_succ, List.setIfInBounds_toArray, List.set_cons_zero, List.set_cons_succ]
        refine reg_off 7 rfl (by kernel_rfl) (by kernel_rfl) (by kernel_rfl) (fun _ _ _ h => h) (by kernel_rfl) ?_
        try simp only [Act.put, List.getElem_toArray, List.getElem_cons_zero, List.getElem_cons_succ, List.setIfInBounds_toArray, List.set_cons_zero, List.set_cons_succ]
        refine reg_off 8 rfl (by kernel_rfl) (by kernel_rfl) (by kernel_rfl) (fun _ _ _ h => h) (by kernel_rfl) ?_
        try simp only [Act.put, List.getElem_toArray, List.getElem_cons_zero, List.getElem_cons_succ, List.setIfInBounds_toArray, List.set_cons_zero, List.set_cons_succ]
        refine reg_off 9 rfl (by kernel_rfl) (by kernel_rfl) (by kernel_rfl) (fun _ _ _ h => h) (by kernel_rfl) ?_
        try simp only [Act.put, List.getElem_toArray, List.getElem_cons_zero, List.getElem_cons_succ, List.setIfInBounds_toArray, List.set_cons_zero, List.set_cons_succ]
        refine reg_off 10 rfl (by kernel_rfl) (by kernel_rfl) (by kernel_rfl) (fun _ _ _ h => h) (by kernel_rfl) ?_
        try simp only [Act.put, List.getElem_toArray, List.getElem_cons_zero, List.getElem_cons_succ, List.setIfInBounds_toArray, List.set_cons_zero, List.set_cons_succ]
        refine reg_off 11 rfl (by kernel_rfl) (by kernel_rfl) (by kernel_rfl) (fun _ _ _ h => h) (by kernel_rfl) ?_
        try simp only [Act.put, List.getElem_toArray, List.getElem_cons_zero, List.getElem_cons_succ, List.setIfInBounds_toArray, List.set_cons_zero, List.set_cons_succ]
        refine reg_off 12 rfl (by kernel_rfl) (by kernel_rfl) (by kernel_rfl) (fun _ _ _ h => h) (by kernel_rfl) ?_
        try simp only [Act.put, List.getElem_toArray, List.getElem_cons_zero, List.getElem_cons_succ, List.setIfInBounds_toArray, List.set_cons_zero, List.set_cons_succ]
        refine reg_off 13 rfl (by kernel_rfl) (by kernel_rfl) (by kernel_rfl) (fun _ _ _ h => h) (by kernel_rfl) ?_
        try simp only [Act.put, List.getElem_toArray, List.getElem_cons_zero, List.getElem_cons_succ, List.setIfInBounds_toArray, List.set_cons_zero, List.set_cons_succ]
        refine reg_off 14 rfl (by kernel_rfl) (by kernel_rfl) (by kernel_rfl) (fun _ _ _ h => h) (by kernel_rfl) ?_
        try simp only [Act.put, List.getElem_toArray, List.getElem_cons_zero, List.getElem_cons_succ, List.setIfInBounds_toArray, List.set_cons_zero, List.set_cons_succ]
        refine reg_off 15 rfl (by kernel_rfl) (by kernel_rfl) (by kernel_rfl) (fun _ _ _ h => h) (by kernel_rfl) ?_
        try simp only [Act.put, List.getElem_toArray, List.getElem_cons_zero, List.getElem_cons_succ, List.setIfInBounds_toArray, List.set_cons_zero, List.set_cons_succ]
        refine reg_off 16 rfl (by kernel_rfl) (by kernel_rfl) (by kernel_rfl) (fun _ _ _ h => h) (by kernel_rfl) ?_
        try simp only [Act.put, List.getElem_toArray, List.getElem_cons_zero, List.getElem_cons_succ, List.setIfInBounds_toArray, List.set_cons_zero, List.set_cons_succ]
        refine reg_off 17 rfl (by kernel_rfl) (by kernel_rfl) (by kernel_rfl) (fun _ _ _ h => h) (by kernel_rfl) ?_
        try simp only [Act.put, List.getElem_toArray, List.getElem_cons_zero, List.getElem_cons_succ, List.setIfInBounds_toArray, List.set_cons_zero, List.set_cons_succ]
        refine reg_off 18 rfl (by kernel_rfl) (by kernel_rfl) (by kernel_rfl) (fun _ _ _ h => h) (by kernel_rfl) ?_
        try simp only [Act.put, List.getElem_toArray, List.getElem_cons_zero, List.getElem_cons_succ, List.setIfInBounds_toArray, List.set_cons_zero, List.set_cons_succ]
        refine reg_off 19 rfl (by kernel_rfl) (by kernel_rfl) (by kernel_rfl) (fun _ _ _ h => h) (by kernel_rfl) ?_
        try simp only [Act.put, List.getElem_toArray, List.getElem_cons_zero, List.getElem_cons_succ, List.setIfInBounds_toArray, List.set_cons_zero, List.set_cons_succ]
        refine reg_off 20 rfl (by kernel_rfl) (by kernel_rfl) (by kernel_rfl) (fun _ _ _ h => h) (by kernel_rfl) ?_
        try simp only [Act.put, List.getElem_toArray, List.getElem_cons_zero, List.getElem_cons_succ, List.setIfInBounds_toArray, List.set_cons_zero, List.set_cons_succ]
        refine reg_take 21 (v := ?_) rfl (by kernel_rfl) (by kernel_rfl) (by kernel_rfl) (fun _ _ _ h => h) (by kernel_rfl) ?_ ?_
        rotate_left
        · (intro w' hS; go_simp; (try go_bits); (try with_reducible rfl))
        try simp only [Act.put, List.getElem_toArray, List.getElem_cons_zero, List.getElem_cons_succ, List.setIfInBounds_toArray, List.set_cons_zero, List.set_cons_succ]
        refine wpAnyH_done (by kernel_rfl) ?_ _
        go_wp2
        go_roundw
        case rel => exact ⟨k + 1, rest', lost', q5, q6, by omega, by go_num, by omega, by omega, hK1, HN⟩
        case measure => simp [intOf]; omega
    · have hkn : ((k : Int) < (n : Int)) = False := eq_false (by omega)
      have C := HS.out.2.2
      clear HS
      go_wp2
      go_ret
      exact ⟨rfl, C⟩
end Go.Proofs.Ytemofjaonoofhaa
