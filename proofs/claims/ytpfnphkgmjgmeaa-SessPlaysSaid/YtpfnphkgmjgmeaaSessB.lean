/- Package sess: the ticks. -/
import Derived.Test.YtpfnphkgmjgmeaaSessA
import Derived.Test.YtpfnphkgmjgmeaaReg
namespace Go.Proofs.Ytpfnphkgmjgmeaa
open Go Go.RowKit
set_option linter.unusedVariables false
set_option linter.unusedSimpArgs false

theorem infoU64 : (Try.prog.info? 29).map (fun i => (i.zero, i.size, i.bytes)) = some (some (.int .u64 0), 1, 8) := by kernel_rfl
def u64v (t : UInt64) : Value := .int .u64 (t.toNat : Int)
/-- Tokens in a variable of its own, block eb. -/
def EndAt (w : World) (B eb : Nat) (toks : List UInt64) : Prop := B ≤ eb ∧ ∃ ve, w.heap[eb]? = some (.cells #[ve] 22 (0, 0)) ∧ w.ownsRow B 29 1 ve toks.length (toks.map u64v)
theorem EndAt.apart {w : World} {B eb : Nat} {ve : Value} {toks : List UInt64} (h1 : w.heap[eb]? = some (.cells #[ve] 22 (0, 0))) (h2 : w.ownsRow B 29 1 ve toks.length (toks.map u64v)) : ve.ownBlock ≠ some eb := by
  intro e
  rcases h2.2 with ⟨rfl, _⟩ | ⟨g, cap, cur, rfl, _, hh, _⟩
  · cases e
  · simp only [Value.ownBlock, Option.some.injEq] at e
    subst e
    rw [h1] at hh
    cases hh
theorem EndAt.frame {w w' : World} {S : Nat → Prop} {B eb : Nat} {toks : List UInt64} (h : EndAt w B eb toks) (hc : Chg S w w') (hS : ∀ k, B ≤ k → k < w.heap.size → ¬ S k) : EndAt w' B eb toks := by
  obtain ⟨h0, ve, h1, h2⟩ := h
  have hlt := (Array.getElem?_eq_some_iff.1 h1).1
  exact ⟨h0, ve, (hc.block eb hlt (hS eb h0 hlt)).trans h1, own_keep h2 hc (fun g hg => hS g (h2.lt g hg).1 (h2.lt g hg).2)⟩
def overB (now : Int) (idle : Nat) (x : Se) : Bool := decide ((idle : Int) < now - x.last)
set_option maxHeartbeats 1000000 in
theorem tick1_any (a p tp eb B idle : Nat) (now : Int) (x : Se) (toks : List UInt64) (w : World) (hs : SeAt w a x) (ht : w.cell? ⟨tp, 0, none⟩ = some (.pointer (some ⟨p, 0, none⟩)))
    (h1 : w.cell? ⟨p, 1, none⟩ = some (.int .i64 idle)) (h2 : w.cell? ⟨p, 2, none⟩ = some (.int .i64 now)) (he : EndAt w B eb toks) (hl : toks.length ≤ 64) (hn : 0 ≤ now ∧ now ≤ 1099511627776) (hx : 0 ≤ x.last ∧ x.last ≤ 1099511627776) (hi : idle ≤ 1048576) (hB : B ≤ w.heap.size) (haB : a < B) :
    Calls Try.prog 37 #[.pointer (some ⟨a, 0, none⟩), .pointer (some ⟨tp, 0, none⟩), .pointer (some ⟨eb, 0, none⟩)] w fun e w' => e = .returned (.bool (overB now idle x)) ∧ EndAt w' B eb (if overB now idle x then toks ++ [x.token] else toks) ∧ Chg (fun k => B ≤ k) w w' := by
  have x0 := hs.c0
  have x3 := hs.c3
  have HE := Lib.hid he
  obtain ⟨he0, ve, he1, he2⟩ := he
  have hec : w.cell? ⟨eb, 0, none⟩ = some ve := by rw [cell_of_row w eb 0 _ _ _ he1]; rfl
  have hef : w.frozen? ⟨eb, 0, none⟩ = false := free_at he1
  have hap := EndAt.apart he1 he2
  have HE1 := Lib.hid he1
  have HE2 := Lib.hid he2
  clear hs he1 he2
  cases ho : overB now idle x with
  | false =>
    have ho' : ((idle : Int) < now - x.last) = False := eq_false (of_decide_eq_false ho)
    have HF := Lib.hid ho
    clear ho
    go_enter Try.func37, Try.ntmps37
    go_wp2_with (fail)
    go_quiet (fail)
    go_wp2
    go_ret
    exact ⟨rfl, HE.out.frame ((Chg.refl Pure' w).drewN _) (fun _ _ _ h => h), (Chg.refl _ w).drewN _⟩
  | true =>
    have ho' : ((idle : Int) < now - x.last) = True := eq_true (of_decide_eq_true ho)
    clear ho
    go_enter Try.func37, Try.ntmps37
    go_wp2_with (fail)
    go_quiet (fail)
    go_wp2_with (fail)
    refine reg_begin (fun k => B ≤ k) (by kernel_rfl) ?_
    have C1 : Chg Pure' w (w.drewN nq).drew := ((Chg.refl Pure' w).drewN nq).drew
    generalize (w.drewN nq).drew = w1 at *
    have x0 := C1.cell x0 (fun h => h)
    have HE := Lib.hid (HE.out.frame C1 (fun _ _ _ h => h))
    have hB1 := C1.size
    clear x3 ht h1 h2 hec hef hap HE1 HE2 ve
    obtain ⟨he0, ve, he1, he2⟩ := HE.out
    have hec : w1.cell? ⟨eb, 0, none⟩ = some ve := by rw [cell_of_row w1 eb 0 _ _ _ he1]; rfl
    have hef : w1.frozen? ⟨eb, 0, none⟩ = false := free_at he1
    have hap := EndAt.apart he1 he2
    have HE1 := Lib.hid he1
    have HE2 := Lib.hid he2
    clear he1 he2
    have ca : Chg Pure' w1 (w1.alloc (.cells #[.int .u64 (x.token.toNat : Int)] 29)) := (Chg.refl _ w1).alloc _
    have R5 := own_keep HE2.out ca (fun _ _ h => h)
    have hrow : Row (w1.alloc (.cells #[.int .u64 (x.token.toNat : Int)] 29)) (some ⟨w1.heap.size, 0, none⟩) [.int .u64 (x.token.toNat : Int)] := by
      refine ⟨fun _ => ⟨w1.heap.size, 0, rfl, fun j y hy => ?_⟩⟩
      rw [Nat.zero_add, cellAt_alloc_lit, ← hy]
      simp
    obtain ⟨v6, w6, hr6, ho6, hg6, hb6⟩ := app_own (P := Try.prog) _ B 22 22 29 Try.underlying22 infoU64 rfl (by decide) _ _ _ R5 _ 1 1 _ hrow rfl (by intro u hu; simp at hu; subst hu; rfl) (by decide) (by omega) (by have := ca.size; omega)
    have c6 : Chg (fun k => ve.ownBlock = some k) (w1.alloc (.cells #[.int .u64 (x.token.toNat : Int)] 29)) w6 := (Chg.refl _ _).grown hg6 (fun k hk => .inr hk)
    have hBv : ∀ k, ve.ownBlock = some k → B ≤ k := fun k hk => (HE2.out.lt k hk).1
    have e6 : w6.heap[eb]? = some (.cells #[ve] 22 (0, 0)) := by
      have hlt := (Array.getElem?_eq_some_iff.1 HE1.out).1
      rw [c6.block eb (by have := ca.size; omega) hap, ca.block eb hlt (fun h => h)]
      exact HE1.out
    have ec6 : w6.cell? ⟨eb, 0, none⟩ = some ve := by rw [cell_of_row w6 eb 0 _ _ _ e6]; rfl
    have ef6 : w6.frozen? ⟨eb, 0, none⟩ = false := free_at e6
    have C6 : Chg (fun k => B ≤ k) (w1.alloc (.cells #[.int .u64 (x.token.toNat : Int)] 29)) w6 := c6.mono (fun k _ h => hBv k h)
    have hFin : EndAt (w6.setCell ⟨eb, 0, none⟩ v6) B eb (toks ++ [x.token]) ∧ Chg (fun k => B ≤ k) w1 (w6.setCell ⟨eb, 0, none⟩ v6) := by
      have hne : v6.ownBlock ≠ some eb := by
        intro e
        rcases hb6 eb e with h | h
        · exact hap h
        · have hlt := (Array.getElem?_eq_some_iff.1 HE1.out).1
          have := ca.size
          omega
      refine ⟨⟨he0, v6, heap_setCell_same w6 eb 0 _ _ _ e6, ?_⟩, ?_⟩
      · have := own_keep ho6 (Chg.setCell (S := fun k => k = eb) (Chg.refl _ w6) (p := ⟨eb, 0, none⟩) (.inr rfl) v6) (fun g hg e => hne (by rw [← e]; exact hg))
        simpa [u64v] using this
      · exact ((ca.of_pure).trans' C6).setCell (p := ⟨eb, 0, none⟩) (.inr he0) v6
    obtain ⟨B6, q6, rfl, -, -, -⟩ := own_slice ho6
    have HFin := Lib.hid hFin
    clear hFin ho6 hb6 hg6 c6 hrow R5 e6
    refine reg_take 1 (v := ?_) rfl (by kernel_rfl) (by kernel_rfl) (by kernel_rfl) (fun _ _ _ h => h) (by kernel_rfl) ?_ ?_
    rotate_left
    · (intro w' hS; go_simp; (try go_bits); (try with_reducible rfl))
    try simp only [Act.put, List.getElem_toArray, List.getElem_cons_zero, List.getElem_cons_succ, List.setIfInBounds_toArray, List.set_cons_zero, List.set_cons_succ]
    refine reg_take 2 (v := ?_) rfl (by kernel_rfl) (by kernel_rfl) (by kernel_rfl) (fun _ _ _ h => h) (by kernel_rfl) ?_ ?_
    rotate_left
    · (intro w' hS; go_simp; (try go_bits); (try with_reducible rfl))
    try simp only [Act.put, List.getElem_toArray, List.getElem_cons_zero, List.getElem_cons_succ, List.setIfInBounds_toArray, List.set_cons_zero, List.set_cons_succ]
    refine reg_take 3 (v := ?_) rfl (by kernel_rfl) (by kernel_rfl) (by kernel_rfl) (fun _ _ _ h => h) (by kernel_rfl) ?_ ?_
    rotate_left
    · (intro w' hS; go_simp; (try go_bits); (try with_reducible rfl))
    try simp only [Act.put, List.getElem_toArray, List.getElem_cons_zero, List.getElem_cons_succ, List.setIfInBounds_toArray, List.set_cons_zero, List.set_cons_succ]
    refine reg_take 4 (v := ?_) rfl (by kernel_rfl) (by kernel_rfl) (by kernel_rfl) (fun _ _ _ h => h) (by kernel_rfl) ?_ ?_
    rotate_left
    · (intro w' hS; have hz := hS.cell (w := w1) x0 (fun h => by simp only at h; omega); go_simp; (try go_bits); (try with_reducible rfl))
    try simp only [Act.put, List.getElem_toArray, List.getElem_cons_zero, List.getElem_cons_succ, List.setIfInBounds_toArray, List.set_cons_zero, List.set_cons_succ]
    refine reg_do2 0 5 rfl rfl (by kernel_rfl) (by kernel_rfl) (by kernel_rfl) ?_ ?_
    · intro K hK
      go_simp
      refine hK _ _ (Chg.refl _ _) ?_
      clear hK K
      try simp only [Act.put, List.getElem_toArray, List.getElem_cons_zero, List.getElem_cons_succ, List.setIfInBounds_toArray, List.set_cons_zero, List.set_cons_succ]
      refine reg_do 5 rfl (by kernel_rfl) (by kernel_rfl) ?_
      intro K hK
      go_simp
      refine hK _ _ (ca.of_pure) ?_
      clear hK K
      try simp only [Act.put, List.getElem_toArray, List.getElem_cons_zero, List.getElem_cons_succ, List.setIfInBounds_toArray, List.set_cons_zero, List.set_cons_succ]
      refine reg_do 6 rfl (by kernel_rfl) (by kernel_rfl) ?_
      intro K hK
      refine Lib.wp_append_run _ _ _ _ _ rfl _ _ rfl rfl _ _ hr6 ?_
      refine hK _ _ (C6) ?_
      clear hK K
      try simp only [Act.put, List.getElem_toArray, List.getElem_cons_zero, List.getElem_cons_succ, List.setIfInBounds_toArray, List.set_cons_zero, List.set_cons_succ]
      refine reg_do 7 rfl (by kernel_rfl) (by kernel_rfl) ?_
      intro K hK
      go_simp
      refine hK _ _ (Chg.setCell (S := fun k => B ≤ k) (Chg.refl _ w6) (p := ⟨eb, 0, none⟩) (.inr he0) _) ?_
      clear hK K
      try simp only [Act.put, List.getElem_toArray, List.getElem_cons_zero, List.getElem_cons_succ, List.setIfInBounds_toArray, List.set_cons_zero, List.set_cons_succ]
      refine wpAnyH_done (by kernel_rfl) ?_ _
      clear hr6
      go_wp2
      go_ret
      exact ⟨rfl, HFin.out.1, (C1.of_pure).trans' HFin.out.2⟩
    · intro K hK
      go_simp
      refine hK _ _ (ca.of_pure) ?_
      clear hK K
      try simp only [Act.put, List.getElem_toArray, List.getElem_cons_zero, List.getElem_cons_succ, List.setIfInBounds_toArray, List.set_cons_zero, List.set_cons_succ]
      have hec5 := ca.cell hec (fun h => h)
      refine reg_do 0 rfl (by kernel_rfl) (by kernel_rfl) ?_
      intro K hK
      go_simp
      refine hK _ _ (Chg.refl _ _) ?_
      clear hK K
      try simp only [Act.put, List.getElem_toArray, List.getElem_cons_zero, List.getElem_cons_succ, List.setIfInBounds_toArray, List.set_cons_zero, List.set_cons_succ]
      refine reg_do 6 rfl (by kernel_rfl) (by kernel_rfl) ?_
      intro K hK
      refine Lib.wp_append_run _ _ _ _ _ rfl _ _ rfl rfl _ _ hr6 ?_
      refine hK _ _ (C6) ?_
      clear hK K
      try simp only [Act.put, List.getElem_toArray, List.getElem_cons_zero, List.getElem_cons_succ, List.setIfInBounds_toArray, List.set_cons_zero, List.set_cons_succ]
      refine reg_do 7 rfl (by kernel_rfl) (by kernel_rfl) ?_
      intro K hK
      go_simp
      refine hK _ _ (Chg.setCell (S := fun k => B ≤ k) (Chg.refl _ w6) (p := ⟨eb, 0, none⟩) (.inr he0) _) ?_
      clear hK K
      try simp only [Act.put, List.getElem_toArray, List.getElem_cons_zero, List.getElem_cons_succ, List.setIfInBounds_toArray, List.set_cons_zero, List.set_cons_succ]
      refine wpAnyH_done (by kernel_rfl) ?_ _
      clear hr6
      go_wp2
      go_ret
      exact ⟨rfl, HFin.out.1, (C1.of_pure).trans' HFin.out.2⟩
end Go.Proofs.Ytpfnphkgmjgmeaa
