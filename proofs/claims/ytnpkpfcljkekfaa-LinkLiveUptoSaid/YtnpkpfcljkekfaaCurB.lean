/- slices.Reverse on a row of the call's own. -/
import Derived.Test.YtnpkpfcljkekfaaCur
import Derived.Test.YtnpkpfcljkekfaaRegE
namespace Go.Proofs.Ytnpkpfcljkekfaa
open Go Go.RowKit
set_option linter.unusedVariables false
set_option maxRecDepth 100000
set_option linter.unusedSimpArgs false

/-- Turned round as far as i. -/
def revAt (xs ys : List UInt8) (i : Nat) : Prop := ys.length = xs.length ∧ ∀ t, t < xs.length → ys.getD t 0 = if t < i ∨ xs.length - i ≤ t then xs.getD (xs.length - 1 - t) 0 else xs.getD t 0
theorem revAt.start (xs : List UInt8) : revAt xs xs 0 := ⟨rfl, fun t ht => by rw [if_neg (by omega)]⟩
theorem revAt.step {xs ys : List UInt8} {i : Nat} (h : revAt xs ys i) (hi : i < xs.length - 1 - i) : revAt xs ((ys.set i (ys.getD (xs.length - 1 - i) 0)).set (xs.length - 1 - i) (ys.getD i 0)) (i + 1) := by
  obtain ⟨hl, hv⟩ := h
  refine ⟨by simp [hl], fun t ht => ?_⟩
  have hti : i < xs.length := by omega
  have htj : xs.length - 1 - i < xs.length := by omega
  have e1 := hv i hti
  have e2 := hv _ htj
  rw [if_neg (by omega)] at e1 e2
  rw [e1, e2]
  by_cases h1 : t = xs.length - 1 - i
  · subst h1
    rw [if_pos (by omega), List.getD_eq_getElem?_getD, List.getElem?_set_self (by simp [hl]; omega)]
    simp only [Option.getD_some]
    rw [show xs.length - 1 - (xs.length - 1 - i) = i by omega]
  · rw [List.getD_eq_getElem?_getD, List.getElem?_set_ne (by omega)]
    by_cases h2 : t = i
    · subst h2
      rw [if_pos (by omega), List.getElem?_set_self (by omega)]
      rfl
    · rw [List.getElem?_set_ne (by omega), ← List.getD_eq_getElem?_getD, hv t ht]
      by_cases h3 : t < i ∨ xs.length - i ≤ t
      · rw [if_pos h3, if_pos (by omega)]
      · rw [if_neg h3, if_neg (by omega)]
theorem revAt.done {xs ys : List UInt8} {i : Nat} (h : revAt xs ys i) (hi : ¬ i < xs.length - 1 - i) : ys = xs.reverse := by
  obtain ⟨hl, hv⟩ := h
  refine List.ext_getElem (by simp [hl]) (fun t h1 h2 => ?_)
  have ht : t < xs.length := by omega
  have e := hv t ht
  rw [List.getD_eq_getElem?_getD, List.getElem?_eq_getElem h1] at e
  simp only [Option.getD_some] at e
  rw [e, List.getElem_reverse]
  by_cases h3 : t < i ∨ xs.length - i ≤ t
  · rw [if_pos h3, List.getD_eq_getElem?_getD, List.getElem?_eq_getElem (by omega)]; rfl
  · rw [if_neg h3, List.getD_eq_getElem?_getD, List.getElem?_eq_getElem ht]
    simp only [Option.getD_some]
    congr 1
    omega
theorem own_cell8 {w : World} {B g n q : Nat} {ys : List UInt8} (h : w.ownsRow B 5 1 (.slice (some ⟨g, 0, none⟩) n q) n (enc ys)) {i : Nat} (hi : i < ys.length) : w.cell? ⟨g, i, none⟩ = some (.int .u8 ((ys.getD i 0).toNat : Int)) ∧ w.frozen? ⟨g, i, none⟩ = false := by
  have hf : w.frozen? ⟨g, i, none⟩ = false := by
    rcases h.2 with ⟨h', h0⟩ | ⟨g', cap, cur, h', hb, hg, hnc, hcm, hcs, htk⟩
    · cases h'
    · cases h'
      simp [World.frozen?, hg]
  have := World.ownsRow.cells h (g := g) rfl i (.int .u8 ((ys.getD i 0).toNat : Int)) (by simp [enc, hi])
  have e : (⟨g, 0, none⟩ : Addr).add i = ⟨g, i, none⟩ := by unfold Addr.add; split <;> simp_all
  rw [e] at this
  exact ⟨this, hf⟩
theorem own_free8 {w : World} {B g n q : Nat} {us : List Value} (h : w.ownsRow B 5 1 (.slice (some ⟨g, 0, none⟩) n q) n us) (i : Nat) : w.frozen? ⟨g, i, none⟩ = false := by
  rcases h.2 with ⟨h', h0⟩ | ⟨g', cap, cur, h', hb, hg, hnc, hcm, hcs, htk⟩
  · cases h'
  · cases h'
    simp [World.frozen?, hg]
set_option maxHeartbeats 4000000 in
theorem reverse_any {w : World} {B g n q : Nat} {xs : List UInt8} (h : w.ownsRow B 5 1 (.slice (some ⟨g, 0, none⟩) n q) n (enc xs)) (h1 : 1 ≤ n) (hn : n ≤ 64) (hxl : xs.length = n) (hq : n ≤ q) :
    Calls Try.prog 67 #[.slice (some ⟨g, 0, none⟩) n q] w fun e w' => e = .returned (.tuple #[]) ∧ w'.ownsRow B 5 1 (.slice (some ⟨g, 0, none⟩) n q) n (enc xs.reverse) ∧ Chg (fun k => k = g) w w' := by
  have H := Lib.hid h
  clear h
  go_enter Try.func67, Try.ntmps67
  go_wp2_with (fail)
  go_loopw [2, 3] (fun i j wr => ∃ (k l : Nat) (ys : List UInt8), k + l + 1 = n ∧ k ≤ l + 1 ∧ i = .int .i64 k ∧ j = .int .i64 l ∧ Hid (revAt xs ys k) ∧ Hid (wr.ownsRow B 5 1 (.slice (some ⟨g, 0, none⟩) n q) n (enc ys)) ∧ Chg (fun k => k = g) w wr) (fun i _ _ => n - (intOf i).toNat)
  case atStart => exact ⟨0, n - 1, xs, by omega, by omega, rfl, by congr 1; omega, Lib.hid (revAt.start xs), H, Chg.refl _ _⟩
  case round =>
    obtain ⟨k, l, ys, hkl, hk2, rfl, rfl, HR, HO, hC⟩ := hrel
    have hyl : ys.length = n := by rw [HR.out.1, hxl]
    have hl : xs.length - 1 - k = l := by omega
    by_cases hlt : k < l
    · obtain ⟨x0, f0⟩ := own_cell8 HO.out (i := k) (by omega)
      obtain ⟨x1, f1⟩ := own_cell8 HO.out (i := l) (by omega)
      have hst := HR.out.step (by omega)
      rw [hl] at hst
      have HS2 := Lib.hid hst
      clear hst HR
      generalize ys.getD k 0 = a at *
      generalize ys.getD l 0 = b at *
      have i1 : (k : Int) < (l : Int) := by omega
      have i2 : (l : Int) < (n : Int) := by omega
      have i3 : (k : Int) < (n : Int) := by omega
      have i4 : l ≤ 64 := by omega
      have i5 : k ≤ 64 := by omega
      have hkne : k ≠ l := by omega
      go_wp2_with (fail)
      refine regP_begin (by kernel_rfl) ?_
      refine regP_take 0 (v := ?_) rfl (by kernel_rfl) (by kernel_rfl) (by kernel_rfl) (fun _ _ _ h => h) (by kernel_rfl) ?_ ?_
      rotate_left
      · (intro w'; go_simp; (try go_bits); (try with_reducible rfl))
      try simp only [Act.put, List.getElem_toArray, List.getElem_cons_zero, List.getElem_cons_succ, List.setIfInBounds_toArray, List.set_cons_zero, List.set_cons_succ]
      refine regP_take 1 (v := ?_) rfl (by kernel_rfl) (by kernel_rfl) (by kernel_rfl) (fun _ _ _ h => h) (by kernel_rfl) ?_ ?_
      rotate_left
      · (intro w'; go_simp; (try go_bits); (try with_reducible rfl))
      try simp only [Act.put, List.getElem_toArray, List.getElem_cons_zero, List.getElem_cons_succ, List.setIfInBounds_toArray, List.set_cons_zero, List.set_cons_succ]
      refine regP_take 2 (v := ?_) rfl (by kernel_rfl) (by kernel_rfl) (by kernel_rfl) (fun _ _ _ h => h) (by kernel_rfl) ?_ ?_
      rotate_left
      · (intro w'; go_simp; (try go_bits); (try with_reducible rfl))
      try simp only [Act.put, List.getElem_toArray, List.getElem_cons_zero, List.getElem_cons_succ, List.setIfInBounds_toArray, List.set_cons_zero, List.set_cons_succ]
      refine regP_take 3 (v := ?_) rfl (by kernel_rfl) (by kernel_rfl) (by kernel_rfl) (fun _ _ _ h => h) (by kernel_rfl) ?_ ?_
      rotate_left
      · (intro w'; go_simp; (try go_bits); (try with_reducible rfl))
      try simp only [Act.put, List.getElem_toArray, List.getElem_cons_zero, List.getElem_cons_succ, List.setIfInBounds_toArray, List.set_cons_zero, List.set_cons_succ]
      refine regP_take 4 (v := ?_) rfl (by kernel_rfl) (by kernel_rfl) (by kernel_rfl) (fun _ _ _ h => h) (by kernel_rfl) ?_ ?_
      rotate_left
      · (intro w'; go_simp; (try go_bits); (try with_reducible rfl))
      try simp only [Act.put, List.getElem_toArray, List.getElem_cons_zero, List.getElem_cons_succ, List.setIfInBounds_toArray, List.set_cons_zero, List.set_cons_succ]
      refine regP_take 5 (v := ?_) rfl (by kernel_rfl) (by kernel_rfl) (by kernel_rfl) (fun _ _ _ h => h) (by kernel_rfl) ?_ ?_
      rotate_left
      · (intro w'; go_simp; (try go_bits); (try with_reducible rfl))
      try simp only [Act.put, List.getElem_toArray, List.getElem_cons_zero, List.getElem_cons_succ, List.setIfInBounds_toArray, List.set_cons_zero, List.set_cons_succ]
      refine regP_take 6 (v := ?_) rfl (by kernel_rfl) (by kernel_rfl) (by kernel_rfl) (fun _ _ _ h => h) (by kernel_rfl) ?_ ?_
      rotate_left
      · (intro w'; go_simp; (try go_bits); (try with_reducible rfl))
      try simp only [Act.put, List.getElem_toArray, List.getElem_cons_zero, List.getElem_cons_succ, List.setIfInBounds_toArray, List.set_cons_zero, List.set_cons_succ]
      refine regP_take 8 (v := ?_) rfl (by kernel_rfl) (by kernel_rfl) (by kernel_rfl) (fun _ _ _ h => h) (by kernel_rfl) ?_ ?_
      rotate_left
      · (intro w'; go_simp; (try go_bits); (try with_reducible rfl))
      try simp only [Act.put, List.getElem_toArray, List.getElem_cons_zero, List.getElem_cons_succ, List.setIfInBounds_toArray, List.set_cons_zero, List.set_cons_succ]
      refine regP_take 9 (v := ?_) rfl (by kernel_rfl) (by kernel_rfl) (by kernel_rfl) (fun _ _ _ h => h) (by kernel_rfl) ?_ ?_
      rotate_left
      · (intro w'; go_simp; (try go_bits); (try with_reducible rfl))
      try simp only [Act.put, List.getElem_toArray, List.getElem_cons_zero, List.getElem_cons_succ, List.setIfInBounds_toArray, List.set_cons_zero, List.set_cons_succ]
      refine regP_take 10 (v := ?_) rfl (by kernel_rfl) (by kernel_rfl) (by kernel_rfl) (fun _ _ _ h => h) (by kernel_rfl) ?_ ?_
      rotate_left
      · (intro w'; go_simp; (try go_bits); (try with_reducible rfl))
      try simp only [Act.put, List.getElem_toArray, List.getElem_cons_zero, List.getElem_cons_succ, List.setIfInBounds_toArray, List.set_cons_zero, List.set_cons_succ]
      refine regE_of [13,15] (Pure') ?_
      refine regE_take 7 (v := ?_) rfl (by kernel_rfl) (by kernel_rfl) (by kernel_rfl) (by kernel_rfl) (fun _ _ _ h => h) (by kernel_rfl) ?_ ?_
      rotate_left
      · (intro w' hS; have hz := hS.cell (w := wr.drew) x1 (fun h => h); go_simp; (try go_bits); (try with_reducible rfl))
      try simp only [Act.put, List.getElem_toArray, List.getElem_cons_zero, List.getElem_cons_succ, List.setIfInBounds_toArray, List.set_cons_zero, List.set_cons_succ]
      refine regE_take 11 (v := ?_) rfl (by kernel_rfl) (by kernel_rfl) (by kernel_rfl) (by kernel_rfl) (fun _ _ _ h => h) (by kernel_rfl) ?_ ?_
      rotate_left
      · (intro w' hS; have hz := hS.cell (w := wr.drew) x0 (fun h => h); go_simp; (try go_bits); (try with_reducible rfl))
      try simp only [Act.put, List.getElem_toArray, List.getElem_cons_zero, List.getElem_cons_succ, List.setIfInBounds_toArray, List.set_cons_zero, List.set_cons_succ]
      refine regE_take 12 (v := ?_) rfl (by kernel_rfl) (by kernel_rfl) (by kernel_rfl) (by kernel_rfl) (fun _ _ _ h => h) (by kernel_rfl) ?_ ?_
      rotate_left
      · (intro w' hS; go_simp; (try go_bits); (try with_reducible rfl))
      try simp only [Act.put, List.getElem_toArray, List.getElem_cons_zero, List.getElem_cons_succ, List.setIfInBounds_toArray, List.set_cons_zero, List.set_cons_succ]
      have x0d : wr.drew.cell? ⟨g, k, none⟩ = _ := x0
      have f0d : wr.drew.frozen? ⟨g, k, none⟩ = false := f0
      refine regE_ex 13 rfl (by kernel_rfl) (by kernel_rfl) (by kernel_rfl) ?_
      intro K hK
      go_simp
      refine hK _ _ ?_
      clear hK K
      try simp only [Act.put, List.getElem_toArray, List.getElem_cons_zero, List.getElem_cons_succ, List.setIfInBounds_toArray, List.set_cons_zero, List.set_cons_succ]
      refine regP_take 14 (v := ?_) rfl (by kernel_rfl) (by kernel_rfl) (by kernel_rfl) (fun _ _ _ h => h) (by kernel_rfl) ?_ ?_
      rotate_left
      · (intro w'; go_simp; (try go_bits); (try with_reducible rfl))
      try simp only [Act.put, List.getElem_toArray, List.getElem_cons_zero, List.getElem_cons_succ, List.setIfInBounds_toArray, List.set_cons_zero, List.set_cons_succ]
      obtain ⟨o1, -⟩ := HO.out.stored k (.int .u8 (b.toNat : Int))
      obtain ⟨o2, -⟩ := o1.stored l (.int .u8 (a.toNat : Int))
      have e2 : ((enc ys).set k (.int .u8 (b.toNat : Int))).set l (.int .u8 (a.toNat : Int)) = enc ((ys.set k b).set l a) := by simp [enc, List.map_set]
      rw [e2] at o2
      have x1d : (wr.setCell ⟨g, k, none⟩ (.int .u8 (b.toNat : Int))).drew.cell? ⟨g, l, none⟩ = some (.int .u8 (b.toNat : Int)) := (set_far (by omega)).trans x1
      have f1d : (wr.setCell ⟨g, k, none⟩ (.int .u8 (b.toNat : Int))).drew.frozen? ⟨g, l, none⟩ = false := own_free8 o1 l
      have O2 := Lib.hid o2
      have cS : ∀ (w1 : World) (j : Nat) (u : Value), Chg (fun k => k = g) w1 (w1.setCell ⟨g, j, none⟩ u) := fun w1 j u => Chg.setCell (S := fun k => k = g) (Chg.refl _ w1) (p := ⟨g, j, none⟩) (.inr rfl) u
      have C2 := (hC.trans' (cS wr k (.int .u8 (b.toNat : Int)))).trans' (cS _ l (.int .u8 (a.toNat : Int)))
      clear o1 o2 e2 HO hC
      refine regP_do 15 rfl (by kernel_rfl) (by kernel_rfl) ?_
      intro K hK
      go_simp
      refine hK _ _ ?_
      clear hK K
      try simp only [Act.put, List.getElem_toArray, List.getElem_cons_zero, List.getElem_cons_succ, List.setIfInBounds_toArray, List.set_cons_zero, List.set_cons_succ]
      refine regP_done (by kernel_rfl) ?_ _
      have O3 := Lib.hid (own_keep O2.out ((Chg.refl Pure' _).drew) (fun _ _ h => h))
      have C3 := C2.drew
      clear O2 C2
      generalize ((wr.setCell ⟨g, k, none⟩ (.int .u8 (b.toNat : Int))).setCell ⟨g, l, none⟩ (.int .u8 (a.toNat : Int))).drew = w9 at *
      go_wp2
      go_roundw
      case rel => exact ⟨k + 1, l - 1, (ys.set k b).set l a, by omega, by omega, by go_num, by congr 1; omega, HS2, O3, C3⟩
      case measure => simp [intOf]; omega
    · have hkn : ((k : Int) < (l : Int)) = False := eq_false (by omega)
      have hd := HR.out.done (by omega)
      go_wp2_with (fail)
      first | go_end0 | (refine bodyPost_ret (results_none rfl _ _ _) rfl ?_)
      exact ⟨rfl, by rw [← hd]; exact HO.out, hC⟩
end Go.Proofs.Ytnpkpfcljkekfaa
