/- Package send, going on: New and Push. -/
import Derived.Test.YtlkpnhfdcljbfaaSendC
namespace Go.Proofs.Ytlkpnhfdcljbfaa
open Go Go.RowKit
set_option linter.unusedVariables false
set_option linter.unusedSimpArgs false

theorem zero_sender (w : World) : (zeroValue 50).run Try.prog w = .ok (.agg #[.int .i64 0, .int .i64 0, .int .i64 0, .int .i64 0, .map none]) w := by kernel_rfl
theorem zero_load (w : World) : (zeroValue 56).run Try.prog w = .ok (.agg #[.slice none 0 0, .bool false, .int .i64 0, .int .i64 0]) w := by kernel_rfl
theorem snew_bad (W : Int) (w : World) (h : W < 1 ∨ 32 < W) :
    Calls Try.prog 8 #[.int .i64 W] w fun e w' => e = .returned (.tuple #[.pointer none, .int .i64 1]) ∧ w = w' := by
  rcases h with h | h
  · go_enter Try.func8, Try.ntmps8
    go_wp2
    go_ret2
    exact ⟨rfl, rfl⟩
  · have h1 : ¬ W < 1 := by omega
    have h2 : decide (W < 1) = false := by simp; omega
    go_enter Try.func8, Try.ntmps8
    go_wp2
    go_ret2
    exact ⟨rfl, rfl⟩
theorem snew_ok (W : Nat) (w : World) (h1 : 1 ≤ W) (h2 : W ≤ 32) :
    Calls Try.prog 8 #[.int .i64 W] w fun e w' => e = .returned (.tuple #[.pointer (some ⟨w.heap.size + 1, 0, none⟩), .int .i64 0]) ∧ Chg Pure' w w' ∧
      SendAt w' (w.heap.size + 1) w.heap.size (fun _ => 0) (fun _ => False) W 1 0 [] 0 := by
  have h3 : decide ((W : Int) < 1) = false := by simp; omega
  have h4 : decide ((32 : Int) < (W : Int)) = false := by simp; omega
  have hz := zero_sender
  have hmm := @run_makeMap Try.prog
  go_enter Try.func8, Try.ntmps8
  go_wp2
  go_ret2
  have hM := MapAt.made w 3
  have e1 : (w.alloc (.map #[] 0)).heap.size = w.heap.size + 1 := by simp
  refine ⟨rfl, ((Chg.refl _ w).alloc _).alloc _, ?_⟩
  have c := fun j => cellAt_alloc_lit (w.alloc (.map #[] 0)) #[.int .i64 W, .int .i64 1, .int .i64 1, .int .i64 0, .map (some w.heap.size)] 50 j
  have hb := heap_alloc_new (w.alloc (.map #[] 0)) (.cells #[.int .i64 W, .int .i64 1, .int .i64 1, .int .i64 0, .map (some w.heap.size)] 50)
  rw [e1] at hb
  simp only [e1] at c
  have ca : Chg Pure' (w.alloc (.map #[] 0)) ((w.alloc (.map #[] 0)).alloc (.cells #[.int .i64 W, .int .i64 1, .int .i64 1, .int .i64 0, .map (some w.heap.size)] 50)) := (Chg.refl _ _).alloc _
  refine ⟨⟨_, hb, rfl⟩, h1, h2, Nat.le_refl _, Nat.zero_le _, by decide, by decide, c 0, c 1, c 2, c 3, c 4, ?_, fun j hj => by simp at hj, by omega, fun i j hi => by simp at hi, fun i hi => by simp at hi, fun d hd => hd.elim⟩
  have e2 : byM 1 ([] : List Ld).length (fun _ => 0) = fun _ => none := by funext i; unfold byM; rw [if_neg (by simp <;> omega)]
  rw [e2]
  exact hM.chg ca (fun h => h)

/-- What Push answers, and what stands behind it. -/
def pushOf (W base lim : Nat) (Ls : List Ld) (xs : List UInt8) (now : Int) : (Int × Int) × List Ld :=
  if ¬ (0 ≤ now ∧ now ≤ 1099511627776) then ((0, 1), Ls) else if 1200 < xs.length then ((0, 8), Ls) else if lim < base + Ls.length ∨ W ≤ Ls.length then ((0, 13), Ls)
  else ((((base + Ls.length : Nat) : Int), 0), Ls ++ [⟨xs, false, now, 1⟩])
theorem byM_push (base n : Nat) (adr : Nat → Nat) (a : Nat) : setAt (byM base n adr) ((base + n : Nat) : Int) (.pointer (some ⟨a, 0, none⟩)) = byM base (n + 1) (fun i => if i = base + n then a else adr i) := by
  funext i
  unfold setAt byM
  by_cases h : i = ((base + n : Nat) : Int)
  · subst h
    rw [if_pos rfl, if_pos (by omega)]
    show some _ = some (Value.pointer (some ⟨if ((base + n : Nat) : Int).toNat = base + n then a else adr ((base + n : Nat) : Int).toNat, 0, none⟩))
    rw [if_pos (by omega)]
  · rw [if_neg h]
    by_cases h2 : (base : Int) ≤ i ∧ i < ((base + n : Nat) : Int)
    · rw [if_pos h2, if_pos (by omega)]
      show some _ = some (Value.pointer (some ⟨if i.toNat = base + n then a else adr i.toNat, 0, none⟩))
      rw [if_neg (by omega)]
    · rw [if_neg h2, if_neg (by omega)]
/-- A load stands behind the others. -/
theorem SendAt.push {w w1 w3 : World} {p b : Nat} {adr : Nat → Nat} {D : Nat → Prop} {W base lim : Nat} {Ls : List Ld} {cnt : Nat} {A : Option Addr} {n c : Nat} {xs : List UInt8} {now : Int} (h : SendAt w p b adr D W base lim Ls cnt)
    (k1 : Chg Pure' w w1) (hB : Bytes w1 A n xs) (hle : n ≤ c) (hn : n ≤ 1200) (hA : ∀ d, A = some d → w.heap.size ≤ d.block ∧ d.block < w1.heap.size) (hnow : 0 ≤ now ∧ now ≤ 1099511627776) (hl : base + Ls.length ≤ lim) (hW : Ls.length < W)
    (hm : MapAt w3 3 b (cnt + 1) (setAt (byM base Ls.length adr) ((base + Ls.length : Nat) : Int) (.pointer (some ⟨w1.heap.size, 0, none⟩))))
    (k3 : Chg (fun k => k = b) (w1.alloc (.cells #[.slice A n c, .bool false, .int .i64 now, .int .i64 1] 56)) w3) {v : Int} (hv : v = ((base + Ls.length + 1 : Nat) : Int)) :
    SendAt (w3.setCell ⟨p, 2, none⟩ (.int .i64 v)) p b (fun i => if i = base + Ls.length then w1.heap.size else adr i) (fun d => D d ∨ (w.heap.size ≤ d ∧ d < w1.heap.size)) W base lim (Ls ++ [⟨xs, false, now, 1⟩]) (cnt + 1) ∧
      Chg (fun k => k = p ∨ k = b) w (w3.setCell ⟨p, 2, none⟩ (.int .i64 v)) := by
  subst hv
  have k2 : Chg Pure' w1 (w1.alloc (.cells #[.slice A n c, .bool false, .int .i64 now, .int .i64 1] 56)) := (Chg.refl _ _).alloc _
  have lit := fun j => cellAt_alloc_lit w1 #[.slice A n c, .bool false, .int .i64 now, .int .i64 1] 56 j
  have hbl := heap_alloc_new w1 (.cells #[.slice A n c, .bool false, .int .i64 now, .int .i64 1] 56)
  have hsz : (w1.alloc (.cells #[.slice A n c, .bool false, .int .i64 now, .int .i64 1] 56)).heap.size = w1.heap.size + 1 := by simp
  generalize w1.alloc (.cells #[.slice A n c, .bool false, .int .i64 now, .int .i64 1] 56) = w2 at *
  have hp := h.plt
  have hb := h.map.lt
  have s1 := k1.size
  have K : Chg (fun k => k = b) w w3 := (k1.of_pure.trans' k2.of_pure).trans' k3
  have kp : Chg (fun k => k = p) w3 (w3.setCell ⟨p, 2, none⟩ (.int .i64 ((base + Ls.length + 1 : Nat) : Int))) := Chg.setCell (S := fun k => k = p) (Chg.refl _ w3) (p := ⟨p, 2, none⟩) (.inr rfl) _
  have KK : Chg (fun k => k = p ∨ k = b) w (w3.setCell ⟨p, 2, none⟩ (.int .i64 ((base + Ls.length + 1 : Nat) : Int))) := (K.mono (fun _ _ e => .inr e)).trans kp (fun i _ e => .inl e)
  obtain ⟨cs, b1, b2⟩ := h.blk
  have hbk := (K.block p hp (fun e => h.pb e)).trans b1
  have ha : w1.heap.size < w2.heap.size := by omega
  have ll : (Ls ++ [(⟨xs, false, now, 1⟩ : Ld)]).length = Ls.length + 1 := by simp
  refine ⟨⟨⟨_, heap_setCell_same w3 p 2 cs _ _ hbk, by simpa using b2⟩, h.w1, h.w32, h.b1, by omega, by omega, h.lm, by rw [set_far (by omega)]; exact K.cell h.c0 (fun e => h.pb e), by rw [set_far (by omega)]; exact K.cell h.c1 (fun e => h.pb e), ?_,
    by rw [set_far (by omega)]; exact K.cell h.c3 (fun e => h.pb e), by rw [set_far (by omega)]; exact K.cell h.c4 (fun e => h.pb e), ?_, fun j hj => ?_, h.pb, fun i j hi hj he => ?_, fun i hi => ?_, fun d hd => ?_⟩, KK⟩
  · rw [set_at (u := .int .i64 ((base + Ls.length : Nat) : Int)) (K.cell h.c2 (fun e => h.pb e)), ll]; rfl
  · rw [byM_push] at hm
    rw [ll]
    exact hm.chg kp (fun e => h.pb e.symm)
  · by_cases hjn : j < Ls.length
    · rw [if_neg (by omega), List.getElem_append_left hjn]
      have hx := h.lds j hjn
      have hxa := h.ap j hjn
      exact (hx.frame K (fun e => hxa.2 e) (fun d hd e => (h.dd d hd).2.1 e) (fun d hd => hd)).frame kp (fun e => hxa.1 e) (fun d hd e => (h.dd d hd).1 e) (fun d hd => .inl hd)
    · obtain rfl : j = Ls.length := by omega
      rw [if_pos rfl, List.getElem_append_right (Nat.le_refl _)]
      simp only [Nat.sub_self, List.getElem_singleton]
      have nb : w1.heap.size ≠ b := by omega
      have np : w1.heap.size ≠ p := by omega
      exact ⟨⟨_, (kp.block _ (Nat.lt_of_lt_of_le ha k3.size) (fun e => np e)).trans ((k3.block _ ha (fun e => nb e)).trans hbl), rfl⟩,
        ⟨A, n, c, kp.cell (k3.cell (lit 0) (fun e => nb e)) (fun e => np e), hle, hn, ((hB.pure k2).chg k3 (fun d hd e => by have := (hA d hd).1; omega)).chg kp (fun d hd e => by have := (hA d hd).1; omega), fun d hd => .inr (hA d hd)⟩,
        kp.cell (k3.cell (lit 1) (fun e => nb e)) (fun e => np e), kp.cell (k3.cell (lit 2) (fun e => nb e)) (fun e => np e), kp.cell (k3.cell (lit 3) (fun e => nb e)) (fun e => np e), ⟨hnow.1, by show now ≤ _; omega⟩, ⟨Int.le_refl 1, by show (1 : Int) ≤ 64; decide⟩⟩
  · rw [ll] at hi hj
    have lt := fun i (hi : i < Ls.length) => (h.lds i hi).lt
    by_cases h1 : i < Ls.length <;> by_cases h2 : j < Ls.length
    · rw [if_neg (by omega), if_neg (by omega)] at he
      exact h.inj i j h1 h2 he
    · rw [if_neg (by omega), if_pos (by omega)] at he
      have := lt i h1; omega
    · rw [if_pos (by omega), if_neg (by omega)] at he
      have := lt j h2; omega
    · omega
  · rw [ll] at hi
    by_cases h1 : i < Ls.length
    · rw [if_neg (by omega)]; exact h.ap i h1
    · rw [if_pos (by omega)]; omega
  · have hk := KK.size
    have hk1 := k3.size
    rcases hd with hd | hd
    · obtain ⟨q1, q2, q3, q4⟩ := h.dd d hd
      refine ⟨q1, q2, by omega, fun i hi => ?_⟩
      rw [ll] at hi
      by_cases h1 : i < Ls.length
      · rw [if_neg (by omega)]; exact q4 i h1
      · rw [if_pos (by omega)]; omega
    · refine ⟨by omega, by omega, by have := kp.size; omega, fun i hi => ?_⟩
      rw [ll] at hi
      by_cases h1 : i < Ls.length
      · rw [if_neg (by omega)]; have := (h.lds i h1).lt; omega
      · rw [if_pos (by omega)]; omega
end Go.Proofs.Ytlkpnhfdcljbfaa
