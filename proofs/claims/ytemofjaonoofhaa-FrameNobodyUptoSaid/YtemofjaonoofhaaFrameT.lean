/- Package frame: FrameNobody. -/
import Derived.Test.YtemofjaonoofhaaFrameS
namespace Go.Proofs.Ytemofjaonoofhaa
open Go Go.RowKit
set_option linter.unusedVariables false
set_option linter.unusedSimpArgs false

/-- A stream that nobody made. -/
def NoStr (w : World) (v : Value) : Prop := v = .pointer none ∨ ∃ p, v = .pointer (some ⟨p, 0, none⟩) ∧ w.cell? ⟨p, 0, none⟩ = some (.bool false)
theorem fok_no {w : World} {v : Value} (h : NoStr w v) :
    Calls Try.prog 30 #[v] w fun e w' => e = .returned (.bool false) ∧ w = w' := by
  rcases h with rfl | ⟨p, rfl, h0⟩
  · go_enter Try.func30, Try.ntmps30
    go_wp2
    go_ret
    exact ⟨rfl, rfl⟩
  · go_enter Try.func30, Try.ntmps30
    go_wp2
    go_ret
    exact ⟨rfl, rfl⟩
theorem feed_no {w : World} {v : Value} (h : NoStr w v) (A : Option Addr) (n c : Nat) :
    Calls Try.prog 19 #[v, .slice A n c] w fun e w' => e = .returned (.slice none 0 0) ∧ w = w' := by
  go_enter Try.func19, Try.ntmps19
  go_wp2_with (go_at_call 30; refine (fok_no h).mono ?_; rintro e w' ⟨rfl, rfl⟩)
  go_ret
  exact ⟨rfl, rfl⟩
theorem waits_no {w : World} {v : Value} (h : NoStr w v) :
    Calls Try.prog 21 #[v] w fun e w' => e = .returned (.int .i64 0) ∧ w = w' := by
  go_enter Try.func21, Try.ntmps21
  go_wp2_with (go_at_call 30; refine (fok_no h).mono ?_; rintro e w' ⟨rfl, rfl⟩)
  go_ret
  exact ⟨rfl, rfl⟩
theorem lost_no {w : World} {v : Value} (h : NoStr w v) :
    Calls Try.prog 20 #[v] w fun e w' => e = .returned (.int .i64 0) ∧ w = w' := by
  go_enter Try.func20, Try.ntmps20
  go_wp2_with (go_at_call 30; refine (fok_no h).mono ?_; rintro e w' ⟨rfl, rfl⟩)
  go_ret
  exact ⟨rfl, rfl⟩
theorem flush_no {w : World} {v : Value} (h : NoStr w v) :
    Calls Try.prog 23 #[v] w fun e w' => e = .returned (.slice none 0 0) ∧ w = w' := by
  go_enter Try.func23, Try.ntmps23
  go_wp2_with (fail)
  go_loop [3] (fun v => v = .slice none 0 0) (fun v => 0)
  case atStart => rfl
  case round =>
    subst hrel
    go_wp2_with (go_at_call 21; refine (waits_no h).mono ?_; rintro e w' ⟨rfl, rfl⟩)
    go_ret
    exact ⟨rfl, rfl⟩
/-- Bytes in a block between B and H that may be written over. -/
def Over (w : World) (B H : Nat) (A : Option Addr) (n : Nat) : Prop :=
  0 < n → ∃ g off cs, A = some ⟨g, off, none⟩ ∧ B ≤ g ∧ g < H ∧ w.heap[g]? = some (.cells cs 5 (0, 0)) ∧ off + n ≤ cs.size
theorem Over.of_load {w : World} {B : Nat} {A : Option Addr} {xs : List UInt8} (h : Load w B A xs) : Over w B w.heap.size A xs.length := by
  intro hp
  obtain ⟨b, off, rfl, hc⟩ := h.bytes.cells hp
  obtain ⟨h1, cs, h2⟩ := h.blk _ rfl
  have h3 := hc (xs.length - 1) (by omega)
  refine ⟨b, off, cs, rfl, h1, (Array.getElem?_eq_some_iff.1 h2).1, h2, ?_⟩
  rw [cell_of_row _ b _ cs 5 (0, 0) h2] at h3
  have := (Array.getElem?_eq_some_iff.1 h3).1
  omega
theorem Over.store {w : World} {B H : Nat} {A : Option Addr} {n : Nat} (h : Over w B H A n) (g o : Nat) (v : Value) : Over (w.setCell ⟨g, o, none⟩ v) B H A n := by
  intro hp
  obtain ⟨b, off, cs, rfl, h1, h2, h3, h4⟩ := h hp
  by_cases hg : b = g
  · subst hg
    exact ⟨b, off, _, rfl, h1, h2, heap_setCell_same w b o cs 5 v h3, by simpa using h4⟩
  · refine ⟨b, off, cs, rfl, h1, h2, ?_, h4⟩
    rw [Below.heap_setCell _ _ _ _ (by exact hg)]; exact h3
theorem Over.keep {S : Nat → Prop} {w w' : World} {B H : Nat} {A : Option Addr} {n : Nat} (h : Over w B H A n) (hc : Chg S w w') (hS : ∀ k, B ≤ k → k < H → ¬ S k) : Over w' B H A n := by
  intro hp
  obtain ⟨b, off, cs, rfl, h1, h2, h3, h4⟩ := h hp
  exact ⟨b, off, cs, rfl, h1, h2, (hc.block _ (Array.getElem?_eq_some_iff.1 h3).1 (hS b h1 h2)).trans h3, h4⟩
theorem Over.cell {w : World} {B H : Nat} {A : Option Addr} {n j : Nat} (h : Over w B H A n) (hj : j < n) : ∃ g off u, A = some ⟨g, off, none⟩ ∧ B ≤ g ∧ g < H ∧ w.cell? ⟨g, off + j, none⟩ = some u ∧ w.frozen? ⟨g, off + j, none⟩ = false ∧ ∃ cs, w.heap[g]? = some (.cells cs 5 (0, 0)) := by
  obtain ⟨b, off, cs, rfl, h1, h2, h3, h4⟩ := h (by omega)
  refine ⟨b, off, cs[off + j]'(by omega), rfl, h1, h2, ?_, free_at h3, cs, h3⟩
  rw [cell_of_row _ b _ cs 5 (0, 0) h3]
  exact Array.getElem?_eq_getElem _
/-- A row of loads that may be written over. -/
def Overs (w : World) (B H : Nat) (v : Value) (n : Nat) : Prop :=
  ∃ us, w.ownsRow B 22 1 v n us ∧ ∀ i, i < n → ∃ A m c, us[i]? = some (.slice A m c) ∧ m ≤ 1048576 ∧ Over w B H A m
theorem Overs.of_loads {w : World} {B : Nat} {v : Value} {ls : List (List UInt8)} (h : Loads w B v ls) (hl : ∀ l ∈ ls, l.length ≤ 1048576) : Overs w B w.heap.size v ls.length := by
  obtain ⟨us, ho, hu⟩ := h
  refine ⟨us, ho, fun i hi => ?_⟩
  obtain ⟨A, c, h1, h2, h3⟩ := hu i hi
  exact ⟨A, _, c, h1, hl _ (List.getElem_mem hi), Over.of_load h3⟩
theorem Overs.store {w : World} {B H : Nat} {v : Value} {n : Nat} (h : Overs w B H v n) {g : Nat} (hg : ∃ cs, w.heap[g]? = some (.cells cs 5 (0, 0))) (o : Nat) (u : Value) : Overs (w.setCell ⟨g, o, none⟩ u) B H v n := by
  obtain ⟨us, ho, hu⟩ := h
  have hne : ∀ k, v.ownBlock = some k → ¬ k = g := by
    rintro k hk rfl
    obtain ⟨cs, h2⟩ := hg
    rcases ho.2 with ⟨rfl, -⟩ | ⟨b, cap, cur, rfl, -, hb, -⟩
    · cases hk
    · simp only [Value.ownBlock, Option.some.injEq] at hk
      rw [← hk, hb] at h2
      injection h2 with h2
      injection h2 with h3 h4
      exact absurd h4 (by decide)
  refine ⟨us, own_keep ho (Chg.setCell (S := fun k => k = g) (Chg.refl _ w) (p := ⟨g, o, none⟩) (.inr rfl) u) hne, fun i hi => ?_⟩
  obtain ⟨A, m, c, h1, h2, h3⟩ := hu i hi
  exact ⟨A, m, c, h1, h2, h3.store g o u⟩
theorem Overs.keep {S : Nat → Prop} {w w' : World} {B H : Nat} {v : Value} {n : Nat} (h : Overs w B H v n) (hc : Chg S w w') (h1 : ∀ g, v.ownBlock = some g → ¬ S g) (hS : ∀ k, B ≤ k → k < H → ¬ S k) : Overs w' B H v n := by
  obtain ⟨us, ho, hu⟩ := h
  refine ⟨us, own_keep ho hc h1, fun i hi => ?_⟩
  obtain ⟨A, m, c, e1, e2, e3⟩ := hu i hi
  exact ⟨A, m, c, e1, e2, e3.keep hc hS⟩
theorem Overs.at' {w : World} {B H n m c k : Nat} {A : Option Addr} (h : Overs w B H (.slice A m c) n) (hk : k < n) : ∃ g Ai mi ci, A = some ⟨g, 0, none⟩ ∧ w.cell? ⟨g, k, none⟩ = some (.slice Ai mi ci) ∧ mi ≤ 1048576 ∧ Over w B H Ai mi := by
  obtain ⟨us, ho, hu⟩ := h
  obtain ⟨Ai, mi, ci, h1, h2, h3⟩ := hu k hk
  rcases ho.2 with ⟨h', h0⟩ | ⟨g, cap, cur, h', hb, hg, hnc, hcm, hcs, htake⟩
  · omega
  · cases h'
    have := World.ownsRow.cells ho (g := g) rfl k _ h1
    have e : (⟨g, 0, none⟩ : Addr).add k = ⟨g, k, none⟩ := by unfold Addr.add; split <;> simp_all
    rw [e] at this
    exact ⟨g, Ai, mi, ci, rfl, this, h2, h3⟩
set_option maxRecDepth 100000 in
set_option maxHeartbeats 4000000 in
theorem law_FrameNobody (A : Option Addr) (n c : Nat) (xs : List UInt8) (w : World) (hA : Bytes w A n xs) (hc : n ≤ c) (hn0 : n ≤ 140737488351232) (hn : n ≤ 1048576) :
    Calls Try.prog 10 #[.slice A n c] w fun e w' => e = .returned (.bool true) ∧ Chg Pure' w w' := by
  have HL := Lib.hid hA.len
  clear hn0
  go_enter Try.func10, Try.ntmps10
  go_wp2_with (fail)
  have lit0 := fun j => cellAt_alloc_lit w #[.bool false, .slice none 0 0, .int .i64 0] 47 j
  have ca : Chg Pure' w (w.alloc (.cells #[.bool false, .slice none 0 0, .int .i64 0] 47)) := (Chg.refl _ w).alloc _
  have hz0 : (w.alloc (.cells #[.bool false, .slice none 0 0, .int .i64 0] 47)).heap.size = w.heap.size + 1 := by simp
  have l0 : (w.alloc (.cells #[.bool false, .slice none 0 0, .int .i64 0] 47)).cell? ⟨w.heap.size, 0, none⟩ = some (.bool false) := lit0 0
  generalize w.alloc (.cells #[.bool false, .slice none 0 0, .int .i64 0] 47) = wa at *
  have lit1 := fun j => cellAt_alloc_lit wa #[.pointer none, .pointer (some ⟨w.heap.size, 0, none⟩)] 35 j
  have cb : Chg Pure' wa (wa.alloc (.cells #[.pointer none, .pointer (some ⟨w.heap.size, 0, none⟩)] 35)) := (Chg.refl _ wa).alloc _
  rw [hz0] at lit1
  have m0 := lit1 0
  have m1 := lit1 1
  have l0 := cb.cell l0 (fun h => h)
  have C1 := ca.pure cb
  clear lit0 lit1 ca cb
  generalize (wa.alloc (.cells #[.pointer none, .pointer (some ⟨w.heap.size, 0, none⟩)] 35)) = wb at *
  have HZ := Lib.hid hz0
  clear hz0
  have d0 : NoStr wb (.pointer none) := .inl rfl
  have d1 : NoStr wb (.pointer (some ⟨w.heap.size, 0, none⟩)) := .inr ⟨_, rfl, l0⟩
  have D0 := Lib.hid d0
  have D1 := Lib.hid d1
  clear d0 d1
  go_loop [19] (fun i => ∃ k : Nat, k ≤ 2 ∧ i = .int .i64 k) (fun i => 2 - (intOf i).toNat)
  case atStart => exact ⟨0, Nat.zero_le _, rfl⟩
  case round =>
    obtain ⟨k, hk, rfl⟩ := hrel
    rcases (show k = 0 ∨ k = 1 ∨ k = 2 from by omega) with rfl | rfl | rfl
    · go_wp2_with (first
        | (go_at_call 19; refine (feed_no D0.out _ _ _).mono ?_; rintro e w' ⟨rfl, rfl⟩)
        | (go_at_call 23; refine (flush_no D0.out).mono ?_; rintro e w' ⟨rfl, rfl⟩)
        | (go_at_call 21; refine (waits_no D0.out).mono ?_; rintro e w' ⟨rfl, rfl⟩)
        | (go_at_call 20; refine (lost_no D0.out).mono ?_; rintro e w' ⟨rfl, rfl⟩))
      go_round
      case rel => exact ⟨1, by omega, by go_num⟩
      case measure => simp [intOf]
    · go_wp2_with (first
        | (go_at_call 19; refine (feed_no D1.out _ _ _).mono ?_; rintro e w' ⟨rfl, rfl⟩)
        | (go_at_call 23; refine (flush_no D1.out).mono ?_; rintro e w' ⟨rfl, rfl⟩)
        | (go_at_call 21; refine (waits_no D1.out).mono ?_; rintro e w' ⟨rfl, rfl⟩)
        | (go_at_call 20; refine (lost_no D1.out).mono ?_; rintro e w' ⟨rfl, rfl⟩))
      go_round
      case rel => exact ⟨2, by omega, by go_num⟩
      case measure => simp [intOf]
    · clear m0 m1 l0 D0 D1
      go_wp2_with (fail)
      refine (fnew_q wb).mono ?_
      rintro e w1 ⟨rfl, hs, c1, z1⟩
      have Z1 := Lib.hid z1
      clear z1
      go_wp2_with (fail)
      refine (fnew_q w1).mono ?_
      rintro e w2 ⟨rfl, ht, c2, z2⟩
      have Z2 := Lib.hid z2
      clear z2
      have hs2 := (hs w2.heap.size (by have := Z1.out; have := Z2.out; omega)).pure c2
      have ht2 := ht w2.heap.size (by have := Z1.out; have := Z2.out; omega)
      have hps : wb.heap.size < w1.heap.size := by have := Z1.out; omega
      have hpt : w1.heap.size < w2.heap.size := by have := Z2.out; omega
      have C3 := (C1.pure c1).pure c2
      have hwb : w.heap.size ≤ wb.heap.size := C1.size
      have HWB := Lib.hid hwb
      clear c1 c2 hs ht Z1 Z2 hwb C1 HZ
      generalize hps' : wb.heap.size = ps at *
      generalize hpt' : w1.heap.size = pt at *
      clear hps' hpt'
      have hA2 := hA.pure C3
      obtain ⟨v3, w3, hr3, ho3, c3⟩ := own_cat (n := 0) (xs := []) (c := c) (World.ownsRow_nil w2 w2.heap.size 5 1) hA2 (Nat.le_refl _) (by omega)
      have c3 : Chg Pure' w2 w3 := c3.mono (fun k hk e => by cases e)
      rw [Nat.zero_add, List.nil_append] at ho3
      obtain ⟨Ao, qo, rfl, hqo, hbo, hO⟩ := own_bytes ho3
      have HO := Lib.hid ho3
      have hs3 := hs2.pure c3
      have ht3 := ht2.pure c3
      have C3' := C3.pure c3
      have hA3 := hA.pure C3'
      have hw2 : w2.heap.size ≤ w3.heap.size := c3.size
      clear hs2 ht2 C3 hA2 c3
      obtain ⟨h, hh⟩ : ∃ h : Nat, (n : Int) / 2 = (h : Int) := ⟨n / 2, by omega⟩
      have hhn : h ≤ n := by omega
      have s1 : (h : Int) ≤ (qo : Int) := by omega
      have s2 : (h : Int) ≤ (c : Int) := by omega
      have s3 : (0 : Int) ≤ (h : Int) := by omega
      have hbo' : Bytes w3 Ao h (xs.take h) := by
        have := hbo.sliced (lo := 0) (hi := h) (by omega) hhn hqo Ao (by cases Ao <;> simp [Addr.add])
        simpa using this
      have hb' : Bytes w3 A h (xs.take h) := by
        have := hA3.sliced (lo := 0) (hi := h) (by omega) hhn hc A (by cases A <;> simp [Addr.add])
        simpa using this
      go_wp2_with (first
        | (at_builtin; refine Lib.wpList_append_run _ rfl _ _ _ _ rfl _ _ rfl rfl _ _ hr3 ?_; clear hr3)
        | fail)
      refine reg_begin (fun k => k = ps ∨ k = pt) (by kernel_rfl) ?_
      refine reg_take 0 (v := ?_) rfl (by kernel_rfl) (by kernel_rfl) (by kernel_rfl) (fun _ _ _ h => h) (by kernel_rfl) ?_ ?_
      rotate_left
      · (intro w' hS; go_simp; (try go_bits); (try with_reducible rfl))
      try simp only [Act.put, List.getElem_toArray, List.getElem_cons_zero, List.getElem_cons_succ, List.setIfInBounds_toArray, List.set_cons_zero, List.set_cons_succ]
      refine reg_take 1 (v := ?_) rfl (by kernel_rfl) (by kernel_rfl) (by kernel_rfl) (fun _ _ _ h => h) (by kernel_rfl) ?_ ?_
      rotate_left
      · (intro w' hS; go_simp; (try go_bits); (try with_reducible rfl))
      try simp only [Act.put, List.getElem_toArray, List.getElem_cons_zero, List.getElem_cons_succ, List.setIfInBounds_toArray, List.set_cons_zero, List.set_cons_succ]
      refine reg_take 2 (v := ?_) rfl (by kernel_rfl) (by kernel_rfl) (by kernel_rfl) (fun _ _ _ h => h) (by kernel_rfl) ?_ ?_
      rotate_left
      · (intro w' hS; go_simp; (try go_bits); (try with_reducible rfl))
      try simp only [Act.put, List.getElem_toArray, List.getElem_cons_zero, List.getElem_cons_succ, List.setIfInBounds_toArray, List.set_cons_zero, List.set_cons_succ]
      refine reg_take 3 (v := ?_) rfl (by kernel_rfl) (by kernel_rfl) (by kernel_rfl) (fun _ _ _ h => h) (by kernel_rfl) ?_ ?_
      rotate_left
      · (intro w' hS; go_simp; (try go_bits); (try with_reducible rfl))
      try simp only [Act.put, List.getElem_toArray, List.getElem_cons_zero, List.getElem_cons_succ, List.setIfInBounds_toArray, List.set_cons_zero, List.set_cons_succ]
      refine reg_take 5 (v := ?_) rfl (by kernel_rfl) (by kernel_rfl) (by kernel_rfl) (fun _ _ _ h => h) (by kernel_rfl) ?_ ?_
      rotate_left
      · (intro w' hS; go_simp; (try go_bits); (try with_reducible rfl))
      try simp only [Act.put, List.getElem_toArray, List.getElem_cons_zero, List.getElem_cons_succ, List.setIfInBounds_toArray, List.set_cons_zero, List.set_cons_succ]
      refine reg_take 6 (v := ?_) rfl (by kernel_rfl) (by kernel_rfl) (by kernel_rfl) (fun _ _ _ h => h) (by kernel_rfl) ?_ ?_
      rotate_left
      · (intro w' hS; go_simp; (try go_bits); (try with_reducible rfl))
      try simp only [Act.put, List.getElem_toArray, List.getElem_cons_zero, List.getElem_cons_succ, List.setIfInBounds_toArray, List.set_cons_zero, List.set_cons_succ]
      refine reg_take 7 (v := ?_) rfl (by kernel_rfl) (by kernel_rfl) (by kernel_rfl) (fun _ _ _ h => h) (by kernel_rfl) ?_ ?_
      rotate_left
      · (intro w' hS; go_simp; (try go_bits); (try with_reducible rfl))
      try simp only [Act.put, List.getElem_toArray, List.getElem_cons_zero, List.getElem_cons_succ, List.setIfInBounds_toArray, List.set_cons_zero, List.set_cons_succ]
      refine reg_take 8 (v := ?_) rfl (by kernel_rfl) (by kernel_rfl) (by kernel_rfl) (fun _ _ _ h => h) (by kernel_rfl) ?_ ?_
      rotate_left
      · (intro w' hS; go_simp; (try go_bits); (try with_reducible rfl))
      try simp only [Act.put, List.getElem_toArray, List.getElem_cons_zero, List.getElem_cons_succ, List.setIfInBounds_toArray, List.set_cons_zero, List.set_cons_succ]
      refine reg_do 4 rfl (by kernel_rfl) (by kernel_rfl) ?_
      intro K hK
      go_simp
      refine (feed_any (hs3.pure (Chg.refl _ w3).drew) Ao h qo (xs.take h) hbo'.drew (by omega) (by simp only [List.length_nil]; omega) (by decide)).mono ?_
      rintro e w4 ⟨v4, qs, rfl, hqs, hl4, hs4, c4⟩
      rw [List.nil_append] at hl4 hs4
      have hqs : w3.heap.size ≤ qs := hqs
      obtain ⟨A4, d4, rfl, hA4⟩ := hl4.val
      have ht4 := (ht3.pure (Chg.refl Pure' w3).drew).frame c4 (by omega) (by omega)
      have C4 : Chg Pure' w w4 := (C3'.drew).trans c4 (fun i hi e => by have := HWB.out; omega)
      have hb4 : Bytes w4 A h (xs.take h) := by
        have := (hA.pure C4).sliced (lo := 0) (hi := h) (by omega) hhn hc A (by cases A <;> simp [Addr.add])
        simpa using this
      refine hK _ _ (c4.mono (fun _ _ e => .inl e)) ?_
      clear hK K
      try simp only [Act.put, List.getElem_toArray, List.getElem_cons_zero, List.getElem_cons_succ, List.setIfInBounds_toArray, List.set_cons_zero, List.set_cons_succ]
      refine reg_do 9 rfl (by kernel_rfl) (by kernel_rfl) ?_
      intro K hK
      go_simp
      refine (feed_any ht4 A h c (xs.take h) hb4 (by omega) (by simp only [List.length_nil]; omega) (by decide)).mono ?_
      rintro e w5 ⟨v5, qt, rfl, hqt, hl5, ht5, c5⟩
      rw [List.nil_append] at hl5 ht5
      obtain ⟨A5, d5, rfl, hA5⟩ := hl5.val
      have hs5 := hs4.frame c5 (by omega) (by omega)
      have C5 : Chg Pure' w w5 := C4.trans c5 (fun i hi e => by have := HWB.out; omega)
      obtain ⟨z1, z2, zl⟩ := scan_le (xs.take h).length (xs.take h) (Nat.le_refl _)
      have z3 := sizeL_len (scan (xs.take h)).1
      have hth : (xs.take h).length ≤ 1048576 := by simp; omega
      have hov := Overs.of_loads hl4 (fun l hl => Nat.le_trans (zl l hl) (by decide))
      have hz4 : w3.heap.size ≤ w4.heap.size := c4.size
      have hov5 := hov.keep c5 (fun g hg e => by have := hl4.own hg; omega) (fun k h1 h2 e => by omega)
      have ho5 : w5.ownsRow w2.heap.size 5 1 (.slice Ao n qo) n (enc xs) := own_keep (own_keep HO.out (((Chg.refl _ w3).drew).trans c4 (fun i hi e => e) : Chg (fun k => k = ps) w3 w4) (fun g hg e => by have := HO.out.lt g hg; omega)) c5 (fun g hg e => by have := HO.out.lt g hg; omega)
      have HOL : Hid (∀ k, (Value.slice Ao n qo).ownBlock = some k → w2.heap.size ≤ k ∧ k < w3.heap.size) := Lib.hid (fun k hk => HO.out.lt k hk)
      refine hK _ _ (c5.mono (fun _ _ e => .inr e)) ?_
      clear hK K
      try simp only [Act.put, List.getElem_toArray, List.getElem_cons_zero, List.getElem_cons_succ, List.setIfInBounds_toArray, List.set_cons_zero, List.set_cons_succ]
      refine reg_take 10 (v := ?_) rfl (by kernel_rfl) (by kernel_rfl) (by kernel_rfl) (fun _ _ _ h => h) (by kernel_rfl) ?_ ?_
      rotate_left
      · (intro w' hS; go_simp; (try go_bits); (try with_reducible rfl))
      try simp only [Act.put, List.getElem_toArray, List.getElem_cons_zero, List.getElem_cons_succ, List.setIfInBounds_toArray, List.set_cons_zero, List.set_cons_succ]
      refine reg_take 11 (v := ?_) rfl (by kernel_rfl) (by kernel_rfl) (by kernel_rfl) (fun _ _ _ h => h) (by kernel_rfl) ?_ ?_
      rotate_left
      · (intro w' hS; go_simp; (try go_bits); (try with_reducible rfl))
      try simp only [Act.put, List.getElem_toArray, List.getElem_cons_zero, List.getElem_cons_succ, List.setIfInBounds_toArray, List.set_cons_zero, List.set_cons_succ]
      refine wpAnyH_done (by kernel_rfl) ?_ _
      have hlen := z3
      have HT := Lib.hid (And.intro hs5 (And.intro ht5 (And.intro hov5 C5)))
      have hqt4 : w4.heap.size ≤ qt := hqt
      have hNl : (scan (xs.take h)).1.length ≤ 1048576 := by omega
      have hrl : ((xs.take h).drop (scan (xs.take h)).2).length ≤ 1048576 := by rw [List.length_drop]; omega
      have hlo : 0 + (scan (xs.take h)).2 - sizeL (scan (xs.take h)).1 ≤ 1048576 := by omega
      clear hs5 ht5 hov5 hl4 hl5 hs4 ht4 hov c4 c5 C4 hb4 hs3 ht3 hbo hbo' hb' hA3 C3' z1 z2 z3 zl hlen hth C5 hO HO
      generalize (xs.take h).drop (scan (xs.take h)).2 = rest at *
      generalize 0 + (scan (xs.take h)).2 - sizeL (scan (xs.take h)).1 = lost at *
      generalize (scan (xs.take h)).1.length = N at *
      go_wp2_with (fail)
      go_loopw [70] (fun i wr => ∃ (k : Nat) (ys : List UInt8), k ≤ n ∧ i = .int .i64 k ∧ Hid (wr.ownsRow w2.heap.size 5 1 (.slice Ao n qo) n (enc ys) ∧ StrAt wr ps qs rest lost ∧ StrAt wr pt qt rest lost ∧ Overs wr (qs + 1) w4.heap.size (.slice A4 N d4) N ∧ Chg Pure' w wr)) (fun i _ => n - (intOf i).toNat)
      case atStart => exact ⟨0, xs, Nat.zero_le _, rfl, Lib.hid ⟨ho5, HT.out⟩⟩
      case round =>
        obtain ⟨k, ys, hk, rfl, HS⟩ := hrel
        clear HT ho5
        by_cases hlt : k < n
        · have hyl : ys.length = n := by have := HS.out.1.1; rw [enc_length] at this; omega
          obtain ⟨g, rfl, -⟩ : ∃ g, Ao = some ⟨g, 0, none⟩ ∧ True := by
            rcases HS.out.1.2 with ⟨h', h0⟩ | ⟨g, cap, cur, h', -⟩
            · exfalso; omega
            · cases h'; exact ⟨g, rfl, trivial⟩
          obtain ⟨g1, g2⟩ := HOL.out g rfl
          have hcell := HS.out.1.cellAt k (by omega)
          rw [enc_get ys k (by omega)] at hcell
          have hfr := HS.out.1.frozenAt k
          have hv := xor255 (ys[k]'(by omega))
          obtain ⟨ho2, -⟩ := HS.out.1.stored k (.int .u8 (((ys[k]'(by omega)) ^^^ 255).toNat : Int))
          rw [enc_set] at ho2
          have hc2 : Chg (fun j => j = g) wr (wr.setCell ⟨g, k, none⟩ (.int .u8 (((ys[k]'(by omega)) ^^^ 255).toNat : Int))) := Chg.setCell (S := fun j => j = g) (Chg.refl _ wr) (p := ⟨g, k, none⟩) (.inr rfl) _
          have HN := Lib.hid (And.intro ho2 (And.intro (HS.out.2.1.frame hc2 (by omega) (by omega)) (And.intro (HS.out.2.2.1.frame hc2 (by omega) (by omega)) (And.intro (HS.out.2.2.2.1.keep hc2 (fun j hj e => by
            obtain ⟨us, hr, -⟩ := HS.out.2.2.2.1
            have := (hr.lt j hj).1; omega) (fun j h1 h2 e => by omega)) (HS.out.2.2.2.2.trans hc2 (fun i hi e => by have := HWB.out; omega))))))
          clear ho2 hc2 HS
          generalize ys.set k _ = ys2 at *
          generalize ys[k] = z at *
          clear hyl
          go_wp2_with (fail)
          go_roundw
          case rel => exact ⟨k + 1, ys2, by omega, by go_num, HN⟩
          case measure => simp [intOf]; omega
        · have hkn : ((k : Int) < (n : Int)) = False := eq_false (by omega)
          have HT := Lib.hid HS.out.2
          clear HS
          go_wp2_with (fail)
          obtain ⟨wo, hwo⟩ : ∃ wo : World, wo = wr := ⟨_, rfl⟩
          clear hwo
          go_loopw [82] (fun i wr => ∃ k : Nat, k ≤ N ∧ i = .int .i64 k ∧ Hid (StrAt wr ps qs rest lost ∧ StrAt wr pt qt rest lost ∧ Overs wr (qs + 1) w4.heap.size (.slice A4 N d4) N ∧ Chg Pure' w wr)) (fun i _ => N - (intOf i).toNat)
          case atStart => exact ⟨0, Nat.zero_le _, rfl, HT⟩
          case round =>
            obtain ⟨k3, hk3, rfl, HS⟩ := hrel
            clear HT
            by_cases hlt3 : k3 < N
            · obtain ⟨gx, Ai, mi, ci, rfl, hcx, hmi, hov⟩ := HS.out.2.2.1.at' hlt3
              have HV := Lib.hid hov
              clear hov
              go_wp2_with (fail)
              obtain ⟨wo3, hwo3⟩ : ∃ wo : World, wo = wr := ⟨_, rfl⟩
              clear hwo3
              go_loopw [88] (fun i wr => ∃ k : Nat, k ≤ mi ∧ i = .int .i64 k ∧ Hid (Over wr (qs + 1) w4.heap.size Ai mi ∧ StrAt wr ps qs rest lost ∧ StrAt wr pt qt rest lost ∧ Overs wr (qs + 1) w4.heap.size (.slice (some ⟨gx, 0, none⟩) N d4) N ∧ Chg Pure' w wr)) (fun i _ => mi - (intOf i).toNat)
              case atStart => exact ⟨0, Nat.zero_le _, rfl, Lib.hid ⟨HV.out, HS.out⟩⟩
              case round =>
                obtain ⟨k4, hk4, rfl, HQ⟩ := hrel
                clear HV HS
                by_cases hlt4 : k4 < mi
                · obtain ⟨g, off, u, rfl, g1, g2, g3, g4, g5⟩ := HQ.out.1.cell hlt4
                  have hc2 : Chg (fun j => j = g) wr (wr.setCell ⟨g, off + k4, none⟩ (.int .u8 0)) := Chg.setCell (S := fun j => j = g) (Chg.refl _ wr) (p := ⟨g, off + k4, none⟩) (.inr rfl) _
                  have HN := Lib.hid (And.intro (HQ.out.1.store g (off + k4) (.int .u8 0)) (And.intro (HQ.out.2.1.frame hc2 (by omega) (by omega)) (And.intro (HQ.out.2.2.1.frame hc2 (by omega) (by omega)) (And.intro (HQ.out.2.2.2.1.store g5 (off + k4) (.int .u8 0)) (HQ.out.2.2.2.2.trans hc2 (fun i hi e => by have := HWB.out; omega))))))
                  clear HQ hc2 g5
                  go_wp2_with (fail)
                  go_roundw
                  case rel => exact ⟨k4 + 1, by omega, by go_num, HN⟩
                  case measure => simp [intOf]; omega
                · have hkn4 : ((k4 : Int) < (mi : Int)) = False := eq_false (by omega)
                  have HN := Lib.hid HQ.out.2
                  clear HQ
                  go_wp2_with (fail)
                  go_roundw
                  case rel => exact ⟨k3 + 1, by omega, by go_num, HN⟩
                  case measure => simp [intOf]; omega
            · have hkn3 : ((k3 : Int) < (N : Int)) = False := eq_false (by omega)
              go_wp2_with (fail)
              obtain ⟨k1, k2, -, kC⟩ := HS.out
              have HSL := Lib.hid (fun (wx : World) (hw : Chg Pure' w wx) (A' : Option Addr) (e : (if c = h then A else A.map fun x => x.add h) = A') => (hA.pure hw).sliced (lo := h) (hi := n) hhn (Nat.le_refl _) hc A' e)
              obtain ⟨ys, hys⟩ : ∃ ys, (xs.take n).drop h = ys := ⟨_, rfl⟩
              rw [hys] at HSL
              have hyl : ys.length = n - h := by rw [← hys]; simp; have := HL.out; omega
              have HYL := Lib.hid hyl
              have t1 : (h : Int) ≤ (n : Int) := by omega
              obtain ⟨z1, z2, zl⟩ := scan_le (rest ++ ys).length (rest ++ ys) (Nat.le_refl _)
              have z3 := sizeL_len (scan (rest ++ ys)).1
              have hLB : (scan (rest ++ ys)).1.length ≤ 4194304 := by rw [List.length_append] at z1; omega
              clear z1 z2 z3 zl hyl hys HS
              have K1 := Lib.hid k1
              have K2 := Lib.hid k2
              have KC := Lib.hid kC
              clear k1 k2 kC
              obtain ⟨A', hA'⟩ : ∃ A', (if c = h then A else A.map fun x => x.add h) = A' := ⟨_, rfl⟩
              have HA' := Lib.hid hA'
              clear hA'
              have hF : ∀ (wx : World), Chg Pure' wr wx → Calls Try.prog 19 #[.pointer (some ⟨ps, 0, none⟩), .slice A' (n - h) (c - h)] wx fun e w' => ∃ v, e = .returned v ∧ Loads w' wx.heap.size v (scan (rest ++ ys)).1 ∧ Chg (fun k => k = ps) wx w' := by
                intro wx hx
                refine (feed_any (K1.out.pure hx) A' (n - h) (c - h) ys (HSL.out wx (KC.out.pure hx) A' HA'.out) (by omega) (by omega) (by omega)).mono ?_
                rintro e w' ⟨v, q', rfl, h0, h1, -, h4⟩
                exact ⟨v, rfl, h1.low (by omega), h4⟩
              have hG : ∀ (wx wy : World), Chg Pure' wr wx → Chg (fun k => k = ps) wx wy → Calls Try.prog 19 #[.pointer (some ⟨pt, 0, none⟩), .slice A' (n - h) (c - h)] wy fun e w' => ∃ v, e = .returned v ∧ Loads w' wy.heap.size v (scan (rest ++ ys)).1 ∧ Chg (fun k => k = pt) wy w' := by
                intro wx wy hx hxy
                refine (feed_any ((K2.out.pure hx).frame hxy (by omega) (by omega)) A' (n - h) (c - h) ys (HSL.out wy ((KC.out.pure hx).trans hxy (fun i hi e => by have := HWB.out; omega)) A' HA'.out) (by omega) (by omega) (by omega)).mono ?_
                rintro e w' ⟨v, q', rfl, h0, h1, -, h4⟩
                exact ⟨v, rfl, h1.low (by omega), h4⟩
              have HF := Lib.hid hF
              have HG := Lib.hid hG
              clear hF hG
              have hwr := K1.out.plt
              have hwr2 := K2.out.plt
              by_cases hch : c = h
              all_goals
                first
                  | (have hcT := eq_true hch; have HAx := Lib.hid (HA'.out.symm.trans (if_pos hch)))
                  | (have hcT := eq_false hch; have HAx := Lib.hid (HA'.out.symm.trans (if_neg hch)))
                clear hch
                refine reg_begin (fun k => k = ps ∨ k = pt) (by kernel_rfl) ?_
                refine reg_take 0 (v := ?_) rfl (by kernel_rfl) (by kernel_rfl) (by kernel_rfl) (fun _ _ _ h => h) (by kernel_rfl) ?_ ?_
                rotate_left
                · (intro w' hS; go_simp; (try go_bits); (try with_reducible rfl))
                try simp only [Act.put, List.getElem_toArray, List.getElem_cons_zero, List.getElem_cons_succ, List.setIfInBounds_toArray, List.set_cons_zero, List.set_cons_succ]
                refine reg_take 1 (v := ?_) rfl (by kernel_rfl) (by kernel_rfl) (by kernel_rfl) (fun _ _ _ h => h) (by kernel_rfl) ?_ ?_
                rotate_left
                · (intro w' hS; go_simp; (try go_bits); (try with_reducible rfl))
                try simp only [Act.put, List.getElem_toArray, List.getElem_cons_zero, List.getElem_cons_succ, List.setIfInBounds_toArray, List.set_cons_zero, List.set_cons_succ]
                refine reg_take 2 (v := ?_) rfl (by kernel_rfl) (by kernel_rfl) (by kernel_rfl) (fun _ _ _ h => h) (by kernel_rfl) ?_ ?_
                rotate_left
                · (intro w' hS; go_simp; (try go_bits); (try with_reducible rfl))
                try simp only [Act.put, List.getElem_toArray, List.getElem_cons_zero, List.getElem_cons_succ, List.setIfInBounds_toArray, List.set_cons_zero, List.set_cons_succ]
                refine reg_take 3 (v := ?_) rfl (by kernel_rfl) (by kernel_rfl) (by kernel_rfl) (fun _ _ _ h => h) (by kernel_rfl) ?_ ?_
                rotate_left
                · (intro w' hS; go_simp; (try go_bits); (try with_reducible rfl))
                try simp only [Act.put, List.getElem_toArray, List.getElem_cons_zero, List.getElem_cons_succ, List.setIfInBounds_toArray, List.set_cons_zero, List.set_cons_succ]
                refine reg_take 4 (v := ?_) rfl (by kernel_rfl) (by kernel_rfl) (by kernel_rfl) (fun _ _ _ h => h) (by kernel_rfl) ?_ ?_
                rotate_left
                · (intro w' hS; go_simp; (try go_bits); (try with_reducible rfl))
                try simp only [Act.put, List.getElem_toArray, List.getElem_cons_zero, List.getElem_cons_succ, List.setIfInBounds_toArray, List.set_cons_zero, List.set_cons_succ]
                refine reg_take 5 (v := ?_) rfl (by kernel_rfl) (by kernel_rfl) (by kernel_rfl) (fun _ _ _ h => h) (by kernel_rfl) ?_ ?_
                rotate_left
                · (intro w' hS; go_simp; (try go_bits); (try with_reducible rfl))
                try simp only [Act.put, List.getElem_toArray, List.getElem_cons_zero, List.getElem_cons_succ, List.setIfInBounds_toArray, List.set_cons_zero, List.set_cons_succ]
                refine reg_take 6 (v := ?_) rfl (by kernel_rfl) (by kernel_rfl) (by kernel_rfl) (fun _ _ _ h => h) (by kernel_rfl) ?_ ?_
                rotate_left
                · (intro w' hS; go_simp; (try go_bits); (try with_reducible rfl))
                try simp only [Act.put, List.getElem_toArray, List.getElem_cons_zero, List.getElem_cons_succ, List.setIfInBounds_toArray, List.set_cons_zero, List.set_cons_succ]
                refine reg_take 7 (v := ?_) rfl (by kernel_rfl) (by kernel_rfl) (by kernel_rfl) (fun _ _ _ h => h) (by kernel_rfl) ?_ ?_
                rotate_left
                · (intro w' hS; go_simp; (try go_bits); (try with_reducible rfl))
                try simp only [Act.put, List.getElem_toArray, List.getElem_cons_zero, List.getElem_cons_succ, List.setIfInBounds_toArray, List.set_cons_zero, List.set_cons_succ]
                refine reg_take 8 (v := ?_) rfl (by kernel_rfl) (by kernel_rfl) (by kernel_rfl) (fun _ _ _ h => h) (by kernel_rfl) ?_ ?_
                rotate_left
                · (intro w' hS; go_simp; (try go_bits); (try with_reducible rfl))
                try simp only [Act.put, List.getElem_toArray, List.getElem_cons_zero, List.getElem_cons_succ, List.setIfInBounds_toArray, List.set_cons_zero, List.set_cons_succ]
                refine reg_take 9 (v := ?_) rfl (by kernel_rfl) (by kernel_rfl) (by kernel_rfl) (fun _ _ _ h => h) (by kernel_rfl) ?_ ?_
                rotate_left
                · (intro w' hS; go_simp; (try go_bits); (try with_reducible rfl))
                try simp only [Act.put, List.getElem_toArray, List.getElem_cons_zero, List.getElem_cons_succ, List.setIfInBounds_toArray, List.set_cons_zero, List.set_cons_succ]
                refine reg_take 11 (v := ?_) rfl (by kernel_rfl) (by kernel_rfl) (by kernel_rfl) (fun _ _ _ h => h) (by kernel_rfl) ?_ ?_
                rotate_left
                · (intro w' hS; go_simp; (try go_bits); (try with_reducible rfl))
                try simp only [Act.put, List.getElem_toArray, List.getElem_cons_zero, List.getElem_cons_succ, List.setIfInBounds_toArray, List.set_cons_zero, List.set_cons_succ]
                refine reg_take 12 (v := ?_) rfl (by kernel_rfl) (by kernel_rfl) (by kernel_rfl) (fun _ _ _ h => h) (by kernel_rfl) ?_ ?_
                rotate_left
                · (intro w' hS; go_simp; (try go_bits); (try with_reducible rfl))
                try simp only [Act.put, List.getElem_toArray, List.getElem_cons_zero, List.getElem_cons_succ, List.setIfInBounds_toArray, List.set_cons_zero, List.set_cons_succ]
                refine reg_take 13 (v := ?_) rfl (by kernel_rfl) (by kernel_rfl) (by kernel_rfl) (fun _ _ _ h => h) (by kernel_rfl) ?_ ?_
                rotate_left
                · (intro w' hS; go_simp; (try go_bits); (try with_reducible rfl))
                try simp only [Act.put, List.getElem_toArray, List.getElem_cons_zero, List.getElem_cons_succ, List.setIfInBounds_toArray, List.set_cons_zero, List.set_cons_succ]
                refine reg_take 14 (v := ?_) rfl (by kernel_rfl) (by kernel_rfl) (by kernel_rfl) (fun _ _ _ h => h) (by kernel_rfl) ?_ ?_
                rotate_left
                · (intro w' hS; go_simp; (try go_bits); (try with_reducible rfl))
                try simp only [Act.put, List.getElem_toArray, List.getElem_cons_zero, List.getElem_cons_succ, List.setIfInBounds_toArray, List.set_cons_zero, List.set_cons_succ]
                refine reg_do 10 rfl (by kernel_rfl) (by kernel_rfl) ?_
                intro K hK
                go_simp
                refine (show Calls Try.prog 19 _ _ _ from by first | exact (HAx.out ▸ HF.out wr.drew (Chg.refl _ wr).drew) | exact HF.out wr.drew (Chg.refl _ wr).drew).mono ?_
                rintro e w6 ⟨v6, rfl, hl6, c6⟩
                obtain ⟨A6, d6, rfl, -⟩ := hl6.val
                have C6 : Chg Pure' w w6 := (KC.out.drew).trans c6 (fun i hi e => by have := HWB.out; omega)
                refine hK _ _ (c6.mono (fun _ _ e => .inl e)) ?_
                clear hK K
                try simp only [Act.put, List.getElem_toArray, List.getElem_cons_zero, List.getElem_cons_succ, List.setIfInBounds_toArray, List.set_cons_zero, List.set_cons_succ]
                refine reg_do 15 rfl (by kernel_rfl) (by kernel_rfl) ?_
                intro K hK
                go_simp
                refine (show Calls Try.prog 19 _ _ _ from by first | exact (HAx.out ▸ HG.out wr.drew w6 (Chg.refl _ wr).drew c6) | exact HG.out wr.drew w6 (Chg.refl _ wr).drew c6).mono ?_
                rintro e w7 ⟨v7, rfl, hl7, c7⟩
                obtain ⟨A7, d7, rfl, -⟩ := hl7.val
                have hz6 : wr.heap.size ≤ w6.heap.size := c6.size
                have hl6 := hl6.keep c7 (fun k hk e => by have hk : wr.heap.size ≤ k := hk; omega)
                have C7 : Chg Pure' w w7 := C6.trans c7 (fun i hi e => by have := HWB.out; omega)
                have bl6 := hl6.bl
                have bl7 := hl7.bl
                refine hK _ _ (c7.mono (fun _ _ e => .inr e)) ?_
                clear hK K
                try simp only [Act.put, List.getElem_toArray, List.getElem_cons_zero, List.getElem_cons_succ, List.setIfInBounds_toArray, List.set_cons_zero, List.set_cons_succ]
                refine reg_pure ?_
                clear hl6 hl7 c6 c7 C6
                generalize (scan (rest ++ ys)).1 = ls at *
                refine reg_do 16 rfl (by kernel_rfl) (by kernel_rfl) ?_
                intro K hK
                go_simp
                refine (sames_any A6 ls.length d6 ls A7 ls.length d7 ls w7 bl6 bl7 (by omega) (by omega) true (by simp)).mono ?_
                rintro e w8 ⟨rfl, c8⟩
                refine hK _ _ (c8) ?_
                clear hK K
                try simp only [Act.put, List.getElem_toArray, List.getElem_cons_zero, List.getElem_cons_succ, List.setIfInBounds_toArray, List.set_cons_zero, List.set_cons_succ]
                refine reg_take 17 (v := ?_) rfl (by kernel_rfl) (by kernel_rfl) (by kernel_rfl) (fun _ _ _ h => h) (by kernel_rfl) ?_ ?_
                rotate_left
                · (intro w' hS; go_simp; (try go_bits); (try with_reducible rfl))
                try simp only [Act.put, List.getElem_toArray, List.getElem_cons_zero, List.getElem_cons_succ, List.setIfInBounds_toArray, List.set_cons_zero, List.set_cons_succ]
                refine reg_take 18 (v := ?_) rfl (by kernel_rfl) (by kernel_rfl) (by kernel_rfl) (fun _ _ _ h => h) (by kernel_rfl) ?_ ?_
                rotate_left
                · (intro w' hS; go_simp; (try go_bits); (try with_reducible rfl))
                try simp only [Act.put, List.getElem_toArray, List.getElem_cons_zero, List.getElem_cons_succ, List.setIfInBounds_toArray, List.set_cons_zero, List.set_cons_succ]
                refine reg_do 19 rfl (by kernel_rfl) (by kernel_rfl) ?_
                intro K hK
                go_simp
                refine (alive03 _).mono ?_
                rintro e w9 ⟨rfl, c9⟩
                refine hK _ _ (c9) ?_
                clear hK K
                try simp only [Act.put, List.getElem_toArray, List.getElem_cons_zero, List.getElem_cons_succ, List.setIfInBounds_toArray, List.set_cons_zero, List.set_cons_succ]
                refine reg_take 20 (v := ?_) rfl (by kernel_rfl) (by kernel_rfl) (by kernel_rfl) (fun _ _ _ h => h) (by kernel_rfl) ?_ ?_
                rotate_left
                · (intro w' hS; go_simp; (try go_bits); (try with_reducible rfl))
                try simp only [Act.put, List.getElem_toArray, List.getElem_cons_zero, List.getElem_cons_succ, List.setIfInBounds_toArray, List.set_cons_zero, List.set_cons_succ]
                refine reg_take 21 (v := ?_) rfl (by kernel_rfl) (by kernel_rfl) (by kernel_rfl) (fun _ _ _ h => h) (by kernel_rfl) ?_ ?_
                rotate_left
                · (intro w' hS; go_simp; (try go_bits); (try with_reducible rfl))
                try simp only [Act.put, List.getElem_toArray, List.getElem_cons_zero, List.getElem_cons_succ, List.setIfInBounds_toArray, List.set_cons_zero, List.set_cons_succ]
                refine wpAnyH_done (by kernel_rfl) ?_ _
                go_wp2
                go_ret
                exact ⟨rfl, (C7.pure c8).pure c9⟩
end Go.Proofs.Ytemofjaonoofhaa
