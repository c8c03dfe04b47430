/- Package send, going on: what Due tells. -/
import Derived.Test.YtlkpnhfdcljbfaaSendE
import Derived.Test.YtlkpnhfdcljbfaaReg
namespace Go.Proofs.Ytlkpnhfdcljbfaa
open Go Go.RowKit
set_option linter.unusedVariables false
set_option linter.unusedSimpArgs false

theorem infoMsg : (Try.prog.info? 41).map (fun i => (i.zero, i.size, i.bytes)) = some (some (.agg #[.int .i64 0, .int .u64 0, .int .i64 0, .int .i64 0, .int .i64 0, .int .u64 0, .int .i64 0, .int .i64 0, .slice none 0 0]), 9, 88) := by kernel_rfl
/-- Is a load told? -/
def dueHit (now : Int) (x : Ld) : Bool := !x.there && decide (x.time ≤ now)
def dueLd (now : Int) (x : Ld) : Ld := if dueHit now x then { x with time := now + x.wait, wait := if 64 < 2 * x.wait then 64 else 2 * x.wait } else x
/-- What is told: numbers and loads. -/
def dueOut (now : Int) : Nat → List Ld → List (Nat × List UInt8)
  | _, [] => []
  | n, x :: l => if dueHit now x then (n, x.data) :: dueOut now (n + 1) l else dueOut now (n + 1) l
theorem dueOut_snoc (now : Int) : ∀ (n : Nat) (l : List Ld) (x : Ld), dueOut now n (l ++ [x]) = dueOut now n l ++ (if dueHit now x then [(n + l.length, x.data)] else [])
  | n, [], x => by simp only [List.nil_append, dueOut]; split <;> simp
  | n, y :: l, x => by
    simp only [List.cons_append, dueOut, List.length_cons]
    rw [dueOut_snoc now (n + 1) l x, show n + 1 + l.length = n + (l.length + 1) from by omega]
    split <;> simp
theorem dueOut_length (now : Int) : ∀ (n : Nat) (l : List Ld), (dueOut now n l).length ≤ l.length
  | _, [] => Nat.le_refl _
  | n, x :: l => by have := dueOut_length now (n + 1) l; simp only [dueOut]; split <;> simp <;> omega
/-- The cells of a message that is told. -/
def msgCells (n : Nat) (v : Value) : List Value := [.int .i64 1, .int .u64 0, .int .i64 0, .int .i64 n, .int .i64 0, .int .u64 0, .int .i64 0, .int .i64 0, v]
/-- The cells of what is told; the loads' own slices are vs. -/
def rowCells : List (Nat × List UInt8) → List Value → List Value
  | (n, _) :: out, v :: vs => msgCells n v ++ rowCells out vs
  | _, _ => []
theorem rowCells_length : ∀ (out : List (Nat × List UInt8)) (vs : List Value), vs.length = out.length → (rowCells out vs).length = out.length * 9
  | [], _, _ => by simp [rowCells]
  | (n, d) :: out, [], h => by simp at h
  | (n, d) :: out, v :: vs, h => by
    have := rowCells_length out vs (by simpa using h)
    simp [rowCells, msgCells, this]; omega
theorem rowCells_snoc : ∀ (out : List (Nat × List UInt8)) (vs : List Value) (n : Nat) (d : List UInt8) (v : Value), vs.length = out.length → rowCells (out ++ [(n, d)]) (vs ++ [v]) = rowCells out vs ++ msgCells n v
  | [], vs, n, d, v, h => by
    have : vs = [] := List.eq_nil_of_length_eq_zero h
    subst this
    simp [rowCells]
  | (m, e) :: out, [], n, d, v, h => by simp at h
  | (m, e) :: out, u :: vs, n, d, v, h => by
    simp only [List.cons_append, rowCells]
    rw [rowCells_snoc out vs n d v (by simpa using h), List.append_assoc]
/-- What was told, in memory from block B on. -/
structure MsgsAt (w : World) (B : Nat) (v : Value) (out : List (Nat × List UInt8)) (vs : List Value) : Prop where
  len : vs.length = out.length
  row : w.ownsRow B 41 9 v out.length (rowCells out vs)
  loads : ∀ i (h : i < out.length) (h2 : i < vs.length), w.ownsRow B 5 1 (vs[i]'h2) (out[i]'h).2.length (enc (out[i]'h).2)
theorem own_apart {w : World} {B B' e e' s s' n n' : Nat} {v v' : Value} {xs xs' : List Value} (h : w.ownsRow B e s v n xs) (h' : w.ownsRow B' e' s' v' n' xs') (he : e ≠ e') {g : Nat} (hg : v.ownBlock = some g) : v'.ownBlock ≠ some g := by
  intro hg'
  rcases h.2 with ⟨rfl, _⟩ | ⟨a, cap, cur, rfl, _, hh, _⟩
  · cases hg
  rcases h'.2 with ⟨rfl, _⟩ | ⟨a', cap', cur', rfl, _, hh', _⟩
  · cases hg'
  simp only [Value.ownBlock, Option.some.injEq] at hg hg'
  subst hg
  subst hg'
  rw [hh] at hh'
  cases hh'
  exact he rfl
theorem MsgsAt.keep {w w' : World} {S : Nat → Prop} {B : Nat} {v : Value} {out : List (Nat × List UInt8)} {vs : List Value} (h : MsgsAt w B v out vs) (hc : Chg S w w') (hS : ∀ k, B ≤ k → k < w.heap.size → ¬ S k) : MsgsAt w' B v out vs :=
  ⟨h.len, own_keep h.row hc (fun g hg => hS g (h.row.lt g hg).1 (h.row.lt g hg).2), fun i h1 h2 => own_keep (h.loads i h1 h2) hc (fun g hg => hS g ((h.loads i h1 h2).lt g hg).1 ((h.loads i h1 h2).lt g hg).2)⟩
theorem MsgsAt.nil (w : World) (B : Nat) : MsgsAt w B (.slice none 0 0) [] [] := ⟨rfl, World.ownsRow_nil _ _ _ _, fun i h => by simp at h⟩
/-- One more is told. -/
theorem MsgsAt.add {w : World} {B : Nat} {v u : Value} {out : List (Nat × List UInt8)} {vs : List Value} {n : Nat} {d : List UInt8} (h : MsgsAt w B v out vs) (hl : w.ownsRow B 5 1 u d.length (enc d)) (hB : B ≤ w.heap.size) (hlen : out.length ≤ 64)
    (hu : u.oneCell' = true) : ∃ v' w', (Builtin.append_ #[33, 33] 33 #[v, .slice (some ⟨w.heap.size, 0, none⟩) 1 1]).run Try.prog (w.alloc (.cells #[.int .i64 1, .int .u64 0, .int .i64 0, .int .i64 n, .int .i64 0, .int .u64 0, .int .i64 0, .int .i64 0, u] 41)) = .ok v' w' ∧
      MsgsAt w' B v' (out ++ [(n, d)]) (vs ++ [u]) ∧ Chg (fun k => B ≤ k) w w' := by
  have ca : Chg Pure' w (w.alloc (.cells #[.int .i64 1, .int .u64 0, .int .i64 0, .int .i64 n, .int .i64 0, .int .u64 0, .int .i64 0, .int .i64 0, u] 41)) := (Chg.refl _ w).alloc _
  have hrow : Row (w.alloc (.cells #[.int .i64 1, .int .u64 0, .int .i64 0, .int .i64 n, .int .i64 0, .int .u64 0, .int .i64 0, .int .i64 0, u] 41)) (some ⟨w.heap.size, 0, none⟩) (msgCells n u) := by
    refine ⟨fun _ => ⟨w.heap.size, 0, rfl, fun j x hx => ?_⟩⟩
    rw [Nat.zero_add, cellAt_alloc_lit, ← hx]
    simp [msgCells]
  have hone : ∀ x ∈ msgCells n u, x.oneCell' = true := by
    intro x hx
    simp only [msgCells, List.mem_cons, List.not_mem_nil, or_false] at hx
    rcases hx with rfl | rfl | rfl | rfl | rfl | rfl | rfl | rfl | rfl <;> first | rfl | exact hu
  have k1 := own_keep h.row ca (fun _ _ h => h)
  obtain ⟨v', w', hr, ho, hg, -⟩ := app_own (P := Try.prog) _ B 33 33 41 Try.underlying33 infoMsg rfl (by decide) _ _ _ k1 _ 1 1 _ hrow rfl hone (by decide) (by omega) (by have := ca.size; omega)
  refine ⟨v', w', hr, ⟨by simp [h.len], ?_, fun i h1 h2 => ?_⟩, (ca.of_pure).trans' ((Chg.refl _ _).grown hg (fun k hk => .inr (k1.lt k hk).1))⟩
  · rw [rowCells_snoc _ _ _ _ _ h.len, List.length_append, List.length_singleton]
    exact ho
  · have kg : Chg (fun k => v.ownBlock = some k) (w.alloc (.cells #[.int .i64 1, .int .u64 0, .int .i64 0, .int .i64 n, .int .i64 0, .int .u64 0, .int .i64 0, .int .i64 0, u] 41)) w' := (Chg.refl _ _).grown hg (fun k hk => .inr hk)
    by_cases hi : i < out.length
    · have h3 : i < vs.length := by rw [h.len]; exact hi
      rw [List.getElem_append_left h3, List.getElem_append_left hi]
      have k2 := own_keep (h.loads i hi h3) ca (fun _ _ h => h)
      exact own_keep k2 kg (fun g hg2 e => own_apart k2 k1 (by decide) hg2 e)
    · have hie : i = out.length := by simp at h1; omega
      subst hie
      have hv : vs.length = out.length := h.len
      have e1 : (vs ++ [u])[out.length]'h2 = u := by rw [List.getElem_append_right (by omega)]; simp
      have e2 : (out ++ [(n, d)])[out.length]'h1 = (n, d) := by rw [List.getElem_append_right (by omega)]; simp
      rw [e1, e2]
      have k2 := own_keep hl ca (fun _ _ h => h)
      exact own_keep k2 kg (fun g hg2 e => own_apart k2 k1 (by decide) hg2 e)
/-- The first j are done. -/
def firstN (f : Ld → Ld) (j : Nat) (Ls : List Ld) : List Ld := (Ls.take j).map f ++ Ls.drop j
theorem firstN_length (f : Ld → Ld) (j : Nat) (Ls : List Ld) : (firstN f j Ls).length = Ls.length := by
  simp [firstN]; omega
theorem firstN_step (f : Ld → Ld) (j : Nat) (Ls : List Ld) (h : j < Ls.length) : firstN f (j + 1) Ls = (firstN f j Ls).set j (f (Ls[j]'h)) ∧ (firstN f j Ls)[j]'(by rw [firstN_length]; exact h) = Ls[j]'h := by
  have hl : ((Ls.take j).map f).length = j := by simp; omega
  refine ⟨?_, ?_⟩
  · unfold firstN
    rw [List.set_append_right _ _ (by omega), hl, Nat.sub_self, List.drop_eq_getElem_cons h, List.set_cons_zero, List.take_succ_eq_append_getElem h, List.map_append]
    simp
  · unfold firstN
    rw [List.getElem_append_right (by omega)]
    simp only [List.getElem_drop, hl, Nat.sub_self, Nat.add_zero]
/-- A load is told once more. -/
theorem SendAt.told {w : World} {p b : Nat} {adr : Nat → Nat} {D : Nat → Prop} {W base lim : Nat} {Ls : List Ld} {cnt j : Nat} (h : SendAt w p b adr D W base lim Ls cnt) (hj : j < Ls.length) (t v : Int) (ht : 0 ≤ t ∧ t ≤ 1099511627840) (hv : 1 ≤ v ∧ v ≤ 64) :
    SendAt ((w.setCell ⟨adr (base + j), 2, none⟩ (.int .i64 t)).setCell ⟨adr (base + j), 3, none⟩ (.int .i64 v)) p b adr D W base lim (Ls.set j { (Ls[j]'hj) with time := t, wait := v }) cnt ∧
    Chg (fun k => k = adr (base + j)) w ((w.setCell ⟨adr (base + j), 2, none⟩ (.int .i64 t)).setCell ⟨adr (base + j), 3, none⟩ (.int .i64 v)) := by
  have hx := h.lds j hj
  generalize ha : adr (base + j) = a at *
  have k1 : Chg (fun k => k = a) w (w.setCell ⟨a, 2, none⟩ (.int .i64 t)) := Chg.setCell (S := fun k => k = a) (Chg.refl _ w) (p := ⟨a, 2, none⟩) (.inr rfl) _
  have k2 := Chg.setCell (S := fun k => k = a) k1 (p := ⟨a, 3, none⟩) (.inr rfl) (.int .i64 v)
  obtain ⟨cs, b1, b2⟩ := hx.blk
  have hy : LdAt ((w.setCell ⟨a, 2, none⟩ (.int .i64 t)).setCell ⟨a, 3, none⟩ (.int .i64 v)) D a { (Ls[j]'hj) with time := t, wait := v } :=
    hx.write k2 (fun d hd e => (h.dd d hd).2.2.2 j hj (ha.trans e.symm)) ⟨_, heap_setCell_same _ a 3 _ _ _ (heap_setCell_same w a 2 cs _ _ b1), by simpa using b2⟩
      (by rw [set_far (by omega), set_far (by omega)]) rfl (by rw [set_far (by omega), set_far (by omega)]; exact hx.there) (by rw [set_far (by omega)]; exact set_at hx.time)
      (set_at (u := .int .i64 (Ls[j]'hj).wait) (by rw [set_far (by omega)]; exact hx.wait)) ht hv
  subst ha
  exact ⟨h.turn hj hy k2, k2⟩
end Go.Proofs.Ytlkpnhfdcljbfaa
