/- Package gantlineref20: a table in memory. -/
import Derived.Test.YtpfnphkgmjgmeaaSessK
import Derived.Test.YtpfnphkgmjgmeaaOpenM
namespace Go.Proofs.Ytpfnphkgmjgmeaa
open Go Go.RowKit
set_option linter.unusedVariables false
set_option linter.unusedSimpArgs false

/-- A session's four cells. -/
def seCells (x : Se) : List Value := [.int .u64 (x.token.toNat : Int), .int .i64 x.epoch, .int .i64 x.format, .int .i64 x.last]
def rowCells (L : List Se) : List Value := L.flatMap seCells
theorem rowCells_nil : rowCells [] = [] := rfl
theorem rowCells_cons (x : Se) (L : List Se) : rowCells (x :: L) = seCells x ++ rowCells L := by simp [rowCells]
theorem rowCells_append (L M : List Se) : rowCells (L ++ M) = rowCells L ++ rowCells M := by simp [rowCells]
theorem rowCells_length (L : List Se) : (rowCells L).length = L.length * 4 := by
  induction L with
  | nil => rfl
  | cons x L ih => rw [rowCells_cons, List.length_append, ih, List.length_cons]; simp [seCells]; omega
theorem rowCells_one (L : List Se) : ∀ u ∈ rowCells L, u.oneCell' = true := by
  intro u hu
  obtain ⟨x, -, hx⟩ := List.mem_flatMap.1 hu
  simp [seCells] at hx
  rcases hx with rfl | rfl | rfl | rfl <;> rfl
theorem rowCells_get : ∀ (L : List Se) (i f : Nat) (hi : i < L.length) (hf : f < 4), (rowCells L)[i * 4 + f]? = (seCells (L[i]'hi))[f]?
  | [], i, f, hi, _ => absurd hi (by simp)
  | x :: L, 0, f, _, hf => by
    rw [rowCells_cons, List.getElem?_append_left (by simp [seCells]; omega)]
    simp
  | x :: L, i + 1, f, hi, hf => by
    rw [rowCells_cons, List.getElem?_append_right (by simp [seCells]; omega)]
    have h := rowCells_get L i f (by simpa using hi) hf
    have e : (i + 1) * 4 + f - (seCells x).length = i * 4 + f := by simp [seCells]; omega
    rw [e, h]
    simp
theorem seCells_set (x : Se) (f : Nat) (v : Value) : (seCells x).length = 4 := rfl
theorem rowCells_set4 : ∀ (L : List Se) (i : Nat) (y : Se) (hi : i < L.length),
    ((((rowCells L).set (i * 4) (.int .u64 (y.token.toNat : Int))).set (i * 4 + 1) (.int .i64 y.epoch)).set (i * 4 + 2) (.int .i64 y.format)).set (i * 4 + 3) (.int .i64 y.last) = rowCells (L.set i y)
  | [], i, y, hi => absurd hi (by simp)
  | x :: L, 0, y, _ => by rw [rowCells_cons, List.set_cons_zero, rowCells_cons]; simp [seCells]
  | x :: L, i + 1, y, hi => by
    have h := rowCells_set4 L i y (by simpa using hi)
    rw [rowCells_cons, List.set_cons_succ, rowCells_cons, ← h]
    simp only [seCells, show (i + 1) * 4 = i * 4 + 4 from by omega]
    simp [List.set_cons_succ]
theorem rowCells_set3 : ∀ (L : List Se) (i : Nat) (n : Int) (hi : i < L.length), (rowCells L).set (i * 4 + 3) (.int .i64 n) = rowCells (L.set i { L[i]'hi with last := n })
  | [], i, n, hi => absurd hi (by simp)
  | x :: L, 0, n, _ => by rw [rowCells_cons, List.set_cons_zero, rowCells_cons]; simp [seCells]
  | x :: L, i + 1, n, hi => by
    have h := rowCells_set3 L i n (by simpa using hi)
    rw [rowCells_cons, List.set_cons_succ, rowCells_cons]
    simp only [List.getElem_cons_succ]
    rw [← h]
    simp only [seCells, show (i + 1) * 4 = i * 4 + 4 from by omega]
    simp [List.set_cons_succ]
/-- A table of the document's in memory. -/
structure RTab (w : World) (B p : Nat) (T : Tb) (us : List UInt64) (vL vU : Value) : Prop where
  blk : ∃ cs, w.heap[p]? = some (.cells cs 42 (0, 0))
  c0 : w.cell? ⟨p, 0, none⟩ = some (.int .i64 T.most)
  c1 : w.cell? ⟨p, 1, none⟩ = some (.int .i64 T.idle)
  c2 : w.cell? ⟨p, 2, none⟩ = some (.int .i64 T.now)
  c3 : w.cell? ⟨p, 3, none⟩ = some vL
  c4 : w.cell? ⟨p, 4, none⟩ = some vU
  rowL : w.ownsRow B 75 4 vL T.L.length (rowCells T.L)
  rowU : w.ownsRow B 29 1 vU us.length (us.map u64v)
  uu : ∀ d : UInt64, T.U (d.toNat : Int) = decide (d ∈ us)
  pB : p < B
  n0 : 0 ≤ T.now ∧ T.now ≤ 1099511627776
  i2 : T.idle ≤ 1048576
  l64 : T.L.length ≤ 64
  m64 : T.most ≤ 64
  ul : us.length ≤ 4398046511104
  ep : ∀ x ∈ T.L, 0 ≤ x.epoch ∧ x.epoch ≤ 4398046511104 ∧ 0 ≤ x.last ∧ x.last ≤ 1099511627776
/-- The blocks of a table of the document's that its calls may write. -/
def RFoot (p : Nat) (vL : Value) : Nat → Prop := fun k => k = p ∨ vL.ownBlock = some k
theorem RTab.plt {w : World} {B p : Nat} {T : Tb} {us : List UInt64} {vL vU : Value} (h : RTab w B p T us vL vU) : p < w.heap.size := cell_lt h.c0
theorem RTab.frame {S : Nat → Prop} {w w' : World} {B p : Nat} {T : Tb} {us : List UInt64} {vL vU : Value} (h : RTab w B p T us vL vU) (hc : Chg S w w') (hp : ¬ S p) (hL : ∀ k, vL.ownBlock = some k → ¬ S k) (hU : ∀ k, vU.ownBlock = some k → ¬ S k) : RTab w' B p T us vL vU := by
  obtain ⟨cs, b1⟩ := h.blk
  exact ⟨⟨cs, (hc.block p h.plt hp).trans b1⟩, hc.cell h.c0 hp, hc.cell h.c1 hp, hc.cell h.c2 hp, hc.cell h.c3 hp, hc.cell h.c4 hp, own_keep h.rowL hc hL, own_keep h.rowU hc hU, h.uu, h.pB, h.n0, h.i2, h.l64, h.m64, h.ul, h.ep⟩
theorem RTab.pure {w w' : World} {B p : Nat} {T : Tb} {us : List UInt64} {vL vU : Value} (h : RTab w B p T us vL vU) (hc : Chg Pure' w w') : RTab w' B p T us vL vU := h.frame hc (fun h => h) (fun _ _ h => h) (fun _ _ h => h)
/-- A session's cells, in a row of sessions. -/
theorem RTab.at' {w : World} {B p m q : Nat} {A : Option Addr} {T : Tb} {us : List UInt64} {vU : Value} (h : RTab w B p T us (.slice A m q) vU) {i : Nat} (hi : i < T.L.length) : ∃ g, A = some ⟨g, 0, none⟩ ∧ B ≤ g ∧ m = T.L.length ∧ m ≤ q ∧ w.cell? ⟨g, i * 4, none⟩ = some (.int .u64 ((T.L[i]'hi).token.toNat : Int)) ∧ w.cell? ⟨g, i * 4 + 1, none⟩ = some (.int .i64 (T.L[i]'hi).epoch) ∧
    w.cell? ⟨g, i * 4 + 2, none⟩ = some (.int .i64 (T.L[i]'hi).format) ∧ w.cell? ⟨g, i * 4 + 3, none⟩ = some (.int .i64 (T.L[i]'hi).last) ∧ ∀ o, w.frozen? ⟨g, o, none⟩ = false := by
  have hr := h.rowL
  rcases hr.2 with ⟨h', h0⟩ | ⟨g, cap, cur, h', hb, hg, hnc, hcm, hcs, htk⟩
  · exfalso
    have := hr.1
    rw [h0] at this
    simp at this
    omega
  · cases h'
    have hc : ∀ f, f < 4 → w.cell? ⟨g, i * 4 + f, none⟩ = (seCells (T.L[i]'hi))[f]? := by
      intro f hf
      have hget := rowCells_get T.L i f hi hf
      have hlt : f < (seCells (T.L[i]'hi)).length := by simp [seCells]; omega
      rw [List.getElem?_eq_getElem hlt] at hget ⊢
      have := World.ownsRow.cells hr (g := g) rfl (i * 4 + f) _ hget
      have e : (⟨g, 0, none⟩ : Addr).add (i * 4 + f) = ⟨g, i * 4 + f, none⟩ := by unfold Addr.add; split <;> simp_all
      rwa [e] at this
    exact ⟨g, rfl, hb, rfl, hnc, by have := hc 0 (by omega); simpa [seCells] using this, hc 1 (by omega), hc 2 (by omega), hc 3 (by omega), fun o => free_at hg⟩
theorem RTab.val {w : World} {B p : Nat} {T : Tb} {us : List UInt64} {vL vU : Value} (h : RTab w B p T us vL vU) : ∃ A q, vL = .slice A T.L.length q ∧ T.L.length ≤ q := by
  rcases h.rowL.2 with ⟨rfl, h0⟩ | ⟨g, cap, cur, rfl, hb, hg, hnc, hcm, hcs, htk⟩
  · have := h.rowL.1
    rw [h0] at this
    simp at this
    exact ⟨none, 0, by rw [show T.L.length = 0 from by omega], by omega⟩
  · exact ⟨_, cap, rfl, hnc⟩
end Go.Proofs.Ytpfnphkgmjgmeaa
