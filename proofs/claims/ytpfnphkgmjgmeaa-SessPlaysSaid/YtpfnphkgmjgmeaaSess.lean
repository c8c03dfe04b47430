/- Package sess: what a table in memory reads as. -/
import Derived.Test.YtpfnphkgmjgmeaaMapU
import Derived.Test.YtpfnphkgmjgmeaaSl
import Derived.Test.YtpfnphkgmjgmeaaSame
import Derived.Lib.SliceRun
namespace Go.Proofs.Ytpfnphkgmjgmeaa
open Go Go.RowKit
set_option linter.unusedVariables false
set_option linter.unusedSimpArgs false

theorem free_at {w : World} {p i : Nat} {c : Array Value} {T : TypeId} (h : w.heap[p]? = some (.cells c T (0, 0))) : w.frozen? ⟨p, i, none⟩ = false := by
  simp [World.frozen?, h]
/-- The first k of a row. -/
theorem _root_.Go.World.ownsRow.cutTo {w : World} {base e g n cap k : Nat} {xs : List Value} (h : w.ownsRow base e 1 (.slice (some ⟨g, 0, none⟩) n cap) n xs) (hk : k ≤ n) : w.ownsRow base e 1 (.slice (some ⟨g, 0, none⟩) k cap) k (xs.take k) := by
  rcases h.2 with ⟨h', _⟩ | ⟨g', cap', cur, h', hb, hg, hnc, hcm, hcs, htake⟩
  · cases h'
  · cases h'
    have hl := h.1
    refine ⟨by simp; omega, .inr ⟨g, cap, cur, rfl, hb, hg, by omega, hcm, hcs, ?_⟩⟩
    rw [← htake, List.take_take, show min k (n * 1) = k * 1 from by omega]
/-- Some cells of a row are written over. -/
theorem row_setCells {base e g n cap : Nat} : ∀ (vs : List Value) (o : Nat) (w : World) (xs : List Value), w.ownsRow base e 1 (.slice (some ⟨g, 0, none⟩) n cap) n xs →
    ∃ ys, (w.setCells g o vs).ownsRow base e 1 (.slice (some ⟨g, 0, none⟩) n cap) n ys ∧ ys.take o = xs.take o ∧ Chg (fun k => k = g) w (w.setCells g o vs)
  | [], o, w, xs, h => ⟨xs, h, rfl, Chg.refl _ _⟩
  | v :: vs, o, w, xs, h => by
    obtain ⟨h1, -⟩ := h.stored o v
    obtain ⟨ys, h2, h3, h4⟩ := row_setCells vs (o + 1) _ _ h1
    refine ⟨ys, h2, ?_, (Chg.setCell (S := fun k => k = g) (Chg.refl _ w) (p := ⟨g, o, none⟩) (.inr rfl) v).trans' h4⟩
    have := congrArg (List.take o) h3
    rw [List.take_take, List.take_take, show min o (o + 1) = o from by omega] at this
    rw [this, List.take_set_of_le (Nat.le_refl _)]
/-- A session. -/
structure Se where
  token : UInt64
  epoch : Int
  format : Int
  last : Int
/-- A session in memory: block a. -/
structure SeAt (w : World) (a : Nat) (x : Se) : Prop where
  blk : ∃ cs, w.heap[a]? = some (.cells cs 70 (0, 0)) ∧ cs.size = 4
  c0 : w.cell? ⟨a, 0, none⟩ = some (.int .u64 (x.token.toNat : Int))
  c1 : w.cell? ⟨a, 1, none⟩ = some (.int .i64 x.epoch)
  c2 : w.cell? ⟨a, 2, none⟩ = some (.int .i64 x.format)
  c3 : w.cell? ⟨a, 3, none⟩ = some (.int .i64 x.last)
theorem SeAt.lt {w : World} {a : Nat} {x : Se} (h : SeAt w a x) : a < w.heap.size := by
  obtain ⟨cs, h1, _⟩ := h.blk
  exact (Array.getElem?_eq_some_iff.1 h1).1
theorem SeAt.frame {w w' : World} {S : Nat → Prop} {a : Nat} {x : Se} (h : SeAt w a x) (hc : Chg S w w') (ha : ¬ S a) : SeAt w' a x := by
  obtain ⟨cs, h1, h2⟩ := h.blk
  exact ⟨⟨cs, (hc.block a h.lt ha).trans h1, h2⟩, hc.cell h.c0 ha, hc.cell h.c1 ha, hc.cell h.c2 ha, hc.cell h.c3 ha⟩
/-- A table. -/
structure Tb where
  most : Nat
  idle : Nat
  now : Int
  L : List Se
  U : Int → Bool
def ptr (a : Nat) : Value := .pointer (some ⟨a, 0, none⟩)
def usedM (U : Int → Bool) : Int → Option Value := fun i => if U i then some (.bool true) else none
/-- A table in memory, its parts named: the map's block, the sessions' blocks, the slice. -/
structure TabOf (w : World) (p ub : Nat) (bs : List Nat) (v : Value) (T : Tb) (cnt : Nat) : Prop where
  blk : ∃ cs, w.heap[p]? = some (.cells cs 62 (0, 0)) ∧ cs.size = 5
  c0 : w.cell? ⟨p, 0, none⟩ = some (.int .i64 T.most)
  c1 : w.cell? ⟨p, 1, none⟩ = some (.int .i64 T.idle)
  c2 : w.cell? ⟨p, 2, none⟩ = some (.int .i64 T.now)
  c3 : w.cell? ⟨p, 3, none⟩ = some v
  c4 : w.cell? ⟨p, 4, none⟩ = some (.map (some ub))
  row : w.ownsRow 0 66 1 v T.L.length (bs.map ptr)
  map : MapU w 29 ub cnt (usedM T.U)
  len : bs.length = T.L.length
  ses : ∀ j (h : j < bs.length) (h2 : j < T.L.length), SeAt w (bs[j]'h) (T.L[j]'h2)
  inj : bs.Nodup
  ap : ∀ a ∈ bs, a ≠ p ∧ a ≠ ub ∧ v.ownBlock ≠ some a
  pb : p ≠ ub
  vp : v.ownBlock ≠ some p
  vu : v.ownBlock ≠ some ub
  m1 : 1 ≤ T.most
  m64 : T.most ≤ 64
  i1 : 1 ≤ T.idle
  i2 : T.idle ≤ 1048576
  n0 : 0 ≤ T.now ∧ T.now ≤ 1099511627776
  lm : T.L.length ≤ T.most
  ep : ∀ x ∈ T.L, 0 ≤ x.epoch ∧ x.epoch ≤ cnt ∧ 0 ≤ x.last ∧ x.last ≤ 1099511627776
/-- All blocks of a table. -/
def TFoot (p ub : Nat) (bs : List Nat) (v : Value) : Nat → Prop := fun k => k = p ∨ k = ub ∨ k ∈ bs ∨ v.ownBlock = some k
theorem TabOf.plt {w : World} {p ub : Nat} {bs : List Nat} {v : Value} {T : Tb} {cnt : Nat} (h : TabOf w p ub bs v T cnt) : p < w.heap.size := by
  obtain ⟨cs, h1, _⟩ := h.blk
  exact (Array.getElem?_eq_some_iff.1 h1).1
theorem TabOf.alt {w : World} {p ub : Nat} {bs : List Nat} {v : Value} {T : Tb} {cnt : Nat} (h : TabOf w p ub bs v T cnt) {a : Nat} (ha : a ∈ bs) : a < w.heap.size := by
  obtain ⟨j, hj, rfl⟩ := List.mem_iff_getElem.1 ha
  exact (h.ses j hj (by rw [← h.len]; exact hj)).lt
theorem TabOf.flt {w : World} {p ub : Nat} {bs : List Nat} {v : Value} {T : Tb} {cnt : Nat} (h : TabOf w p ub bs v T cnt) {k : Nat} (hk : TFoot p ub bs v k) : k < w.heap.size := by
  rcases hk with rfl | rfl | hk | hk
  · exact h.plt
  · exact h.map.lt
  · exact h.alt hk
  · exact (h.row.lt k hk).2
theorem TabOf.frame {w w' : World} {S : Nat → Prop} {p ub : Nat} {bs : List Nat} {v : Value} {T : Tb} {cnt : Nat} (h : TabOf w p ub bs v T cnt) (hc : Chg S w w') (hS : ∀ k, TFoot p ub bs v k → ¬ S k) : TabOf w' p ub bs v T cnt := by
  obtain ⟨cs, b1, b2⟩ := h.blk
  have hp : ¬ S p := hS p (.inl rfl)
  exact ⟨⟨cs, (hc.block p h.plt hp).trans b1, b2⟩, hc.cell h.c0 hp, hc.cell h.c1 hp, hc.cell h.c2 hp, hc.cell h.c3 hp, hc.cell h.c4 hp, own_keep h.row hc (fun g hg => hS g (.inr (.inr (.inr hg)))),
    h.map.chg hc (hS ub (.inr (.inl rfl))), h.len, fun j h1 h2 => (h.ses j h1 h2).frame hc (hS _ (.inr (.inr (.inl (List.getElem_mem h1))))), h.inj, h.ap, h.pb, h.vp, h.vu, h.m1, h.m64, h.i1, h.i2, h.n0, h.lm, h.ep⟩
theorem TabOf.pure {w w' : World} {p ub : Nat} {bs : List Nat} {v : Value} {T : Tb} {cnt : Nat} (h : TabOf w p ub bs v T cnt) (hc : Chg Pure' w w') : TabOf w' p ub bs v T cnt := h.frame hc (fun _ _ h => h)
theorem TabOf.more {w : World} {p ub : Nat} {bs : List Nat} {v : Value} {T : Tb} {cnt : Nat} (h : TabOf w p ub bs v T cnt) : TabOf w p ub bs v T (cnt + 1) :=
  ⟨h.blk, h.c0, h.c1, h.c2, h.c3, h.c4, h.row, h.map.mono, h.len, h.ses, h.inj, h.ap, h.pb, h.vp, h.vu, h.m1, h.m64, h.i1, h.i2, h.n0, h.lm, fun x hx => by have := h.ep x hx; omega⟩
/-- A table that lies in the blocks of F. -/
def TabIn (w : World) (F : Nat → Prop) (p : Nat) (T : Tb) (cnt : Nat) : Prop := ∃ ub bs v, TabOf w p ub bs v T cnt ∧ ∀ k, TFoot p ub bs v k → F k
theorem TabIn.frame {w w' : World} {S F : Nat → Prop} {p : Nat} {T : Tb} {cnt : Nat} (h : TabIn w F p T cnt) (hc : Chg S w w') (hS : ∀ k, F k → k < w.heap.size → ¬ S k) : TabIn w' F p T cnt := by
  obtain ⟨ub, bs, v, h1, h2⟩ := h
  exact ⟨ub, bs, v, h1.frame hc (fun k hk => hS k (h2 k hk) (h1.flt hk)), h2⟩
theorem TabIn.pure {w w' : World} {F : Nat → Prop} {p : Nat} {T : Tb} {cnt : Nat} (h : TabIn w F p T cnt) (hc : Chg Pure' w w') : TabIn w' F p T cnt := h.frame hc (fun _ _ _ h => h)
theorem TabIn.more {w : World} {F : Nat → Prop} {p : Nat} {T : Tb} {cnt : Nat} (h : TabIn w F p T cnt) : TabIn w F p T (cnt + 1) := by
  obtain ⟨ub, bs, v, h1, h2⟩ := h
  exact ⟨ub, bs, v, h1.more, h2⟩
/-- F, and what is new. -/
def More (F : Nat → Prop) (w : World) : Nat → Prop := fun k => F k ∨ w.heap.size ≤ k
/-- Where a token stands. -/
def place (L : List Se) (tk : UInt64) : Int := match L.findIdx? (fun x => x.token == tk) with | some i => i | none => -1
theorem place_none {L : List Se} {tk : UInt64} (h : ∀ x ∈ L, x.token ≠ tk) : place L tk = -1 := by
  unfold place
  rw [List.findIdx?_eq_none_iff.2 (fun x hx => by simpa using h x hx)]
theorem place_at {L : List Se} {tk : UInt64} {i : Nat} (hi : i < L.length) (h : (L[i]).token = tk) (hb : ∀ j (hj : j < i), (L[j]'(Nat.lt_trans hj hi)).token ≠ tk) : place L tk = i := by
  unfold place
  have : L.findIdx? (fun x => x.token == tk) = some i := by
    rw [List.findIdx?_eq_some_iff_getElem]
    exact ⟨hi, by simpa using h, fun j hj => by simpa using hb j hj⟩
  rw [this]
end Go.Proofs.Ytpfnphkgmjgmeaa
