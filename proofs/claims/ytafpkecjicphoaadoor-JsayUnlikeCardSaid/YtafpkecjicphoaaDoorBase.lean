/- Words of our own for all walks of this seat: what a call may change of the world, and a slice of bytes that reads as a list. -/
import Derived.WalkKit
import Derived.KernelRfl
import Derived.Outline
import Derived.Below
import Derived.Lib.Hide
import Derived.Laws.BytesArg
import Derived.Lib.AppendZeros
import Derived.Deep.AppendSrc
import Derived.WalkSpells
import Derived.Lib.SlBytesConst
import Derived.Deep.QuietTactic
import Derived.BigQuiet
import Derived.Deep.RegionHeld3
namespace Go.Proofs.YtafpkecjicphoaaDoor
open Go Go.RowKit

/-- From w to w' only blocks of S, and new ones, were written. -/
structure Chg (S : Nat → Prop) (w w' : World) : Prop where
  os : w'.os = w.os
  tape : w'.tape = w.tape
  output : w'.output = w.output
  size : w.heap.size ≤ w'.heap.size
  block : ∀ k, k < w.heap.size → ¬ S k → w'.heap[k]? = w.heap[k]?

/-- Nothing that was there is written. -/
def Pure' : Nat → Prop := fun _ => False

theorem Chg.refl (S : Nat → Prop) (w : World) : Chg S w w := ⟨rfl, rfl, rfl, Nat.le_refl _, fun _ _ _ => rfl⟩
theorem Chg.mono {S T : Nat → Prop} {w w' : World} (h : Chg S w w') (hs : ∀ k, k < w.heap.size → S k → T k) : Chg T w w' :=
  ⟨h.os, h.tape, h.output, h.size, fun k hk hn => h.block k hk (fun hs' => hn (hs k hk hs'))⟩
/-- The second step may write what is new. -/
theorem Chg.trans {S T : Nat → Prop} {a b c : World} (h : Chg S a b) (k : Chg T b c) (ht : ∀ i, i < a.heap.size → T i → S i) : Chg S a c :=
  ⟨k.os.trans h.os, k.tape.trans h.tape, k.output.trans h.output, Nat.le_trans h.size k.size,
    fun i hi hn => (k.block i (Nat.lt_of_lt_of_le hi h.size) (fun t => hn (ht i hi t))).trans (h.block i hi hn)⟩
theorem Chg.trans' {S : Nat → Prop} {a b c : World} (h : Chg S a b) (k : Chg S b c) : Chg S a c := h.trans k (fun _ _ h => h)
theorem Chg.pure {S : Nat → Prop} {a b c : World} (h : Chg S a b) (k : Chg Pure' b c) : Chg S a c := h.trans k (fun _ _ h => h.elim)
theorem Chg.of_pure {S : Nat → Prop} {a b : World} (h : Chg Pure' a b) : Chg S a b := h.mono (fun _ _ h => h.elim)
theorem Chg.drew {S : Nat → Prop} {a b : World} (h : Chg S a b) : Chg S a b.drew := ⟨h.os, h.tape, h.output, h.size, h.block⟩
theorem Chg.drewN {S : Nat → Prop} {a b : World} (h : Chg S a b) (n : Nat) : Chg S a (b.drewN n) := ⟨h.os, h.tape, h.output, h.size, h.block⟩
theorem Chg.alloc {S : Nat → Prop} {a b : World} (h : Chg S a b) (o : Obj) : Chg S a (b.alloc o) :=
  h.pure ⟨rfl, rfl, rfl, by simp, fun k hk _ => Below.heap_alloc _ _ _ hk⟩
theorem Chg.setCell {S : Nat → Prop} {a b : World} (h : Chg S a b) {p : Addr} (hp : a.heap.size ≤ p.block ∨ S p.block) (u : Value) : Chg S a (b.setCell p u) :=
  h.trans (T := fun k => k = p.block) ⟨rfl, rfl, rfl, by simp [World.setCell], fun k _ hk => Below.heap_setCell _ _ _ _ hk⟩ (fun i hi e => by subst e; rcases hp with hp | hp; omega; exact hp)
theorem Chg.setRow {S : Nat → Prop} {a b : World} (h : Chg S a b) {g : Nat} (hp : a.heap.size ≤ g ∨ S g) (cur : Array Value) : Chg S a (b.setRow g cur) :=
  h.trans (T := fun k => k = g) ⟨rfl, rfl, rfl, by simp [World.setRow], fun k _ hk => setRow_other b g k _ hk⟩ (fun i hi e => by subst e; rcases hp with hp | hp; omega; exact hp)
theorem Chg.grown {S : Nat → Prop} {a b c : World} {row : Option Nat} (h : Chg S a b) (hg : b.grownBy c row) (hr : ∀ k, row = some k → a.heap.size ≤ k ∨ S k) : Chg S a c :=
  h.trans (T := fun k => some k = row) ⟨hg.os, hg.tape, hg.output, hg.size, fun k hk hn => hg.block k hk hn⟩ (fun i hi e => by rcases hr i e.symm with hp | hp; omega; exact hp)
theorem Chg.below {w w' : World} (h : Chg Pure' w w') : Below w.heap.size w w' := ⟨h.os, h.tape, h.output, h.size, fun k hk => h.block k hk (fun h => h)⟩
theorem Below.chg {w w' : World} (h : Below w.heap.size w w') : Chg Pure' w w' := ⟨h.os, h.tape, h.output, h.size, fun k hk _ => h.block k hk⟩
theorem Chg.cell {S : Nat → Prop} {w w' : World} (h : Chg S w w') {p : Addr} {v : Value} (hc : w.cell? p = some v) (hn : ¬ S p.block) : w'.cell? p = some v :=
  (World.cell?_of_block (w := w) (h.block p.block (World.block_lt_of_cell? w p hc) hn)).trans hc
theorem Chg.frozen {S : Nat → Prop} {w w' : World} (h : Chg S w w') {p : Addr} {v : Value} (hc : w.cell? p = some v) (hn : ¬ S p.block) : w'.frozen? p = w.frozen? p :=
  World.frozen?_of_block (w := w) (h.block p.block (World.block_lt_of_cell? w p hc) hn)

/-! ### a region that draws its order, step by step: what was there is as it was (but for T) -/
section
variable {P : Program} {md : Region.Mode} {ops : Array Oper} {Q : Exit → Act → World → Prop}
theorem wpAnyH_imp {S S' : World → Prop} (hs : ∀ w, S' w → S w) : ∀ (fuel : Nat) (listed : Array Bool) (a : Act) (w : World), wpAnyH P md ops Q S' fuel listed a w → wpAnyH P md ops Q S fuel listed a w
  | 0, _, _, _, h => h
  | fuel + 1, _, _, _, h => ⟨h.1, fun i hi => wpOp_mono (fun a' w' h' => ⟨hs _ h'.1, wpAnyH_imp hs fuel _ a' w' h'.2⟩) (h.2 i hi)⟩
theorem wpAnyH_chg {T : Nat → Prop} {w0 w1 w : World} {fuel : Nat} {listed : Array Bool} {a : Act} (hc : Chg T w0 w1) (h : wpAnyH P md ops Q (Chg T w1) fuel listed a w) : wpAnyH P md ops Q (Chg T w0) fuel listed a w :=
  wpAnyH_imp (fun _ h => hc.trans' h) _ _ _ _ h
theorem reg_begin {id : Nat} {a : Act} {w : World} (T : Nat → Prop) (hm : P.follows .mixedOrders = true)
    (h : wpAnyH P .any ops Q (Chg T w.drew) ops.size (Array.replicate ops.size false) a w.drew) : (Code.region id ops true).wp P Q a w :=
  wp_region_held hm h
theorem reg_take {T : Nat → Prop} (i : Nat) {oi : Oper} {v : Value} {fuel : Nat} {listed : Array Bool} {a : Act} {w : World} (hi : ops[i]? = some oi)
    (hs : Region.noSelect ops = true) (hf : Region.free md ops listed i = true) (hr : (Region.ready md ops listed).contains i = true)
    (hQ : ∀ c a w, Q (.panic c) (a.put oi.dst v) w → Q (.panic c) a w) (hw : Region.wanted oi (yielded ops a.tmps) = true) (hy : ∀ w', Chg T w w' → (execOp a.eval oi).run P w' = .ok (.value v) w')
    (h : wpAnyH P md ops Q (Chg T w) fuel (listed.setIfInBounds i true) (a.put oi.dst v) w) : wpAnyH P md ops Q (Chg T w) (fuel + 1) listed a w :=
  wpAnyH_take hi hs hf hr hQ (.inl ⟨hw, hy⟩) (Chg.refl _ _) h
theorem reg_off {T : Nat → Prop} (i : Nat) {oi : Oper} {fuel : Nat} {listed : Array Bool} {a : Act} {w : World} (hi : ops[i]? = some oi)
    (hs : Region.noSelect ops = true) (hf : Region.free md ops listed i = true) (hr : (Region.ready md ops listed).contains i = true)
    (hQ : ∀ c a w, Q (.panic c) (a.put oi.dst undef) w → Q (.panic c) a w) (hw : Region.wanted oi (yielded ops a.tmps) = false)
    (h : wpAnyH P md ops Q (Chg T w) fuel (listed.setIfInBounds i true) (a.put oi.dst undef) w) : wpAnyH P md ops Q (Chg T w) (fuel + 1) listed a w :=
  wpAnyH_take hi hs hf hr hQ (.inr ⟨hw, rfl⟩) (Chg.refl _ _) h
/-- The one operation that may come up, carried out. -/
theorem reg_do {T : Nat → Prop} (i : Nat) {oi : Oper} {fuel : Nat} {listed : Array Bool} {a : Act} {w : World} (hi : ops[i]? = some oi) (hr : Region.ready md ops listed = [i])
    (hw : Region.wanted oi (yielded ops a.tmps) = true)
    (h : ∀ K : Act → World → Prop, (∀ a' w', Chg T w w' → wpAnyH P md ops Q (Chg T w') fuel (listed.setIfInBounds i true) a' w' → K a' w') → oi.wp P a w K Q) : wpAnyH P md ops Q (Chg T w) (fuel + 1) listed a w :=
  wpAnyH_all hr (by simp) (fun j hj => by
    obtain rfl : j = i := by simpa using hj
    unfold wpOp
    rw [hi]
    simp only [hw, if_true]
    exact .inl (h _ fun a' w' hc hh => ⟨hc, wpAnyH_chg hc hh⟩))
end

/-! ### rows of cells -/
/-- From A on lie these cells. -/
structure Row (w : World) (A : Option Addr) (cs : List Value) : Prop where
  cells : 0 < cs.length → ∃ b off, A = some ⟨b, off, none⟩ ∧ ∀ j u, cs[j]? = some u → w.cell? ⟨b, off + j, none⟩ = some u
theorem Row.nil (w : World) (A : Option Addr) : Row w A [] := ⟨fun h => absurd h (Nat.lt_irrefl 0)⟩
theorem Row.news {w : World} {a : Addr} {cs : List Value} (h : Row w (some a) cs) : ∀ j u, cs[j]? = some u → w.cell? (a.add j) = some u := by
  intro j u hu
  have hj : j < cs.length := (List.getElem?_eq_some_iff.1 hu).1
  obtain ⟨b, off, e, hc⟩ := h.cells (by omega)
  cases e
  have : (⟨b, off, none⟩ : Addr).add j = ⟨b, off + j, none⟩ := by unfold Addr.add; split <;> simp_all
  rw [this, hc j u hu]
theorem Row.of_cells {w : World} {b : Nat} {cs : List Value} (h : ∀ j u, cs[j]? = some u → w.cell? ((⟨b, 0, none⟩ : Addr).add j) = some u) : Row w (some ⟨b, 0, none⟩) cs := by
  refine ⟨fun _ => ⟨b, 0, rfl, fun j u hu => ?_⟩⟩
  have := h j u hu
  have e : (⟨b, 0, none⟩ : Addr).add j = ⟨b, 0 + j, none⟩ := by unfold Addr.add; split <;> simp_all
  rwa [e] at this

/-- append(v, x...), v a row of the call's own, x any slice: what comes, and where. -/
theorem app_own {P : Program} (w : World) (base : Nat) (t ty e : TypeId) {z : Value} {size bytes : Nat} (ht : P.underlying t = some (.slice e))
    (hinfo : (P.info? e).map (fun i => (i.zero, i.size, i.bytes)) = some (some z, size, bytes)) (hzs : z.cells.size = size) (hsz : 0 < size)
    (v : Value) (n : Nat) (xs : List Value) (hown : w.ownsRow base e size v n xs) (A : Option Addr) (m c : Nat) (news : List Value) (hrow : Row w A news) (hl : news.length = m * size) (h1 : ∀ u ∈ news, u.oneCell' = true)
    (hb0 : 0 < bytes) (hbytes : (n + m) * bytes ≤ 140737488355328) (hbase : base ≤ w.heap.size) :
    ∃ v' w', (Builtin.append_ #[t, t] ty #[v, .slice A m c]).run P w = .ok v' w' ∧ w'.ownsRow base e size v' (n + m) (xs ++ news) ∧ w.grownBy w' v.ownBlock ∧
      (∀ k, v'.ownBlock = some k → v.ownBlock = some k ∨ w.heap.size ≤ k) := by
  obtain ⟨i, hi, hz, hs, hby⟩ := info_parts hinfo
  have h63 : n + m ≤ maxLen := by
    have := Nat.le_mul_of_pos_right (n + m) hb0
    simp only [maxLen]; omega
  cases A with
  | none =>
    have hnil : news = [] := by
      rcases Nat.eq_zero_or_pos news.length with h | h
      · exact List.eq_nil_of_length_eq_zero h
      · obtain ⟨b, off, e', _⟩ := hrow.cells h
        cases e'
    subst hnil
    have hm : m = 0 := by
      rcases Nat.eq_zero_or_pos m with h | h
      · exact h
      · have := Nat.mul_pos h hsz; simp at hl; omega
    subst hm
    refine ⟨v, w, ?_, by simpa using hown, ⟨rfl, rfl, rfl, Nat.le_refl _, fun _ _ _ => rfl⟩, fun k hk => .inl hk⟩
    rcases hown.2 with ⟨rfl, rfl⟩ | ⟨g, cap, cur, rfl, _, _, hnc, _⟩
    · simp [Builtin.append_, run_underlying ht, sizeOf, typeInfo, hi, Builtin.lenOf, Builtin.firstCells]
    · simp [Builtin.append_, run_underlying ht, sizeOf, typeInfo, hi, Builtin.lenOf, Builtin.firstCells, hnc, storeCells]
  | some a =>
    by_cases hroom : ∃ g cap, v = .slice (some ⟨g, 0, none⟩) n cap ∧ n + m ≤ cap
    · obtain ⟨g, cap, rfl, hroom⟩ := hroom
      obtain ⟨v', w', hr, ho, hg, -⟩ := run_append_own (P := P) w base t ty e i z size bytes ht hi hz hs hby hzs hsz _ n xs hown a m c news hl hrow.news h1 h63 hbytes hbase
      refine ⟨v', w', hr, ho, hg, ?_⟩
      rcases hown.2 with ⟨h', _⟩ | ⟨g', cap', cur, h', hbg, hgg, hnc, hcm, hcs, htake⟩
      · cases h'
      · cases h'
        have hfit : n * i.size + news.length ≤ cur.size := by rw [hl, hcs, ← hs, ← Nat.add_mul]; exact Nat.mul_le_mul_right _ hroom
        have hr2 := run_append_room (P := P) w t ty e i ht hi g n cap cur hgg a m c news (by rw [hl, hs]) hrow.news h1 hroom hfit
        rw [hr2] at hr
        injection hr with e1 e2
        subst e1
        intro k hk
        exact .inl hk
    · obtain ⟨v', w', hr, ho, hg, hiff⟩ := run_append_own (P := P) w base t ty e i z size bytes ht hi hz hs hby hzs hsz _ n xs hown a m c news hl hrow.news h1 h63 hbytes hbase
      refine ⟨v', w', hr, ho, hg, ?_⟩
      rcases hown.2 with ⟨rfl, rfl⟩ | ⟨g', cap', cur, rfl, hbg, hgg, hnc, hcm, hcs, htake⟩
      · by_cases hm : m = 0
        · have := hiff.2 ⟨rfl, hm⟩
          subst this
          intro k hk; simp [Value.ownBlock] at hk
        · have hr2 := run_append_nil (P := P) w t ty e i z ht hi hz a m c news (by rw [hl, hs]) hrow.news (by omega) (by simp only [maxLen] at h63; omega) (by simp only [Nat.zero_add] at hbytes; rw [hby]; omega)
          rw [hr2] at hr
          injection hr with e1 e2
          subst e1
          intro k hk
          simp [Value.ownBlock] at hk
          exact .inr (by omega)
      · have hgt : cap' < n + m := by
          rcases Nat.lt_or_ge cap' (n + m) with h | h
          · exact h
          · exact absurd ⟨g', cap', rfl, h⟩ hroom
        have holds : ∀ j u, xs[j]? = some u → w.cell? ((⟨g', 0, none⟩ : Addr).add j) = some u := hown.cells (g := g') rfl
        have hr2 := run_append_grow (P := P) w t ty e i z ht hi hz ⟨g', 0, none⟩ n cap' xs (by rw [hown.1, hs]) holds a m c news (by rw [hl, hs]) hrow.news (by omega) (by simp only [maxLen] at h63; omega) (growslice_fits (by omega) (by rw [hby]; exact hbytes))
        rw [hr2] at hr
        injection hr with e1 e2
        subst e1
        intro k hk
        simp [Value.ownBlock] at hk
        exact .inr (by omega)

theorem set_far {w : World} {p i j : Nat} {v : Value} (h : i ≠ j) : (w.setCell ⟨p, i, none⟩ v).cell? ⟨p, j, none⟩ = w.cell? ⟨p, j, none⟩ :=
  World.cell?_setCell_other (w := w) (a := ⟨p, i, none⟩) (b := ⟨p, j, none⟩) (v := v) (fun e => h (by injection e))
theorem set_at {w : World} {p i : Nat} {u v : Value} (h : w.cell? ⟨p, i, none⟩ = some u) : (w.setCell ⟨p, i, none⟩ v).cell? ⟨p, i, none⟩ = some v :=
  World.cell?_setCell_same (w := w) (a := ⟨p, i, none⟩) (v := v) h

/-! ### bytes -/
def enc (xs : List UInt8) : List Value := xs.map fun b => .int .u8 (b.toNat : Int)
theorem enc_length (xs : List UInt8) : (enc xs).length = xs.length := by simp [enc]
theorem enc_append (xs ys : List UInt8) : enc (xs ++ ys) = enc xs ++ enc ys := by simp [enc]
theorem enc_one (xs : List UInt8) : ∀ u ∈ enc xs, u.oneCell' = true := by
  intro u hu
  obtain ⟨_, _, rfl⟩ := List.mem_map.1 hu
  rfl
theorem enc_get (xs : List UInt8) (j : Nat) (h : j < xs.length) : (enc xs)[j]? = some (.int .u8 ((xs[j]'h).toNat : Int)) := by simp [enc, h]

/-- The slice at A of n elements reads as these bytes. -/
structure Bytes (w : World) (A : Option Addr) (n : Nat) (xs : List UInt8) : Prop where
  len : xs.length = n
  cells : 0 < n → ∃ b off, A = some ⟨b, off, none⟩ ∧ ∀ j (h : j < xs.length), w.cell? ⟨b, off + j, none⟩ = some (.int .u8 ((xs[j]'h).toNat : Int))
/-- The slice's block, if it has one, is not one of S. -/
def Off (A : Option Addr) (S : Nat → Prop) : Prop := ∀ a, A = some a → ¬ S a.block
/-- The slice's block, if it has one, is B or later. -/
def From (A : Option Addr) (B : Nat) : Prop := ∀ a, A = some a → B ≤ a.block
theorem Off.pure (A : Option Addr) : Off A Pure' := fun _ _ h => h
theorem Off.none (S : Nat → Prop) : Off none S := fun _ h => by cases h

theorem Bytes.nil (w : World) (A : Option Addr) : Bytes w A 0 [] := ⟨rfl, fun h => absurd h (Nat.lt_irrefl 0)⟩
theorem Bytes.chg {S : Nat → Prop} {w w' : World} {A : Option Addr} {n : Nat} {xs : List UInt8} (h : Bytes w A n xs) (hc : Chg S w w') (ho : Off A S) : Bytes w' A n xs := by
  refine ⟨h.len, fun hn => ?_⟩
  obtain ⟨b, off, rfl, hcell⟩ := h.cells hn
  exact ⟨b, off, rfl, fun j hj => hc.cell (hcell j hj) (ho ⟨b, off, none⟩ rfl)⟩
theorem Bytes.pure {w w' : World} {A : Option Addr} {n : Nat} {xs : List UInt8} (h : Bytes w A n xs) (hc : Chg Pure' w w') : Bytes w' A n xs := h.chg hc (Off.pure A)
theorem Bytes.drew {w : World} {A : Option Addr} {n : Nat} {xs : List UInt8} (h : Bytes w A n xs) : Bytes w.drew A n xs := h.pure (Chg.refl _ w).drew
/-- The cells, for append's law. -/
theorem Bytes.news {w : World} {b off n : Nat} {xs : List UInt8} (h : Bytes w (some ⟨b, off, none⟩) n xs) : ∀ j u, (enc xs)[j]? = some u → w.cell? ((⟨b, off, none⟩ : Addr).add j) = some u := by
  intro j u hu
  have hj : j < xs.length := by
    have := (List.getElem?_eq_some_iff.1 hu).1
    rwa [enc_length] at this
  rw [enc_get xs j hj] at hu
  obtain ⟨b', off', e, hc⟩ := h.cells (by have := h.len; omega)
  cases e
  have : (⟨b, off, none⟩ : Addr).add j = ⟨b, off + j, none⟩ := by unfold Addr.add; split <;> simp_all
  rw [this, hc j hj, hu]
theorem Bytes.row {w : World} {A : Option Addr} {n : Nat} {xs : List UInt8} (h : Bytes w A n xs) : Row w A (enc xs) := by
  refine ⟨fun hp => ?_⟩
  rw [enc_length] at hp
  obtain ⟨b, off, rfl, hc⟩ := h.cells (by have := h.len; omega)
  refine ⟨b, off, rfl, fun j u hu => ?_⟩
  have hj : j < xs.length := by
    have := (List.getElem?_eq_some_iff.1 hu).1
    rwa [enc_length] at this
  rw [enc_get xs j hj] at hu
  rw [hc j hj, hu]
/-- A part of it: x[lo:hi]. -/
theorem Bytes.part {w : World} {b off n : Nat} {xs : List UInt8} (h : Bytes w (some ⟨b, off, none⟩) n xs) (lo hi : Nat) (h1 : lo ≤ hi) (h2 : hi ≤ n) : Bytes w (some ⟨b, off + lo, none⟩) (hi - lo) ((xs.take hi).drop lo) := by
  have hl := h.len
  refine ⟨by simp; omega, fun hn => ?_⟩
  obtain ⟨b', off', e, hc⟩ := h.cells (by omega)
  cases e
  refine ⟨b, off + lo, rfl, fun j hj => ?_⟩
  have hj' : lo + j < xs.length := by simp at hj; omega
  have := hc (lo + j) hj'
  rw [show off + lo + j = off + (lo + j) from by omega, this]
  simp
theorem Bytes.of_own {w : World} {base e n : Nat} {v : Value} {xs : List UInt8} (h : w.ownsRow base e 1 v n (enc xs)) : ∃ A c, v = .slice A n c ∧ n ≤ c ∧ Bytes w A n xs ∧ From A base := by
  have hl : xs.length = n := by have := h.1; rw [enc_length] at this; omega
  rcases h.2 with ⟨rfl, rfl⟩ | ⟨g, cap, cur, rfl, hb, hg, hn, hcap, hcs, ht⟩
  · have : xs = [] := List.eq_nil_of_length_eq_zero hl
    subst this
    exact ⟨none, 0, rfl, Nat.le_refl _, Bytes.nil _ _, fun _ h => by cases h⟩
  · refine ⟨_, cap, rfl, hn, ⟨hl, fun hp => ⟨g, 0, rfl, fun j hj => ?_⟩⟩, fun a ha => by cases ha; exact hb⟩
    have hk := h.cells (g := g) rfl j _ (enc_get xs j hj)
    have : (⟨g, 0, none⟩ : Addr).add j = ⟨g, 0 + j, none⟩ := by unfold Addr.add; split <;> simp_all
    rwa [this] at hk
/-- A row of bytes that was made just now. -/
theorem Bytes.alloc_lit (w : World) (cs : Array Value) (T : TypeId) (xs : List UInt8) (h : cs.toList = enc xs) (n : Nat) (hn : xs.length = n) : Bytes (w.alloc (.cells cs T)) (some ⟨w.heap.size, 0, none⟩) n xs := by
  refine ⟨hn, fun _ => ⟨w.heap.size, 0, rfl, fun j hj => ?_⟩⟩
  have h1 : (w.alloc (.cells cs T)).heap[w.heap.size]? = some (.cells cs T (0, 0)) := heap_alloc_new w _
  rw [cell_of_row _ w.heap.size (0 + j) cs T (0, 0) h1, Nat.zero_add, ← Array.getElem?_toList, h, enc_get xs j hj]
theorem Bytes.alloc_mark (w : World) (cs : Array Value) (T : TypeId) (fr : Nat × Nat) (xs : List UInt8) (h : cs.toList = enc xs) (n : Nat) (hn : xs.length = n) : Bytes (w.alloc (.cells cs T fr)) (some ⟨w.heap.size, 0, none⟩) n xs := by
  refine ⟨hn, fun _ => ⟨w.heap.size, 0, rfl, fun j hj => ?_⟩⟩
  have h1 : (w.alloc (.cells cs T fr)).heap[w.heap.size]? = some (.cells cs T fr) := heap_alloc_new w _
  rw [cell_of_row _ w.heap.size (0 + j) cs T fr h1, Nat.zero_add, ← Array.getElem?_toList, h, enc_get xs j hj]
theorem ret_int {k : IntKind} {a b : Int} (h : a = b) : Ending.returned (.int k a) = .returned (.int k b) := by rw [h]
theorem ret_bool {a b : Bool} (h : a = b) : Ending.returned (.bool a) = .returned (.bool b) := by rw [h]
theorem _root_.Go.World.ownsRow.low {w : World} {base B e size n : Nat} {v : Value} {xs : List Value} (h : w.ownsRow base e size v n xs) (hB : B ≤ base) : w.ownsRow B e size v n xs := by
  refine ⟨h.1, ?_⟩
  rcases h.2 with h2 | ⟨g, cap, cur, hv, hg, r⟩
  · exact .inl h2
  · exact .inr ⟨g, cap, cur, hv, Nat.le_trans hB hg, r⟩
theorem cellAt_alloc_lit (w : World) (cs : Array Value) (T : TypeId) (j : Nat) : (w.alloc (.cells cs T)).cell? ⟨w.heap.size, j, none⟩ = cs[j]? := by
  have h1 : (w.alloc (.cells cs T)).heap[w.heap.size]? = some (.cells cs T (0, 0)) := heap_alloc_new w _
  rw [cell_of_row _ w.heap.size j cs T (0, 0) h1]
/-- The slice at A of n slices of bytes reads as these lists. -/
structure BytesL (w : World) (A : Option Addr) (n : Nat) (xss : List (List UInt8)) : Prop where
  len : xss.length = n
  cells : 0 < n → ∃ b off, A = some ⟨b, off, none⟩ ∧ ∀ j (h : j < xss.length), ∃ Aj nj cj, w.cell? ⟨b, off + j, none⟩ = some (.slice Aj nj cj) ∧ nj ≤ cj ∧ Bytes w Aj nj (xss[j]'h)

theorem strOfNums_bytes (xs : List UInt8) : strOfNums (xs.map fun b => (b.toNat : Int)) = ⟨xs.toArray⟩ := by
  unfold strOfNums
  congr 2
  rw [List.map_map]
  conv => rhs; rw [← List.map_id xs]
  apply List.map_congr_left
  intro b _
  simp
theorem Bytes.run_string {P : Program} {w : World} {A : Option Addr} {n : Nat} {xs : List UInt8} (h : Bytes w A n xs) (src dst e : TypeId) (hs : P.underlying src = some (.slice e)) (he : P.underlying e = some (.int .u8)) (hd : P.underlying dst = some .string) (c : Nat) :
    (convert src dst (.slice A n c)).run P w = .ok (.string ⟨xs.toArray⟩) w := by
  rcases Nat.eq_zero_or_pos n with h0 | h0
  · subst h0
    obtain rfl : xs = [] := List.eq_nil_of_length_eq_zero h.len
    cases A with
    | none => exact run_convert_bytes_nil w src e hs he 0 c dst hd
    | some a =>
      rw [run_convert_bytes_string w src dst e _ 0 c hs he hd, run_bytesToString w _ 0 c [] (by simp [loadCells, loadCellsFrom])]
      rfl
  · obtain ⟨b, off, rfl, hc⟩ := h.cells h0
    rw [run_convert_bytes_arg w src e hs he b off n c (xs.map fun b => (b.toNat : Int)) (by rw [List.length_map]; exact h.len) (fun i hi => by
      have hix : i < xs.length := by have := h.len; omega
      rw [hc i hix]
      simp [hix]) dst hd, strOfNums_bytes]
/-- What a Go string reads as. -/
def str (s : ByteArray) : List UInt8 := s.data.toList
end Go.Proofs.YtafpkecjicphoaaDoor
