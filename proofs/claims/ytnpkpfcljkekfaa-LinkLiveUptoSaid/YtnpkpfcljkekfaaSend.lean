/- Package send: what a sender in memory reads as, and the contracts of its small methods. -/
import Derived.Test.YtnpkpfcljkekfaaProg
import Derived.Test.YtnpkpfcljkekfaaBase
import Derived.Test.YtnpkpfcljkekfaaSl
import Derived.Test.YtnpkpfcljkekfaaSame
import Derived.Test.YtnpkpfcljkekfaaMapW
namespace Go.Proofs.Ytnpkpfcljkekfaa
open Go Go.RowKit
set_option linter.unusedVariables false
set_option linter.unusedSimpArgs false

theorem free_at {w : World} {p i : Nat} {c : Array Value} {T : TypeId} (h : w.heap[p]? = some (.cells c T (0, 0))) : w.frozen? ⟨p, i, none⟩ = false := by
  simp [World.frozen?, h]
/-- One load that is not done. -/
structure Ld where
  data : List UInt8
  there : Bool
  time : Int
  wait : Int
/-- A load in memory: block a; its bytes lie in a block of D. -/
structure LdAt (w : World) (D : Nat → Prop) (a : Nat) (x : Ld) : Prop where
  blk : ∃ cs, w.heap[a]? = some (.cells cs 138 (0, 0)) ∧ cs.size = 4
  data : ∃ A n c, w.cell? ⟨a, 0, none⟩ = some (.slice A n c) ∧ n ≤ c ∧ n ≤ 1200 ∧ Bytes w A n x.data ∧ ∀ d, A = some d → D d.block
  there : w.cell? ⟨a, 1, none⟩ = some (.bool x.there)
  time : w.cell? ⟨a, 2, none⟩ = some (.int .i64 x.time)
  wait : w.cell? ⟨a, 3, none⟩ = some (.int .i64 x.wait)
  t0 : 0 ≤ x.time ∧ x.time ≤ 1099511627840
  w0 : 1 ≤ x.wait ∧ x.wait ≤ 64
theorem LdAt.lt {w : World} {D : Nat → Prop} {a : Nat} {x : Ld} (h : LdAt w D a x) : a < w.heap.size := by
  obtain ⟨cs, h1, _⟩ := h.blk
  exact (Array.getElem?_eq_some_iff.1 h1).1
theorem LdAt.frame {w w' : World} {D D' S : Nat → Prop} {a : Nat} {x : Ld} (h : LdAt w D a x) (hc : Chg S w w') (ha : ¬ S a) (hd : ∀ d, D d → ¬ S d) (hD : ∀ d, D d → D' d) : LdAt w' D' a x := by
  obtain ⟨cs, h1, h2⟩ := h.blk
  obtain ⟨A, n, c, d1, d2, d3, d4, d5⟩ := h.data
  exact ⟨⟨cs, (hc.block a h.lt ha).trans h1, h2⟩, ⟨A, n, c, hc.cell d1 ha, d2, d3, d4.chg hc (fun d hA => hd _ (d5 d hA)), fun d hA => hD _ (d5 d hA)⟩, hc.cell h.there ha, hc.cell h.time ha, hc.cell h.wait ha, h.t0, h.w0⟩

/-- What the sender's map has. -/
def byM (base n : Nat) (adr : Nat → Nat) : Int → Option Value := fun i => if (base : Int) ≤ i ∧ i < ((base + n : Nat) : Int) then some (.pointer (some ⟨adr i.toNat, 0, none⟩)) else none
theorem byM_in {base n : Nat} {adr : Nat → Nat} {j : Nat} (h : j < n) : byM base n adr ((base + j : Nat) : Int) = some (.pointer (some ⟨adr (base + j), 0, none⟩)) := by
  unfold byM
  rw [if_pos (by omega)]
  congr 4

/-- A sender: block p, its map block b; load number i stands at adr i; bytes in blocks of D. -/
structure SendAt (w : World) (p b : Nat) (adr : Nat → Nat) (D : Nat → Prop) (W base lim : Nat) (Ls : List Ld) (cnt : Nat) : Prop where
  blk : ∃ cs, w.heap[p]? = some (.cells cs 134 (0, 0)) ∧ cs.size = 5
  w1 : 1 ≤ W
  w32 : W ≤ 32
  b1 : 1 ≤ base
  len : Ls.length ≤ W
  nx : base + Ls.length ≤ lim + 1
  lm : lim ≤ 4611686018427387904
  c0 : w.cell? ⟨p, 0, none⟩ = some (.int .i64 W)
  c1 : w.cell? ⟨p, 1, none⟩ = some (.int .i64 base)
  c2 : w.cell? ⟨p, 2, none⟩ = some (.int .i64 ((base + Ls.length : Nat)))
  c3 : w.cell? ⟨p, 3, none⟩ = some (.int .i64 lim)
  c4 : w.cell? ⟨p, 4, none⟩ = some (.map (some b))
  map : MapAt w 3 b cnt (byM base Ls.length adr)
  lds : ∀ j (h : j < Ls.length), LdAt w D (adr (base + j)) (Ls[j]'h)
  pb : p ≠ b
  inj : ∀ i j, i < Ls.length → j < Ls.length → adr (base + i) = adr (base + j) → i = j
  ap : ∀ i, i < Ls.length → adr (base + i) ≠ p ∧ adr (base + i) ≠ b
  dd : ∀ d, D d → d ≠ p ∧ d ≠ b ∧ d < w.heap.size ∧ ∀ i, i < Ls.length → adr (base + i) ≠ d
/-- All blocks of a sender. -/
def Foot (p b : Nat) (adr : Nat → Nat) (D : Nat → Prop) (base n : Nat) : Nat → Prop := fun k => k = p ∨ k = b ∨ (∃ i, i < n ∧ k = adr (base + i)) ∨ D k
theorem SendAt.plt {w : World} {p b : Nat} {adr : Nat → Nat} {D : Nat → Prop} {W base lim : Nat} {Ls : List Ld} {cnt : Nat} (h : SendAt w p b adr D W base lim Ls cnt) : p < w.heap.size := by
  obtain ⟨cs, h1, _⟩ := h.blk
  exact (Array.getElem?_eq_some_iff.1 h1).1
theorem SendAt.foot_lt {w : World} {p b : Nat} {adr : Nat → Nat} {D : Nat → Prop} {W base lim : Nat} {Ls : List Ld} {cnt : Nat} (h : SendAt w p b adr D W base lim Ls cnt) : ∀ k, Foot p b adr D base Ls.length k → k < w.heap.size := by
  rintro k (rfl | rfl | ⟨i, hi, rfl⟩ | hd)
  · exact h.plt
  · exact h.map.lt
  · exact (h.lds i hi).lt
  · exact (h.dd k hd).2.2.1
theorem SendAt.frame {w w' : World} {S : Nat → Prop} {p b : Nat} {adr : Nat → Nat} {D : Nat → Prop} {W base lim : Nat} {Ls : List Ld} {cnt : Nat} (h : SendAt w p b adr D W base lim Ls cnt) (hc : Chg S w w')
    (hS : ∀ k, Foot p b adr D base Ls.length k → ¬ S k) : SendAt w' p b adr D W base lim Ls cnt := by
  obtain ⟨cs, b1, b2⟩ := h.blk
  have hp : ¬ S p := hS p (.inl rfl)
  exact ⟨⟨cs, (hc.block p h.plt hp).trans b1, b2⟩, h.w1, h.w32, h.b1, h.len, h.nx, h.lm, hc.cell h.c0 hp, hc.cell h.c1 hp, hc.cell h.c2 hp, hc.cell h.c3 hp, hc.cell h.c4 hp,
    h.map.chg hc (hS b (.inr (.inl rfl))), fun j hj => (h.lds j hj).frame hc (hS _ (.inr (.inr (.inl ⟨j, hj, rfl⟩)))) (fun d hd => hS d (.inr (.inr (.inr hd)))) (fun d hd => hd), h.pb, h.inj, h.ap,
    fun d hd => ⟨(h.dd d hd).1, (h.dd d hd).2.1, Nat.lt_of_lt_of_le (h.dd d hd).2.2.1 hc.size, (h.dd d hd).2.2.2⟩⟩
theorem SendAt.pure {w w' : World} {p b : Nat} {adr : Nat → Nat} {D : Nat → Prop} {W base lim : Nat} {Ls : List Ld} {cnt : Nat} (h : SendAt w p b adr D W base lim Ls cnt) (hc : Chg Pure' w w') : SendAt w' p b adr D W base lim Ls cnt :=
  h.frame hc (fun _ _ h => h)
/-- One load is written anew. -/
theorem SendAt.turn {w w' : World} {p b : Nat} {adr : Nat → Nat} {D : Nat → Prop} {W base lim : Nat} {Ls : List Ld} {cnt j : Nat} (h : SendAt w p b adr D W base lim Ls cnt) (hj : j < Ls.length) {y : Ld} (hy : LdAt w' D (adr (base + j)) y)
    (hc : Chg (fun k => k = adr (base + j)) w w') : SendAt w' p b adr D W base lim (Ls.set j y) cnt := by
  obtain ⟨cs, b1, b2⟩ := h.blk
  have hp : ¬ p = adr (base + j) := fun e => (h.ap j hj).1 e.symm
  have hb : ¬ b = adr (base + j) := fun e => (h.ap j hj).2 e.symm
  refine ⟨⟨cs, (hc.block p h.plt hp).trans b1, b2⟩, h.w1, h.w32, h.b1, by simpa using h.len, by simpa using h.nx, h.lm, hc.cell h.c0 hp, hc.cell h.c1 hp, by simpa using hc.cell h.c2 hp, hc.cell h.c3 hp, hc.cell h.c4 hp,
    by simpa using h.map.chg hc hb, fun i hi => ?_, h.pb, fun i k hi hk => h.inj i k (by simpa using hi) (by simpa using hk), fun i hi => h.ap i (by simpa using hi),
    fun d hd => ⟨(h.dd d hd).1, (h.dd d hd).2.1, Nat.lt_of_lt_of_le (h.dd d hd).2.2.1 hc.size, fun i hi => (h.dd d hd).2.2.2 i (by simpa using hi)⟩⟩
  by_cases hij : i = j
  · subst hij
    rw [List.getElem_set_self]
    exact hy
  · rw [List.getElem_set_ne (by omega)]
    have hi' : i < Ls.length := by simpa using hi
    exact (h.lds i hi').frame hc (fun e => hij (h.inj i j hi' hj e)) (fun d hd e => (h.dd d hd).2.2.2 j hj e.symm) (fun d hd => hd)

theorem sok_any {w : World} {p b : Nat} {adr : Nat → Nat} {D : Nat → Prop} {W base lim : Nat} {Ls : List Ld} {cnt : Nat} (h : SendAt w p b adr D W base lim Ls cnt) :
    Calls Try.prog 78 #[.pointer (some ⟨p, 0, none⟩)] w fun e w' => e = .returned (.bool true) ∧ w = w' := by
  have h4 := h.c4
  have hn := run_neq_map_nil (P := Try.prog) w 132 3 136 (some b) Try.underlying132
  clear h
  go_enter Try.func78, Try.ntmps78
  go_wp2
  go_ret
  exact ⟨rfl, rfl⟩
theorem when_any (a : Int) (w : World) (r : Bool) (hr : decide (0 ≤ a ∧ a ≤ 1099511627776) = r) : Calls Try.prog 85 #[.int .i64 a] w fun e w' => e = .returned (.bool r) ∧ w = w' := by
  subst hr
  by_cases h0 : 0 ≤ a
  · go_enter Try.func85, Try.ntmps85
    go_wp2
    go_ret
    exact ⟨ret_bool (by simp [h0] <;> (intros; omega)), rfl⟩
  · go_enter Try.func85, Try.ntmps85
    go_wp2
    go_ret
    exact ⟨ret_bool (by simp [h0] <;> (intros; omega)), rfl⟩
theorem may_any {w : World} {p b : Nat} {adr : Nat → Nat} {D : Nat → Prop} {W base lim : Nat} {Ls : List Ld} {cnt : Nat} (h : SendAt w p b adr D W base lim Ls cnt) (a c : Int) (r : Bool)
    (hr : decide (0 ≤ a ∧ a < ((base + Ls.length : Nat) : Int) ∧ 0 ≤ c ∧ c ≤ 4611686018427387904) = r) :
    Calls Try.prog 79 #[.pointer (some ⟨p, 0, none⟩), .int .i64 a, .int .i64 c] w fun e w' => e = .returned (.bool r) ∧ w = w' := by
  subst hr
  have h2 := h.c2
  generalize base + Ls.length = nx at *
  clear h
  by_cases h0 : 0 ≤ a
  · by_cases h1 : a < nx
    · by_cases h3 : 0 ≤ c
      · go_enter Try.func79, Try.ntmps79
        go_wp2
        go_ret
        exact ⟨ret_bool (by simp [h0, h1, h3] <;> (intros; omega)), rfl⟩
      · go_enter Try.func79, Try.ntmps79
        go_wp2
        go_ret
        exact ⟨ret_bool (by simp [h0, h1, h3] <;> (intros; omega)), rfl⟩
    · go_enter Try.func79, Try.ntmps79
      go_wp2
      go_ret
      exact ⟨ret_bool (by simp [h0, h1] <;> (intros; omega)), rfl⟩
  · go_enter Try.func79, Try.ntmps79
    go_wp2
    go_ret
    exact ⟨ret_bool (by simp [h0] <;> (intros; omega)), rfl⟩
end Go.Proofs.Ytnpkpfcljkekfaa
