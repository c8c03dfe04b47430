/- Two messages that are the same. -/
import Derived.Test.YtnpkpfcljkekfaaLinkD
import Derived.Test.YtnpkpfcljkekfaaLinkE
import Derived.Test.YtnpkpfcljkekfaaKB
import Derived.Test.YtnpkpfcljkekfaaRecvB
namespace Go.Proofs.Ytnpkpfcljkekfaa
open Go Go.RowKit
set_option linter.unusedVariables false
set_option maxRecDepth 100000
set_option linter.unusedSimpArgs false

set_option maxHeartbeats 4000000 in
theorem one_same (m : Ms) (A : Option Addr) (n c : Nat) (B : Option Addr) (d : Nat) (w : World) (hA : Bytes w A n m.load) (hB : Bytes w B n m.load) :
    Calls Try.prog 14 #[m.val A n c, m.val B n d] w fun e w' => e = .returned (.bool true) ∧ Chg Pure' w w' := by
  have hs := fun (w1 : World) (h1 : Bytes w1 A n m.load) (h2 : Bytes w1 B n m.load) => same_is true A c n m.load B d n m.load w1 h1 h2 (by simp)
  unfold Ms.val Ms.cells
  have ca : Chg Pure' w (w.alloc (.cells (m.cells A n c) 25)) := (Chg.refl _ w).alloc _
  have cb : Chg Pure' (w.alloc (.cells (m.cells A n c) 25)) ((w.alloc (.cells (m.cells A n c) 25)).alloc (.cells (m.cells B n d) 25)) := (Chg.refl _ _).alloc _
  have hH := Lib.hid (hs _ ((hA.pure ca).pure cb) ((hB.pure ca).pure cb))
  unfold Ms.cells at hH ca cb
  have CC := ca.pure cb
  clear hs hA hB ca cb
  go_enter Try.func14, Try.ntmps14
  go_wp2_with (fail)
  refine hH.out.mono ?_
  rintro e w1 ⟨rfl, rfl⟩
  go_wp2
  go_ret
  exact ⟨rfl, CC⟩
end Go.Proofs.Ytnpkpfcljkekfaa
namespace Go.Proofs.Ytnpkpfcljkekfaa
open Go Go.RowKit
set_option linter.unusedVariables false
set_option maxRecDepth 100000
set_option linter.unusedSimpArgs false

/-- A datagram: where its bytes lie, and what they are; whether it is spoilt. -/
structure Gd where
  A : Option Addr
  c : Nat
  xs : List UInt8
  sp : Bool
def gcells (G : List Gd) : List Value := G.flatMap fun g => [.slice g.A g.xs.length g.c, .bool g.sp]
structure GdAt (w : World) (col : Nat → Nat) (g : Gd) : Prop where
  bytes : Bytes w g.A g.xs.length g.xs
  cap : g.xs.length ≤ g.c
  big : g.xs.length ≤ 1208
  cd : ∀ a, g.A = some a → col a.block = 9
/-- Where a link's parts lie, and what they are. -/
structure Lm where
  p : Nat
  sp : Nat
  sb : Nat
  rp : Nat
  nb : Nat
  g0 : Nat
  g1 : Nat
  adr : Nat → Nat
  D : Nat → Prop
  F : Nat → Prop
  v0 : Value
  v1 : Value
  token : UInt64
  now : Nat
  epoch : Nat
  W : Nat
  T : Nat
  base : Nat
  lim : Nat
  cnt : Nat
  Ls : List Ld
  L : List (Option (List UInt8))
  G0 : List Gd
  G1 : List Gd
  sent : Nat
  got : Nat
structure LkBlk (w : World) (m : Lm) : Prop where
  blk : ∃ cs, w.heap[m.p]? = some (.cells cs 60 (0, 0)) ∧ cs.size = 8
  c0 : w.cell? ⟨m.p, 0, none⟩ = some (.int .u64 (m.token.toNat : Int))
  c1 : w.cell? ⟨m.p, 1, none⟩ = some (.int .i64 (m.now : Nat))
  c2 : w.cell? ⟨m.p, 2, none⟩ = some (.int .i64 (m.epoch : Nat))
  c3 : w.cell? ⟨m.p, 3, none⟩ = some (.pointer (some ⟨m.sp, 0, none⟩))
  c4 : w.cell? ⟨m.p, 4, none⟩ = some (.pointer (some ⟨m.rp, 0, none⟩))
  c5 : w.cell? ⟨m.p, 5, none⟩ = some (.slice (some ⟨m.nb, 0, none⟩) 2 2)
  c6 : w.cell? ⟨m.p, 6, none⟩ = some (.int .i64 (m.sent : Nat))
  c7 : w.cell? ⟨m.p, 7, none⟩ = some (.int .i64 (m.got : Nat))
structure NbBlk (w : World) (m : Lm) : Prop where
  c0 : w.cell? ⟨m.nb, 0, none⟩ = some (.pointer (some ⟨m.g0, 0, none⟩))
  c1 : w.cell? ⟨m.nb, 1, none⟩ = some (.pointer (some ⟨m.g1, 0, none⟩))
structure NetBlk (w : World) (g : Nat) (v : Value) (kind : Int) (f : FuncId) (p : Nat) : Prop where
  blk : ∃ cs, w.heap[g]? = some (.cells cs 95 (0, 0)) ∧ cs.size = 3
  c0 : w.cell? ⟨g, 0, none⟩ = some v
  c1 : w.cell? ⟨g, 1, none⟩ = some (.int .i64 kind)
  c2 : w.cell? ⟨g, 2, none⟩ = some (.func (.func f) #[.pointer (some ⟨p, 0, none⟩)] #[])
structure GramsAt (w : World) (B : Nat) (col : Nat → Nat) (v : Value) (c : Nat) (G : List Gd) : Prop where
  row : w.ownsRow B 109 2 v G.length (gcells G)
  cv : ∀ g, v.ownBlock = some g → col g = c
  ds : ∀ g ∈ G, GdAt w col g
theorem LkBlk.lt {w : World} {m : Lm} (h : LkBlk w m) : m.p < w.heap.size := by
  obtain ⟨cs, h1, -⟩ := h.blk
  exact (Array.getElem?_eq_some_iff.1 h1).1
theorem NetBlk.lt {w : World} {g : Nat} {v : Value} {kind : Int} {f : FuncId} {p : Nat} (h : NetBlk w g v kind f p) : g < w.heap.size := by
  obtain ⟨cs, h1, -⟩ := h.blk
  exact (Array.getElem?_eq_some_iff.1 h1).1
theorem LkBlk.frame {S : Nat → Prop} {w w' : World} {m : Lm} (h : LkBlk w m) (hc : Chg S w w') (hp : ¬ S m.p) : LkBlk w' m := by
  obtain ⟨cs, h1, h2⟩ := h.blk
  exact ⟨⟨cs, (hc.block _ h.lt hp).trans h1, h2⟩, hc.cell h.c0 hp, hc.cell h.c1 hp, hc.cell h.c2 hp, hc.cell h.c3 hp, hc.cell h.c4 hp, hc.cell h.c5 hp, hc.cell h.c6 hp, hc.cell h.c7 hp⟩
theorem NbBlk.frame {S : Nat → Prop} {w w' : World} {m : Lm} (h : NbBlk w m) (hc : Chg S w w') (hp : ¬ S m.nb) : NbBlk w' m := ⟨hc.cell h.c0 hp, hc.cell h.c1 hp⟩
theorem NetBlk.frame {S : Nat → Prop} {w w' : World} {g : Nat} {v : Value} {kind : Int} {f : FuncId} {p : Nat} (h : NetBlk w g v kind f p) (hc : Chg S w w') (hp : ¬ S g) : NetBlk w' g v kind f p := by
  obtain ⟨cs, h1, h2⟩ := h.blk
  exact ⟨⟨cs, (hc.block _ h.lt hp).trans h1, h2⟩, hc.cell h.c0 hp, hc.cell h.c1 hp, hc.cell h.c2 hp⟩
theorem GramsAt.frame {S : Nat → Prop} {w w' : World} {B c : Nat} {col col' : Nat → Nat} {v : Value} {G : List Gd} (h : GramsAt w B col v c G) (hc : Chg S w w') (hv : ∀ g, v.ownBlock = some g → ¬ S g) (hd : ∀ k, col k = 9 → ¬ S k)
    (he : ∀ k, col k ≠ 0 → col' k = col k) (h0 : c ≠ 0) : GramsAt w' B col' v c G :=
  ⟨own_keep h.row hc hv, fun g hg => by have := h.cv g hg; rw [he g (by omega), this], fun g hg => by
    have := h.ds g hg
    exact ⟨this.bytes.chg hc (fun a ha => hd _ (this.cd a ha)), this.cap, this.big, fun a ha => by have h9 := this.cd a ha; rw [he _ (by omega), h9]⟩⟩
/-- Where a link's blocks may lie: from n on, but for some below hi. -/
structure Base where
  n : Nat
  X : Nat → Prop
  hi : Nat
  lt : ∀ k, X k → k < hi
instance : Coe Base Nat := ⟨Base.n⟩
def Base.ok (B : Base) (k : Nat) : Prop := B.n ≤ k ∧ ¬ B.X k
def Base.of (n : Nat) : Base := ⟨n, fun _ => False, 0, fun _ h => h.elim⟩
theorem Base.of_ok {n k : Nat} (h : n ≤ k) : (Base.of n).ok k := ⟨h, fun h => h⟩
theorem own_le {k n n' hi : Nat} (h : k < n ∧ hi ≤ n) (hn : n ≤ n') : k < n' ∧ hi ≤ n' := ⟨Nat.lt_of_lt_of_le h.1 hn, Nat.le_trans h.2 hn⟩
/-- A link: all its blocks have colours, and are of the caller's own from B on. -/
structure LinkAt (w : World) (B : Base) (col : Nat → Nat) (m : Lm) : Prop where
  own : ∀ k, col k ≠ 0 → B.ok k ∧ (k < w.heap.size ∧ B.hi ≤ w.heap.size)
  lk : LkBlk w m
  nbk : NbBlk w m
  n0 : NetBlk w m.g0 m.v0 1 50 m.p
  n1 : NetBlk w m.g1 m.v1 2 51 m.p
  snd : SendAt w m.sp m.sb m.adr m.D m.W m.base m.lim m.Ls m.cnt
  rcv : RecvAt w m.F m.rp m.W m.T m.L
  gr0 : GramsAt w B col m.v0 7 m.G0
  gr1 : GramsAt w B col m.v1 8 m.G1
  k3 : col m.p = 3
  k4 : col m.nb = 4
  k5 : col m.g0 = 5
  k6 : col m.g1 = 6
  k1 : ∀ k, Foot m.sp m.sb m.adr m.D m.base m.Ls.length k → col k = 1
  k2 : ∀ k, m.F k → col k = 2
  l0 : m.G0.length ≤ 256
  l1 : m.G1.length ≤ 256
  now : m.now ≤ 1099511627776
/-- What stays when blocks of the colours C are written. -/
structure Stays (w' : World) (B : Base) (col col' : Nat → Nat) (C : Nat → Prop) (m : Lm) : Prop where
  lk : ¬ C 3 → LkBlk w' m
  nbk : ¬ C 4 → NbBlk w' m
  n0 : ¬ C 5 → NetBlk w' m.g0 m.v0 1 50 m.p
  n1 : ¬ C 6 → NetBlk w' m.g1 m.v1 2 51 m.p
  snd : ¬ C 1 → SendAt w' m.sp m.sb m.adr m.D m.W m.base m.lim m.Ls m.cnt
  rcv : ¬ C 2 → RecvAt w' m.F m.rp m.W m.T m.L
  gr0 : ¬ C 7 → GramsAt w' B col' m.v0 7 m.G0
  gr1 : ¬ C 8 → GramsAt w' B col' m.v1 8 m.G1
  ds0 : ∀ g ∈ m.G0, GdAt w' col' g
  ds1 : ∀ g ∈ m.G1, GdAt w' col' g
  k3 : col' m.p = 3
  k4 : col' m.nb = 4
  k5 : col' m.g0 = 5
  k6 : col' m.g1 = 6
  k1 : ∀ k, Foot m.sp m.sb m.adr m.D m.base m.Ls.length k → col' k = 1
  k2 : ∀ k, m.F k → col' k = 2
theorem LinkAt.stays {w w' : World} {B : Base} {col col' : Nat → Nat} {m : Lm} {S : Nat → Prop} (h : LinkAt w B col m) (C : Nat → Prop) (hc : Chg S w w') (hS : ∀ k, k < w.heap.size → S k → C (col k)) (h9 : ¬ C 9) (he : ∀ k, col k ≠ 0 → col' k = col k) :
    Stays w' B col col' C m := by
  have av : ∀ k c, col k = c → c ≠ 0 → ¬ C c → ¬ S k := fun k c h1 h2 h3 hs => h3 (by rw [← h1]; exact hS k (h.own k (by omega)).2.1 hs)
  have hd : ∀ k, col k = 9 → ¬ S k := fun k hk => av k 9 hk (by decide) h9
  refine ⟨fun g => h.lk.frame hc (av _ 3 h.k3 (by decide) g), fun g => h.nbk.frame hc (av _ 4 h.k4 (by decide) g), fun g => h.n0.frame hc (av _ 5 h.k5 (by decide) g), fun g => h.n1.frame hc (av _ 6 h.k6 (by decide) g), fun g => h.snd.frame hc (fun k hk => av _ 1 (h.k1 k hk) (by decide) g),
    fun g => h.rcv.frame hc (fun k hk => av _ 2 (h.k2 k hk) (by decide) g), fun g => h.gr0.frame hc (fun k hk => av _ 7 (h.gr0.cv k hk) (by decide) g) hd he (by decide), fun g => h.gr1.frame hc (fun k hk => av _ 8 (h.gr1.cv k hk) (by decide) g) hd he (by decide), ?_, ?_, ?_, ?_, ?_, ?_, ?_, ?_⟩
  · intro g hg
    have := h.gr0.ds g hg
    exact ⟨this.bytes.chg hc (fun a ha => hd _ (this.cd a ha)), this.cap, this.big, fun a ha => by have h9 := this.cd a ha; rw [he _ (by omega), h9]⟩
  · intro g hg
    have := h.gr1.ds g hg
    exact ⟨this.bytes.chg hc (fun a ha => hd _ (this.cd a ha)), this.cap, this.big, fun a ha => by have h9 := this.cd a ha; rw [he _ (by omega), h9]⟩
  · rw [he _ (by rw [h.k3]; decide), h.k3]
  · rw [he _ (by rw [h.k4]; decide), h.k4]
  · rw [he _ (by rw [h.k5]; decide), h.k5]
  · rw [he _ (by rw [h.k6]; decide), h.k6]
  · intro k hk; rw [he _ (by rw [h.k1 k hk]; decide), h.k1 k hk]
  · intro k hk; rw [he _ (by rw [h.k2 k hk]; decide), h.k2 k hk]
/-- New blocks get a colour. -/
def paint (col : Nat → Nat) (n n' c : Nat) : Nat → Nat := fun k => if col k ≠ 0 then col k else if n ≤ k ∧ k < n' then c else 0
theorem paint_old (col : Nat → Nat) (n n' c k : Nat) (h : col k ≠ 0) : paint col n n' c k = col k := by unfold paint; rw [if_pos h]
theorem paint_new {w : World} {B : Base} {col : Nat → Nat} {m : Lm} (h : LinkAt w B col m) (n' c k : Nat) (h1 : w.heap.size ≤ k) (h2 : k < n') : paint col w.heap.size n' c k = c := by
  unfold paint
  rw [if_neg (fun hk => by have := (h.own k hk).2; omega), if_pos ⟨h1, h2⟩]
theorem paint_own {w w' : World} {B : Base} {col : Nat → Nat} {m : Lm} (h : LinkAt w B col m) (c : Nat) (hB : (B : Nat) ≤ w.heap.size) (hs : w.heap.size ≤ w'.heap.size) : ∀ k, paint col w.heap.size w'.heap.size c k ≠ 0 → B.ok k ∧ (k < w'.heap.size ∧ B.hi ≤ w'.heap.size) := by
  intro k hk
  have hp := (h.own m.p (by rw [h.k3]; decide)).2.2
  unfold paint at hk
  split at hk
  · rename_i h1
    have h2 := h.own k h1
    exact ⟨h2.1, own_le h2.2 hs⟩
  · split at hk
    · rename_i h2
      exact ⟨⟨Nat.le_trans hB h2.1, fun hx => by have := B.lt k hx; omega⟩, h2.2, Nat.le_trans hp hs⟩
    · exact absurd rfl hk
theorem LinkAt.pure {w w' : World} {B : Base} {col : Nat → Nat} {m : Lm} (h : LinkAt w B col m) (hc : Chg Pure' w w') : LinkAt w' B col m := by
  have s := h.stays (col' := col) (fun _ => False) hc (fun k _ hk => hk.elim) (fun h => h) (fun _ _ => rfl)
  exact ⟨fun k hk => ⟨(h.own k hk).1, own_le (h.own k hk).2 hc.size⟩, s.lk (fun h => h), s.nbk (fun h => h), s.n0 (fun h => h), s.n1 (fun h => h), s.snd (fun h => h), s.rcv (fun h => h), s.gr0 (fun h => h), s.gr1 (fun h => h), s.k3, s.k4, s.k5, s.k6, s.k1, s.k2, h.l0, h.l1, h.now⟩
theorem LinkAt.base_le {w : World} {B : Base} {col : Nat → Nat} {m : Lm} (h : LinkAt w B col m) : (B : Nat) ≤ w.heap.size := by
  have h1 := h.own m.p (by rw [h.k3]; decide)
  exact Nat.le_trans h1.1.1 (Nat.le_of_lt h1.2.1)
theorem LinkAt.ok_new {w : World} {B : Base} {col : Nat → Nat} {m : Lm} (h : LinkAt w B col m) {k : Nat} (hk : w.heap.size ≤ k) : B.ok k := by
  have h1 := h.own m.p (by rw [h.k3]; decide)
  exact ⟨Nat.le_trans h.base_le hk, fun hx => by have := B.lt k hx; omega⟩
theorem lok_any {w : World} {B : Base} {col : Nat → Nat} {m : Lm} (h : LinkAt w B col m) :
    Calls Try.prog 52 #[.pointer (some ⟨m.p, 0, none⟩)] w fun e w' => e = .returned (.bool true) ∧ w = w' := by
  have x3 := h.lk.c3
  clear h
  go_enter Try.func52, Try.ntmps52
  go_wp2
  go_ret
  exact ⟨rfl, rfl⟩
end Go.Proofs.Ytnpkpfcljkekfaa
namespace Go.Proofs.Ytnpkpfcljkekfaa
open Go Go.RowKit
set_option linter.unusedVariables false
set_option maxRecDepth 100000
set_option linter.unusedSimpArgs false

/-- What a link is, in plain words. -/
structure Lp where
  token : UInt64
  now : Nat
  epoch : Nat
  W : Nat
  T : Nat
  base : Nat
  lim : Nat
  cnt : Nat
  Ls : List Ld
  L : List (Option (List UInt8))
  G0 : List (List UInt8 × Bool)
  G1 : List (List UInt8 × Bool)
  sent : Nat
  got : Nat
def Lm.pl (m : Lm) : Lp := ⟨m.token, m.now, m.epoch, m.W, m.T, m.base, m.lim, m.cnt, m.Ls, m.L, m.G0.map fun g => (g.xs, g.sp), m.G1.map fun g => (g.xs, g.sp), m.sent, m.got⟩
/-- A link at p, of the caller's own from B on, that is s. -/
def LinkIn (w : World) (B : Base) (p : Nat) (s : Lp) : Prop := ∃ m col, m.p = p ∧ m.pl = s ∧ LinkAt w B col m
/-- Blocks that are none of the link's stay apart. -/
theorem LinkIn.apart {w w' : World} {B : Base} {p : Nat} {s : Lp} (h : LinkIn w B p s) (hc : Chg Pure' w w') :
    LinkIn w' ⟨B.n, fun k => B.X k ∨ (w.heap.size ≤ k ∧ k < w'.heap.size), w'.heap.size, fun k hk => by
      obtain ⟨m, col, -, -, h⟩ := h
      have h1 := (h.own m.p (by rw [h.k3]; decide)).2.2
      have h2 := hc.size
      rcases hk with hk | hk
      · have := B.lt k hk; omega
      · exact hk.2⟩ p s := by
  obtain ⟨m, col, hp, hs, h⟩ := h
  have g := h.pure hc
  refine ⟨m, col, hp, hs, ⟨fun k hk => ?_, g.lk, g.nbk, g.n0, g.n1, g.snd, g.rcv, ⟨g.gr0.row, g.gr0.cv, g.gr0.ds⟩, ⟨g.gr1.row, g.gr1.cv, g.gr1.ds⟩, g.k3, g.k4, g.k5, g.k6, g.k1, g.k2, g.l0, g.l1, g.now⟩⟩
  have h1 := h.own k hk
  refine ⟨⟨h1.1.1, fun hx => ?_⟩, (g.own k hk).2.1, Nat.le_refl _⟩
  rcases hx with hx | hx
  · exact h1.1.2 hx
  · omega
/-- Blocks that are apart may be written. -/
theorem LinkIn.write {S : Nat → Prop} {w w' : World} {B : Base} {p : Nat} {s : Lp} (h : LinkIn w B p s) (hc : Chg S w w') (hS : ∀ k, S k → B.X k) : LinkIn w' B p s := by
  obtain ⟨m, col, hp, hs, h⟩ := h
  have st := h.stays (col' := col) (fun c => c = 0) hc (fun k _ hk => by
    apply Classical.byContradiction
    intro h0
    exact (h.own k h0).1.2 (hS k hk)) (by decide) (fun _ _ => rfl)
  exact ⟨m, col, hp, hs, ⟨fun k hk => ⟨(h.own k hk).1, own_le (h.own k hk).2 hc.size⟩, st.lk (by decide), st.nbk (by decide), st.n0 (by decide), st.n1 (by decide), st.snd (by decide), st.rcv (by decide), st.gr0 (by decide), st.gr1 (by decide), st.k3, st.k4, st.k5, st.k6, st.k1, st.k2, h.l0, h.l1, h.now⟩⟩
theorem LinkIn.pure {w w' : World} {B : Base} {p : Nat} {s : Lp} (h : LinkIn w B p s) (hc : Chg Pure' w w') : LinkIn w' B p s := by
  obtain ⟨m, col, h1, h2, h3⟩ := h
  exact ⟨m, col, h1, h2, h3.pure hc⟩
def newL (W : Nat) (token : UInt64) : Lp := ⟨token, 0, 1, W, 0, 1, W, 0, [], List.replicate W none, [], [], 0, 0⟩
theorem lnew_bad (W : Int) (token : UInt64) (w : World) (h : W < 1 ∨ 32 < W) :
    Calls Try.prog 16 #[.int .i64 W, .int .u64 (token.toNat : Int)] w fun e w' => e = .returned (.tuple #[.pointer none, .int .i64 1]) ∧ w = w' := by
  have H := Lib.hid (new_bad W w h)
  clear h
  go_enter Try.func16, Try.ntmps16
  go_wp2_with (fail)
  refine H.out.mono ?_
  rintro e w1 ⟨rfl, rfl⟩
  go_wp2
  go_ret2
  exact ⟨rfl, rfl⟩
theorem zero_link (w : World) : (zeroValue 60).run Try.prog w = .ok (.agg #[.int .u64 0, .int .i64 0, .int .i64 0, .pointer none, .pointer none, .slice none 0 0, .int .i64 0, .int .i64 0]) w := by kernel_rfl
theorem zero_net (w : World) : (zeroValue 95).run Try.prog w = .ok (.agg #[.slice none 0 0, .int .i64 0, .nilFunc]) w := by kernel_rfl
set_option maxHeartbeats 4000000 in
theorem lnew_ok (W : Nat) (token : UInt64) (w : World) (h1 : 1 ≤ W) (h2 : W ≤ 32) :
    Calls Try.prog 16 #[.int .i64 W, .int .u64 (token.toNat : Int)] w fun e w' => ∃ p, e = .returned (.tuple #[.pointer (some ⟨p, 0, none⟩), .int .i64 0]) ∧ LinkIn w' (.of w.heap.size) p (newL W token) ∧ Chg Pure' w w' := by
  have hz := zero_link
  have hz2 := zero_net
  have H := Lib.hid (new_ok W w h1 h2)
  go_enter Try.func16, Try.ntmps16
  go_wp2_with (fail)
  refine H.out.mono ?_
  rintro e w1 ⟨rfl, c1, hr1⟩
  have H1 := Lib.hid (snew_ok W w1 h1 h2)
  have C1 := Lib.hid c1
  have R1 := Lib.hid hr1
  clear H c1 hr1
  go_wp2_with (fail)
  refine H1.out.mono ?_
  rintro e w2 ⟨rfl, c2, hs2⟩
  have C2 := Lib.hid (C1.out.pure c2)
  have R2 := Lib.hid (R1.out.pure c2)
  have hack := sack_any hs2 0 0 (W : Int)
  have e0 : ackOf 1 0 [] 0 0 (W : Int) = (0, 1, W, []) := by
    unfold ackOf
    rw [if_pos ⟨by decide, by simp, by omega, by omega⟩]
    simp [doneN]
  rw [e0] at hack
  have HA := Lib.hid hack
  have hsz := c2.size
  have hs1 := C1.out.size
  have hrp : w.heap.size < w1.heap.size := R1.out.lt _ R1.out.own
  clear hack hs2 H1 C1 R1 c2 e0
  go_wp2_with (fail)
  refine HA.out.mono ?_
  rintro e w3 ⟨rfl, c3, hs3⟩
  have e1 : ∀ k, Foot (w1.heap.size + 1) w1.heap.size (fun _ => 0) (fun _ => False) 1 ([] : List Ld).length k → k = w1.heap.size + 1 ∨ k = w1.heap.size := by
    rintro k (rfl | rfl | ⟨i, hi, _⟩ | h)
    · exact .inl rfl
    · exact .inr rfl
    · simp at hi
    · exact h.elim
  have C3 := Lib.hid (C2.out.trans c3 (fun i hi e => by rcases e1 i e with rfl | rfl <;> omega))
  have R3 := Lib.hid (R2.out.frame c3 (fun k (hk : k = w.heap.size) e => by rcases e1 k e with h | h <;> omega))
  have S3 := Lib.hid hs3
  have E1 := Lib.hid e1
  have hp3 : w1.heap.size + 1 < w3.heap.size := S3.out.plt
  clear hs3 c3 HA C2 R2 e1
  generalize hbn : w.heap.size = rp at *
  generalize w1.heap.size = sb at *
  go_wp2_with (fail)
  go_ret2
  refine ⟨w3.heap.size, rfl, ?_, ?_⟩
  · obtain ⟨w4, h4⟩ : ∃ w4, w3.alloc (.cells #[.int .u64 (token.toNat : Int), .int .i64 0, .int .i64 1, .pointer (some ⟨sb + 1, 0, none⟩), .pointer (some ⟨rp, 0, none⟩), .slice (some ⟨w3.heap.size + 1 + 1 + 1, 0, none⟩) 2 2, .int .i64 0, .int .i64 0] 60) = w4 := ⟨_, rfl⟩
    obtain ⟨w5, h5⟩ : ∃ w5, w4.alloc (.cells #[.slice none 0 0, .int .i64 1, .func (.func 50) #[.pointer (some ⟨w3.heap.size, 0, none⟩)] #[]] 95) = w5 := ⟨_, rfl⟩
    obtain ⟨w6, h6⟩ : ∃ w6, w5.alloc (.cells #[.slice none 0 0, .int .i64 2, .func (.func 51) #[.pointer (some ⟨w3.heap.size, 0, none⟩)] #[]] 95) = w6 := ⟨_, rfl⟩
    obtain ⟨w7, h7⟩ : ∃ w7, w6.alloc (.cells #[.pointer (some ⟨w3.heap.size + 1, 0, none⟩), .pointer (some ⟨w3.heap.size + 1 + 1, 0, none⟩)] 91) = w7 := ⟨_, rfl⟩
    have z4 : w4.heap.size = w3.heap.size + 1 := by rw [← h4]; simp
    have z5 : w5.heap.size = w3.heap.size + 2 := by rw [← h5]; simp [z4]
    have z6 : w6.heap.size = w3.heap.size + 3 := by rw [← h6]; simp [z5]
    have z7 : w7.heap.size = w3.heap.size + 4 := by rw [← h7]; simp [z6]
    have c4 : Chg Pure' w3 w4 := by rw [← h4]; exact (Chg.refl _ _).alloc _
    have c5 : Chg Pure' w4 w5 := by rw [← h5]; exact (Chg.refl _ _).alloc _
    have c6 : Chg Pure' w5 w6 := by rw [← h6]; exact (Chg.refl _ _).alloc _
    have c7 : Chg Pure' w6 w7 := by rw [← h7]; exact (Chg.refl _ _).alloc _
    have cA := (c5.pure c6).pure c7
    have cB := c6.pure c7
    have l4 := fun j => cellAt_alloc_lit w3 #[.int .u64 (token.toNat : Int), .int .i64 0, .int .i64 1, .pointer (some ⟨sb + 1, 0, none⟩), .pointer (some ⟨rp, 0, none⟩), .slice (some ⟨w3.heap.size + 1 + 1 + 1, 0, none⟩) 2 2, .int .i64 0, .int .i64 0] 60 j
    have b4 := heap_alloc_new w3 (.cells #[.int .u64 (token.toNat : Int), .int .i64 0, .int .i64 1, .pointer (some ⟨sb + 1, 0, none⟩), .pointer (some ⟨rp, 0, none⟩), .slice (some ⟨w3.heap.size + 1 + 1 + 1, 0, none⟩) 2 2, .int .i64 0, .int .i64 0] 60)
    have l5 := fun j => cellAt_alloc_lit w4 #[.slice none 0 0, .int .i64 1, .func (.func 50) #[.pointer (some ⟨w3.heap.size, 0, none⟩)] #[]] 95 j
    have b5 := heap_alloc_new w4 (.cells #[.slice none 0 0, .int .i64 1, .func (.func 50) #[.pointer (some ⟨w3.heap.size, 0, none⟩)] #[]] 95)
    have l6 := fun j => cellAt_alloc_lit w5 #[.slice none 0 0, .int .i64 2, .func (.func 51) #[.pointer (some ⟨w3.heap.size, 0, none⟩)] #[]] 95 j
    have b6 := heap_alloc_new w5 (.cells #[.slice none 0 0, .int .i64 2, .func (.func 51) #[.pointer (some ⟨w3.heap.size, 0, none⟩)] #[]] 95)
    have l7 := fun j => cellAt_alloc_lit w6 #[.pointer (some ⟨w3.heap.size + 1, 0, none⟩), .pointer (some ⟨w3.heap.size + 1 + 1, 0, none⟩)] 91 j
    rw [h4] at l4 b4
    rw [h5, z4] at l5 b5
    rw [h6, z5] at l6 b6
    rw [h7, z6] at l7
    rw [h4, h5, h6, h7]
    clear h4 h5 h6 h7
    have hp := hp3
    obtain ⟨P, hP⟩ : ∃ P, w3.heap.size = P := ⟨_, rfl⟩
    rw [hP] at l4 l5 l6 l7 b4 b5 b6 z4 z5 z6 z7 hp ⊢
    have S7 := S3.out.pure ((c4.pure c5).pure cB)
    have R7 := R3.out.pure ((c4.pure c5).pure cB)
    have cC := c4.pure (c5.pure cB)
    refine ⟨⟨P, sb + 1, sb, rp, P + 3, P + 1, P + 2, fun _ => 0, fun _ => False, fun k => k = rp, .slice none 0 0, .slice none 0 0, token, 0, 1, W, 0, 1, W, 0, [], List.replicate W none, [], [], 0, 0⟩,
      fun k => if k = rp then 2 else if k = sb + 1 ∨ k = sb then 1 else if k = P then 3 else if k = P + 3 then 4 else if k = P + 1 then 5 else if k = P + 2 then 6 else 0, rfl, rfl, ?_⟩
    refine ⟨?_, ?_, ?_, ?_, ?_, S7, R7, ⟨World.ownsRow_nil _ _ _ _, (fun g hg => by cases hg), (fun g hg => by cases hg)⟩, ⟨World.ownsRow_nil _ _ _ _, (fun g hg => by cases hg), (fun g hg => by cases hg)⟩, ?_, ?_, ?_, ?_, ?_, ?_, Nat.zero_le _, Nat.zero_le _, Nat.zero_le _⟩
    · intro k hk
      have hk : (if k = rp then 2 else if k = sb + 1 ∨ k = sb then 1 else if k = P then 3 else if k = P + 3 then 4 else if k = P + 1 then 5 else if k = P + 2 then 6 else 0) ≠ 0 := hk
      have : k = rp ∨ k = sb + 1 ∨ k = sb ∨ k = P ∨ k = P + 3 ∨ k = P + 1 ∨ k = P + 2 := by
        apply Classical.byContradiction
        intro hn
        rw [if_neg (by omega), if_neg (by omega), if_neg (by omega), if_neg (by omega), if_neg (by omega), if_neg (by omega)] at hk
        exact hk rfl
      exact ⟨Base.of_ok (by omega), by omega, Nat.zero_le _⟩
    · exact ⟨⟨_, (cA.block P (by omega) (fun h => h)).trans b4, rfl⟩, cA.cell (l4 0) (fun h => h), cA.cell (l4 1) (fun h => h), cA.cell (l4 2) (fun h => h), cA.cell (l4 3) (fun h => h), cA.cell (l4 4) (fun h => h), cA.cell (l4 5) (fun h => h), cA.cell (l4 6) (fun h => h), cA.cell (l4 7) (fun h => h)⟩
    · exact ⟨l7 0, l7 1⟩
    · exact ⟨⟨_, (cB.block (P + 1) (by omega) (fun h => h)).trans b5, rfl⟩, cB.cell (l5 0) (fun h => h), cB.cell (l5 1) (fun h => h), cB.cell (l5 2) (fun h => h)⟩
    · exact ⟨⟨_, (c7.block (P + 2) (by omega) (fun h => h)).trans b6, rfl⟩, c7.cell (l6 0) (fun h => h), c7.cell (l6 1) (fun h => h), c7.cell (l6 2) (fun h => h)⟩
    · show (if P = rp then 2 else if P = sb + 1 ∨ P = sb then 1 else if P = P then 3 else _) = 3
      rw [if_neg (by omega), if_neg (by omega), if_pos rfl]
    · show (if P + 3 = rp then 2 else if P + 3 = sb + 1 ∨ P + 3 = sb then 1 else if P + 3 = P then 3 else if P + 3 = P + 3 then 4 else _) = 4
      rw [if_neg (by omega), if_neg (by omega), if_neg (by omega), if_pos rfl]
    · show (if P + 1 = rp then 2 else if P + 1 = sb + 1 ∨ P + 1 = sb then 1 else if P + 1 = P then 3 else if P + 1 = P + 3 then 4 else if P + 1 = P + 1 then 5 else _) = 5
      rw [if_neg (by omega), if_neg (by omega), if_neg (by omega), if_neg (by omega), if_pos rfl]
    · show (if P + 2 = rp then 2 else if P + 2 = sb + 1 ∨ P + 2 = sb then 1 else if P + 2 = P then 3 else if P + 2 = P + 3 then 4 else if P + 2 = P + 1 then 5 else if P + 2 = P + 2 then 6 else _) = 6
      rw [if_neg (by omega), if_neg (by omega), if_neg (by omega), if_neg (by omega), if_neg (by omega), if_pos rfl]
    · intro k hk
      have := E1.out k hk
      show (if k = rp then 2 else if k = sb + 1 ∨ k = sb then 1 else _) = 1
      rw [if_neg (by omega), if_pos this]
    · intro k hk
      show (if k = rp then 2 else _) = 2
      rw [if_pos hk]
  · exact (((C3.out.alloc _).alloc _).alloc _).alloc _
end Go.Proofs.Ytnpkpfcljkekfaa
namespace Go.Proofs.Ytnpkpfcljkekfaa
open Go Go.RowKit
set_option linter.unusedVariables false
set_option maxRecDepth 100000
set_option linter.unusedSimpArgs false

theorem LkBlk.of {w : World} {m m' : Lm} (h : LkBlk w m) (e0 : m'.p = m.p) (e1 : m'.token = m.token) (e2 : m'.now = m.now) (e3 : m'.epoch = m.epoch) (e4 : m'.sp = m.sp) (e5 : m'.rp = m.rp) (e6 : m'.nb = m.nb) (e7 : m'.sent = m.sent) (e8 : m'.got = m.got) : LkBlk w m' := by
  obtain ⟨a, b0, b1, b2, b3, b4, b5, b6, b7⟩ := h
  refine ⟨?_, ?_, ?_, ?_, ?_, ?_, ?_, ?_, ?_⟩
  · rw [e0]; exact a
  · rw [e0, e1]; exact b0
  · rw [e0, e2]; exact b1
  · rw [e0, e3]; exact b2
  · rw [e0, e4]; exact b3
  · rw [e0, e5]; exact b4
  · rw [e0, e6]; exact b5
  · rw [e0, e7]; exact b6
  · rw [e0, e8]; exact b7
theorem NbBlk.of {w : World} {m m' : Lm} (h : NbBlk w m) (e0 : m'.nb = m.nb) (e1 : m'.g0 = m.g0) (e2 : m'.g1 = m.g1) : NbBlk w m' := ⟨by rw [e0, e1]; exact h.c0, by rw [e0, e2]; exact h.c1⟩
theorem LinkAt.sender {S : Nat → Prop} {w w' : World} {B : Base} {col : Nat → Nat} {m : Lm} {adr : Nat → Nat} {D : Nat → Prop} {base lim cnt : Nat} {Ls : List Ld} (h : LinkAt w B col m) (hc : Chg S w w') (hS : ∀ k, S k → Foot m.sp m.sb m.adr m.D m.base m.Ls.length k ∨ w.heap.size ≤ k)
    (hs : SendAt w' m.sp m.sb adr D m.W base lim Ls cnt) (hf : ∀ k, Foot m.sp m.sb adr D base Ls.length k → Foot m.sp m.sb m.adr m.D m.base m.Ls.length k ∨ w.heap.size ≤ k) :
    LinkAt w' B (paint col w.heap.size w'.heap.size 1) { m with adr := adr, D := D, base := base, lim := lim, cnt := cnt, Ls := Ls } := by
  have s := h.stays (col' := paint col w.heap.size w'.heap.size 1) (fun c => c = 1) hc (fun k hk hs => (hS k hs).elim (h.k1 k) (fun h => by omega)) (by decide) (fun k hk => paint_old _ _ _ _ _ hk)
  refine ⟨paint_own h 1 h.base_le hc.size, (s.lk (by decide)).of rfl rfl rfl rfl rfl rfl rfl rfl rfl, (s.nbk (by decide)).of rfl rfl rfl, s.n0 (by decide), s.n1 (by decide), hs, s.rcv (by decide), s.gr0 (by decide), s.gr1 (by decide), s.k3, s.k4, s.k5, s.k6, ?_, s.k2, h.l0, h.l1, h.now⟩
  intro k hk
  rcases hf k hk with h1 | h1
  · rw [paint_old _ _ _ _ _ (by rw [h.k1 k h1]; decide), h.k1 k h1]
  · exact paint_new h _ 1 k h1 (hs.foot_lt k hk)
theorem LinkAt.receiver {S : Nat → Prop} {w w' : World} {B : Base} {col : Nat → Nat} {m : Lm} {F : Nat → Prop} {T : Nat} {L : List (Option (List UInt8))} (h : LinkAt w B col m) (hc : Chg S w w') (hS : ∀ k, S k → k = m.rp) (hr : RecvAt w' F m.rp m.W T L) (hf : ∀ k, F k → m.F k ∨ w.heap.size ≤ k) :
    LinkAt w' B (paint col w.heap.size w'.heap.size 2) { m with F := F, T := T, L := L } := by
  have s := h.stays (col' := paint col w.heap.size w'.heap.size 2) (fun c => c = 2) hc (fun k hk hs => by rw [hS k hs]; exact h.k2 _ h.rcv.own) (by decide) (fun k hk => paint_old _ _ _ _ _ hk)
  refine ⟨paint_own h 2 h.base_le hc.size, (s.lk (by decide)).of rfl rfl rfl rfl rfl rfl rfl rfl rfl, (s.nbk (by decide)).of rfl rfl rfl, s.n0 (by decide), s.n1 (by decide), s.snd (by decide), hr, s.gr0 (by decide), s.gr1 (by decide), s.k3, s.k4, s.k5, s.k6, s.k1, ?_, h.l0, h.l1, h.now⟩
  intro k hk
  rcases hf k hk with h1 | h1
  · rw [paint_old _ _ _ _ _ (by rw [h.k2 k h1]; decide), h.k2 k h1]
  · exact paint_new h _ 2 k h1 (hr.lt k hk)
/-- A cell of the link's own is written. -/
theorem LinkAt.lcell {w : World} {B : Base} {col : Nat → Nat} {m : Lm} (h : LinkAt w B col m) (j : Nat) (u : Value) (now epoch sent got : Nat) (hn : now ≤ 1099511627776)
    (hl : LkBlk (w.setCell ⟨m.p, j, none⟩ u) { m with now := now, epoch := epoch, sent := sent, got := got }) :
    LinkAt (w.setCell ⟨m.p, j, none⟩ u) B col { m with now := now, epoch := epoch, sent := sent, got := got } ∧ Chg (fun k => k = m.p) w (w.setCell ⟨m.p, j, none⟩ u) := by
  have hc : Chg (fun k => k = m.p) w (w.setCell ⟨m.p, j, none⟩ u) := Chg.setCell (S := fun k => k = m.p) (Chg.refl _ w) (p := ⟨m.p, j, none⟩) (.inr rfl) u
  have s := h.stays (col' := col) (fun c => c = 3) hc (fun k hk hs => by rw [hs]; exact h.k3) (by decide) (fun k hk => rfl)
  exact ⟨⟨fun k hk => ⟨(h.own k hk).1, own_le (h.own k hk).2 hc.size⟩, hl, (s.nbk (by decide)).of rfl rfl rfl, s.n0 (by decide), s.n1 (by decide), s.snd (by decide), s.rcv (by decide), s.gr0 (by decide), s.gr1 (by decide), s.k3, s.k4, s.k5, s.k6, s.k1, s.k2, h.l0, h.l1, hn⟩, hc⟩
theorem LkBlk.got {w : World} {m : Lm} (h : LkBlk w m) (g : Nat) (v : Int) (hv : v = (g : Int)) : LkBlk (w.setCell ⟨m.p, 7, none⟩ (.int .i64 v)) { m with now := m.now, epoch := m.epoch, sent := m.sent, got := g } := by
  subst hv
  obtain ⟨cs, h1, h2⟩ := h.blk
  exact ⟨⟨_, heap_setCell_same w m.p 7 _ _ _ h1, by simpa using h2⟩, (set_far (by decide)).trans h.c0, (set_far (by decide)).trans h.c1, (set_far (by decide)).trans h.c2, (set_far (by decide)).trans h.c3, (set_far (by decide)).trans h.c4, (set_far (by decide)).trans h.c5, (set_far (by decide)).trans h.c6, set_at h.c7⟩
theorem LkBlk.sent {w : World} {m : Lm} (h : LkBlk w m) (g : Nat) (v : Int) (hv : v = (g : Int)) : LkBlk (w.setCell ⟨m.p, 6, none⟩ (.int .i64 v)) { m with now := m.now, epoch := m.epoch, sent := g, got := m.got } := by
  subst hv
  obtain ⟨cs, h1, h2⟩ := h.blk
  exact ⟨⟨_, heap_setCell_same w m.p 6 _ _ _ h1, by simpa using h2⟩, (set_far (by decide)).trans h.c0, (set_far (by decide)).trans h.c1, (set_far (by decide)).trans h.c2, (set_far (by decide)).trans h.c3, (set_far (by decide)).trans h.c4, (set_far (by decide)).trans h.c5, set_at h.c6, (set_far (by decide)).trans h.c7⟩
theorem LkBlk.tick {w : World} {m : Lm} (h : LkBlk w m) (g : Nat) (v : Int) (hv : v = (g : Int)) : LkBlk (w.setCell ⟨m.p, 1, none⟩ (.int .i64 v)) { m with now := g, epoch := m.epoch, sent := m.sent, got := m.got } := by
  subst hv
  obtain ⟨cs, h1, h2⟩ := h.blk
  exact ⟨⟨_, heap_setCell_same w m.p 1 _ _ _ h1, by simpa using h2⟩, (set_far (by decide)).trans h.c0, set_at h.c1, (set_far (by decide)).trans h.c2, (set_far (by decide)).trans h.c3, (set_far (by decide)).trans h.c4, (set_far (by decide)).trans h.c5, (set_far (by decide)).trans h.c6, (set_far (by decide)).trans h.c7⟩
theorem LkBlk.era {w : World} {m : Lm} (h : LkBlk w m) (g : Nat) (v : Int) (hv : v = (g : Int)) : LkBlk (w.setCell ⟨m.p, 2, none⟩ (.int .i64 v)) { m with now := m.now, epoch := g, sent := m.sent, got := m.got } := by
  subst hv
  obtain ⟨cs, h1, h2⟩ := h.blk
  exact ⟨⟨_, heap_setCell_same w m.p 2 _ _ _ h1, by simpa using h2⟩, (set_far (by decide)).trans h.c0, (set_far (by decide)).trans h.c1, set_at h.c2, (set_far (by decide)).trans h.c3, (set_far (by decide)).trans h.c4, (set_far (by decide)).trans h.c5, (set_far (by decide)).trans h.c6, (set_far (by decide)).trans h.c7⟩
theorem lsent_any {w : World} {B : Base} {p : Nat} {s : Lp} (h : LinkIn w B p s) :
    Calls Try.prog 18 #[.pointer (some ⟨p, 0, none⟩)] w fun e w' => e = .returned (.int .i64 (s.sent : Nat)) ∧ w = w' := by
  obtain ⟨m, col, rfl, rfl, h⟩ := h
  have x6 := h.lk.c6
  have H := Lib.hid (lok_any h)
  have HS := Lib.hid (show m.pl.sent = m.sent from rfl)
  clear h
  go_enter Try.func18, Try.ntmps18
  go_wp2_with (fail)
  refine H.out.mono ?_
  rintro e w1 ⟨rfl, rfl⟩
  go_wp2
  go_ret
  exact ⟨rfl, rfl⟩
theorem lgot_any {w : World} {B : Base} {p : Nat} {s : Lp} (h : LinkIn w B p s) :
    Calls Try.prog 19 #[.pointer (some ⟨p, 0, none⟩)] w fun e w' => e = .returned (.int .i64 (s.got : Nat)) ∧ w = w' := by
  obtain ⟨m, col, rfl, rfl, h⟩ := h
  have x7 := h.lk.c7
  have H := Lib.hid (lok_any h)
  clear h
  go_enter Try.func19, Try.ntmps19
  go_wp2_with (fail)
  refine H.out.mono ?_
  rintro e w1 ⟨rfl, rfl⟩
  go_wp2
  go_ret
  exact ⟨rfl, rfl⟩
theorem lway0 {w : World} {B : Base} {p : Nat} {s : Lp} (h : LinkIn w B p s) :
    Calls Try.prog 20 #[.pointer (some ⟨p, 0, none⟩), .int .i64 0] w fun e w' => e = .returned (.int .i64 (s.G0.length : Nat)) ∧ w = w' := by
  obtain ⟨m, col, rfl, rfl, h⟩ := h
  have x5 := h.lk.c5
  have y0 := h.nbk.c0
  have y1 := h.n0.c0
  obtain ⟨V, q, hv, -⟩ := own_slice h.gr0.row
  rw [hv] at y1
  have hl : m.pl.G0.length = m.G0.length := by simp [Lm.pl]
  rw [hl]
  have H := Lib.hid (lok_any h)
  clear h hl
  generalize m.G0.length = n at *
  go_enter Try.func20, Try.ntmps20
  go_wp2_with (fail)
  refine H.out.mono ?_
  rintro e w1 ⟨rfl, rfl⟩
  go_wp2
  go_ret
  exact ⟨rfl, rfl⟩
theorem lway1 {w : World} {B : Base} {p : Nat} {s : Lp} (h : LinkIn w B p s) :
    Calls Try.prog 20 #[.pointer (some ⟨p, 0, none⟩), .int .i64 1] w fun e w' => e = .returned (.int .i64 (s.G1.length : Nat)) ∧ w = w' := by
  obtain ⟨m, col, rfl, rfl, h⟩ := h
  have x5 := h.lk.c5
  have y0 := h.nbk.c1
  have y1 := h.n1.c0
  obtain ⟨V, q, hv, -⟩ := own_slice h.gr1.row
  rw [hv] at y1
  have hl : m.pl.G1.length = m.G1.length := by simp [Lm.pl]
  rw [hl]
  have H := Lib.hid (lok_any h)
  clear h hl
  generalize m.G1.length = n at *
  go_enter Try.func20, Try.ntmps20
  go_wp2_with (fail)
  refine H.out.mono ?_
  rintro e w1 ⟨rfl, rfl⟩
  go_wp2
  go_ret
  exact ⟨rfl, rfl⟩
end Go.Proofs.Ytnpkpfcljkekfaa
namespace Go.Proofs.Ytnpkpfcljkekfaa
open Go Go.RowKit
set_option linter.unusedVariables false
set_option maxRecDepth 100000
set_option linter.unusedSimpArgs false

theorem LinkIn.mk {w : World} {B : Base} {p : Nat} {col : Nat → Nat} {m : Lm} {s : Lp} (h : LinkAt w B col m) (hp : m.p = p) (hs : m.pl = s) : LinkIn w B p s := ⟨m, col, hp, hs, h⟩
def sendL (s : Lp) (xs : List UInt8) : Int × Lp :=
  if 1100 < xs.length then (8, s) else
  ((pushOf s.W s.base s.lim s.Ls xs s.now).1.2, { s with Ls := (pushOf s.W s.base s.lim s.Ls xs s.now).2, cnt := s.cnt + 1, sent := if (pushOf s.W s.base s.lim s.Ls xs s.now).1.2 = 0 then s.sent + 1 else s.sent })
set_option maxHeartbeats 4000000 in
theorem lsend_any {w : World} {B : Base} {p : Nat} {s : Lp} (h : LinkIn w B p s) (A : Option Addr) (n c : Nat) (xs : List UInt8) (hA : Bytes w A n xs) (hn : n ≤ 140737488351232) (hcnt : s.cnt ≤ 4611686018427387904) (hsent : s.sent ≤ 4611686018427387904) :
    Calls Try.prog 24 #[.pointer (some ⟨p, 0, none⟩), .slice A n c] w fun e w' => e = .returned (.int .i64 (sendL s xs).1) ∧ LinkIn w' B p (sendL s xs).2 ∧ Chg (fun k => B.ok k) w w' := by
  have hl := hA.len
  have h0 := h
  obtain ⟨m, col, rfl, rfl, h⟩ := h
  have H := Lib.hid (lok_any h)
  by_cases hbig : 1100 < n
  · have hR : sendL m.pl xs = (8, m.pl) := by unfold sendL; rw [if_pos (by omega)]
    have i1 : (1100 : Int) < (n : Int) := by omega
    rw [hR]
    have H0 := Lib.hid h0
    clear h h0 hA hR hl
    go_enter Try.func24, Try.ntmps24
    go_wp2_with (fail)
    refine H.out.mono ?_
    rintro e w1 ⟨rfl, rfl⟩
    go_wp2
    go_ret
    exact ⟨rfl, H0.out, Chg.refl _ _⟩
  · have hR : sendL m.pl xs = ((pushOf m.W m.base m.lim m.Ls xs m.now).1.2, { m.pl with Ls := (pushOf m.W m.base m.lim m.Ls xs m.now).2, cnt := m.cnt + 1, sent := if (pushOf m.W m.base m.lim m.Ls xs m.now).1.2 = 0 then m.sent + 1 else m.sent }) := by unfold sendL; rw [if_neg (by omega)]; rfl
    have i1 : ((1100 : Int) < (n : Int)) = False := eq_false (by omega)
    rw [hR]
    have hd := h.pure ((Chg.refl Pure' w).drew)
    have HP := Lib.hid (spush_any hd.snd A n c xs (m.now : Int) (hA.pure ((Chg.refl Pure' w).drew)) hn hcnt)
    have HD := Lib.hid hd
    have y3 := hd.lk.c3
    have y1 := hd.lk.c1
    have np : ¬ (m.p = m.sp ∨ m.p = m.sb) := by
      have h3 := h.k3
      rintro (e | e)
      · have := h.k1 m.sp (.inl rfl); rw [← e] at this; omega
      · have := h.k1 m.sb (.inr (.inl rfl)); rw [← e] at this; omega
    have hbw := h.base_le
    obtain ⟨r, hr⟩ : ∃ r, pushOf m.W m.base m.lim m.Ls xs m.now = r := ⟨_, rfl⟩
    rw [hr] at HP ⊢
    have HF := Lib.hid (show m.pl.sent = m.sent from rfl)
    have hsent : m.sent ≤ 4611686018427387904 := hsent
    obtain ⟨⟨r1, r2⟩, r3⟩ := r
    clear h h0 hA hR hl hd hr
    go_enter Try.func24, Try.ntmps24
    go_wp2_with (fail)
    refine H.out.mono ?_
    rintro e w1 ⟨rfl, rfl⟩
    go_wp2_with (fail)
    refine reg_begin (fun k => k = m.sp ∨ k = m.sb) (by kernel_rfl) ?_
    refine reg_take 0 (v := ?_) rfl (by kernel_rfl) (by kernel_rfl) (by kernel_rfl) (fun _ _ _ h => h) (by kernel_rfl) ?_ ?_
    rotate_left
    · (intro w' hS; go_simp; (try go_bits); (try with_reducible rfl))
    try simp only [Act.put, List.getElem_toArray, List.getElem_cons_zero, List.getElem_cons_succ, List.setIfInBounds_toArray, List.set_cons_zero, List.set_cons_succ]
    refine reg_take 1 (v := ?_) rfl (by kernel_rfl) (by kernel_rfl) (by kernel_rfl) (fun _ _ _ h => h) (by kernel_rfl) ?_ ?_
    rotate_left
    · (intro w' hS; go_simp; (try go_bits); (try with_reducible rfl))
    try simp only [Act.put, List.getElem_toArray, List.getElem_cons_zero, List.getElem_cons_succ, List.setIfInBounds_toArray, List.set_cons_zero, List.set_cons_succ]
    refine reg_take 2 (v := ?_) rfl (by kernel_rfl) (by kernel_rfl) (by kernel_rfl) (fun _ _ _ h => h) (by kernel_rfl) ?_ ?_
    rotate_left
    · (intro w' hS; go_simp; (try go_bits); (try with_reducible rfl))
    try simp only [Act.put, List.getElem_toArray, List.getElem_cons_zero, List.getElem_cons_succ, List.setIfInBounds_toArray, List.set_cons_zero, List.set_cons_succ]
    refine reg_take 3 (v := ?_) rfl (by kernel_rfl) (by kernel_rfl) (by kernel_rfl) (fun _ _ _ h => h) (by kernel_rfl) ?_ ?_
    rotate_left
    · (intro w' hS; have hz := hS.cell (w := w.drew) y3 np; go_simp; (try go_bits); (try with_reducible rfl))
    try simp only [Act.put, List.getElem_toArray, List.getElem_cons_zero, List.getElem_cons_succ, List.setIfInBounds_toArray, List.set_cons_zero, List.set_cons_succ]
    refine reg_take 4 (v := ?_) rfl (by kernel_rfl) (by kernel_rfl) (by kernel_rfl) (fun _ _ _ h => h) (by kernel_rfl) ?_ ?_
    rotate_left
    · (intro w' hS; go_simp; (try go_bits); (try with_reducible rfl))
    try simp only [Act.put, List.getElem_toArray, List.getElem_cons_zero, List.getElem_cons_succ, List.setIfInBounds_toArray, List.set_cons_zero, List.set_cons_succ]
    refine reg_take 5 (v := ?_) rfl (by kernel_rfl) (by kernel_rfl) (by kernel_rfl) (fun _ _ _ h => h) (by kernel_rfl) ?_ ?_
    rotate_left
    · (intro w' hS; go_simp; (try go_bits); (try with_reducible rfl))
    try simp only [Act.put, List.getElem_toArray, List.getElem_cons_zero, List.getElem_cons_succ, List.setIfInBounds_toArray, List.set_cons_zero, List.set_cons_succ]
    refine reg_take 6 (v := ?_) rfl (by kernel_rfl) (by kernel_rfl) (by kernel_rfl) (fun _ _ _ h => h) (by kernel_rfl) ?_ ?_
    rotate_left
    · (intro w' hS; go_simp; (try go_bits); (try with_reducible rfl))
    try simp only [Act.put, List.getElem_toArray, List.getElem_cons_zero, List.getElem_cons_succ, List.setIfInBounds_toArray, List.set_cons_zero, List.set_cons_succ]
    refine reg_take 7 (v := ?_) rfl (by kernel_rfl) (by kernel_rfl) (by kernel_rfl) (fun _ _ _ h => h) (by kernel_rfl) ?_ ?_
    rotate_left
    · (intro w' hS; go_simp; (try go_bits); (try with_reducible rfl))
    try simp only [Act.put, List.getElem_toArray, List.getElem_cons_zero, List.getElem_cons_succ, List.setIfInBounds_toArray, List.set_cons_zero, List.set_cons_succ]
    refine reg_take 8 (v := ?_) rfl (by kernel_rfl) (by kernel_rfl) (by kernel_rfl) (fun _ _ _ h => h) (by kernel_rfl) ?_ ?_
    rotate_left
    · (intro w' hS; have hz := hS.cell (w := w.drew) y1 np; go_simp; (try go_bits); (try with_reducible rfl))
    try simp only [Act.put, List.getElem_toArray, List.getElem_cons_zero, List.getElem_cons_succ, List.setIfInBounds_toArray, List.set_cons_zero, List.set_cons_succ]
    refine reg_do 9 rfl (by kernel_rfl) (by kernel_rfl) ?_
    intro K hK
    go_simp
    refine HP.out.mono ?_
    rintro e w2 ⟨rfl, c2, hp⟩
    refine hK _ _ (c2) ?_
    clear hK K
    try simp only [Act.put, List.getElem_toArray, List.getElem_cons_zero, List.getElem_cons_succ, List.setIfInBounds_toArray, List.set_cons_zero, List.set_cons_succ]
    refine reg_take 10 (v := ?_) rfl (by kernel_rfl) (by kernel_rfl) (by kernel_rfl) (fun _ _ _ h => h) (by kernel_rfl) ?_ ?_
    rotate_left
    · (intro w' hS; go_simp; (try go_bits); (try with_reducible rfl))
    try simp only [Act.put, List.getElem_toArray, List.getElem_cons_zero, List.getElem_cons_succ, List.setIfInBounds_toArray, List.set_cons_zero, List.set_cons_succ]
    refine reg_take 11 (v := ?_) rfl (by kernel_rfl) (by kernel_rfl) (by kernel_rfl) (fun _ _ _ h => h) (by kernel_rfl) ?_ ?_
    rotate_left
    · (intro w' hS; go_simp; (try go_bits); (try with_reducible rfl))
    try simp only [Act.put, List.getElem_toArray, List.getElem_cons_zero, List.getElem_cons_succ, List.setIfInBounds_toArray, List.set_cons_zero, List.set_cons_succ]
    refine reg_take 12 (v := ?_) rfl (by kernel_rfl) (by kernel_rfl) (by kernel_rfl) (fun _ _ _ h => h) (by kernel_rfl) ?_ ?_
    rotate_left
    · (intro w' hS; go_simp; (try go_bits); (try with_reducible rfl))
    try simp only [Act.put, List.getElem_toArray, List.getElem_cons_zero, List.getElem_cons_succ, List.setIfInBounds_toArray, List.set_cons_zero, List.set_cons_succ]
    refine reg_take 13 (v := ?_) rfl (by kernel_rfl) (by kernel_rfl) (by kernel_rfl) (fun _ _ _ h => h) (by kernel_rfl) ?_ ?_
    rotate_left
    · (intro w' hS; go_simp; (try go_bits); (try with_reducible rfl))
    try simp only [Act.put, List.getElem_toArray, List.getElem_cons_zero, List.getElem_cons_succ, List.setIfInBounds_toArray, List.set_cons_zero, List.set_cons_succ]
    refine reg_take 14 (v := ?_) rfl (by kernel_rfl) (by kernel_rfl) (by kernel_rfl) (fun _ _ _ h => h) (by kernel_rfl) ?_ ?_
    rotate_left
    · (intro w' hS; go_simp; (try go_bits); (try with_reducible rfl))
    try simp only [Act.put, List.getElem_toArray, List.getElem_cons_zero, List.getElem_cons_succ, List.setIfInBounds_toArray, List.set_cons_zero, List.set_cons_succ]
    refine wpAnyH_done (by kernel_rfl) ?_ _
    obtain ⟨adr', D', hs2, hf2⟩ := hp
    have hL2 := HD.out.sender c2 (fun k hk => hk.elim (fun e => .inl (.inl e)) (fun e => .inl (.inr (.inl e)))) hs2 hf2
    have C2 : Chg (fun k => B.ok k) w w2 := ((Chg.refl Pure' w).drew).of_pure.trans' (c2.mono (fun k _ hk => by
      rcases hk with rfl | rfl
      · exact (HD.out.own _ (by rw [HD.out.k1 _ (.inl rfl)]; decide)).1
      · exact (HD.out.own _ (by rw [HD.out.k1 _ (.inr (.inl rfl))]; decide)).1))
    have HL2 := Lib.hid hL2
    clear hL2 hs2 hf2 c2 HP y1 y3 H
    by_cases h0 : r2 = 0
    · subst h0
      obtain ⟨hL3, c3⟩ := HL2.out.lcell 6 (.int .i64 ((m.sent : Int) + 1)) m.now m.epoch (m.sent + 1) m.got HL2.out.now (HL2.out.lk.sent (m.sent + 1) _ (by omega))
      obtain ⟨cs, hb1, hb2⟩ := HL2.out.lk.blk
      have y6 := HL2.out.lk.c6
      have f6 : w2.frozen? ⟨m.p, 6, none⟩ = false := free_at hb1
      have hpB : B.ok m.p := (HD.out.own m.p (by rw [HD.out.k3]; decide)).1
      have HL3 := Lib.hid hL3
      have C3 := C2.trans' (c3.mono (fun k _ (e : k = m.p) => by rw [e]; exact hpB))
      clear hL3 c3 hb1 hb2 C2 HL2 HD
      go_wp2
      go_ret
      exact ⟨rfl, LinkIn.mk HL3.out rfl rfl, C3⟩
    · have i2 : (r2 == 0) = false := by rw [beq_eq_false_iff_ne]; exact h0
      have i3 : (r2 = 0) = False := eq_false h0
      have HN := Lib.hid h0
      clear HD h0
      go_wp2
      go_ret
      exact ⟨rfl, LinkIn.mk HL2.out rfl (by unfold Lm.pl; first | rfl | (simp only; rw [if_neg HN.out])), C2⟩
def pollL (s : Lp) : Option (List UInt8) × Lp :=
  match s.L with
  | some xs :: L => (some xs, { s with T := s.T + 1, L := L ++ [none], got := s.got + 1 })
  | _ => (none, s)
/-- What Poll answers. -/
def pollPost (w : World) (B : Base) (p : Nat) (s : Lp) (e : Ending) (w' : World) : Prop :=
  LinkIn w' B p (pollL s).2 ∧ Chg (fun k => B.ok k) w w' ∧ match (pollL s).1 with
    | none => e = .returned (.tuple #[.slice none 0 0, .bool false])
    | some xs => ∃ A n c, e = .returned (.tuple #[.slice A n c, .bool true]) ∧ n ≤ c ∧ n ≤ 1200 ∧ Bytes w' A n xs
theorem lpoll_any {w : World} {B : Base} {p : Nat} {s : Lp} (h : LinkIn w B p s) (hT : s.T ≤ 4611686018427387904) (hgot : s.got ≤ 4611686018427387904) :
    Calls Try.prog 27 #[.pointer (some ⟨p, 0, none⟩)] w (pollPost w B p s) := by
  have h0 := h
  obtain ⟨m, col, rfl, rfl, h⟩ := h
  have H := Lib.hid (lok_any h)
  have y4 := h.lk.c4
  have hlen := h.rcv.len
  have hw1 := h.rcv.w1
  have hT : m.T ≤ 4611686018427387904 := hT
  have hgot : m.got ≤ 4611686018427387904 := hgot
  have hrcv := h.rcv
  cases hL : m.L with
  | nil => rw [hL] at hlen; simp at hlen; omega
  | cons x L =>
    rw [hL] at hrcv
    cases x with
    | none =>
      have hR : pollL m.pl = (none, m.pl) := by unfold pollL; rw [show m.pl.L = none :: L from hL]
      have HR := Lib.hid hR
      have HT := Lib.hid (take_none _ _ _ _ _ _ hrcv hT)
      have H0 := Lib.hid h0
      clear h h0 hrcv hL hlen hR
      go_enter Try.func27, Try.ntmps27
      go_wp2_with (fail)
      refine H.out.mono ?_
      rintro e w1 ⟨rfl, rfl⟩
      go_wp2_with (fail)
      refine HT.out.mono ?_
      rintro e w1 ⟨rfl, rfl⟩
      go_wp2
      go_ret2
      refine ⟨by rw [HR.out]; exact H0.out, Chg.refl _ _, ?_⟩
      rw [HR.out]
      rfl
    | some xs =>
      have hR : pollL m.pl = (some xs, { m.pl with T := m.T + 1, L := L ++ [none], got := m.got + 1 }) := by unfold pollL; rw [show m.pl.L = some xs :: L from hL]; rfl
      have HR := Lib.hid hR
      have HT := Lib.hid (take_some _ _ _ _ _ _ _ hrcv hT)
      have HL := Lib.hid h
      clear h h0 hrcv hL hlen hR
      go_enter Try.func27, Try.ntmps27
      go_wp2_with (fail)
      refine H.out.mono ?_
      rintro e w1 ⟨rfl, rfl⟩
      go_wp2_with (fail)
      refine HT.out.mono ?_
      rintro e w2 ⟨A, n, c, rfl, hnc, hn12, hb, hA, c2, hr2⟩
      have hL2 := HL.out.receiver c2 (fun k hk => hk) hr2 (fun k hk => .inl hk)
      have hrB : B.ok m.rp := (HL.out.own m.rp (by rw [HL.out.k2 _ HL.out.rcv.own]; decide)).1
      have hpB : B.ok m.p := (HL.out.own m.p (by rw [HL.out.k3]; decide)).1
      obtain ⟨hL3, c3⟩ := hL2.lcell 7 (.int .i64 ((m.got : Int) + 1)) m.now m.epoch m.sent (m.got + 1) hL2.now (hL2.lk.got (m.got + 1) _ (by omega))
      obtain ⟨cs, hb1, hb2⟩ := hL2.lk.blk
      have y7 := hL2.lk.c7
      have f7 : w2.frozen? ⟨m.p, 7, none⟩ = false := free_at hb1
      have hb3 := hb.chg c3 (fun a ha (e : a.block = m.p) => by
        have h2 := HL.out.k2 _ (hA a ha).1
        have h3 := HL.out.k3
        rw [e] at h2
        omega)
      have C3 : Chg (fun k => B.ok k) w _ := (c2.mono (T := fun k => B.ok k) (fun k _ (e : k = m.rp) => by rw [e]; exact hrB)).trans' (c3.mono (fun k _ (e : k = m.p) => by rw [e]; exact hpB))
      have HL3 := Lib.hid hL3
      have HB3 := Lib.hid hb3
      clear hL3 hL2 hb3 hb c2 c3 hr2 hA HT HL hb1 hb2
      go_wp2
      go_ret2
      refine ⟨by rw [HR.out]; exact LinkIn.mk HL3.out rfl rfl, C3, ?_⟩
      rw [HR.out]
      exact ⟨A, n, c, rfl, hnc, hn12, HB3.out⟩
end Go.Proofs.Ytnpkpfcljkekfaa
