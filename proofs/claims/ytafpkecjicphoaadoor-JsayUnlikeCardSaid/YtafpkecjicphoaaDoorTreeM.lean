/- A tree in memory, and what a row tells of one. -/
import Derived.Test.YtafpkecjicphoaaDoorOpenM
import Derived.Test.YtafpkecjicphoaaDoorTreeP
namespace Go.Proofs.YtafpkecjicphoaaDoor
open Go Go.RowKit Go.ChangeShapes Go.WideShapes
set_option linter.unusedVariables false
set_option linter.unusedSimpArgs false
set_option maxRecDepth 100000

/-- A node's cells. -/
def nodeCells (t : Tn) (Ab : Option Addr) (cb : Nat) (Ak : Option Addr) (ck : Nat) (Ai : Option Addr) (ci : Nat) : Array Value :=
  #[.int .i64 t.kind, .int .u64 (t.n.toNat : Int), .bool t.neg, .string ⟨t.dig.toArray⟩, .int .i64 t.exp, .string ⟨t.text.toArray⟩, .slice Ab t.bytes.length cb, .slice Ak t.keys.length ck, .slice Ai t.kids.length ci]
/-- What a node's plain parts are. -/
structure PartsAt (w : World) (t : Tn) (Ab : Option Addr) (cb ck ci : Nat) : Prop where
  kind : -9223372036854775808 ≤ t.kind ∧ t.kind ≤ 9223372036854775807
  exp : -9223372036854775808 ≤ t.exp ∧ t.exp ≤ 9223372036854775807
  dig : t.dig.length ≤ 140737488351232
  text : t.text.length ≤ 140737488351232
  bytes : Bytes w Ab t.bytes.length t.bytes
  lb : t.bytes.length ≤ 140737488351232
  cb : t.bytes.length ≤ cb
  lk : t.keys.length ≤ 140737488351232
  ck : t.keys.length ≤ ck
  li : t.kids.length ≤ 140737488351232
  ci : t.kids.length ≤ ci
mutual
/-- A node's cells read as a tree. -/
def NodeAt (w : World) (cs : Array Value) : Tn → Prop
  | .mk k n ng dg ex tx bs keys kids => ∃ Ab cb Ak ck Ai ci, cs = nodeCells (.mk k n ng dg ex tx bs keys kids) Ab cb Ak ck Ai ci ∧ PartsAt w (.mk k n ng dg ex tx bs keys kids) Ab cb ck ci ∧ ElemsAt w Ak 0 keys ∧ ElemsAt w Ai 0 kids
/-- A row of nodes, from the j-th on. -/
def ElemsAt (w : World) (A : Option Addr) (j : Nat) : List Tn → Prop
  | [] => True
  | t :: l => (∃ b off cs, A = some ⟨b, off, none⟩ ∧ (∀ i u, cs[i]? = some u → w.cell? ⟨b, off + j * 9 + i, none⟩ = some u) ∧ NodeAt w cs t) ∧ ElemsAt w A (j + 1) l
end
theorem NodeAt.mk {w : World} {t : Tn} {Ab : Option Addr} {cb : Nat} {Ak : Option Addr} {ck : Nat} {Ai : Option Addr} {ci : Nat} (h : PartsAt w t Ab cb ck ci) (hk : ElemsAt w Ak 0 t.keys) (hi : ElemsAt w Ai 0 t.kids) : NodeAt w (nodeCells t Ab cb Ak ck Ai ci) t := by
  cases t
  rw [NodeAt]
  exact ⟨Ab, cb, Ak, ck, Ai, ci, rfl, h, hk, hi⟩
theorem NodeAt.out {w : World} {cs : Array Value} {t : Tn} (h : NodeAt w cs t) : ∃ Ab cb Ak ck Ai ci, cs = nodeCells t Ab cb Ak ck Ai ci ∧ PartsAt w t Ab cb ck ci ∧ ElemsAt w Ak 0 t.keys ∧ ElemsAt w Ai 0 t.kids := by
  cases t
  rw [NodeAt] at h
  exact h
theorem ElemsAt.get {w : World} {A : Option Addr} : ∀ {l : List Tn} {j : Nat}, ElemsAt w A j l → ∀ i (h : i < l.length), ∃ b off cs, A = some ⟨b, off, none⟩ ∧ (∀ k u, cs[k]? = some u → w.cell? ⟨b, off + (j + i) * 9 + k, none⟩ = some u) ∧ NodeAt w cs (l[i]'h)
  | [], j, _, i, h => by simp at h
  | t :: l, j, hl, i, h => by
    rw [ElemsAt] at hl
    cases i with
    | zero => exact hl.1
    | succ i =>
      obtain ⟨b, off, cs, h1, h2, h3⟩ := ElemsAt.get hl.2 i (by simpa using h)
      refine ⟨b, off, cs, h1, fun k u hu => ?_, h3⟩
      rw [show j + (i + 1) = j + 1 + i from by omega]
      exact h2 k u hu
theorem ElemsAt.of {w : World} {A : Option Addr} : ∀ {l : List Tn} {j : Nat}, (∀ i (h : i < l.length), ∃ b off cs, A = some ⟨b, off, none⟩ ∧ (∀ k u, cs[k]? = some u → w.cell? ⟨b, off + (j + i) * 9 + k, none⟩ = some u) ∧ NodeAt w cs (l[i]'h)) → ElemsAt w A j l
  | [], j, _ => by rw [ElemsAt]; trivial
  | t :: l, j, h => by
    rw [ElemsAt]
    refine ⟨?_, ElemsAt.of fun i hi => ?_⟩
    · obtain ⟨b, off, cs, h1, h2, h3⟩ := h 0 (by simp)
      exact ⟨b, off, cs, h1, h2, h3⟩
    · obtain ⟨b, off, cs, h1, h2, h3⟩ := h (i + 1) (by simpa using hi)
      refine ⟨b, off, cs, h1, fun k u hu => ?_, h3⟩
      rw [show j + 1 + i = j + (i + 1) from by omega]
      exact h2 k u hu
mutual
theorem NodeAt.pure {w w' : World} (hc : Chg Pure' w w') : ∀ {t : Tn} {cs : Array Value}, NodeAt w cs t → NodeAt w' cs t
  | .mk k n ng dg ex tx bs keys kids, cs, h => by
    rw [NodeAt] at h ⊢
    obtain ⟨Ab, cb, Ak, ck, Ai, ci, h1, h2, h3, h4⟩ := h
    exact ⟨Ab, cb, Ak, ck, Ai, ci, h1, ⟨h2.kind, h2.exp, h2.dig, h2.text, h2.bytes.pure hc, h2.lb, h2.cb, h2.lk, h2.ck, h2.li, h2.ci⟩, ElemsAt.pure hc h3, ElemsAt.pure hc h4⟩
theorem ElemsAt.pure {w w' : World} (hc : Chg Pure' w w') : ∀ {l : List Tn} {A : Option Addr} {j : Nat}, ElemsAt w A j l → ElemsAt w' A j l
  | [], _, _, _ => by rw [ElemsAt]; trivial
  | t :: l, A, j, h => by
    rw [ElemsAt] at h ⊢
    obtain ⟨⟨b, off, cs, h1, h2, h3⟩, h4⟩ := h
    exact ⟨⟨b, off, cs, h1, fun i u hu => hc.cell (h2 i u hu) (fun h => h), NodeAt.pure hc h3⟩, ElemsAt.pure hc h4⟩
end

theorem Light.string {H : Type} {P : Program} {t : TypeId} {l : List UInt8} (hu : P.underlying t = some .string) (h : Light P t (.lit (.string l) : DataW H)) : l.length ≤ 140737488351232 := by
  apply Nat.le_trans (h _ (by simp [DataW.weights, hu])) (by decide)
/-- A slice, element by element: what each reads as, with less fuel. -/
theorem trod_elemsF {H : Type} {en : TypeId × Value → H} {P : Program} {W : World} {base fuel k : Nat} {spare : Nat → Bool} {held : Bool} {t e : TypeId} {cs : List Value} {x : DataW H × List MemPlace}
    (hu : P.underlying t = some (.slice e)) (hk : P.cellsOf e = k) (hB : 0 < P.bytesOf e) (hk0 : 0 < k) (hl : Light P t x.1)
    (h : DataW.trod en P W base spare held fuel t cs = some x) : ∃ A n c, ∃ ys : List (DataW H × List MemPlace), cs = [.slice A n c] ∧ ys.length = n ∧ n ≤ c ∧ n * P.bytesOf e ≤ 140737488351232 ∧ (∀ y ∈ ys, Light P e y.1) ∧
      (0 < n → ∃ b off, A = some ⟨b, off, none⟩ ∧ ∀ j (hj : j < ys.length), ∃ m cs', m < fuel ∧ DataW.trod en P W base spare held m e cs' = some ys[j] ∧ cs'.length = k ∧ ∀ i (hi : i < cs'.length), W.cell? ⟨b, off + j * k + i, none⟩ = some cs'[i]) := by
  rcases DataW.trod_slice hu h with ⟨hcs, _⟩ | ⟨a, l, c, elems, rest, m, hm, hcs, hx, _, hlc, _, hlen, hel, _⟩
  · exact ⟨none, 0, 0, [], hcs, rfl, Nat.le_refl _, by omega, fun y hy => by simp at hy, fun h0 => by omega⟩
  · have hx1 := congrArg Prod.fst hx
    simp only at hx1
    rw [hx1] at hl
    have z := hl.len hu
    refine ⟨some a, l, c, elems, hcs, hlen, hlc, ?_, fun y hy => hl.elem hu (List.mem_map_of_mem hy), fun h0 => ?_⟩
    · refine Nat.le_trans (Nat.mul_le_mul_right _ ?_) z
      simp [hlen]
    · obtain ⟨b, off, spot⟩ := a
      have one : ∀ j (hj : j < elems.length), ∃ cs', W.cells? base ((⟨b, off, spot⟩ : Addr).add (j * k)) k = some cs' ∧ DataW.trod en P W base spare held m e cs' = some elems[j] := by
        intro j hj
        have := hel j (by omega)
        rw [hk, List.getElem?_eq_getElem hj, Option.bind_eq_some_iff] at this
        exact this
      obtain ⟨cs0, h00, _⟩ := one 0 (by omega)
      obtain ⟨_, hl0, hc0⟩ := World.cells?_some h00
      have hc00 : W.cell? (((⟨b, off, spot⟩ : Addr).add (0 * k)).add 0) = some (cs0[0]'(by omega)) := by rw [hc0 0 (by omega), List.getElem?_eq_getElem]
      obtain rfl : spot = none := by simpa [Addr.add] using World.cell?_spot hc00
      have e1 : ∀ o i, (⟨b, o, none⟩ : Addr).add i = ⟨b, o + i, none⟩ := by intro o i; unfold Addr.add; split <;> simp_all
      refine ⟨b, off, rfl, fun j hj => ?_⟩
      obtain ⟨cs', h1, h2⟩ := one j hj
      obtain ⟨_, hl1, hc1⟩ := World.cells?_some h1
      refine ⟨m, cs', by omega, h2, hl1, fun i hi => ?_⟩
      have := hc1 i (by omega)
      rw [e1, e1] at this
      rw [this, List.getElem?_eq_getElem hi]

theorem node_cells : Tryd.prog.cellsOf 26 = 9 := by kernel_rfl
theorem node_bytes : 0 < Tryd.prog.bytesOf 26 := by
  have : Tryd.prog.bytesOf 26 = 136 := by kernel_rfl
  omega
/-- A tree that came in. -/
theorem trod_node {H : Type} {en : TypeId × Value → H} {W : World} {base : Nat} {spare : Nat → Bool} {held : Bool} : ∀ (fuel : Nat) (cs : List Value) (y : DataW H × List MemPlace), Light Tryd.prog 26 y.1 → DataW.trod en Tryd.prog W base spare held fuel 26 cs = some y → ∃ t : Tn, NodeAt W cs.toArray t := by
  intro fuel
  induction fuel using Nat.strongRecOn with
  | ind fuel ih =>
    intro cs y hli htr
    obtain ⟨zs, m2, hm2, hy, hlc, hzl, hz⟩ := DataW.trod_struct Tryd.underlying26 htr
    rw [node_cells] at hlc
    obtain ⟨u0, u1, u2, u3, u4, u5, u6, u7, u8, rfl⟩ : ∃ u0 u1 u2 u3 u4 u5 u6 u7 u8, cs = [u0, u1, u2, u3, u4, u5, u6, u7, u8] := by
      match cs, hlc with
      | [u0, u1, u2, u3, u4, u5, u6, u7, u8], _ => exact ⟨u0, u1, u2, u3, u4, u5, u6, u7, u8, rfl⟩
    subst hy
    have hzl9 : zs.length = 9 := hzl
    obtain ⟨z0, z1, z2, z3, z4, z5, z6, z7, z8, rfl⟩ : ∃ z0 z1 z2 z3 z4 z5 z6 z7 z8, zs = [z0, z1, z2, z3, z4, z5, z6, z7, z8] := by
      match zs, hzl9 with
      | [z0, z1, z2, z3, z4, z5, z6, z7, z8], _ => exact ⟨z0, z1, z2, z3, z4, z5, z6, z7, z8, rfl⟩
    have ki : Tryd.prog.cellsOf 3 = 1 := by kernel_rfl
    have ku : Tryd.prog.cellsOf 22 = 1 := by kernel_rfl
    have kb : Tryd.prog.cellsOf 4 = 1 := by kernel_rfl
    have ks : Tryd.prog.cellsOf 9 = 1 := by kernel_rfl
    have ky : Tryd.prog.cellsOf 23 = 1 := by kernel_rfl
    have kn : Tryd.prog.cellsOf 24 = 1 := by kernel_rfl
    have f0 := hz 0 _ rfl
    have f1 := hz 1 _ rfl
    have f2 := hz 2 _ rfl
    have f3 := hz 3 _ rfl
    have f4 := hz 4 _ rfl
    have f5 := hz 5 _ rfl
    have f6 := hz 6 _ rfl
    have f7 := hz 7 _ rfl
    have f8 := hz 8 _ rfl
    simp [ki] at f0
    simp [ku] at f1
    simp [kb] at f2
    simp [ks] at f3
    simp [ki] at f4
    simp [ks] at f5
    simp [ky] at f6
    simp [kn] at f7
    simp [kn] at f8
    obtain ⟨a0, e0, _, w0⟩ := DataW.trod_int Tryd.underlying3 f0
    obtain ⟨a1, e1, _, w1⟩ := DataW.trod_int Tryd.underlying22 f1
    obtain ⟨m1, rfl⟩ := u64_of_wf w1
    obtain ⟨b2, e2, _⟩ := DataW.trod_bool Tryd.underlying4 f2
    obtain ⟨s3, e3, x3, _⟩ := DataW.trod_string Tryd.underlying9 f3
    obtain ⟨a4, e4, _, w4⟩ := DataW.trod_int Tryd.underlying3 f4
    obtain ⟨s5, e5, x5, _⟩ := DataW.trod_string Tryd.underlying9 f5
    have l3 := hli.parts Tryd.underlying26 (j := 3) rfl rfl
    have l5 := hli.parts Tryd.underlying26 (j := 5) rfl rfl
    have l6 := hli.parts Tryd.underlying26 (j := 6) rfl rfl
    have l7 := hli.parts Tryd.underlying26 (j := 7) rfl rfl
    have l8 := hli.parts Tryd.underlying26 (j := 8) rfl rfl
    rw [x3] at l3
    rw [x5] at l5
    have n3 := l3.string Tryd.underlying9
    have n5 := l5.string Tryd.underlying9
    obtain ⟨A6, n6, c6, xs6, e6, h61, h62, _, h63⟩ := trod_bytes Tryd.underlying23 Tryd.underlying5 (by kernel_rfl) (by kernel_rfl) l6 f6
    obtain ⟨A7, n7, c7, ys7, e7, h71, h72, h73, h74, h75⟩ := trod_elemsF Tryd.underlying24 node_cells node_bytes (by decide) l7 f7
    obtain ⟨A8, n8, c8, ys8, e8, h81, h82, h83, h84, h85⟩ := trod_elemsF Tryd.underlying24 node_cells node_bytes (by decide) l8 f8
    have row : ∀ (A : Option Addr) (n : Nat) (ys : List (DataW H × List MemPlace)), ys.length = n → (∀ y ∈ ys, Light Tryd.prog 26 y.1) → (0 < n → ∃ b off, A = some ⟨b, off, none⟩ ∧ ∀ j (hj : j < ys.length), ∃ m cs', m < m2 ∧ DataW.trod en Tryd.prog W base spare held m 26 cs' = some ys[j] ∧ cs'.length = 9 ∧ ∀ i (hi : i < cs'.length), W.cell? ⟨b, off + j * 9 + i, none⟩ = some cs'[i]) →
        ∃ ts : List Tn, ts.length = n ∧ ElemsAt W A 0 ts := by
      intro A n ys hn hl hr
      have hq : ∀ j, j < n → ∃ t : Tn, ∃ b off cs, A = some ⟨b, off, none⟩ ∧ (∀ k u, cs[k]? = some u → W.cell? ⟨b, off + (0 + j) * 9 + k, none⟩ = some u) ∧ NodeAt W cs t := by
        intro j hj
        obtain ⟨b, off, hA, hc⟩ := hr (by omega)
        obtain ⟨m, cs', hm, ht, hl9, hcell⟩ := hc j (by omega)
        obtain ⟨t, htn⟩ := ih m (by omega) cs' _ (hl _ (List.getElem_mem (by omega))) ht
        refine ⟨t, b, off, cs'.toArray, hA, fun k u hu => ?_, htn⟩
        rw [List.getElem?_toArray] at hu
        obtain ⟨hk, hku⟩ := List.getElem?_eq_some_iff.1 hu
        rw [Nat.zero_add, hcell k hk, hku]
      obtain ⟨ts, htl, hts⟩ := pick hq
      exact ⟨ts, htl, ElemsAt.of fun i hi => hts i hi⟩
    obtain ⟨t7, h76, h77⟩ := row A7 n7 ys7 h71 h74 h75
    obtain ⟨t8, h86, h87⟩ := row A8 n8 ys8 h81 h84 h85
    cases e0; cases e1; cases e2; cases e3; cases e4; cases e5; cases e6; cases e7; cases e8
    have hb := h63.len
    subst hb
    subst h76
    subst h86
    have hB := node_bytes
    have q7 : t7.length ≤ 140737488351232 := Nat.le_trans (Nat.le_mul_of_pos_right _ hB) h73
    have q8 : t8.length ≤ 140737488351232 := Nat.le_trans (Nat.le_mul_of_pos_right _ hB) h83
    exact ⟨.mk a0 m1 b2 s3.data.toList a4 s5.data.toList xs6 t7 t8, NodeAt.mk (t := .mk a0 m1 b2 s3.data.toList a4 s5.data.toList xs6 t7 t8) ⟨i64_of_wf w0, i64_of_wf w4, n3, n5, h63, h62, h61, q7, h72, q8, h82⟩ h77 h87⟩
end Go.Proofs.YtafpkecjicphoaaDoor
