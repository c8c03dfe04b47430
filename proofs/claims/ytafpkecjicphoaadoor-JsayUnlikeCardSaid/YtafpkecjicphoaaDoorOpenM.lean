/- What a row tells of an argument that is a slice of more than numbers, part by part. -/
import Derived.Test.YtafpkecjicphoaaDoorOpen
import Derived.ChangeSame
namespace Go.Proofs.YtafpkecjicphoaaDoor
open Go Go.RowKit Go.ChangeShapes Go.WideShapes
set_option linter.unusedVariables false
set_option linter.unusedSimpArgs false

/-- No part of the datum weighs more than an address space holds. -/
def Light {H : Type} (P : Program) (t : TypeId) (d : DataW H) : Prop := ∀ n ∈ d.weights P t, n ≤ reachBytes
theorem light_of_each {H : Type} {P : Program} {ts : List TypeId} {ds : List (DataW H)} {j : Nat} {t : TypeId} {d : DataW H} (hsz : (DataW.weightsEach P ts ds).all (· ≤ reachBytes) = true) (ht : ts[j]? = some t) (hd : ds[j]? = some d) : Light P t d := by
  intro n hn
  have := List.all_eq_true.1 hsz _ (DataW.weights_mem_each ht hd n hn)
  simpa using this
theorem weights_mem_all {H : Type} {P : Program} {e : TypeId} {d : DataW H} : ∀ {l : List (DataW H)}, d ∈ l → ∀ n ∈ d.weights P e, n ∈ DataW.weightsAll P e l
  | [], h, _, _ => by simp at h
  | x :: l, h, n, hn => by
    simp only [DataW.weightsAll, List.mem_append]
    rcases List.mem_cons.1 h with rfl | h
    · exact Or.inl hn
    · exact Or.inr (weights_mem_all h n hn)
theorem Light.elem {H : Type} {P : Program} {t e : TypeId} {elems spare : List (DataW H)} (h : Light P t (.slice elems spare)) (hu : P.underlying t = some (.slice e)) {d : DataW H} (hd : d ∈ elems) : Light P e d := by
  intro n hn
  apply h n
  simp only [DataW.weights, hu, List.mem_cons, List.mem_append]
  exact Or.inr (Or.inl (weights_mem_all hd n hn))
theorem Light.len {H : Type} {P : Program} {t e : TypeId} {elems spare : List (DataW H)} (h : Light P t (.slice elems spare)) (hu : P.underlying t = some (.slice e)) : (elems.length + spare.length) * P.bytesOf e ≤ 140737488351232 := by
  apply Nat.le_trans (h _ (by simp [DataW.weights, hu])) (by decide)
theorem Light.parts {H : Type} {P : Program} {t : TypeId} {fs : Array Field} {parts : List (DataW H)} (h : Light P t (.agg parts)) (hu : P.underlying t = some (.struct fs)) {j : Nat} {f : Field} {d : DataW H} (hf : fs[j]? = some f) (hd : parts[j]? = some d) : Light P f.type d := by
  intro n hn
  apply h n
  simp only [DataW.weights, hu]
  refine DataW.weights_mem_each (j := j) (t := f.type) (d := d) ?_ hd n hn
  simp [hf]
theorem bulk_all_mem {H : Type} {d : DataW H} : ∀ {l : List (DataW H)}, d ∈ l → Rows.uptoBulk d ≤ Rows.uptoBulkAll l
  | [], h => by simp at h
  | x :: l, h => by
    simp only [Rows.uptoBulkAll]
    rcases List.mem_cons.1 h with rfl | h
    · omega
    · have := bulk_all_mem h; omega

theorem cell_lt {w : World} {a : Addr} {v : Value} (h : w.cell? a = some v) : a.block < w.heap.size := by
  unfold World.cell? at h
  split at h
  · rename_i hb; exact (Array.getElem?_eq_some_iff.1 hb).1
  · cases h

theorem trod_bytes {H : Type} {en : TypeId × Value → H} {P : Program} {W : World} {base fuel : Nat} {spare : Nat → Bool} {held : Bool} {t e : TypeId} {cs : List Value} {x : DataW H × List MemPlace}
    (hu : P.underlying t = some (.slice e)) (he : P.underlying e = some (.int .u8)) (hc : P.cellsOf e = 1) (hB : P.bytesOf e = 1) (hl : Light P t x.1)
    (h : DataW.trod en P W base spare held fuel t cs = some x) : ∃ A n c xs, cs = [.slice A n c] ∧ n ≤ c ∧ n ≤ 140737488351232 ∧ n ≤ Rows.uptoBulk x.1 ∧ Bytes W A n xs := by
  rcases open_ints hu he hc h with ⟨hcs, hx⟩ | ⟨a, l, c', zs, hcs, _, hl1, _, hz, hx, hcell, hwz⟩
  · exact ⟨none, 0, 0, [], hcs, Nat.le_refl _, by omega, Nat.zero_le _, Bytes.nil _ _⟩
  · have hx1 := congrArg Prod.fst hx
    simp only at hx1
    rw [hx1] at hl ⊢
    have z := hl.len hu
    rw [hB] at z
    have hl2 : l ≤ zs.length := by
      rw [hz]
      split
      · exact hl1
      · exact Nat.le_refl _
    have h1 : (lits (H := H) .u8 (zs.take l)).length + (lits (H := H) .u8 (zs.drop l)).length = zs.length := by
      simp [lits]
      omega
    rw [h1, Nat.mul_one] at z
    refine ⟨some a, l, c', (zs.take l).map fun i => UInt8.ofNat i.toNat, hcs, hl1, Nat.le_trans hl2 z, ?_, by simp; omega, fun hp => ?_⟩
    · have h3 := bulk_slice (lits (H := H) .u8 (zs.take l)) (lits (H := H) .u8 (zs.drop l))
      omega
    obtain ⟨b, off, spot⟩ := a
    have h0 := hcell 0 (by omega)
    obtain rfl : spot = none := by simpa [Addr.add] using World.cell?_spot h0
    refine ⟨b, off, rfl, fun i hi => ?_⟩
    have hi2 : i < zs.length := by simp at hi; omega
    have e1 : (⟨b, off, none⟩ : Addr).add i = ⟨b, off + i, none⟩ := by unfold Addr.add; split <;> simp_all
    have h2 := hcell i hi2
    rw [e1] at h2
    rw [h2]
    have hw := hwz (zs.getD i 0) (by rw [List.getD_eq_getElem?_getD, List.getElem?_eq_getElem hi2]; exact List.getElem_mem hi2)
    simp only [List.getElem_map, List.getElem_take]
    have hge : zs.getD i 0 = zs[i] := by rw [List.getD_eq_getElem?_getD, List.getElem?_eq_getElem hi2]; rfl
    rw [hge] at hw ⊢
    have hb : 0 ≤ zs[i] ∧ zs[i] ≤ 255 := by simpa [Lit.wf, IntKind.min, IntKind.max, IntKind.signed, IntKind.bits] using hw
    congr 2
    rw [UInt8.toNat_ofNat']
    omega

/-- A slice, element by element: what each reads as, where it lies, and how much all hold. -/
theorem trod_elems {H : Type} {en : TypeId × Value → H} {P : Program} {W : World} {base fuel k : Nat} {spare : Nat → Bool} {held : Bool} {t e : TypeId} {cs : List Value} {x : DataW H × List MemPlace}
    (hu : P.underlying t = some (.slice e)) (hk : P.cellsOf e = k) (hB : 0 < P.bytesOf e) (hk0 : 0 < k) (hl : Light P t x.1)
    (h : DataW.trod en P W base spare held fuel t cs = some x) : ∃ A n c, ∃ ys : List (DataW H × List MemPlace), cs = [.slice A n c] ∧ ys.length = n ∧ n ≤ c ∧ (A = none → c = 0) ∧ n * P.bytesOf e ≤ 140737488351232 ∧
      Rows.uptoBulkAll (ys.map (·.1)) ≤ Rows.uptoBulk x.1 ∧ (∀ y ∈ ys, Light P e y.1) ∧
      (0 < n → ∃ b off, A = some ⟨b, off, none⟩ ∧ b < W.heap.size ∧ ∀ j (hj : j < ys.length), ∃ m cs', DataW.trod en P W base spare held m e cs' = some ys[j] ∧ cs'.length = k ∧ ∀ i (hi : i < cs'.length), W.cell? ⟨b, off + j * k + i, none⟩ = some cs'[i]) := by
  rcases DataW.trod_slice hu h with ⟨hcs, _⟩ | ⟨a, l, c, elems, rest, m, _, hcs, hx, _, hlc, _, hlen, hel, _⟩
  · refine ⟨none, 0, 0, [], hcs, rfl, Nat.le_refl _, fun _ => rfl, by omega, Nat.zero_le _, fun y hy => by simp at hy, fun h0 => by omega⟩
  · have hx1 := congrArg Prod.fst hx
    simp only at hx1
    rw [hx1] at hl ⊢
    have z := hl.len hu
    refine ⟨some a, l, c, elems, hcs, hlen, hlc, fun h => (by cases h), ?_, ?_, fun y hy => hl.elem hu (List.mem_map_of_mem hy), fun h0 => ?_⟩
    · refine Nat.le_trans (Nat.mul_le_mul_right _ ?_) z
      simp [hlen]
    · simp only [Rows.uptoBulk]; omega
    · obtain ⟨b, off, spot⟩ := a
      have one : ∀ j (hj : j < elems.length), ∃ cs', W.cells? base ((⟨b, off, spot⟩ : Addr).add (j * k)) k = some cs' ∧ DataW.trod en P W base spare held m e cs' = some elems[j] := by
        intro j hj
        have := hel j (by omega)
        rw [hk, List.getElem?_eq_getElem hj, Option.bind_eq_some_iff] at this
        exact this
      obtain ⟨cs0, h00, _⟩ := one 0 (by omega)
      obtain ⟨_, hl0, hc0⟩ := World.cells?_some h00
      have hc00 : W.cell? (((⟨b, off, spot⟩ : Addr).add (0 * k)).add 0) = some (cs0[0]'(by omega)) := by rw [hc0 0 (by omega), List.getElem?_eq_getElem]
      obtain rfl : spot = none := by simpa [Addr.add] using World.cell?_spot hc00
      have e1 : ∀ o i, (⟨b, o, none⟩ : Addr).add i = ⟨b, o + i, none⟩ := by intro o i; unfold Addr.add; split <;> simp_all
      refine ⟨b, off, rfl, ?_, fun j hj => ?_⟩
      · have hs : W.cell? ⟨b, off, none⟩ = some (cs0[0]'(by omega)) := by
          rw [e1, e1] at hc00
          have e2 : (⟨b, off + 0 * k + 0, none⟩ : Addr) = ⟨b, off, none⟩ := by simp
          rw [e2] at hc00
          exact hc00
        exact cell_lt hs
      · obtain ⟨cs', h1, h2⟩ := one j hj
        obtain ⟨_, hl1, hc1⟩ := World.cells?_some h1
        refine ⟨m, cs', h2, hl1, fun i hi => ?_⟩
        have := hc1 i (by omega)
        rw [e1, e1] at this
        rw [this, List.getElem?_eq_getElem hi]

theorem pick {α : Type} {Q : Nat → α → Prop} {n : Nat} (h : ∀ i, i < n → ∃ x, Q i x) : ∃ l : List α, l.length = n ∧ ∀ i (hi : i < l.length), Q i (l[i]'hi) := by
  induction n with
  | zero => exact ⟨[], rfl, fun i hi => by simp at hi⟩
  | succ n ih =>
    obtain ⟨l, hl, hq⟩ := ih (fun i hi => h i (by omega))
    obtain ⟨x, hx⟩ := h n (by omega)
    refine ⟨l ++ [x], by simp [hl], fun i hi => ?_⟩
    by_cases hin : i < l.length
    · rw [List.getElem_append_left hin]; exact hq i hin
    · have : i = l.length := by simp at hi; omega
      subst this
      rw [List.getElem_append_right (by omega)]
      simp only [Nat.sub_self, List.getElem_singleton]
      rw [hl]; exact hx
/-- A slice of slices of bytes, out of a row. -/
theorem open_byteses {H : Type} {en : TypeId × Value → H} {P : Program} {W : World} {base r : Nat} {spare : Nat → Bool} {held : Bool} {v : Value} {d : DataW H} {ps : List MemPlace} {ts : List TypeId} {ds : List (DataW H)} {j : Nat} {t e u : TypeId} {reach : Reach}
    (hsz : (DataW.weightsEach P ts ds).all (· ≤ reachBytes) = true) (ht : ts[j]? = some t) (hd : ds[j]? = some d) (hval : Value.okWide P W reach r t v) (h : DataW.Trod en P W base spare held t v d ps)
    (hu : P.underlying t = some (.slice e)) (he : P.underlying e = some (.slice u)) (hb : P.underlying u = some (.int .u8)) (hce : P.cellsOf e = 1) (hcu : P.cellsOf u = 1) (hBe : P.bytesOf e = 24) (hBu : P.bytesOf u = 1) :
    ∃ A n c xss, v = .slice A n c ∧ n ≤ c ∧ (A = none → c = 0) ∧ n ≤ 140737488351232 ∧ n ≤ Rows.uptoBulk d ∧ BytesL W A n xss ∧ (∀ x ∈ xss, x.length ≤ 140737488351232) := by
  obtain ⟨A0, n0, c0, rfl⟩ := okWide_slice hu hval
  obtain ⟨fuel, hf⟩ := h
  obtain ⟨A, n, c, ys, hcs, hl, hle, hc0, hn, hbk, hlight, hcell⟩ := trod_elems hu hce (by rw [hBe]; decide) (by decide) (light_of_each hsz ht hd) hf
  rw [hBe] at hn
  simp [Value.cells] at hcs
  obtain ⟨rfl, rfl, rfl⟩ := hcs
  have hb' : Rows.uptoBulkAll (ys.map (·.1)) ≤ Rows.uptoBulk d := hbk
  have hbl := bulk_length (ys.map (·.1))
  rw [List.length_map, hl] at hbl
  refine ⟨A0, n0, c0, ?_⟩
  by_cases h0 : 0 < n0
  · obtain ⟨b, off, rfl, hlt, hrow⟩ := hcell h0
    have hq : ∀ j, j < n0 → ∃ x : List UInt8, x.length ≤ 140737488351232 ∧ ∃ Aj nj cj, W.cell? ⟨b, off + j, none⟩ = some (.slice Aj nj cj) ∧ nj ≤ cj ∧ Bytes W Aj nj x := by
      intro j hj
      obtain ⟨m, cs', htr, hlc, hci⟩ := hrow j (by omega)
      have hmem := List.getElem_mem (l := ys) (n := j) (by omega)
      have hli := hlight _ hmem
      generalize ys[j]'(by omega) = y at htr hli
      obtain ⟨u0, rfl⟩ : ∃ u0, cs' = [u0] := by
        match cs', hlc with
        | [u0], _ => exact ⟨u0, rfl⟩
      obtain ⟨Aj, nj, cj, xs, h2, h3, h4, _, h6⟩ := trod_bytes he hb hcu hBu hli htr
      cases h2
      have h7 := hci 0 (by simp)
      exact ⟨xs, by rw [h6.len]; exact h4, Aj, nj, cj, by simpa using h7, h3, h6⟩
    obtain ⟨xss, hal, hp⟩ := pick hq
    refine ⟨xss, rfl, hle, hc0, by omega, by omega, ⟨hal, fun _ => ⟨b, off, rfl, fun j hj => (hp j hj).2⟩⟩, fun x hx => ?_⟩
    obtain ⟨i, hi, rfl⟩ := List.getElem_of_mem hx
    exact (hp i hi).1
  · exact ⟨[], rfl, hle, hc0, by omega, by omega, ⟨by simp; omega, fun h => absurd h h0⟩, fun x hx => by simp at hx⟩
end Go.Proofs.YtafpkecjicphoaaDoor
