/- Package frame: a stream. -/
import Derived.Test.YtemofjaonoofhaaFrameC
import Derived.Test.YtemofjaonoofhaaOpenM
namespace Go.Proofs.Ytemofjaonoofhaa
open Go Go.RowKit
set_option linter.unusedVariables false
set_option linter.unusedSimpArgs false

/-- A stream in memory: at p its three cells; the bytes that wait lie in block q. -/
structure StrAt (w : World) (p q : Nat) (rest : List UInt8) (lost : Nat) : Prop where
  pq : p ≠ q
  blk : ∃ cs, w.heap[p]? = some (.cells cs 47 (0, 0))
  c0 : w.cell? ⟨p, 0, none⟩ = some (.bool true)
  c1 : ∃ A c, w.cell? ⟨p, 1, none⟩ = some (.slice A rest.length c) ∧ rest.length ≤ c ∧ Bytes w A rest.length rest ∧ (∀ a, A = some a → a.block = q)
  c2 : w.cell? ⟨p, 2, none⟩ = some (.int .i64 lost)
theorem free_at {w : World} {p i : Nat} {c : Array Value} {T : TypeId} (h : w.heap[p]? = some (.cells c T (0, 0))) : w.frozen? ⟨p, i, none⟩ = false := by
  simp [World.frozen?, h]
theorem StrAt.frame {S : Nat → Prop} {w w' : World} {p q : Nat} {rest : List UInt8} {lost : Nat} (h : StrAt w p q rest lost) (hc : Chg S w w') (h1 : ¬ S p) (h2 : ¬ S q) : StrAt w' p q rest lost := by
  obtain ⟨A, c, e1, e2, e3, e4⟩ := h.c1
  obtain ⟨cc, e5⟩ := h.blk
  exact ⟨h.pq, ⟨cc, (hc.block _ (Array.getElem?_eq_some_iff.1 e5).1 h1).trans e5⟩, hc.cell h.c0 h1, ⟨A, c, hc.cell e1 h1, e2, e3.chg hc (fun a ha => by rw [e4 a ha]; exact h2), e4⟩, hc.cell h.c2 h1⟩
theorem StrAt.pure {w w' : World} {p q : Nat} {rest : List UInt8} {lost : Nat} (h : StrAt w p q rest lost) (hc : Chg Pure' w w') : StrAt w' p q rest lost := h.frame hc (fun h => h) (fun h => h)
theorem Loads.get {w : World} {B n q k : Nat} {Bo : Option Addr} {ls : List (List UInt8)} (h : Loads w B (.slice Bo n q) ls) (hk : k < ls.length) :
    ∃ g A c, Bo = some ⟨g, 0, none⟩ ∧ B ≤ g ∧ w.cell? ⟨g, k, none⟩ = some (.slice A (ls[k]'hk).length c) ∧ (ls[k]'hk).length ≤ c ∧ Load w B A (ls[k]'hk) := by
  obtain ⟨us, ho, hu⟩ := h
  obtain ⟨A, c, h1, h2, h3⟩ := hu k hk
  rcases ho.2 with ⟨h', h0⟩ | ⟨g, cap, cur, h', hb, hg, hnc, hcm, hcs, htake⟩
  · omega
  · cases h'
    have := World.ownsRow.cells ho (g := g) rfl k _ h1
    have e : (⟨g, 0, none⟩ : Addr).add k = ⟨g, k, none⟩ := by unfold Addr.add; split <;> simp_all
    rw [e] at this
    exact ⟨g, A, c, rfl, hb, this, h2, h3⟩
theorem sizeL_succ (ls : List (List UInt8)) (k : Nat) (hk : k < ls.length) : sizeL (ls.take (k + 1)) = sizeL (ls.take k) + ((ls[k]'hk).length + 8) := by
  unfold sizeL
  rw [List.take_succ_eq_append_getElem hk, List.map_append, List.sum_append]
  simp
theorem sizeL_len : ∀ ls : List (List UInt8), 8 * ls.length ≤ sizeL ls
  | [] => Nat.zero_le _
  | l :: ls => by
    have := sizeL_len ls
    simp only [sizeL, List.map_cons, List.sum_cons, List.length_cons] at this ⊢
    omega
theorem sizeL_append (a b : List (List UInt8)) : sizeL (a ++ b) = sizeL a + sizeL b := by simp [sizeL]
theorem sizeL_take (ls : List (List UInt8)) (k : Nat) : sizeL (ls.take k) ≤ sizeL ls := by
  have := sizeL_append (ls.take k) (ls.drop k)
  rw [List.take_append_drop] at this
  omega
theorem StrAt.plt {w : World} {p q : Nat} {rest : List UInt8} {lost : Nat} (h : StrAt w p q rest lost) : p < w.heap.size := cell_lt h.c0
theorem fok_any {w : World} {p q : Nat} {rest : List UInt8} {lost : Nat} (h : StrAt w p q rest lost) :
    Calls Try.prog 30 #[.pointer (some ⟨p, 0, none⟩)] w fun e w' => e = .returned (.bool true) ∧ w = w' := by
  have h0 := h.c0
  clear h
  go_enter Try.func30, Try.ntmps30
  go_wp2
  go_ret
  exact ⟨rfl, rfl⟩
theorem waits_any {w : World} {p q : Nat} {rest : List UInt8} {lost : Nat} (h : StrAt w p q rest lost) :
    Calls Try.prog 21 #[.pointer (some ⟨p, 0, none⟩)] w fun e w' => e = .returned (.int .i64 rest.length) ∧ w = w' := by
  obtain ⟨A, c, h1, -⟩ := h.c1
  have H := Lib.hid h
  clear h
  go_enter Try.func21, Try.ntmps21
  go_wp2_with (go_at_call 30; refine (fok_any H.out).mono ?_; rintro e w' ⟨rfl, rfl⟩)
  go_ret
  exact ⟨rfl, rfl⟩
theorem lost_any {w : World} {p q : Nat} {rest : List UInt8} {lost : Nat} (h : StrAt w p q rest lost) :
    Calls Try.prog 20 #[.pointer (some ⟨p, 0, none⟩)] w fun e w' => e = .returned (.int .i64 lost) ∧ w = w' := by
  have h1 := h.c2
  have H := Lib.hid h
  clear h
  go_enter Try.func20, Try.ntmps20
  go_wp2_with (go_at_call 30; refine (fok_any H.out).mono ?_; rintro e w' ⟨rfl, rfl⟩)
  go_ret
  exact ⟨rfl, rfl⟩
theorem fnew_any (w : World) :
    Calls Try.prog 18 #[] w fun e w' => e = .returned (.pointer (some ⟨w.heap.size, 0, none⟩)) ∧ StrAt w' w.heap.size (w.heap.size + 1) [] 0 ∧ Chg Pure' w w' := by
  go_enter Try.func18, Try.ntmps18
  go_wp2
  go_ret
  have lit := fun j => cellAt_alloc_lit w #[.bool true, .slice none 0 0, .int .i64 0] 47 j
  refine ⟨rfl, ⟨by omega, ⟨_, heap_alloc_new w _⟩, lit 0, ⟨none, 0, lit 1, Nat.le_refl _, Bytes.nil _ _, fun a h => by cases h⟩, lit 2⟩, (Chg.refl _ w).alloc _⟩

set_option maxHeartbeats 4000000 in
theorem feed_any {w : World} {p q : Nat} {rest : List UInt8} {lost : Nat} (h : StrAt w p q rest lost) (A : Option Addr) (n c : Nat) (xs : List UInt8) (hA : Bytes w A n xs) (hc : n ≤ c) (hn : (rest.length + n) * 3 + 24 ≤ 140737488351232) (hlost : lost ≤ 2305843009213693952) :
    Calls Try.prog 19 #[.pointer (some ⟨p, 0, none⟩), .slice A n c] w fun e w' => ∃ v q', e = .returned v ∧ w.heap.size ≤ q' ∧ Loads w' (q' + 1) v (scan (rest ++ xs)).1 ∧
      StrAt w' p q' ((rest ++ xs).drop (scan (rest ++ xs)).2) (lost + (scan (rest ++ xs)).2 - sizeL (scan (rest ++ xs)).1) ∧ Chg (fun k => k = p) w w' := by
  have hplt := h.plt
  obtain ⟨A0, k0, hb, hk0, hb0, hq0⟩ := h.c1
  have h2 := h.c2
  have H := Lib.hid h
  clear h
  go_enter Try.func19, Try.ntmps19
  go_wp2_with (go_at_call 30; refine (fok_any H.out).mono ?_; rintro e w' ⟨rfl, rfl⟩)
  have ca : Chg Pure' w (w.alloc (.cells #[.slice A0 rest.length k0, .slice A n c] 22)) := (Chg.refl _ w).alloc _
  have hBL : BytesL (w.alloc (.cells #[.slice A0 rest.length k0, .slice A n c] 22)) (some ⟨w.heap.size, 0, none⟩) 2 [rest, xs] := by
    refine ⟨rfl, fun _ => ⟨w.heap.size, 0, rfl, fun j hj => ?_⟩⟩
    have lit := fun j => cellAt_alloc_lit w #[.slice A0 rest.length k0, .slice A n c] 22 j
    match j, hj with
    | 0, _ => exact ⟨A0, rest.length, k0, lit 0, hk0, hb0.pure ca⟩
    | 1, _ => exact ⟨A, n, c, lit 1, hc, hA.pure ca⟩
  have hfl : [rest, xs].flatten = rest ++ xs := by simp
  have hAl := hA.len
  refine (concat_any _ 2 2 [rest, xs] _ hBL (by decide) (by rw [hfl]; simp; omega)).mono ?_
  rw [hfl]
  rintro e w1 ⟨v, rfl, hv, c1⟩
  have hsz0 : w.heap.size + 1 = (w.alloc (.cells #[.slice A0 rest.length k0, .slice A n c] 22)).heap.size := by simp
  have hv := hv.low (Nat.le_refl _)
  rw [← hsz0] at hv
  have C1 := ca.pure c1
  have hsz1 : w.heap.size + 1 ≤ w1.heap.size := by rw [hsz0]; exact c1.size
  obtain ⟨B, qc, rfl, hqc, hB0, hB1⟩ := own_slice hv
  have hsh : (B = none ∧ qc = 0) ∨ ∃ g, B = some ⟨g, 0, none⟩ := by
    rcases hv.2 with ⟨h, -⟩ | ⟨g, cap, cur, h, -⟩
    · injection h with h1 h2 h3; exact .inl ⟨h1, h3⟩
    · injection h with h1; exact .inr ⟨g, h1⟩
  have HSH := Lib.hid hsh
  clear hsh
  have H1 := Lib.hid (H.out.pure C1)
  have p1 := C1.cell hb (fun h => h)
  have p2 := C1.cell h2 (fun h => h)
  have hlen : (rest ++ xs).length = rest.length + n := by simp; omega
  have hNb : (rest ++ xs).length * 3 + 24 ≤ 140737488351232 := by rw [hlen]; exact hn
  clear ca hBL hfl hsz0 c1 hb0 hb h2 hlen hn hA hAl
  obtain ⟨all, hall⟩ : ∃ l, rest ++ xs = l := ⟨_, rfl⟩
  have HALL := Lib.hid hall
  rw [hall] at hNb hv hB0 hqc ⊢
  clear hall
  have hAll : Bytes w1 B all.length all := by
    obtain ⟨B', q', e, h1, h2, -⟩ := Bytes.of_own hv
    cases e
    exact h2
  have y0 := set_far (w := w1) (p := p) (i := 1) (j := 0) (v := .slice B all.length qc) (by decide)
  have y1 := set_at (v := .slice B all.length qc) p1
  have y2 := set_far (w := w1) (p := p) (i := 1) (j := 2) (v := .slice B all.length qc) (by decide)
  rw [H1.out.c0] at y0
  rw [p2] at y2
  have c2 : Chg (fun k => k = p) w1 (w1.setCell ⟨p, 1, none⟩ (.slice B all.length qc)) := Chg.setCell (S := fun k => k = p) (Chg.refl _ w1) (p := ⟨p, 1, none⟩) (.inr rfl) _
  have hAll2 := hAll.chg c2 (fun a ha e => by have := (hB1 a ha).1; omega)
  have C2 := (Chg.of_pure C1 (S := fun k => k = p)).trans' c2
  obtain ⟨cs1, hb1⟩ := H1.out.blk
  have hf1 : w1.frozen? ⟨p, 1, none⟩ = false := free_at hb1
  have hb2 := heap_setCell_same w1 p 1 cs1 47 (.slice B all.length qc) hb1
  have hst : ∀ (lo : Nat) (rest' : List UInt8) (B' : Option Addr) (k' : Nat) (w9 : World), (∃ cs, w9.heap[p]? = some (.cells cs 47 (0, 0))) → w9.cell? ⟨p, 0, none⟩ = some (.bool true) → w9.cell? ⟨p, 1, none⟩ = some (.slice B' rest'.length k') → w9.cell? ⟨p, 2, none⟩ = some (.int .i64 lo) → rest'.length ≤ k' → Bytes w9 B' rest'.length rest' → (B' = none ∨ ∃ a, B = some a ∧ ∃ a', B' = some a' ∧ a'.block = a.block) →
      ∃ q', (w.heap.size ≤ q' ∧ q' < w1.heap.size) ∧ StrAt w9 p q' rest' lo := by
    intro lo rest' B' k' w9 gb g0 g1 g2 g3 g4 g5
    rcases g5 with rfl | ⟨a, rfl, a', rfl, ha⟩
    · exact ⟨w.heap.size, ⟨Nat.le_refl _, by omega⟩, by omega, gb, g0, ⟨_, _, g1, g3, g4, fun a h => by cases h⟩, g2⟩
    · have := hB1 a rfl
      exact ⟨a.block, ⟨by omega, by omega⟩, by omega, gb, g0, ⟨_, _, g1, g3, g4, fun a h => by cases h; exact ha⟩, g2⟩
  have HST := Lib.hid hst
  have HI0 : Hid (∀ a, B = some a → p < a.block) := Lib.hid (fun a ha => by have := (hB1 a ha).1; omega)
  clear hst hv hAll p2 hB1
  generalize hN : all.length = N at *
  have HN := Lib.hid hN
  clear hN
  go_wp2_with (fail)
  have hsz2 : (w1.setCell ⟨p, 1, none⟩ (.slice B N qc)).heap.size = w1.heap.size := by simp
  generalize w1.setCell ⟨p, 1, none⟩ (.slice B N qc) = w2 at *
  refine (scan_any B N qc all w2 hAll2 hqc hNb).mono ?_
  rintro e w3 ⟨vo, rfl, hlo, c3⟩
  rw [hsz2] at hlo
  obtain ⟨q1, q2, -⟩ := scan_le all.length all (Nat.le_refl _)
  rw [HN.out] at q1
  have hsc := Lib.hid (Prod.eta (scan all)).symm
  generalize (scan all).2 = ats at *
  generalize (scan all).1 = ls at *
  have hb3 := (c3.block _ (Array.getElem?_eq_some_iff.1 hb2).1 (fun h => h)).trans hb2
  have hf3 : w3.frozen? ⟨p, 2, none⟩ = false := free_at hb3
  have z0 := c3.cell y0 (fun h => h)
  have z1 := c3.cell y1 (fun h => h)
  have z2 := c3.cell y2 (fun h => h)
  have hAll3 := Lib.hid (hAll2.pure c3)
  have C3 := C2.pure c3
  clear c3 C2 c2 y0 y1 y2 hAll2
  have HLO := Lib.hid hlo
  have hll : ls.length ≤ 140737488351232 := by have := sizeL_len ls; omega
  obtain ⟨us, ho, hu⟩ := hlo
  obtain ⟨Bo, qo, rfl, hqo, hBo, hBl⟩ := own_slice ho
  have hz2 := set_at (v := .int .i64 ((lost : Int) + (ats : Int))) z2
  have hz0 := set_far (w := w3) (p := p) (i := 2) (j := 0) (v := .int .i64 ((lost : Int) + (ats : Int))) (by decide)
  have hz1 := set_far (w := w3) (p := p) (i := 2) (j := 1) (v := .int .i64 ((lost : Int) + (ats : Int))) (by decide)
  have hb4 := heap_setCell_same w3 p 2 _ 47 (.int .i64 ((lost : Int) + (ats : Int))) hb3
  rw [z0] at hz0
  rw [z1] at hz1
  have c4 : Chg (fun k => k = p) w3 (w3.setCell ⟨p, 2, none⟩ (.int .i64 ((lost : Int) + (ats : Int)))) := Chg.setCell (S := fun k => k = p) (Chg.refl _ w3) (p := ⟨p, 2, none⟩) (.inr rfl) _
  have hp1 : p < w1.heap.size := by omega
  have HI : Hid ((w3.setCell ⟨p, 2, none⟩ (.int .i64 ((lost : Int) + (ats : Int)))).cell? ⟨p, 0, none⟩ = some (.bool true) ∧ (w3.setCell ⟨p, 2, none⟩ (.int .i64 ((lost : Int) + (ats : Int)))).cell? ⟨p, 1, none⟩ = some (.slice B N qc) ∧ (w3.setCell ⟨p, 2, none⟩ (.int .i64 ((lost : Int) + (ats : Int)))).cell? ⟨p, 2, none⟩ = some (.int .i64 ((lost + ats - sizeL (ls.take 0) : Nat) : Int)) ∧
      (∃ cs, (w3.setCell ⟨p, 2, none⟩ (.int .i64 ((lost : Int) + (ats : Int)))).heap[p]? = some (.cells cs 47 (0, 0))) ∧ Loads (w3.setCell ⟨p, 2, none⟩ (.int .i64 ((lost : Int) + (ats : Int)))) w1.heap.size (.slice Bo ls.length qo) ls ∧ Bytes (w3.setCell ⟨p, 2, none⟩ (.int .i64 ((lost : Int) + (ats : Int)))) B N all ∧ Chg (fun k => k = p) w (w3.setCell ⟨p, 2, none⟩ (.int .i64 ((lost : Int) + (ats : Int))))) :=
    Lib.hid ⟨hz0, hz1, by rw [hz2]; simp [sizeL], ⟨_, hb4⟩, HLO.out.keep c4 (fun k hk e => by omega), hAll3.out.chg c4 (fun a ha e => by
      have h0 := HI0.out a ha; omega), C3.trans' c4⟩
  clear hz0 hz1 hz2 hb4 c4 HLO ho hu hAll3
  go_wp2_with (fail)
  generalize w3.setCell ⟨p, 2, none⟩ (.int .i64 ((lost : Int) + (ats : Int))) = w4 at *
  go_loopw [40] (fun i wr => ∃ k : Nat, k ≤ ls.length ∧ i = .int .i64 k ∧ Hid (wr.cell? ⟨p, 0, none⟩ = some (.bool true) ∧ wr.cell? ⟨p, 1, none⟩ = some (.slice B N qc) ∧ wr.cell? ⟨p, 2, none⟩ = some (.int .i64 ((lost + ats - sizeL (ls.take k) : Nat) : Int)) ∧
      (∃ cs, wr.heap[p]? = some (.cells cs 47 (0, 0))) ∧ Loads wr w1.heap.size (.slice Bo ls.length qo) ls ∧ Bytes wr B N all ∧ Chg (fun k => k = p) w wr)) (fun i _ => ls.length - (intOf i).toNat)
  case atStart => exact ⟨0, Nat.zero_le _, rfl, HI⟩
  case round =>
    obtain ⟨k, hk, rfl, HS⟩ := hrel
    clear HI
    obtain ⟨g0, g1, g2, ⟨cs, gb⟩, gl, ga, gc⟩ := HS.out
    by_cases hlt : k < ls.length
    · obtain ⟨g, Ai, ci, rfl, hg, hcell, hci, hld⟩ := gl.get hlt
      have hsz := sizeL_succ ls k hlt
      have hszl := sizeL_take ls (k + 1)
      have hfr : wr.frozen? ⟨p, 2, none⟩ = false := free_at gb
      obtain ⟨cur, hcur⟩ : ∃ cur, lost + ats - sizeL (ls.take k) = cur := ⟨_, rfl⟩
      rw [hcur] at g2
      obtain ⟨len, hlen⟩ : ∃ m, (ls[k]'hlt).length = m := ⟨_, rfl⟩
      rw [hlen] at hcell hsz
      have b1 : len + 8 ≤ cur := by omega
      have b2 : cur ≤ 4611686018427387904 := by omega
      have x2 := set_at (v := .int .i64 ((cur : Int) - (4 + (len : Int) + 4))) g2
      have x0 := set_far (w := wr) (p := p) (i := 2) (j := 0) (v := .int .i64 ((cur : Int) - (4 + (len : Int) + 4))) (by decide)
      have x1 := set_far (w := wr) (p := p) (i := 2) (j := 1) (v := .int .i64 ((cur : Int) - (4 + (len : Int) + 4))) (by decide)
      have xb := heap_setCell_same wr p 2 _ 47 (.int .i64 ((cur : Int) - (4 + (len : Int) + 4))) gb
      rw [g0] at x0
      rw [g1] at x1
      have c5 : Chg (fun k => k = p) wr (wr.setCell ⟨p, 2, none⟩ (.int .i64 ((cur : Int) - (4 + (len : Int) + 4)))) := Chg.setCell (S := fun k => k = p) (Chg.refl _ wr) (p := ⟨p, 2, none⟩) (.inr rfl) _
      have hnew : ((cur : Int) - (4 + (len : Int) + 4)) = ((lost + ats - sizeL (ls.take (k + 1)) : Nat) : Int) := by omega
      have HN : Hid ((wr.setCell ⟨p, 2, none⟩ (.int .i64 ((cur : Int) - (4 + (len : Int) + 4)))).cell? ⟨p, 0, none⟩ = some (.bool true) ∧ (wr.setCell ⟨p, 2, none⟩ (.int .i64 ((cur : Int) - (4 + (len : Int) + 4)))).cell? ⟨p, 1, none⟩ = some (.slice B N qc) ∧ (wr.setCell ⟨p, 2, none⟩ (.int .i64 ((cur : Int) - (4 + (len : Int) + 4)))).cell? ⟨p, 2, none⟩ = some (.int .i64 ((lost + ats - sizeL (ls.take (k + 1)) : Nat) : Int)) ∧
          (∃ cs, (wr.setCell ⟨p, 2, none⟩ (.int .i64 ((cur : Int) - (4 + (len : Int) + 4)))).heap[p]? = some (.cells cs 47 (0, 0))) ∧ Loads (wr.setCell ⟨p, 2, none⟩ (.int .i64 ((cur : Int) - (4 + (len : Int) + 4)))) w1.heap.size (.slice (some ⟨g, 0, none⟩) ls.length qo) ls ∧ Bytes (wr.setCell ⟨p, 2, none⟩ (.int .i64 ((cur : Int) - (4 + (len : Int) + 4)))) B N all ∧ Chg (fun k => k = p) w (wr.setCell ⟨p, 2, none⟩ (.int .i64 ((cur : Int) - (4 + (len : Int) + 4))))) :=
        Lib.hid ⟨x0, x1, by rw [x2, hnew], ⟨_, xb⟩, gl.keep c5 (fun k hk e => by omega), ga.chg c5 (fun a ha e => by
          have h0 := HI0.out a ha; omega), gc.trans' c5⟩
      clear x0 x1 x2 xb c5 hnew gl ga gc hsz hszl hcur hld HS hlen g0 g1
      go_wp2_with (fail)
      go_roundw
      case rel => exact ⟨k + 1, by omega, by go_num, HN⟩
      case measure => simp [intOf]; omega
    · have hkn : k = ls.length := by omega
      subst hkn
      rw [List.take_length] at g2
      have hf1 : wr.frozen? ⟨p, 1, none⟩ = false := free_at gb
      have hdl : (all.drop ats).length = N - ats := by rw [List.length_drop, HN.out]
      have hsc1 : scan (rest ++ xs) = (ls, ats) := by rw [HALL.out]; exact hsc.out
      have hdr : (rest ++ xs).drop ats = all.drop ats := by rw [HALL.out]
      have hend : ∀ (B' : Option Addr) (k' : Nat) (w9 : World), w9 = wr.setCell ⟨p, 1, none⟩ (.slice B' (N - ats) k') → N - ats ≤ k' → ((B = none ∧ B' = none) ∨ ∃ g o, B = some ⟨g, 0, none⟩ ∧ B' = some ⟨g, o, none⟩ ∧ (o = ats ∨ N = ats)) →
          ∃ q', w.heap.size ≤ q' ∧ Loads w9 (q' + 1) (.slice Bo ls.length qo) (scan (rest ++ xs)).1 ∧ StrAt w9 p q' ((rest ++ xs).drop (scan (rest ++ xs)).2) (lost + (scan (rest ++ xs)).2 - sizeL (scan (rest ++ xs)).1) ∧ Chg (fun k => k = p) w w9 := by
        intro B' k' w9 e hk' hBB
        subst e
        have c9 : Chg (fun k => k = p) wr (wr.setCell ⟨p, 1, none⟩ (.slice B' (N - ats) k')) := Chg.setCell (S := fun k => k = p) (Chg.refl _ wr) (p := ⟨p, 1, none⟩) (.inr rfl) _
        have x1 := set_at (v := .slice B' (N - ats) k') g1
        have x0 := set_far (w := wr) (p := p) (i := 1) (j := 0) (v := .slice B' (N - ats) k') (by decide)
        have x2 := set_far (w := wr) (p := p) (i := 1) (j := 2) (v := .slice B' (N - ats) k') (by decide)
        have xb := heap_setCell_same wr p 1 _ 47 (.slice B' (N - ats) k') gb
        rw [g0] at x0
        rw [g2] at x2
        rw [← hdl] at x1
        have hby : Bytes (wr.setCell ⟨p, 1, none⟩ (.slice B' (N - ats) k')) B' (all.drop ats).length (all.drop ats) := by
          refine Bytes.chg ?_ c9 ?_
          · rw [hdl]
            rcases hBB with ⟨rfl, rfl⟩ | ⟨g, o, rfl, rfl, ho⟩
            · have h0 : N = 0 := by
                rcases Nat.eq_zero_or_pos N with h | h
                · exact h
                · obtain ⟨g, hg, -⟩ := hB0 h; cases hg
              have := HN.out
              rw [h0] at this ⊢
              obtain rfl := List.eq_nil_of_length_eq_zero this
              simpa using Bytes.nil _ _
            · rcases ho with rfl | rfl
              · have := ga.part o N (by omega) (Nat.le_refl _)
                rw [Nat.zero_add, List.take_of_length_le (by rw [HN.out]; omega)] at this
                exact this
              · have : all.drop N = [] := by rw [List.drop_eq_nil_iff, HN.out]; omega
                rw [this, Nat.sub_self]
                exact Bytes.nil _ _
          · intro a ha e
            rcases hBB with ⟨rfl, rfl⟩ | ⟨g, o, rfl, rfl, ho⟩
            · cases ha
            · cases ha
              have := HI0.out _ rfl
              simp only at this e; omega
        rw [← hdl] at hk'
        obtain ⟨q', ⟨h1, h2⟩, h3⟩ := HST.out _ (all.drop ats) B' k' _ ⟨_, xb⟩ x0 (by rw [hdl] at x1 ⊢; exact x1) x2 hk' hby (by
          rcases hBB with ⟨rfl, rfl⟩ | ⟨g, o, rfl, rfl, ho⟩
          · exact .inl rfl
          · exact .inr ⟨_, rfl, _, rfl, rfl⟩)
        refine ⟨q', h1, ?_, ?_, gc.trans' c9⟩
        · rw [hsc1]
          exact (gl.keep c9 (fun k hk e => by omega)).low (by omega)
        · rw [hsc1]
          simp only
          rw [hdr]
          exact h3
      have HEND := Lib.hid hend
      have s1 : (ats : Int) ≤ (N : Int) := by omega
      have s2 : (ats : Int) ≤ (qc : Int) := by omega
      clear hend hdr hsc1 hdl gl ga gc g0 g2 HS
      rcases HSH.out with ⟨rfl, rfl⟩ | ⟨g, rfl⟩
      · have hN0 : N = 0 := by omega
        have ha0 : ats = 0 := by omega
        have HE := Lib.hid (fun w9 h => HEND.out none 0 w9 h (by omega) (.inl ⟨rfl, rfl⟩))
        subst hN0
        subst ha0
        clear HEND
        go_wp2
        go_ret
        obtain ⟨q', h1, h2⟩ := HE.out _ rfl
        first | exact ⟨_, q', rfl, h1, h2⟩ | exact ⟨_, rfl, q', h1, h2⟩
      · by_cases hq : qc = ats
        · have hq1 := eq_true hq
          have hNa := Lib.hid (show N = ats by omega)
          clear hq
          go_wp2
          go_ret
          obtain ⟨q', h1, h2⟩ := HEND.out (some ⟨g, 0, none⟩) (qc - ats) _ rfl (by omega) (.inr ⟨g, 0, rfl, rfl, .inr hNa.out⟩)
          exact ⟨_, q', rfl, h1, h2⟩
        · have hq1 := eq_false hq
          clear hq
          go_wp2
          go_ret
          obtain ⟨q', h1, h2⟩ := HEND.out (some ⟨g, ats, none⟩) (qc - ats) _ rfl (by omega) (.inr ⟨g, ats, rfl, rfl, .inl rfl⟩)
          exact ⟨_, q', rfl, h1, h2⟩
end Go.Proofs.Ytemofjaonoofhaa
