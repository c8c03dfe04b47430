/- Package gantlineref20: goes, Close, Hear. -/
import Derived.Test.YtpfnphkgmjgmeaaSessN
import Derived.Test.YtpfnphkgmjgmeaaRegL
namespace Go.Proofs.Ytpfnphkgmjgmeaa
open Go Go.RowKit
set_option linter.unusedVariables false
set_option linter.unusedSimpArgs false

/-- Some sessions behind a row of the call's own. -/
theorem catSe {w : World} {B m q : Nat} {v : Value} {A : Option Addr} {L M : List Se} (h : w.ownsRow B 75 4 v L.length (rowCells L)) (hr : Row w A (rowCells M)) (hm : M.length = m) (hB : B ≤ w.heap.size) (hn : (L.length + M.length) * 32 ≤ 140737488355328) :
    ∃ v' w', (Builtin.append_ #[40, 40] 40 #[v, .slice A m q]).run Try.prog w = .ok v' w' ∧ w'.ownsRow B 75 4 v' (L ++ M).length (rowCells (L ++ M)) ∧ Chg (fun k => v.ownBlock = some k) w w' ∧ (∀ k, v'.ownBlock = some k → v.ownBlock = some k ∨ w.heap.size ≤ k) := by
  subst hm
  obtain ⟨v6, w6, hr6, ho6, hg6, hb6⟩ := app_own (P := Try.prog) w B 40 40 75 Try.underlying40 infoSes rfl (by decide) _ _ _ h A M.length q (rowCells M) hr (rowCells_length M) (rowCells_one M) (by decide) hn hB
  refine ⟨v6, w6, hr6, ?_, (Chg.refl _ _).grown hg6 (fun k hk => .inr hk), hb6⟩
  rw [List.length_append, rowCells_append]
  exact ho6
theorem rowCells_take : ∀ (L : List Se) (i : Nat), rowCells (L.take i) = (rowCells L).take (i * 4)
  | [], i => by simp [rowCells]
  | x :: L, 0 => by simp [rowCells]
  | x :: L, i + 1 => by
    rw [List.take_succ_cons, rowCells_cons, rowCells_cons, rowCells_take L i, show (i + 1) * 4 = i * 4 + 1 + 1 + 1 + 1 from by omega]
    simp only [seCells, List.cons_append, List.nil_append, List.take_succ_cons]
theorem rowCells_drop : ∀ (L : List Se) (i : Nat), rowCells (L.drop i) = (rowCells L).drop (i * 4)
  | [], i => by simp [rowCells]
  | x :: L, 0 => by simp
  | x :: L, i + 1 => by
    rw [List.drop_succ_cons, rowCells_drop L i, rowCells_cons, show (i + 1) * 4 = i * 4 + 1 + 1 + 1 + 1 from by omega]
    simp only [seCells, List.cons_append, List.nil_append, List.drop_succ_cons]
/-- A part of a row of sessions. -/
theorem RTab.part {w : World} {B p : Nat} {T : Tb} {us : List UInt64} {vL vU : Value} (h : RTab w B p T us vL vU) : ∃ A q, vL = .slice A T.L.length q ∧ T.L.length ≤ q ∧ (∀ i, Row w A (rowCells (T.L.take i))) ∧ ((A = none ∧ q = 0) ∨ ∃ g, A = some ⟨g, 0, none⟩ ∧ ∀ i, Row w (some ⟨g, i * 4, none⟩) (rowCells (T.L.drop i))) := by
  rcases h.rowL.2 with ⟨rfl, h0⟩ | ⟨g, cap, cur, rfl, hb, hg, hnc, hcm, hcs, htk⟩
  · have h1 : T.L = [] := by
      have := h.rowL.1
      rw [rowCells_length] at this
      exact List.eq_nil_of_length_eq_zero (by omega)
    refine ⟨none, 0, by rw [h1]; rfl, by rw [h1]; exact Nat.le_refl _, fun i => ?_, .inl ⟨rfl, rfl⟩⟩
    rw [h1]
    simp only [List.take_nil, rowCells_nil]
    exact Row.nil _ _
  · have hc : ∀ j u, (rowCells T.L)[j]? = some u → w.cell? ⟨g, j, none⟩ = some u := by
      intro j u hu
      have := World.ownsRow.cells h.rowL (g := g) rfl j u hu
      have e : (⟨g, 0, none⟩ : Addr).add j = ⟨g, j, none⟩ := by unfold Addr.add; split <;> simp_all
      rwa [e] at this
    refine ⟨_, cap, rfl, hnc, fun i => ⟨fun _ => ⟨g, 0, rfl, fun j u hu => ?_⟩⟩, .inr ⟨g, rfl, fun i => ⟨fun _ => ⟨g, i * 4, rfl, fun j u hu => ?_⟩⟩⟩⟩
    · rw [Nat.zero_add]
      rw [rowCells_take] at hu
      apply hc
      rw [List.getElem?_take] at hu
      split at hu
      · exact hu
      · cases hu
    · rw [rowCells_drop, List.getElem?_drop] at hu
      exact hc _ _ hu
theorem Row.chg {S : Nat → Prop} {w w' : World} {A : Option Addr} {cs : List Value} (h : Row w A cs) (hc : Chg S w w') (ho : Off A S) : Row w' A cs := by
  refine ⟨fun hp => ?_⟩
  obtain ⟨b, off, rfl, hcell⟩ := h.cells hp
  exact ⟨b, off, rfl, fun j u hu => hc.cell (hcell j u hu) (ho ⟨b, off, none⟩ rfl)⟩
theorem erase_split (L : List Se) (i : Nat) : L.take i ++ L.drop (i + 1) = L.eraseIdx i := (List.eraseIdx_eq_take_drop_succ L i).symm
/-- What goes leaves. -/
def rgoesPost (w : World) (B p : Nat) (T : Tb) (us : List UInt64) (vU : Value) (i : Nat) (e : Ending) (w' : World) : Prop :=
  ∃ vL', e = .returned (.tuple #[]) ∧ RTab w' B p { T with L := T.L.eraseIdx i } us vL' vU ∧ (∀ k, vL'.ownBlock = some k → w.heap.size ≤ k) ∧ Chg (fun k => k = p) w w'
set_option maxRecDepth 100000 in
set_option maxHeartbeats 4000000 in
theorem rgoes_any {w : World} {B p : Nat} {T : Tb} {us : List UInt64} {vL vU : Value} (h : RTab w B p T us vL vU) (hB : B ≤ w.heap.size) (i : Nat) (hi : i < T.L.length) :
    Calls Try.prog 35 #[.pointer (some ⟨p, 0, none⟩), .int .i64 i] w (rgoesPost w B p T us vU i) := by
  have hl := h.l64
  have h3 := h.c3
  obtain ⟨A, q, rfl, hq, hr1, hr2⟩ := h.part
  rcases hr2 with ⟨rfl, rfl⟩ | ⟨g, rfl, hr2⟩
  · omega
  have hr1 := hr1 i
  have hr2 := hr2 (i + 1)
  have hfr : w.frozen? ⟨p, 3, none⟩ = false := by obtain ⟨cs, b1⟩ := h.blk; exact free_at b1
  have hplt := h.plt
  have s1 : (i : Int) ≤ (q : Int) := by omega
  have s2 : (i : Int) + 1 ≤ (T.L.length : Int) := by omega
  have s3 : (i : Int) + 1 ≤ (q : Int) := by omega
  have s4 : (0 : Int) ≤ (i : Int) + 1 := by omega
  have s5 : (0 : Int) ≤ (i : Int) := by omega
  have s6 : i ≤ q := by omega
  have s7 : i + 1 ≤ q := by omega
  have s8 : i ≤ 64 := by omega
  have H := Lib.hid h
  obtain ⟨N, hN⟩ : ∃ N, T.L.length = N := ⟨_, rfl⟩
  have HN := Lib.hid hN
  rw [hN] at h3 hl hq s2 hi
  have hnil : w.drew.ownsRow w.heap.size 75 4 (.slice none 0 0) ([] : List Se).length (rowCells []) := World.ownsRow_nil _ _ _ _
  have hlk : (T.L.take i).length = i := by rw [List.length_take, HN.out]; omega
  obtain ⟨v6, w6, hr6, ho6, c6, hb6⟩ := catSe (B := w.heap.size) (L := []) (M := T.L.take i) (q := q) (m := i) hnil (hr1.chg (Chg.refl Pure' w).drew (Off.pure _)) hlk (Nat.le_refl w.heap.size) (by rw [hlk]; simp only [List.length_nil]; omega)
  have c6 : Chg Pure' w.drew w6 := c6.mono (fun k hk e => by cases e)
  rw [List.nil_append] at ho6
  have C6 : Chg Pure' w w6 := (Chg.refl Pure' w).drew.pure c6
  have hA2 : ∀ A2, A2 = (if q = i + 1 then some ⟨g, 0, none⟩ else some ⟨g, (i + 1) * 4, none⟩) → Row w6 A2 (rowCells (T.L.drop (i + 1))) := by
    rintro A2 rfl
    split
    · rw [List.drop_eq_nil_of_le (by rw [HN.out]; omega), rowCells_nil]; exact Row.nil _ _
    · exact hr2.chg C6 (Off.pure _)
  obtain ⟨A2, hA2e⟩ : ∃ A2 : Option Addr, A2 = (if q = i + 1 then some ⟨g, 0, none⟩ else some ⟨g, (i + 1) * 4, none⟩) := ⟨_, rfl⟩
  obtain ⟨v7, w7, hr7, ho7, c7, hb7⟩ := catSe (q := q - (i + 1)) (m := N - (i + 1)) ho6 (hA2 A2 hA2e) (by rw [List.length_drop, HN.out]) C6.size (by rw [List.length_take, List.length_drop, HN.out]; omega)
  rw [erase_split] at ho7
  have hv6 := fun k hk => (ho6.lt k hk).1
  have HC67 := Lib.hid c7
  have C7 : Chg Pure' w w7 := C6.trans c7 (fun k hk e => by have := hv6 _ e; omega)
  have c7 : Chg Pure' w.drew w7 := c6.trans c7 (fun k hk e => by have := hv6 _ e; have hk : k < w.heap.size := hk; omega)
  have hv7 := fun k hk => (ho7.lt k hk).1
  obtain ⟨A7, q7, rfl, -⟩ := own_slice ho7
  have H7 := H.out.pure C7
  have hp3 := H7.c3
  have hfr7 : w7.frozen? ⟨p, 3, none⟩ = false := by obtain ⟨cs, b1⟩ := H7.blk; exact free_at b1
  obtain ⟨H8, c8⟩ := H7.setL (T.L.eraseIdx i) (World.ownsRow.low ho7 hB) (Nat.le_trans (List.length_eraseIdx_le _ _) H.out.l64) (fun x hx => H.out.ep x (List.mem_of_mem_eraseIdx hx)) rfl
  have HF := Lib.hid (And.intro H8 (And.intro (show ∀ k, (Value.slice A7 (T.L.eraseIdx i).length q7).ownBlock = some k → w.heap.size ≤ k from hv7) (C7.of_pure.trans' c8)))
  have HV6 := Lib.hid hv6
  obtain ⟨B6, q6, rfl, -⟩ := own_slice ho6
  rw [hlk] at hr6 hr7
  clear hN h ho6 ho7 hb6 hb7 H8 c8 H7 hv6 hv7 hr1 hr2 hA2 hlk
  by_cases hqi : q = i + 1
  · rw [if_pos hqi] at hA2e
    subst hA2e
    subst hqi
    obtain rfl : N = i + 1 := by omega
    rw [Nat.sub_self] at hr7
    have s9 : (i : Int) ≤ (i : Int) + 1 := by omega
    go_enter Try.func35, Try.ntmps35
    refine regL_begin 18 (fun k => w.heap.size ≤ k) (by kernel_rfl) ?_
    refine regL_take 0 (v := ?_) rfl (by kernel_rfl) (by kernel_rfl) (by kernel_rfl) (by kernel_rfl) (fun _ _ _ h => h) (by kernel_rfl) ?_ ?_
    rotate_left
    · (intro w' hS; go_simp; (try go_bits); (try with_reducible rfl))
    try simp only [Act.put, List.getElem_toArray, List.getElem_cons_zero, List.getElem_cons_succ, List.setIfInBounds_toArray, List.set_cons_zero, List.set_cons_succ]
    refine regL_take 1 (v := ?_) rfl (by kernel_rfl) (by kernel_rfl) (by kernel_rfl) (by kernel_rfl) (fun _ _ _ h => h) (by kernel_rfl) ?_ ?_
    rotate_left
    · (intro w' hS; go_simp; (try go_bits); (try with_reducible rfl))
    try simp only [Act.put, List.getElem_toArray, List.getElem_cons_zero, List.getElem_cons_succ, List.setIfInBounds_toArray, List.set_cons_zero, List.set_cons_succ]
    refine regL_take 2 (v := ?_) rfl (by kernel_rfl) (by kernel_rfl) (by kernel_rfl) (by kernel_rfl) (fun _ _ _ h => h) (by kernel_rfl) ?_ ?_
    rotate_left
    · (intro w' hS; go_simp; (try go_bits); (try with_reducible rfl))
    try simp only [Act.put, List.getElem_toArray, List.getElem_cons_zero, List.getElem_cons_succ, List.setIfInBounds_toArray, List.set_cons_zero, List.set_cons_succ]
    refine regL_take 3 (v := ?_) rfl (by kernel_rfl) (by kernel_rfl) (by kernel_rfl) (by kernel_rfl) (fun _ _ _ h => h) (by kernel_rfl) ?_ ?_
    rotate_left
    · (intro w' hS; go_simp; (try go_bits); (try with_reducible rfl))
    try simp only [Act.put, List.getElem_toArray, List.getElem_cons_zero, List.getElem_cons_succ, List.setIfInBounds_toArray, List.set_cons_zero, List.set_cons_succ]
    refine regL_take 4 (v := ?_) rfl (by kernel_rfl) (by kernel_rfl) (by kernel_rfl) (by kernel_rfl) (fun _ _ _ h => h) (by kernel_rfl) ?_ ?_
    rotate_left
    · (intro w' hS; have hz := hS.cell (w := w.drew) h3 (fun h => by simp only at h; omega); go_simp; (try go_bits); (try with_reducible rfl))
    try simp only [Act.put, List.getElem_toArray, List.getElem_cons_zero, List.getElem_cons_succ, List.setIfInBounds_toArray, List.set_cons_zero, List.set_cons_succ]
    refine regL_take 5 (v := ?_) rfl (by kernel_rfl) (by kernel_rfl) (by kernel_rfl) (by kernel_rfl) (fun _ _ _ h => h) (by kernel_rfl) ?_ ?_
    rotate_left
    · (intro w' hS; go_simp; (try go_bits); (try with_reducible rfl))
    try simp only [Act.put, List.getElem_toArray, List.getElem_cons_zero, List.getElem_cons_succ, List.setIfInBounds_toArray, List.set_cons_zero, List.set_cons_succ]
    refine regL_take 6 (v := ?_) rfl (by kernel_rfl) (by kernel_rfl) (by kernel_rfl) (by kernel_rfl) (fun _ _ _ h => h) (by kernel_rfl) ?_ ?_
    rotate_left
    · (intro w' hS; go_simp; (try go_bits); (try with_reducible rfl))
    try simp only [Act.put, List.getElem_toArray, List.getElem_cons_zero, List.getElem_cons_succ, List.setIfInBounds_toArray, List.set_cons_zero, List.set_cons_succ]
    refine regL_take 8 (v := ?_) rfl (by kernel_rfl) (by kernel_rfl) (by kernel_rfl) (by kernel_rfl) (fun _ _ _ h => h) (by kernel_rfl) ?_ ?_
    rotate_left
    · (intro w' hS; go_simp; (try go_bits); (try with_reducible rfl))
    try simp only [Act.put, List.getElem_toArray, List.getElem_cons_zero, List.getElem_cons_succ, List.setIfInBounds_toArray, List.set_cons_zero, List.set_cons_succ]
    refine regL_take 9 (v := ?_) rfl (by kernel_rfl) (by kernel_rfl) (by kernel_rfl) (by kernel_rfl) (fun _ _ _ h => h) (by kernel_rfl) ?_ ?_
    rotate_left
    · (intro w' hS; go_simp; (try go_bits); (try with_reducible rfl))
    try simp only [Act.put, List.getElem_toArray, List.getElem_cons_zero, List.getElem_cons_succ, List.setIfInBounds_toArray, List.set_cons_zero, List.set_cons_succ]
    refine regL_take 10 (v := ?_) rfl (by kernel_rfl) (by kernel_rfl) (by kernel_rfl) (by kernel_rfl) (fun _ _ _ h => h) (by kernel_rfl) ?_ ?_
    rotate_left
    · (intro w' hS; go_simp; (try go_bits); (try with_reducible rfl))
    try simp only [Act.put, List.getElem_toArray, List.getElem_cons_zero, List.getElem_cons_succ, List.setIfInBounds_toArray, List.set_cons_zero, List.set_cons_succ]
    refine regL_take 11 (v := ?_) rfl (by kernel_rfl) (by kernel_rfl) (by kernel_rfl) (by kernel_rfl) (fun _ _ _ h => h) (by kernel_rfl) ?_ ?_
    rotate_left
    · (intro w' hS; have hz := hS.cell (w := w.drew) h3 (fun h => by simp only at h; omega); go_simp; (try go_bits); (try with_reducible rfl))
    try simp only [Act.put, List.getElem_toArray, List.getElem_cons_zero, List.getElem_cons_succ, List.setIfInBounds_toArray, List.set_cons_zero, List.set_cons_succ]
    refine regL_take 12 (v := ?_) rfl (by kernel_rfl) (by kernel_rfl) (by kernel_rfl) (by kernel_rfl) (fun _ _ _ h => h) (by kernel_rfl) ?_ ?_
    rotate_left
    · (intro w' hS; go_simp; (try go_bits); (try with_reducible rfl))
    try simp only [Act.put, List.getElem_toArray, List.getElem_cons_zero, List.getElem_cons_succ, List.setIfInBounds_toArray, List.set_cons_zero, List.set_cons_succ]
    refine regL_take 13 (v := ?_) rfl (by kernel_rfl) (by kernel_rfl) (by kernel_rfl) (by kernel_rfl) (fun _ _ _ h => h) (by kernel_rfl) ?_ ?_
    rotate_left
    · (intro w' hS; go_simp; (try go_bits); (try with_reducible rfl))
    try simp only [Act.put, List.getElem_toArray, List.getElem_cons_zero, List.getElem_cons_succ, List.setIfInBounds_toArray, List.set_cons_zero, List.set_cons_succ]
    refine regL_take 14 (v := ?_) rfl (by kernel_rfl) (by kernel_rfl) (by kernel_rfl) (by kernel_rfl) (fun _ _ _ h => h) (by kernel_rfl) ?_ ?_
    rotate_left
    · (intro w' hS; go_simp; (try go_bits); (try with_reducible rfl))
    try simp only [Act.put, List.getElem_toArray, List.getElem_cons_zero, List.getElem_cons_succ, List.setIfInBounds_toArray, List.set_cons_zero, List.set_cons_succ]
    refine regL_do 7 rfl (by kernel_rfl) (by kernel_rfl) ?_
    intro K hK
    refine Lib.wp_append_run _ _ _ _ _ rfl _ _ rfl rfl _ _ hr6 ?_
    refine hK _ _ (c6.of_pure) ?_
    clear hK K
    try simp only [Act.put, List.getElem_toArray, List.getElem_cons_zero, List.getElem_cons_succ, List.setIfInBounds_toArray, List.set_cons_zero, List.set_cons_succ]
    refine regL_do 15 rfl (by kernel_rfl) (by kernel_rfl) ?_
    intro K hK
    refine Lib.wp_append_run _ _ _ _ _ rfl _ _ rfl rfl _ _ hr7 ?_
    refine hK _ _ (HC67.out.mono (fun k hk e => HV6.out k e)) ?_
    clear hK K
    try simp only [Act.put, List.getElem_toArray, List.getElem_cons_zero, List.getElem_cons_succ, List.setIfInBounds_toArray, List.set_cons_zero, List.set_cons_succ]
    refine regL_do 16 rfl (by kernel_rfl) (by kernel_rfl) ?_
    intro K hK
    go_simp
    refine hK _ _ (Chg.refl _ _) ?_
    clear hK K
    try simp only [Act.put, List.getElem_toArray, List.getElem_cons_zero, List.getElem_cons_succ, List.setIfInBounds_toArray, List.set_cons_zero, List.set_cons_succ]
    refine regL_take 17 (v := ?_) rfl (by kernel_rfl) (by kernel_rfl) (by kernel_rfl) (by kernel_rfl) (fun _ _ _ h => h) (by kernel_rfl) ?_ ?_
    rotate_left
    · (intro w' hS; go_simp; (try go_bits); (try with_reducible rfl))
    try simp only [Act.put, List.getElem_toArray, List.getElem_cons_zero, List.getElem_cons_succ, List.setIfInBounds_toArray, List.set_cons_zero, List.set_cons_succ]
    refine regL_last rfl (by kernel_rfl) (by kernel_rfl) ?_
    intro K hK
    go_simp
    refine hK _ _ ?_
    clear hK K
    try simp only [Act.put, List.getElem_toArray, List.getElem_cons_zero, List.getElem_cons_succ, List.setIfInBounds_toArray, List.set_cons_zero, List.set_cons_succ]
    refine wpAnyL_done (by kernel_rfl) ?_ _
    go_wp2
    first | go_end0 | (refine bodyPost_ret (results_none rfl _ _ _) rfl ?_)
    exact ⟨_, rfl, HF.out⟩
  · rw [if_neg hqi] at hA2e
    subst hA2e
    have hqT := eq_false hqi
    have s9 : i ≤ N := by omega
    clear hqi
    go_enter Try.func35, Try.ntmps35
    refine regL_begin 18 (fun k => w.heap.size ≤ k) (by kernel_rfl) ?_
    refine regL_take 0 (v := ?_) rfl (by kernel_rfl) (by kernel_rfl) (by kernel_rfl) (by kernel_rfl) (fun _ _ _ h => h) (by kernel_rfl) ?_ ?_
    rotate_left
    · (intro w' hS; go_simp; (try go_bits); (try with_reducible rfl))
    try simp only [Act.put, List.getElem_toArray, List.getElem_cons_zero, List.getElem_cons_succ, List.setIfInBounds_toArray, List.set_cons_zero, List.set_cons_succ]
    refine regL_take 1 (v := ?_) rfl (by kernel_rfl) (by kernel_rfl) (by kernel_rfl) (by kernel_rfl) (fun _ _ _ h => h) (by kernel_rfl) ?_ ?_
    rotate_left
    · (intro w' hS; go_simp; (try go_bits); (try with_reducible rfl))
    try simp only [Act.put, List.getElem_toArray, List.getElem_cons_zero, List.getElem_cons_succ, List.setIfInBounds_toArray, List.set_cons_zero, List.set_cons_succ]
    refine regL_take 2 (v := ?_) rfl (by kernel_rfl) (by kernel_rfl) (by kernel_rfl) (by kernel_rfl) (fun _ _ _ h => h) (by kernel_rfl) ?_ ?_
    rotate_left
    · (intro w' hS; go_simp; (try go_bits); (try with_reducible rfl))
    try simp only [Act.put, List.getElem_toArray, List.getElem_cons_zero, List.getElem_cons_succ, List.setIfInBounds_toArray, List.set_cons_zero, List.set_cons_succ]
    refine regL_take 3 (v := ?_) rfl (by kernel_rfl) (by kernel_rfl) (by kernel_rfl) (by kernel_rfl) (fun _ _ _ h => h) (by kernel_rfl) ?_ ?_
    rotate_left
    · (intro w' hS; go_simp; (try go_bits); (try with_reducible rfl))
    try simp only [Act.put, List.getElem_toArray, List.getElem_cons_zero, List.getElem_cons_succ, List.setIfInBounds_toArray, List.set_cons_zero, List.set_cons_succ]
    refine regL_take 4 (v := ?_) rfl (by kernel_rfl) (by kernel_rfl) (by kernel_rfl) (by kernel_rfl) (fun _ _ _ h => h) (by kernel_rfl) ?_ ?_
    rotate_left
    · (intro w' hS; have hz := hS.cell (w := w.drew) h3 (fun h => by simp only at h; omega); go_simp; (try go_bits); (try with_reducible rfl))
    try simp only [Act.put, List.getElem_toArray, List.getElem_cons_zero, List.getElem_cons_succ, List.setIfInBounds_toArray, List.set_cons_zero, List.set_cons_succ]
    refine regL_take 5 (v := ?_) rfl (by kernel_rfl) (by kernel_rfl) (by kernel_rfl) (by kernel_rfl) (fun _ _ _ h => h) (by kernel_rfl) ?_ ?_
    rotate_left
    · (intro w' hS; go_simp; (try go_bits); (try with_reducible rfl))
    try simp only [Act.put, List.getElem_toArray, List.getElem_cons_zero, List.getElem_cons_succ, List.setIfInBounds_toArray, List.set_cons_zero, List.set_cons_succ]
    refine regL_take 6 (v := ?_) rfl (by kernel_rfl) (by kernel_rfl) (by kernel_rfl) (by kernel_rfl) (fun _ _ _ h => h) (by kernel_rfl) ?_ ?_
    rotate_left
    · (intro w' hS; go_simp; (try go_bits); (try with_reducible rfl))
    try simp only [Act.put, List.getElem_toArray, List.getElem_cons_zero, List.getElem_cons_succ, List.setIfInBounds_toArray, List.set_cons_zero, List.set_cons_succ]
    refine regL_take 8 (v := ?_) rfl (by kernel_rfl) (by kernel_rfl) (by kernel_rfl) (by kernel_rfl) (fun _ _ _ h => h) (by kernel_rfl) ?_ ?_
    rotate_left
    · (intro w' hS; go_simp; (try go_bits); (try with_reducible rfl))
    try simp only [Act.put, List.getElem_toArray, List.getElem_cons_zero, List.getElem_cons_succ, List.setIfInBounds_toArray, List.set_cons_zero, List.set_cons_succ]
    refine regL_take 9 (v := ?_) rfl (by kernel_rfl) (by kernel_rfl) (by kernel_rfl) (by kernel_rfl) (fun _ _ _ h => h) (by kernel_rfl) ?_ ?_
    rotate_left
    · (intro w' hS; go_simp; (try go_bits); (try with_reducible rfl))
    try simp only [Act.put, List.getElem_toArray, List.getElem_cons_zero, List.getElem_cons_succ, List.setIfInBounds_toArray, List.set_cons_zero, List.set_cons_succ]
    refine regL_take 10 (v := ?_) rfl (by kernel_rfl) (by kernel_rfl) (by kernel_rfl) (by kernel_rfl) (fun _ _ _ h => h) (by kernel_rfl) ?_ ?_
    rotate_left
    · (intro w' hS; go_simp; (try go_bits); (try with_reducible rfl))
    try simp only [Act.put, List.getElem_toArray, List.getElem_cons_zero, List.getElem_cons_succ, List.setIfInBounds_toArray, List.set_cons_zero, List.set_cons_succ]
    refine regL_take 11 (v := ?_) rfl (by kernel_rfl) (by kernel_rfl) (by kernel_rfl) (by kernel_rfl) (fun _ _ _ h => h) (by kernel_rfl) ?_ ?_
    rotate_left
    · (intro w' hS; have hz := hS.cell (w := w.drew) h3 (fun h => by simp only at h; omega); go_simp; (try go_bits); (try with_reducible rfl))
    try simp only [Act.put, List.getElem_toArray, List.getElem_cons_zero, List.getElem_cons_succ, List.setIfInBounds_toArray, List.set_cons_zero, List.set_cons_succ]
    refine regL_take 12 (v := ?_) rfl (by kernel_rfl) (by kernel_rfl) (by kernel_rfl) (by kernel_rfl) (fun _ _ _ h => h) (by kernel_rfl) ?_ ?_
    rotate_left
    · (intro w' hS; go_simp; (try go_bits); (try with_reducible rfl))
    try simp only [Act.put, List.getElem_toArray, List.getElem_cons_zero, List.getElem_cons_succ, List.setIfInBounds_toArray, List.set_cons_zero, List.set_cons_succ]
    refine regL_take 13 (v := ?_) rfl (by kernel_rfl) (by kernel_rfl) (by kernel_rfl) (by kernel_rfl) (fun _ _ _ h => h) (by kernel_rfl) ?_ ?_
    rotate_left
    · (intro w' hS; go_simp; (try go_bits); (try with_reducible rfl))
    try simp only [Act.put, List.getElem_toArray, List.getElem_cons_zero, List.getElem_cons_succ, List.setIfInBounds_toArray, List.set_cons_zero, List.set_cons_succ]
    refine regL_take 14 (v := ?_) rfl (by kernel_rfl) (by kernel_rfl) (by kernel_rfl) (by kernel_rfl) (fun _ _ _ h => h) (by kernel_rfl) ?_ ?_
    rotate_left
    · (intro w' hS; go_simp; (try go_bits); (try with_reducible rfl))
    try simp only [Act.put, List.getElem_toArray, List.getElem_cons_zero, List.getElem_cons_succ, List.setIfInBounds_toArray, List.set_cons_zero, List.set_cons_succ]
    refine regL_do 7 rfl (by kernel_rfl) (by kernel_rfl) ?_
    intro K hK
    refine Lib.wp_append_run _ _ _ _ _ rfl _ _ rfl rfl _ _ hr6 ?_
    refine hK _ _ (c6.of_pure) ?_
    clear hK K
    try simp only [Act.put, List.getElem_toArray, List.getElem_cons_zero, List.getElem_cons_succ, List.setIfInBounds_toArray, List.set_cons_zero, List.set_cons_succ]
    refine regL_do 15 rfl (by kernel_rfl) (by kernel_rfl) ?_
    intro K hK
    refine Lib.wp_append_run _ _ _ _ _ rfl _ _ rfl rfl _ _ hr7 ?_
    refine hK _ _ (HC67.out.mono (fun k hk e => HV6.out k e)) ?_
    clear hK K
    try simp only [Act.put, List.getElem_toArray, List.getElem_cons_zero, List.getElem_cons_succ, List.setIfInBounds_toArray, List.set_cons_zero, List.set_cons_succ]
    refine regL_do 16 rfl (by kernel_rfl) (by kernel_rfl) ?_
    intro K hK
    go_simp
    refine hK _ _ (Chg.refl _ _) ?_
    clear hK K
    try simp only [Act.put, List.getElem_toArray, List.getElem_cons_zero, List.getElem_cons_succ, List.setIfInBounds_toArray, List.set_cons_zero, List.set_cons_succ]
    refine regL_take 17 (v := ?_) rfl (by kernel_rfl) (by kernel_rfl) (by kernel_rfl) (by kernel_rfl) (fun _ _ _ h => h) (by kernel_rfl) ?_ ?_
    rotate_left
    · (intro w' hS; go_simp; (try go_bits); (try with_reducible rfl))
    try simp only [Act.put, List.getElem_toArray, List.getElem_cons_zero, List.getElem_cons_succ, List.setIfInBounds_toArray, List.set_cons_zero, List.set_cons_succ]
    refine regL_last rfl (by kernel_rfl) (by kernel_rfl) ?_
    intro K hK
    go_simp
    refine hK _ _ ?_
    clear hK K
    try simp only [Act.put, List.getElem_toArray, List.getElem_cons_zero, List.getElem_cons_succ, List.setIfInBounds_toArray, List.set_cons_zero, List.set_cons_succ]
    refine wpAnyL_done (by kernel_rfl) ?_ _
    go_wp2
    first | go_end0 | (refine bodyPost_ret (results_none rfl _ _ _) rfl ?_)
    exact ⟨_, rfl, HF.out⟩
/-- What a call leaves. -/
def rcallPost (w : World) (B p : Nat) (vU : Value) (T' : Tb) (us' : List UInt64) (r : Value) (e : Ending) (w' : World) : Prop :=
  ∃ vL' vU', e = .returned r ∧ RTab w' B p T' us' vL' vU' ∧ (∀ k, RFoot p vL' k → k = p ∨ w.heap.size ≤ k) ∧ (∀ k, vU'.ownBlock = some k → vU.ownBlock = some k ∨ w.heap.size ≤ k) ∧ Chg (fun k => k = p) w w'
set_option maxHeartbeats 4000000 in
theorem rclose_any {w : World} {B p : Nat} {T : Tb} {us : List UInt64} {vL vU : Value} (h : RTab w B p T us vL vU) (hB : B ≤ w.heap.size) (tk : UInt64) (now : Int) :
    Calls Try.prog 20 #[.pointer (some ⟨p, 0, none⟩), .int .u64 (tk.toNat : Int), .int .i64 now] w (rcallPost w B p vU (closeOf T tk now).2 us (.int .i64 (closeOf T tk now).1)) := by
  have hvU := Lib.hid (fun k hk => (h.rowU.lt k hk).1)
  have HT := Lib.hid (rtick_any h hB now)
  clear h
  go_enter Try.func20, Try.ntmps20
  go_wp2_with (fail)
  refine HT.out.mono ?_
  rintro e w1 ⟨ve, vL1, rfl, -, h1, hv1, c1⟩
  clear HT
  have hpl := rplace_any h1 tk
  have H1 := Lib.hid h1
  have HV := Lib.hid hv1
  have hz := c1.size
  rcases place_ge (tickT T now).L tk with hp | ⟨i, hi, hp, -⟩
  · have hcl : closeOf T tk now = (15, tickT T now) := by unfold closeOf; rw [if_pos hp]
    have HC := Lib.hid hcl
    rw [hp] at hpl
    have HP := Lib.hid hpl
    clear hp hpl hcl h1 hv1
    go_wp2_with (fail)
    refine HP.out.mono ?_
    rintro e w2 ⟨rfl, rfl⟩
    go_wp2
    go_ret
    rw [HC.out]
    exact ⟨vL1, vU, rfl, H1.out, fun k hk => hk.imp id (fun h => HV.out k h), fun k hk => .inl hk, c1⟩
  · have hcl : closeOf T tk now = (0, { tickT T now with L := (tickT T now).L.eraseIdx i }) := by
      unfold closeOf
      rw [if_neg (by rw [hp]; omega), hp, Int.toNat_natCast]
    have HC := Lib.hid hcl
    rw [hp] at hpl
    have HP := Lib.hid hpl
    have HI := Lib.hid hi
    clear hp hpl hcl h1 hv1
    go_wp2_with (fail)
    refine HP.out.mono ?_
    rintro e w2 ⟨rfl, rfl⟩
    go_wp2_with (fail)
    refine (rgoes_any H1.out (by omega) i HI.out).mono ?_
    rintro e w3 ⟨vL3, rfl, h3, hv3, c3⟩
    have H3 := Lib.hid h3
    have HV3 := Lib.hid hv3
    clear h3 hv3
    go_wp2
    go_ret
    rw [HC.out]
    exact ⟨vL3, vU, rfl, H3.out, fun k hk => hk.imp id (fun h => by have := HV3.out k h; omega), fun k hk => .inl hk, c1.trans' c3⟩
end Go.Proofs.Ytpfnphkgmjgmeaa
