/- A datagram goes from a net. -/
import Derived.Test.YtnpkpfcljkekfaaLinkO
namespace Go.Proofs.Ytnpkpfcljkekfaa
open Go Go.RowKit
set_option linter.unusedVariables false
set_option maxRecDepth 100000
set_option linter.unusedSimpArgs false

theorem nilGram (w : World) : (zeroValue 109).run Try.prog w = .ok (.agg #[.slice none 0 0, .bool false]) w := by kernel_rfl
theorem run_clear2 (w : World) (ty : TypeId) (b o c : Nat) (hc : ∀ j, j < 2 → (w.cell? ⟨b, o + j, none⟩).isSome = true) (hf : ∀ j, j < 2 → w.frozen? ⟨b, o + j, none⟩ = false) :
    (Builtin.clear_ #[93] ty #[.slice (some ⟨b, o, none⟩) 1 c]).run Try.prog w = .ok (.tuple #[]) (w.setCells b o [.slice none 0 0, .bool false]) := by
  have hzc : (Builtin.zeroCells (Value.agg #[.slice none 0 0, .bool false]).cells 1).toList = [.slice none 0 0, .bool false] := by kernel_rfl
  have hst := run_storeCells_cells (P := Try.prog) b o [.slice none 0 0, .bool false] 0 w (by simpa using hc) (by simpa using hf) (by intro x hx; simp at hx; rcases hx with rfl | rfl <;> rfl)
  simp only [Nat.add_zero] at hst
  simp [Builtin.clear_, run_underlying Try.underlying93, nilGram, hzc, hst]
theorem cut2 {w : World} {base e g n cap k : Nat} {xs : List Value} (h : w.ownsRow base e 2 (.slice (some ⟨g, 0, none⟩) n cap) n xs) (hk : k ≤ n) : w.ownsRow base e 2 (.slice (some ⟨g, 0, none⟩) k cap) k (xs.take (k * 2)) := by
  rcases h.2 with ⟨h', _⟩ | ⟨g', cap', cur, h', hb, hg, hnc, hcm, hcs, htake⟩
  · cases h'
  · cases h'
    have hl := h.1
    refine ⟨by simp; omega, .inr ⟨g, cap, cur, rfl, hb, hg, by omega, hcm, hcs, ?_⟩⟩
    rw [← htake, List.take_take, show min (k * 2) (n * 2) = k * 2 from by omega]
theorem row_setCells2 {base e g n cap : Nat} : ∀ (vs : List Value) (o : Nat) (w : World) (xs : List Value), w.ownsRow base e 2 (.slice (some ⟨g, 0, none⟩) n cap) n xs →
    ∃ ys, (w.setCells g o vs).ownsRow base e 2 (.slice (some ⟨g, 0, none⟩) n cap) n ys ∧ ys.take o = xs.take o ∧ Chg (fun k => k = g) w (w.setCells g o vs)
  | [], o, w, xs, h => ⟨xs, h, rfl, Chg.refl _ _⟩
  | v :: vs, o, w, xs, h => by
    obtain ⟨h1, -⟩ := h.stored o v
    obtain ⟨ys, h2, h3, h4⟩ := row_setCells2 vs (o + 1) _ _ h1
    refine ⟨ys, h2, ?_, (Chg.setCell (S := fun k => k = g) (Chg.refl _ w) (p := ⟨g, o, none⟩) (.inr rfl) v).trans' h4⟩
    have := congrArg (List.take o) h3
    rw [List.take_take, List.take_take, show min o (o + 1) = o from by omega] at this
    rw [this, List.take_set_of_le (Nat.le_refl _)]
theorem gcells_one (G : List Gd) : ∀ u ∈ gcells G, u.oneCell' = true := by
  intro u hu
  unfold gcells at hu
  obtain ⟨g, -, hg⟩ := List.mem_flatMap.1 hu
  simp at hg
  rcases hg with rfl | rfl <;> rfl
theorem gcells_take : ∀ (G : List Gd) (i : Nat), (gcells G).take (i * 2) = gcells (G.take i)
  | [], i => by simp [gcells]
  | g :: G, 0 => by simp [gcells]
  | g :: G, i + 1 => by
    have ih := gcells_take G i
    unfold gcells at ih ⊢
    rw [List.take_succ_cons, List.flatMap_cons, List.flatMap_cons, ← ih, show (i + 1) * 2 = (i * 2 + 1) + 1 from by omega]
    simp
theorem gcells_drop : ∀ (G : List Gd) (i : Nat), (gcells G).drop (i * 2) = gcells (G.drop i)
  | [], i => by simp [gcells]
  | g :: G, 0 => by simp [gcells]
  | g :: G, i + 1 => by
    have ih := gcells_drop G i
    unfold gcells at ih ⊢
    rw [List.drop_succ_cons, List.flatMap_cons, ← ih, show (i + 1) * 2 = (i * 2 + 1) + 1 from by omega]
    simp
theorem gcells_erase (G : List Gd) (i : Nat) : gcells (G.eraseIdx i) = (gcells G).take (i * 2) ++ (gcells G).drop ((i + 1) * 2) := by
  rw [gcells_take, gcells_drop, List.eraseIdx_eq_take_drop_succ]
  simp [gcells]
/-- What Delete leaves. -/
def delPost (w : World) (B : Nat) (v : Value) (G : List Gd) (i : Nat) (e : Ending) (w' : World) : Prop :=
  ∃ v', e = .returned v' ∧ w'.ownsRow B 109 2 v' (G.length - 1) (gcells (G.eraseIdx i)) ∧ Chg (fun k => v.ownBlock = some k) w w' ∧ ∀ k, v'.ownBlock = some k → v.ownBlock = some k
set_option maxHeartbeats 4000000 in
theorem delg_any {w : World} {B : Nat} {v : Value} {G : List Gd} {i : Nat} (h : w.ownsRow B 109 2 v G.length (gcells G)) (hi : i < G.length) (hn : G.length ≤ 256) :
    Calls Try.prog 64 #[v, .int .i64 i, .int .i64 ((i : Int) + 1)] w (delPost w B v G i) := by
  obtain ⟨n, hnE⟩ : ∃ n, G.length = n := ⟨_, rfl⟩
  obtain ⟨xs, hxs⟩ : ∃ xs, gcells G = xs := ⟨_, rfl⟩
  have her0 := gcells_erase G i
  rw [hnE] at h hi hn
  rw [hxs] at h her0
  have hl : xs.length = n * 2 := by rw [← hxs, gcells_length, hnE]
  have h1 : ∀ u ∈ xs, u.oneCell' = true := by rw [← hxs]; exact gcells_one G
  have HNE := Lib.hid hnE
  clear hnE hxs
  obtain ⟨wd, hwd⟩ : ∃ wd, wd = w.drew := ⟨_, rfl⟩
  have C0 : Chg Pure' w wd := by rw [hwd]; exact (Chg.refl _ w).drew
  have h : wd.ownsRow B 109 2 v n xs := by rw [hwd]; exact h.drew
  have HWD := Lib.hid hwd
  clear hwd
  rcases h.2 with ⟨rfl, h0⟩ | ⟨g, q, cur, rfl, hb, hg, hnq, hqm, hcs, htk⟩
  · omega
  · obtain ⟨ti, hti, hz0, hz1, hz2⟩ := info_parts infoGram
    have hrow : ∀ j u, (xs.drop ((i + 1) * 2))[j]? = some u → wd.cell? ⟨g, (i + 1) * 2 + j, none⟩ = some u := by
      intro j u hu
      rw [List.getElem?_drop] at hu
      have := h.cellAt ((i + 1) * 2 + j) (by have := (List.getElem?_eq_some_iff.1 hu).1; omega)
      rw [this, hu]
    have hone : ∀ u ∈ xs.drop ((i + 1) * 2), u.oneCell' = true := fun u hu => h1 u (List.mem_of_mem_drop hu)
    have hrun : ∀ (a : Addr) (c : Nat), (a = ⟨g, (i + 1) * 2, none⟩ ∨ (xs.drop ((i + 1) * 2)) = []) → (Builtin.append_ #[93, 93] 93 #[.slice (some ⟨g, 0, none⟩) i q, .slice (some a) (n - (i + 1)) c]).run Try.prog wd =
        .ok (.slice (some ⟨g, 0, none⟩) (n - 1) q) (wd.setRow g (cur.toList.take (i * 2) ++ xs.drop ((i + 1) * 2) ++ cur.toList.drop ((n - 1) * 2)).toArray) := by
      intro a c ha
      have := run_append_room (P := Try.prog) wd 93 93 109 ti Try.underlying93 hti g i q cur hg a (n - (i + 1)) c (xs.drop ((i + 1) * 2)) (by rw [hz1]; simp; omega)
        (fun j u hu => by
          rcases ha with rfl | ha
          · have e : (⟨g, (i + 1) * 2, none⟩ : Addr).add j = ⟨g, (i + 1) * 2 + j, none⟩ := by unfold Addr.add; split <;> simp_all
            rw [e]; exact hrow j u hu
          · rw [ha] at hu; simp at hu) hone (by omega) (by rw [hz1]; simp; omega)
      rw [this, hz1]
      congr 1
      · congr 1; omega
      · congr 3
        simp; congr 1; omega
    have h2 : (wd.setRow g (cur.toList.take (i * 2) ++ xs.drop ((i + 1) * 2) ++ cur.toList.drop ((n - 1) * 2)).toArray).ownsRow B 109 2 (.slice (some ⟨g, 0, none⟩) n q) n ((cur.toList.take (i * 2) ++ xs.drop ((i + 1) * 2) ++ cur.toList.drop ((n - 1) * 2)).take (n * 2)) ∧
        Chg (fun k => k = g) wd (wd.setRow g (cur.toList.take (i * 2) ++ xs.drop ((i + 1) * 2) ++ cur.toList.drop ((n - 1) * 2)).toArray) := by
      refine ⟨⟨?_, .inr ⟨g, q, (cur.toList.take (i * 2) ++ xs.drop ((i + 1) * 2) ++ cur.toList.drop ((n - 1) * 2)).toArray, rfl, hb, ?_, hnq, hqm, ?_, ?_⟩⟩, Chg.setRow (S := fun k => k = g) (Chg.refl _ wd) (.inr rfl) _⟩
      · simp; omega
      · exact setRow_heap wd g cur _ _ _ hg
      · simp; omega
      · simp
    have her : ((cur.toList.take (i * 2) ++ xs.drop ((i + 1) * 2) ++ cur.toList.drop ((n - 1) * 2)).take (n * 2)).take ((n - 1) * 2) = gcells (G.eraseIdx i) := by
      rw [List.take_take, show min ((n - 1) * 2) (n * 2) = (n - 1) * 2 from by omega, List.take_append_of_le_length (by simp; omega), her0, List.take_of_length_le (by simp; omega), ← htk]
      congr 1
      rw [List.take_take, show min (i * 2) (n * 2) = i * 2 from by omega]
    obtain ⟨hR2, c2⟩ := h2
    generalize (wd.setRow g (cur.toList.take (i * 2) ++ xs.drop ((i + 1) * 2) ++ cur.toList.drop ((n - 1) * 2)).toArray) = w2 at *
    have hclr := run_clear2 w2 0 g ((n - 1) * 2) (q - (n - 1))
      (fun j hj => by rw [hR2.cellAt ((n - 1) * 2 + j) (by omega), List.getElem?_eq_getElem (by have := hR2.1; omega)]; rfl) (fun j hj => hR2.frozenAt _)
    obtain ⟨ys, hR3, hy, c3⟩ := row_setCells2 [.slice none 0 0, .bool false] ((n - 1) * 2) w2 _ hR2
    generalize w2.setCells g ((n - 1) * 2) [.slice none 0 0, .bool false] = w3 at *
    have hcut := cut2 hR3 (k := n - 1) (by omega)
    rw [hy, her] at hcut
    have C3 := c2.trans' c3
    obtain ⟨n1, rfl⟩ : ∃ n1, n = n1 + 1 := ⟨n - 1, by omega⟩
    simp only [Nat.add_sub_cancel] at hrun hclr hcut
    have hin : i ≤ n1 := by omega
    clear hR2 hR3 hy c3 her h hrow hcs htk hg her0 h1
    by_cases hq : i + 1 < q
    · have r := hrun ⟨g, (i + 1) * 2, none⟩ (q - (i + 1)) (.inl rfl)
      rw [show n1 + 1 - (i + 1) = n1 - i from by omega] at r
      clear hrun
      have s1 : i ≤ q := by omega
      have s2 : (0 : Int) ≤ (i : Int) + 1 := by omega
      have s3 : (q = i + 1) = False := eq_false (by omega)
      clear hl hone
      go_enter Try.func64, Try.ntmps64
      go_wp2_with (fail)
      refine reg_begin (fun k => k = g) (by kernel_rfl) ?_
      rw [← HWD.out]
      refine reg_take 0 (v := ?_) rfl (by kernel_rfl) (by kernel_rfl) (by kernel_rfl) (fun _ _ _ h => h) (by kernel_rfl) ?_ ?_
      rotate_left
      · (intro w' hS; go_simp; (try go_bits); (try with_reducible rfl))
      try simp only [Act.put, List.getElem_toArray, List.getElem_cons_zero, List.getElem_cons_succ, List.setIfInBounds_toArray, List.set_cons_zero, List.set_cons_succ]
      refine reg_take 1 (v := ?_) rfl (by kernel_rfl) (by kernel_rfl) (by kernel_rfl) (fun _ _ _ h => h) (by kernel_rfl) ?_ ?_
      rotate_left
      · (intro w' hS; go_simp; (try go_bits); (try with_reducible rfl))
      try simp only [Act.put, List.getElem_toArray, List.getElem_cons_zero, List.getElem_cons_succ, List.setIfInBounds_toArray, List.set_cons_zero, List.set_cons_succ]
      refine reg_take 2 (v := ?_) rfl (by kernel_rfl) (by kernel_rfl) (by kernel_rfl) (fun _ _ _ h => h) (by kernel_rfl) ?_ ?_
      rotate_left
      · (intro w' hS; go_simp; (try go_bits); (try with_reducible rfl))
      try simp only [Act.put, List.getElem_toArray, List.getElem_cons_zero, List.getElem_cons_succ, List.setIfInBounds_toArray, List.set_cons_zero, List.set_cons_succ]
      refine reg_take 3 (v := ?_) rfl (by kernel_rfl) (by kernel_rfl) (by kernel_rfl) (fun _ _ _ h => h) (by kernel_rfl) ?_ ?_
      rotate_left
      · (intro w' hS; go_simp; (try go_bits); (try with_reducible rfl))
      try simp only [Act.put, List.getElem_toArray, List.getElem_cons_zero, List.getElem_cons_succ, List.setIfInBounds_toArray, List.set_cons_zero, List.set_cons_succ]
      refine reg_take 4 (v := ?_) rfl (by kernel_rfl) (by kernel_rfl) (by kernel_rfl) (fun _ _ _ h => h) (by kernel_rfl) ?_ ?_
      rotate_left
      · (intro w' hS; go_simp; (try go_bits); (try with_reducible rfl))
      try simp only [Act.put, List.getElem_toArray, List.getElem_cons_zero, List.getElem_cons_succ, List.setIfInBounds_toArray, List.set_cons_zero, List.set_cons_succ]
      refine reg_take 5 (v := ?_) rfl (by kernel_rfl) (by kernel_rfl) (by kernel_rfl) (fun _ _ _ h => h) (by kernel_rfl) ?_ ?_
      rotate_left
      · (intro w' hS; go_simp; (try go_bits); (try with_reducible rfl))
      try simp only [Act.put, List.getElem_toArray, List.getElem_cons_zero, List.getElem_cons_succ, List.setIfInBounds_toArray, List.set_cons_zero, List.set_cons_succ]
      refine reg_do 6 rfl (by kernel_rfl) (by kernel_rfl) ?_
      intro K hK
      refine Lib.wp_append_run _ _ _ _ _ rfl _ _ rfl rfl _ _ r ?_
      refine hK _ _ (c2) ?_
      clear hK K
      try simp only [Act.put, List.getElem_toArray, List.getElem_cons_zero, List.getElem_cons_succ, List.setIfInBounds_toArray, List.set_cons_zero, List.set_cons_succ]
      refine reg_take 7 (v := ?_) rfl (by kernel_rfl) (by kernel_rfl) (by kernel_rfl) (fun _ _ _ h => h) (by kernel_rfl) ?_ ?_
      rotate_left
      · (intro w' hS; go_simp; (try go_bits); (try with_reducible rfl))
      try simp only [Act.put, List.getElem_toArray, List.getElem_cons_zero, List.getElem_cons_succ, List.setIfInBounds_toArray, List.set_cons_zero, List.set_cons_succ]
      refine wpAnyH_done (by kernel_rfl) ?_ _
      clear r
      go_wp2
      go_ret
      exact ⟨_, rfl, by rw [HNE.out]; simpa using hcut, (C0.of_pure.trans' C3).mono (fun k _ e => by rw [show k = g from e]; rfl), fun k hk => by simpa [Value.ownBlock] using hk⟩
    · have hxe : xs.drop ((i + 1) * 2) = [] := List.drop_of_length_le (by omega)
      have hin1 : i = n1 := by omega
      subst hin1
      have hq1 : q = i + 1 := by omega
      subst hq1
      have r := hrun ⟨g, 0, none⟩ 0 (.inr hxe)
      rw [show i + 1 - (i + 1) = 0 from by omega] at r
      clear hrun hxe
      have s2 : (0 : Int) ≤ (i : Int) + 1 := by omega
      have s4 : (i : Int) ≤ (i : Int) + 1 := by omega
      rw [show i + 1 - i = 1 from by omega] at hclr
      clear hl hone
      go_enter Try.func64, Try.ntmps64
      go_wp2_with (fail)
      refine reg_begin (fun k => k = g) (by kernel_rfl) ?_
      rw [← HWD.out]
      refine reg_take 0 (v := ?_) rfl (by kernel_rfl) (by kernel_rfl) (by kernel_rfl) (fun _ _ _ h => h) (by kernel_rfl) ?_ ?_
      rotate_left
      · (intro w' hS; go_simp; (try go_bits); (try with_reducible rfl))
      try simp only [Act.put, List.getElem_toArray, List.getElem_cons_zero, List.getElem_cons_succ, List.setIfInBounds_toArray, List.set_cons_zero, List.set_cons_succ]
      refine reg_take 1 (v := ?_) rfl (by kernel_rfl) (by kernel_rfl) (by kernel_rfl) (fun _ _ _ h => h) (by kernel_rfl) ?_ ?_
      rotate_left
      · (intro w' hS; go_simp; (try go_bits); (try with_reducible rfl))
      try simp only [Act.put, List.getElem_toArray, List.getElem_cons_zero, List.getElem_cons_succ, List.setIfInBounds_toArray, List.set_cons_zero, List.set_cons_succ]
      refine reg_take 2 (v := ?_) rfl (by kernel_rfl) (by kernel_rfl) (by kernel_rfl) (fun _ _ _ h => h) (by kernel_rfl) ?_ ?_
      rotate_left
      · (intro w' hS; go_simp; (try go_bits); (try with_reducible rfl))
      try simp only [Act.put, List.getElem_toArray, List.getElem_cons_zero, List.getElem_cons_succ, List.setIfInBounds_toArray, List.set_cons_zero, List.set_cons_succ]
      refine reg_take 3 (v := ?_) rfl (by kernel_rfl) (by kernel_rfl) (by kernel_rfl) (fun _ _ _ h => h) (by kernel_rfl) ?_ ?_
      rotate_left
      · (intro w' hS; go_simp; (try go_bits); (try with_reducible rfl))
      try simp only [Act.put, List.getElem_toArray, List.getElem_cons_zero, List.getElem_cons_succ, List.setIfInBounds_toArray, List.set_cons_zero, List.set_cons_succ]
      refine reg_take 4 (v := ?_) rfl (by kernel_rfl) (by kernel_rfl) (by kernel_rfl) (fun _ _ _ h => h) (by kernel_rfl) ?_ ?_
      rotate_left
      · (intro w' hS; go_simp; (try go_bits); (try with_reducible rfl))
      try simp only [Act.put, List.getElem_toArray, List.getElem_cons_zero, List.getElem_cons_succ, List.setIfInBounds_toArray, List.set_cons_zero, List.set_cons_succ]
      refine reg_take 5 (v := ?_) rfl (by kernel_rfl) (by kernel_rfl) (by kernel_rfl) (fun _ _ _ h => h) (by kernel_rfl) ?_ ?_
      rotate_left
      · (intro w' hS; go_simp; (try go_bits); (try with_reducible rfl))
      try simp only [Act.put, List.getElem_toArray, List.getElem_cons_zero, List.getElem_cons_succ, List.setIfInBounds_toArray, List.set_cons_zero, List.set_cons_succ]
      refine reg_do 6 rfl (by kernel_rfl) (by kernel_rfl) ?_
      intro K hK
      refine Lib.wp_append_run _ _ _ _ _ rfl _ _ rfl rfl _ _ r ?_
      refine hK _ _ (c2) ?_
      clear hK K
      try simp only [Act.put, List.getElem_toArray, List.getElem_cons_zero, List.getElem_cons_succ, List.setIfInBounds_toArray, List.set_cons_zero, List.set_cons_succ]
      refine reg_take 7 (v := ?_) rfl (by kernel_rfl) (by kernel_rfl) (by kernel_rfl) (fun _ _ _ h => h) (by kernel_rfl) ?_ ?_
      rotate_left
      · (intro w' hS; go_simp; (try go_bits); (try with_reducible rfl))
      try simp only [Act.put, List.getElem_toArray, List.getElem_cons_zero, List.getElem_cons_succ, List.setIfInBounds_toArray, List.set_cons_zero, List.set_cons_succ]
      refine wpAnyH_done (by kernel_rfl) ?_ _
      clear r
      go_wp2
      go_ret
      exact ⟨_, rfl, by rw [HNE.out]; simpa using hcut, (C0.of_pure.trans' C3).mono (fun k _ e => by rw [show k = g from e]; rfl), fun k hk => by simpa [Value.ownBlock] using hk⟩
end Go.Proofs.Ytnpkpfcljkekfaa
namespace Go.Proofs.Ytnpkpfcljkekfaa
open Go Go.RowKit
set_option linter.unusedVariables false
set_option maxRecDepth 100000
set_option linter.unusedSimpArgs false

def dataPost (w : World) (B : Base) (L : Lm) (m : Ms) (e : Ending) (w' : World) : Prop :=
  e = .returned (.int .i64 (dataR L.W L.T L.L m.seq m.load).1) ∧ Chg (fun k => k = L.rp) w w' ∧ ∃ col F, LinkAt w' B col { L with F := F, L := (dataR L.W L.T L.L m.seq m.load).2 }
set_option maxHeartbeats 4000000 in
theorem ldata_any {w : World} {B : Base} {col : Nat → Nat} {L : Lm} (h : LinkAt w B col L) (m : Ms) (A : Option Addr) (c : Nat) (hA : Bytes w A m.load.length m.load) (hn : m.load.length ≤ 140737488351000) (hT : L.T ≤ 4611686018427387904) (hs : -9223372036854775808 ≤ m.seq ∧ m.seq ≤ 9223372036854775807) :
    Calls Try.prog 50 #[.pointer (some ⟨L.p, 0, none⟩), m.val A m.load.length c] w (dataPost w B L m) := by
  obtain ⟨w1, hw1⟩ : ∃ w1, w.alloc (.cells (m.cells A m.load.length c) 25) = w1 := ⟨_, rfl⟩
  have ca : Chg Pure' w w1 := by rw [← hw1]; exact (Chg.refl _ _).alloc _
  have hb1 : w1.drew.heap[w.heap.size]? = some (.cells (m.cells A m.load.length c) 25 (0, 0)) := by rw [← hw1]; exact heap_alloc_new w _
  have hd := h.pure (ca.drew)
  have x4 := hd.lk.c4
  have y3 := msg_cell hb1 3
  have y8 := msg_cell hb1 8
  have hnp : ¬ L.p = L.rp := fun e => by
    have h1 := h.k3
    have h2 := h.k2 _ h.rcv.own
    rw [e] at h1
    omega
  have hnm : ¬ w.heap.size = L.rp := fun e => by have := h.rcv.lt _ h.rcv.own; omega
  have hrB : B.ok L.rp := (h.own _ (by rw [h.k2 _ h.rcv.own]; decide)).1
  have HDT := Lib.hid (data_any _ _ _ _ _ m.seq A m.load.length c m.load _ hd.rcv hT hs (hA.pure ca.drew) (by omega))
  have HD := Lib.hid hd
  have CA := Lib.hid (ca.drew)
  have HW1 := Lib.hid hw1
  clear ca hb1 hd h hA hw1
  unfold Ms.val
  unfold Ms.cells at *
  go_enter Try.func50, Try.ntmps50
  go_wp2_with (fail)
  rw [HW1.out]
  refine reg_begin (fun k => k = L.rp) (by kernel_rfl) ?_
  generalize w1.drew = wd at *
  refine reg_take 0 (v := ?_) rfl (by kernel_rfl) (by kernel_rfl) (by kernel_rfl) (fun _ _ _ h => h) (by kernel_rfl) ?_ ?_
  rotate_left
  · (intro w' hS; go_simp; (try go_bits); (try with_reducible rfl))
  try simp only [Act.put, List.getElem_toArray, List.getElem_cons_zero, List.getElem_cons_succ, List.setIfInBounds_toArray, List.set_cons_zero, List.set_cons_succ]
  refine reg_take 1 (v := ?_) rfl (by kernel_rfl) (by kernel_rfl) (by kernel_rfl) (fun _ _ _ h => h) (by kernel_rfl) ?_ ?_
  rotate_left
  · (intro w' hS; go_simp; (try go_bits); (try with_reducible rfl))
  try simp only [Act.put, List.getElem_toArray, List.getElem_cons_zero, List.getElem_cons_succ, List.setIfInBounds_toArray, List.set_cons_zero, List.set_cons_succ]
  refine reg_take 2 (v := ?_) rfl (by kernel_rfl) (by kernel_rfl) (by kernel_rfl) (fun _ _ _ h => h) (by kernel_rfl) ?_ ?_
  rotate_left
  · (intro w' hS; go_simp; (try go_bits); (try with_reducible rfl))
  try simp only [Act.put, List.getElem_toArray, List.getElem_cons_zero, List.getElem_cons_succ, List.setIfInBounds_toArray, List.set_cons_zero, List.set_cons_succ]
  refine reg_take 3 (v := ?_) rfl (by kernel_rfl) (by kernel_rfl) (by kernel_rfl) (fun _ _ _ h => h) (by kernel_rfl) ?_ ?_
  rotate_left
  · (intro w' hS; have hz := hS.cell (w := wd) x4 hnp; go_simp; (try go_bits); (try with_reducible rfl))
  try simp only [Act.put, List.getElem_toArray, List.getElem_cons_zero, List.getElem_cons_succ, List.setIfInBounds_toArray, List.set_cons_zero, List.set_cons_succ]
  refine reg_take 4 (v := ?_) rfl (by kernel_rfl) (by kernel_rfl) (by kernel_rfl) (fun _ _ _ h => h) (by kernel_rfl) ?_ ?_
  rotate_left
  · (intro w' hS; go_simp; (try go_bits); (try with_reducible rfl))
  try simp only [Act.put, List.getElem_toArray, List.getElem_cons_zero, List.getElem_cons_succ, List.setIfInBounds_toArray, List.set_cons_zero, List.set_cons_succ]
  refine reg_take 5 (v := ?_) rfl (by kernel_rfl) (by kernel_rfl) (by kernel_rfl) (fun _ _ _ h => h) (by kernel_rfl) ?_ ?_
  rotate_left
  · (intro w' hS; have hz := hS.cell (w := wd) y3 hnm; go_simp; (try go_bits); (try with_reducible rfl))
  try simp only [Act.put, List.getElem_toArray, List.getElem_cons_zero, List.getElem_cons_succ, List.setIfInBounds_toArray, List.set_cons_zero, List.set_cons_succ]
  refine reg_take 6 (v := ?_) rfl (by kernel_rfl) (by kernel_rfl) (by kernel_rfl) (fun _ _ _ h => h) (by kernel_rfl) ?_ ?_
  rotate_left
  · (intro w' hS; go_simp; (try go_bits); (try with_reducible rfl))
  try simp only [Act.put, List.getElem_toArray, List.getElem_cons_zero, List.getElem_cons_succ, List.setIfInBounds_toArray, List.set_cons_zero, List.set_cons_succ]
  refine reg_take 7 (v := ?_) rfl (by kernel_rfl) (by kernel_rfl) (by kernel_rfl) (fun _ _ _ h => h) (by kernel_rfl) ?_ ?_
  rotate_left
  · (intro w' hS; have hz := hS.cell (w := wd) y8 hnm; go_simp; (try go_bits); (try with_reducible rfl))
  try simp only [Act.put, List.getElem_toArray, List.getElem_cons_zero, List.getElem_cons_succ, List.setIfInBounds_toArray, List.set_cons_zero, List.set_cons_succ]
  refine reg_do 8 rfl (by kernel_rfl) (by kernel_rfl) ?_
  intro K hK
  go_simp
  refine HDT.out.mono ?_
  rintro e w2 ⟨rfl, c2, hr2⟩
  refine hK _ _ (c2) ?_
  clear hK K
  try simp only [Act.put, List.getElem_toArray, List.getElem_cons_zero, List.getElem_cons_succ, List.setIfInBounds_toArray, List.set_cons_zero, List.set_cons_succ]
  refine reg_take 9 (v := ?_) rfl (by kernel_rfl) (by kernel_rfl) (by kernel_rfl) (fun _ _ _ h => h) (by kernel_rfl) ?_ ?_
  rotate_left
  · (intro w' hS; go_simp; (try go_bits); (try with_reducible rfl))
  try simp only [Act.put, List.getElem_toArray, List.getElem_cons_zero, List.getElem_cons_succ, List.setIfInBounds_toArray, List.set_cons_zero, List.set_cons_succ]
  refine wpAnyH_done (by kernel_rfl) ?_ _
  have hL2 := HD.out.receiver c2 (fun k hk => hk) hr2 (fun k hk => hk.elim .inl (fun h => .inr h.1))
  have C2 : Chg (fun k => k = L.rp) w w2 := (Chg.of_pure CA.out).trans' c2
  have HL2 := Lib.hid hL2
  clear hL2 hr2 c2 x4 y3 y8 HDT HD CA HW1
  go_wp2
  go_ret
  exact ⟨rfl, C2, _, _, HL2.out⟩
theorem ack_foot {p b : Nat} {adr : Nat → Nat} {D : Nat → Prop} {base lim : Nat} {Ls : List Ld} {ack credit : Int} {m : UInt64} {k : Nat} (h : Foot p b adr D (ackOf base lim Ls ack m credit).2.1 (ackOf base lim Ls ack m credit).2.2.2.length k) : Foot p b adr D base Ls.length k := by
  unfold ackOf at h
  split at h
  · simp only [List.length_drop] at h
    have e : (Ls.mapIdx fun j x => ackLd ack m ((base + j : Nat) : Int) x).length = Ls.length := by simp
    have hd := doneN_le (Ls.mapIdx fun j x => ackLd ack m ((base + j : Nat) : Int) x)
    rw [e] at h hd
    exact h.drop
  · exact h
def ackPost (w : World) (B : Base) (L : Lm) (m : Ms) (e : Ending) (w' : World) : Prop :=
  e = .returned (.int .i64 (ackOf L.base L.lim L.Ls m.ack m.bits m.credit).1) ∧ Chg (Foot L.sp L.sb L.adr L.D L.base L.Ls.length) w w' ∧ ∃ col, LinkAt w' B col { L with base := (ackOf L.base L.lim L.Ls m.ack m.bits m.credit).2.1, lim := (ackOf L.base L.lim L.Ls m.ack m.bits m.credit).2.2.1, Ls := (ackOf L.base L.lim L.Ls m.ack m.bits m.credit).2.2.2 }
set_option maxHeartbeats 4000000 in
theorem lack_any {w : World} {B : Base} {col : Nat → Nat} {L : Lm} (h : LinkAt w B col L) (m : Ms) (A : Option Addr) (n c : Nat) :
    Calls Try.prog 51 #[.pointer (some ⟨L.p, 0, none⟩), m.val A n c] w (ackPost w B L m) := by
  obtain ⟨w1, hw1⟩ : ∃ w1, w.alloc (.cells (m.cells A n c) 25) = w1 := ⟨_, rfl⟩
  have ca : Chg Pure' w w1 := by rw [← hw1]; exact (Chg.refl _ _).alloc _
  have hb1 : w1.drew.heap[w.heap.size]? = some (.cells (m.cells A n c) 25 (0, 0)) := by rw [← hw1]; exact heap_alloc_new w _
  have hd := h.pure (ca.drew)
  have x3 := hd.lk.c3
  have y4 := msg_cell hb1 4
  have y5 := msg_cell hb1 5
  have y6 := msg_cell hb1 6
  have hnp : ¬ Foot L.sp L.sb L.adr L.D L.base L.Ls.length L.p := fun e => by
    have h1 := h.k3
    have h2 := h.k1 _ e
    omega
  have hnm : ¬ Foot L.sp L.sb L.adr L.D L.base L.Ls.length w.heap.size := fun e => by have := h.snd.foot_lt _ e; omega
  have HAK := Lib.hid (sack_any hd.snd m.ack m.bits m.credit)
  have HD := Lib.hid hd
  have CA := Lib.hid (ca.drew)
  have HW1 := Lib.hid hw1
  have HFB : Hid (∀ k, Foot L.sp L.sb L.adr L.D L.base L.Ls.length k → B.ok k) := Lib.hid (fun k hk => (h.own k (by rw [h.k1 k hk]; decide)).1)
  clear ca hb1 hd h hw1
  unfold Ms.val
  unfold Ms.cells at *
  go_enter Try.func51, Try.ntmps51
  go_wp2_with (fail)
  rw [HW1.out]
  refine reg_begin (Foot L.sp L.sb L.adr L.D L.base L.Ls.length) (by kernel_rfl) ?_
  generalize w1.drew = wd at *
  refine reg_take 0 (v := ?_) rfl (by kernel_rfl) (by kernel_rfl) (by kernel_rfl) (fun _ _ _ h => h) (by kernel_rfl) ?_ ?_
  rotate_left
  · (intro w' hS; go_simp; (try go_bits); (try with_reducible rfl))
  try simp only [Act.put, List.getElem_toArray, List.getElem_cons_zero, List.getElem_cons_succ, List.setIfInBounds_toArray, List.set_cons_zero, List.set_cons_succ]
  refine reg_take 1 (v := ?_) rfl (by kernel_rfl) (by kernel_rfl) (by kernel_rfl) (fun _ _ _ h => h) (by kernel_rfl) ?_ ?_
  rotate_left
  · (intro w' hS; go_simp; (try go_bits); (try with_reducible rfl))
  try simp only [Act.put, List.getElem_toArray, List.getElem_cons_zero, List.getElem_cons_succ, List.setIfInBounds_toArray, List.set_cons_zero, List.set_cons_succ]
  refine reg_take 2 (v := ?_) rfl (by kernel_rfl) (by kernel_rfl) (by kernel_rfl) (fun _ _ _ h => h) (by kernel_rfl) ?_ ?_
  rotate_left
  · (intro w' hS; go_simp; (try go_bits); (try with_reducible rfl))
  try simp only [Act.put, List.getElem_toArray, List.getElem_cons_zero, List.getElem_cons_succ, List.setIfInBounds_toArray, List.set_cons_zero, List.set_cons_succ]
  refine reg_take 3 (v := ?_) rfl (by kernel_rfl) (by kernel_rfl) (by kernel_rfl) (fun _ _ _ h => h) (by kernel_rfl) ?_ ?_
  rotate_left
  · (intro w' hS; have hz := hS.cell (w := wd) x3 hnp; go_simp; (try go_bits); (try with_reducible rfl))
  try simp only [Act.put, List.getElem_toArray, List.getElem_cons_zero, List.getElem_cons_succ, List.setIfInBounds_toArray, List.set_cons_zero, List.set_cons_succ]
  refine reg_take 4 (v := ?_) rfl (by kernel_rfl) (by kernel_rfl) (by kernel_rfl) (fun _ _ _ h => h) (by kernel_rfl) ?_ ?_
  rotate_left
  · (intro w' hS; go_simp; (try go_bits); (try with_reducible rfl))
  try simp only [Act.put, List.getElem_toArray, List.getElem_cons_zero, List.getElem_cons_succ, List.setIfInBounds_toArray, List.set_cons_zero, List.set_cons_succ]
  refine reg_take 5 (v := ?_) rfl (by kernel_rfl) (by kernel_rfl) (by kernel_rfl) (fun _ _ _ h => h) (by kernel_rfl) ?_ ?_
  rotate_left
  · (intro w' hS; have hz := hS.cell (w := wd) y4 hnm; go_simp; (try go_bits); (try with_reducible rfl))
  try simp only [Act.put, List.getElem_toArray, List.getElem_cons_zero, List.getElem_cons_succ, List.setIfInBounds_toArray, List.set_cons_zero, List.set_cons_succ]
  refine reg_take 6 (v := ?_) rfl (by kernel_rfl) (by kernel_rfl) (by kernel_rfl) (fun _ _ _ h => h) (by kernel_rfl) ?_ ?_
  rotate_left
  · (intro w' hS; go_simp; (try go_bits); (try with_reducible rfl))
  try simp only [Act.put, List.getElem_toArray, List.getElem_cons_zero, List.getElem_cons_succ, List.setIfInBounds_toArray, List.set_cons_zero, List.set_cons_succ]
  refine reg_take 7 (v := ?_) rfl (by kernel_rfl) (by kernel_rfl) (by kernel_rfl) (fun _ _ _ h => h) (by kernel_rfl) ?_ ?_
  rotate_left
  · (intro w' hS; have hz := hS.cell (w := wd) y5 hnm; go_simp; (try go_bits); (try with_reducible rfl))
  try simp only [Act.put, List.getElem_toArray, List.getElem_cons_zero, List.getElem_cons_succ, List.setIfInBounds_toArray, List.set_cons_zero, List.set_cons_succ]
  refine reg_take 8 (v := ?_) rfl (by kernel_rfl) (by kernel_rfl) (by kernel_rfl) (fun _ _ _ h => h) (by kernel_rfl) ?_ ?_
  rotate_left
  · (intro w' hS; go_simp; (try go_bits); (try with_reducible rfl))
  try simp only [Act.put, List.getElem_toArray, List.getElem_cons_zero, List.getElem_cons_succ, List.setIfInBounds_toArray, List.set_cons_zero, List.set_cons_succ]
  refine reg_take 9 (v := ?_) rfl (by kernel_rfl) (by kernel_rfl) (by kernel_rfl) (fun _ _ _ h => h) (by kernel_rfl) ?_ ?_
  rotate_left
  · (intro w' hS; have hz := hS.cell (w := wd) y6 hnm; go_simp; (try go_bits); (try with_reducible rfl))
  try simp only [Act.put, List.getElem_toArray, List.getElem_cons_zero, List.getElem_cons_succ, List.setIfInBounds_toArray, List.set_cons_zero, List.set_cons_succ]
  refine reg_do 10 rfl (by kernel_rfl) (by kernel_rfl) ?_
  intro K hK
  go_simp
  refine HAK.out.mono ?_
  rintro e w2 ⟨rfl, c2, hs2⟩
  refine hK _ _ (c2) ?_
  clear hK K
  try simp only [Act.put, List.getElem_toArray, List.getElem_cons_zero, List.getElem_cons_succ, List.setIfInBounds_toArray, List.set_cons_zero, List.set_cons_succ]
  refine reg_take 11 (v := ?_) rfl (by kernel_rfl) (by kernel_rfl) (by kernel_rfl) (fun _ _ _ h => h) (by kernel_rfl) ?_ ?_
  rotate_left
  · (intro w' hS; go_simp; (try go_bits); (try with_reducible rfl))
  try simp only [Act.put, List.getElem_toArray, List.getElem_cons_zero, List.getElem_cons_succ, List.setIfInBounds_toArray, List.set_cons_zero, List.set_cons_succ]
  refine wpAnyH_done (by kernel_rfl) ?_ _
  have hsub : ∀ k, Foot L.sp L.sb L.adr L.D (ackOf L.base L.lim L.Ls m.ack m.bits m.credit).2.1 (ackOf L.base L.lim L.Ls m.ack m.bits m.credit).2.2.2.length k → Foot L.sp L.sb L.adr L.D L.base L.Ls.length k := fun k hk => ack_foot hk
  have hL2 := HD.out.sender c2 (fun k hk => .inl hk) hs2 (fun k hk => .inl (hsub k hk))
  have C2 : Chg (Foot L.sp L.sb L.adr L.D L.base L.Ls.length) w w2 := (Chg.of_pure CA.out).trans' c2
  have HL2 := Lib.hid hL2
  clear hL2 hs2 c2 x3 y4 y5 y6 HAK HD CA HW1 hsub
  go_wp2
  go_ret
  exact ⟨rfl, C2, _, HL2.out⟩
theorem lfind_net {w : World} {B : Base} {col : Nat → Nat} {L : Lm} (h : LinkAt w B col L) (n i : Int) (hn : ¬ (n = 0 ∨ n = 1)) :
    Calls Try.prog 63 #[.pointer (some ⟨L.p, 0, none⟩), .int .i64 n, .int .i64 i] w fun e w' => e = .returned (.tuple #[.pointer none, .int .i64 1]) ∧ w = w' := by
  have H := Lib.hid (lok_any h)
  have x5 := h.lk.c5
  clear h
  by_cases h0 : n < 0
  · clear hn
    go_enter Try.func63, Try.ntmps63
    go_wp2_with (fail)
    refine H.out.mono ?_
    rintro e w1 ⟨rfl, rfl⟩
    go_wp2
    go_ret2
    exact ⟨rfl, rfl⟩
  · have h1 : 2 ≤ n := by omega
    have h2 : (n < 0) = False := eq_false h0
    clear hn h0
    go_enter Try.func63, Try.ntmps63
    go_wp2_with (fail)
    refine H.out.mono ?_
    rintro e w1 ⟨rfl, rfl⟩
    go_wp2
    go_ret2
    exact ⟨rfl, rfl⟩
theorem lfind_none0 {w : World} {B : Base} {col : Nat → Nat} {L : Lm} (h : LinkAt w B col L) (i : Int) (hi : ¬ (0 ≤ i ∧ i < L.G0.length)) :
    Calls Try.prog 63 #[.pointer (some ⟨L.p, 0, none⟩), .int .i64 0, .int .i64 i] w fun e w' => e = .returned (.tuple #[.pointer none, .int .i64 15]) ∧ w = w' := by
  have H := Lib.hid (lok_any h)
  have x5 := h.lk.c5
  have y0 := h.nbk.c0
  have y1 := h.n0.c0
  obtain ⟨V, q, hv, -⟩ := own_slice h.gr0.row
  rw [hv] at y1
  clear h
  generalize L.G0.length = m at *
  by_cases h0 : i < 0
  · clear hi
    go_enter Try.func63, Try.ntmps63
    go_wp2_with (fail)
    refine H.out.mono ?_
    rintro e w1 ⟨rfl, rfl⟩
    go_wp2
    go_ret2
    exact ⟨rfl, rfl⟩
  · have h1 : (m : Int) ≤ i := by omega
    have h2 : (i < 0) = False := eq_false h0
    clear hi h0
    go_enter Try.func63, Try.ntmps63
    go_wp2_with (fail)
    refine H.out.mono ?_
    rintro e w1 ⟨rfl, rfl⟩
    go_wp2
    go_ret2
    exact ⟨rfl, rfl⟩
theorem lfind_ok0 {w : World} {B : Base} {col : Nat → Nat} {L : Lm} (h : LinkAt w B col L) (i : Nat) (hi : i < L.G0.length) :
    Calls Try.prog 63 #[.pointer (some ⟨L.p, 0, none⟩), .int .i64 0, .int .i64 (i : Nat)] w fun e w' => e = .returned (.tuple #[.pointer (some ⟨L.g0, 0, none⟩), .int .i64 0]) ∧ w = w' := by
  have H := Lib.hid (lok_any h)
  have x5 := h.lk.c5
  have y0 := h.nbk.c0
  have y1 := h.n0.c0
  obtain ⟨V, q, hv, -⟩ := own_slice h.gr0.row
  rw [hv] at y1
  clear h
  generalize L.G0.length = m at *
  have h1 : (i : Int) < (m : Int) := by omega
  have h2 : ((m : Int) ≤ (i : Int)) = False := eq_false (by omega)
  go_enter Try.func63, Try.ntmps63
  go_wp2_with (fail)
  refine H.out.mono ?_
  rintro e w1 ⟨rfl, rfl⟩
  go_wp2
  go_ret2
  exact ⟨rfl, rfl⟩
theorem lfind_none1 {w : World} {B : Base} {col : Nat → Nat} {L : Lm} (h : LinkAt w B col L) (i : Int) (hi : ¬ (0 ≤ i ∧ i < L.G1.length)) :
    Calls Try.prog 63 #[.pointer (some ⟨L.p, 0, none⟩), .int .i64 1, .int .i64 i] w fun e w' => e = .returned (.tuple #[.pointer none, .int .i64 15]) ∧ w = w' := by
  have H := Lib.hid (lok_any h)
  have x5 := h.lk.c5
  have y0 := h.nbk.c1
  have y1 := h.n1.c0
  obtain ⟨V, q, hv, -⟩ := own_slice h.gr1.row
  rw [hv] at y1
  clear h
  generalize L.G1.length = m at *
  by_cases h0 : i < 0
  · clear hi
    go_enter Try.func63, Try.ntmps63
    go_wp2_with (fail)
    refine H.out.mono ?_
    rintro e w1 ⟨rfl, rfl⟩
    go_wp2
    go_ret2
    exact ⟨rfl, rfl⟩
  · have h1 : (m : Int) ≤ i := by omega
    have h2 : (i < 0) = False := eq_false h0
    clear hi h0
    go_enter Try.func63, Try.ntmps63
    go_wp2_with (fail)
    refine H.out.mono ?_
    rintro e w1 ⟨rfl, rfl⟩
    go_wp2
    go_ret2
    exact ⟨rfl, rfl⟩
theorem lfind_ok1 {w : World} {B : Base} {col : Nat → Nat} {L : Lm} (h : LinkAt w B col L) (i : Nat) (hi : i < L.G1.length) :
    Calls Try.prog 63 #[.pointer (some ⟨L.p, 0, none⟩), .int .i64 1, .int .i64 (i : Nat)] w fun e w' => e = .returned (.tuple #[.pointer (some ⟨L.g1, 0, none⟩), .int .i64 0]) ∧ w = w' := by
  have H := Lib.hid (lok_any h)
  have x5 := h.lk.c5
  have y0 := h.nbk.c1
  have y1 := h.n1.c0
  obtain ⟨V, q, hv, -⟩ := own_slice h.gr1.row
  rw [hv] at y1
  clear h
  generalize L.G1.length = m at *
  have h1 : (i : Int) < (m : Int) := by omega
  have h2 : ((m : Int) ≤ (i : Int)) = False := eq_false (by omega)
  go_enter Try.func63, Try.ntmps63
  go_wp2_with (fail)
  refine H.out.mono ?_
  rintro e w1 ⟨rfl, rfl⟩
  go_wp2
  go_ret2
  exact ⟨rfl, rfl⟩
end Go.Proofs.Ytnpkpfcljkekfaa
