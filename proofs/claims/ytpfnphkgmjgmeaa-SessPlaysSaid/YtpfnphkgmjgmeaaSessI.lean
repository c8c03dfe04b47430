/- Package sess, going on: slices.Delete, and Close. -/
import Derived.Test.YtpfnphkgmjgmeaaSessH
namespace Go.Proofs.Ytpfnphkgmjgmeaa
open Go Go.RowKit
set_option linter.unusedVariables false
set_option linter.unusedSimpArgs false

set_option maxHeartbeats 2000000 in
theorem del1_any {w : World} {v : Value} {n i : Nat} {xs : List Value} (h : w.ownsRow 0 66 1 v n xs) (hi : i < n) (hn : n ≤ 64) (h1 : ∀ u ∈ xs, u.oneCell' = true) :
    Calls Try.prog 31 #[v, .int .i64 i, .int .i64 ((i : Int) + 1)] w fun e w' => ∃ v', e = .returned v' ∧ w'.ownsRow 0 66 1 v' (n - 1) (xs.eraseIdx i) ∧ Chg (fun k => v.ownBlock = some k) w w' ∧ ∀ k, v'.ownBlock = some k → v.ownBlock = some k := by
  have hl : xs.length = n := by have := h.1; omega
  obtain ⟨wd, hwd⟩ : ∃ wd, wd = w.drew := ⟨_, rfl⟩
  have C0 : Chg Pure' w wd := by rw [hwd]; exact (Chg.refl _ w).drew
  have h : wd.ownsRow 0 66 1 v n xs := by rw [hwd]; exact h.drew
  have HWD := Lib.hid hwd
  clear hwd
  rcases h.2 with ⟨rfl, h0⟩ | ⟨g, q, cur, rfl, hb, hg, hnq, hqm, hcs, htk⟩
  · omega
  · obtain ⟨ti, hti, hz0, hz1, hz2⟩ := info_parts infoSe
    have hcl : cur.size = q := by omega
    have hrow : ∀ j u, (xs.drop (i + 1))[j]? = some u → wd.cell? ⟨g, i + 1 + j, none⟩ = some u := by
      intro j u hu
      rw [List.getElem?_drop] at hu
      have := h.cellAt (i + 1 + j) (by have := (List.getElem?_eq_some_iff.1 hu).1; omega)
      rw [this, hu]
    have hone : ∀ u ∈ xs.drop (i + 1), u.oneCell' = true := fun u hu => h1 u (List.mem_of_mem_drop hu)
    have hrun : ∀ (a : Addr) (c : Nat), (a = ⟨g, i + 1, none⟩ ∨ (xs.drop (i + 1)) = []) → (Builtin.append_ #[60, 60] 60 #[.slice (some ⟨g, 0, none⟩) i q, .slice (some a) (n - (i + 1)) c]).run Try.prog wd =
        .ok (.slice (some ⟨g, 0, none⟩) (n - 1) q) (wd.setRow g (cur.toList.take i ++ xs.drop (i + 1) ++ cur.toList.drop (n - 1)).toArray) := by
      intro a c ha
      have := run_append_room (P := Try.prog) wd 60 60 66 ti Try.underlying60 hti g i q cur hg a (n - (i + 1)) c (xs.drop (i + 1)) (by rw [hz1]; simp; omega)
        (fun j u hu => by
          rcases ha with rfl | ha
          · have e : (⟨g, i + 1, none⟩ : Addr).add j = ⟨g, i + 1 + j, none⟩ := by unfold Addr.add; split <;> simp_all
            rw [e]; exact hrow j u hu
          · rw [ha] at hu; simp at hu) hone (by omega) (by rw [hz1]; simp; omega)
      rw [this, hz1]
      congr 1
      · congr 1; omega
      · congr 3
        · simp
        · simp; congr 1; omega
    have h2 : (wd.setRow g (cur.toList.take i ++ xs.drop (i + 1) ++ cur.toList.drop (n - 1)).toArray).ownsRow 0 66 1 (.slice (some ⟨g, 0, none⟩) n q) n ((cur.toList.take i ++ xs.drop (i + 1) ++ cur.toList.drop (n - 1)).take n) ∧
        Chg (fun k => k = g) wd (wd.setRow g (cur.toList.take i ++ xs.drop (i + 1) ++ cur.toList.drop (n - 1)).toArray) := by
      refine ⟨⟨?_, .inr ⟨g, q, (cur.toList.take i ++ xs.drop (i + 1) ++ cur.toList.drop (n - 1)).toArray, rfl, hb, ?_, hnq, hqm, ?_, ?_⟩⟩, Chg.setRow (S := fun k => k = g) (Chg.refl _ wd) (.inr rfl) _⟩
      · simp; omega
      · exact setRow_heap wd g cur _ _ _ hg
      · simp; omega
      · simp
    have her : ((cur.toList.take i ++ xs.drop (i + 1) ++ cur.toList.drop (n - 1)).take n).take (n - 1) = xs.eraseIdx i := by
      rw [List.take_take, show min (n - 1) n = n - 1 from by omega, List.take_append_of_le_length (by simp; omega), List.eraseIdx_eq_take_drop_succ, List.take_of_length_le (by simp; omega), ← htk]
      congr 1
      rw [List.take_take, show min i (n * 1) = i from by omega]
    obtain ⟨hR2, c2⟩ := h2
    generalize (wd.setRow g (cur.toList.take i ++ xs.drop (i + 1) ++ cur.toList.drop (n - 1)).toArray) = w2 at *
    have hclr := Lib.run_clear_slice (P := Try.prog) w2 60 66 0 (.pointer none) Try.underlying60 nilSe rfl rfl g (n - 1) 1 (q - (n - 1)) (by omega)
      (fun j hj => by rw [hR2.cellAt (n - 1 + j) (by omega), List.getElem?_eq_getElem (by have := hR2.1; omega)]; rfl) (fun j hj => hR2.frozenAt _)
    obtain ⟨ys, hR3, hy, c3⟩ := row_setCells (List.replicate 1 (.pointer none)) (n - 1) w2 _ hR2
    generalize w2.setCells g (n - 1) (List.replicate 1 (.pointer none)) = w3 at *
    have hcut := hR3.cutTo (k := n - 1) (by omega)
    rw [hy, her] at hcut
    have C3 := c2.trans' c3
    obtain ⟨n1, rfl⟩ : ∃ n1, n = n1 + 1 := ⟨n - 1, by omega⟩
    simp only [Nat.add_sub_cancel] at hrun hclr hcut
    have hin : i ≤ n1 := by omega
    clear hR2 hR3 hy c3 her h hrow hcs hcl htk hg
    by_cases hq : i + 1 < q
    · have r := hrun ⟨g, i + 1, none⟩ (q - (i + 1)) (.inl rfl)
      rw [show n1 + 1 - (i + 1) = n1 - i from by omega] at r
      clear hrun
      have s1 : i ≤ q := by omega
      have s2 : (0 : Int) ≤ (i : Int) + 1 := by omega
      have s3 : (q = i + 1) = False := eq_false (by omega)
      clear hl
      go_enter Try.func31, Try.ntmps31
      go_wp2_with (fail)
      refine reg_begin (fun k => k = g) (by kernel_rfl) ?_
      rw [← HWD.out]
      refine reg_take 0 (v := ?_) rfl (by kernel_rfl) (by kernel_rfl) (by kernel_rfl) (fun _ _ _ h => h) (by kernel_rfl) ?_ ?_
      rotate_left
      · (intro w' hS; go_simp; (try go_bits); (try with_reducible rfl))
      try simp only [Act.put, List.getElem_toArray, List.getElem_cons_zero, List.getElem_cons_succ, List.setIfInBounds_toArray, List.set_cons_zero, List.set_cons_succ]
      refine reg_take 1 (v := ?_) rfl (by kernel_rfl) (by kernel_rfl) (by kernel_rfl) (fun _ _ _ h => h) (by kernel_rfl) ?_ ?_
      rotate_left
      · (intro w' hS; go_simp; (try go_bits); (try with_reducible rfl))
      try simp only [Act.put, List.getElem_toArray, List.getElem_cons_zero, List.getElem_cons_succ, List.setIfInBounds_toArray, List.set_cons_zero, List.set_cons_succ]
      refine reg_take 2 (v := ?_) rfl (by kernel_rfl) (by kernel_rfl) (by kernel_rfl) (fun _ _ _ h => h) (by kernel_rfl) ?_ ?_
      rotate_left
      · (intro w' hS; go_simp; (try go_bits); (try with_reducible rfl))
      try simp only [Act.put, List.getElem_toArray, List.getElem_cons_zero, List.getElem_cons_succ, List.setIfInBounds_toArray, List.set_cons_zero, List.set_cons_succ]
      refine reg_take 3 (v := ?_) rfl (by kernel_rfl) (by kernel_rfl) (by kernel_rfl) (fun _ _ _ h => h) (by kernel_rfl) ?_ ?_
      rotate_left
      · (intro w' hS; go_simp; (try go_bits); (try with_reducible rfl))
      try simp only [Act.put, List.getElem_toArray, List.getElem_cons_zero, List.getElem_cons_succ, List.setIfInBounds_toArray, List.set_cons_zero, List.set_cons_succ]
      refine reg_take 4 (v := ?_) rfl (by kernel_rfl) (by kernel_rfl) (by kernel_rfl) (fun _ _ _ h => h) (by kernel_rfl) ?_ ?_
      rotate_left
      · (intro w' hS; go_simp; (try go_bits); (try with_reducible rfl))
      try simp only [Act.put, List.getElem_toArray, List.getElem_cons_zero, List.getElem_cons_succ, List.setIfInBounds_toArray, List.set_cons_zero, List.set_cons_succ]
      refine reg_take 5 (v := ?_) rfl (by kernel_rfl) (by kernel_rfl) (by kernel_rfl) (fun _ _ _ h => h) (by kernel_rfl) ?_ ?_
      rotate_left
      · (intro w' hS; go_simp; (try go_bits); (try with_reducible rfl))
      try simp only [Act.put, List.getElem_toArray, List.getElem_cons_zero, List.getElem_cons_succ, List.setIfInBounds_toArray, List.set_cons_zero, List.set_cons_succ]
      refine reg_do 6 rfl (by kernel_rfl) (by kernel_rfl) ?_
      intro K hK
      refine Lib.wp_append_run _ _ _ _ _ rfl _ _ rfl rfl _ _ r ?_
      refine hK _ _ (c2) ?_
      clear hK K
      try simp only [Act.put, List.getElem_toArray, List.getElem_cons_zero, List.getElem_cons_succ, List.setIfInBounds_toArray, List.set_cons_zero, List.set_cons_succ]
      refine reg_take 7 (v := ?_) rfl (by kernel_rfl) (by kernel_rfl) (by kernel_rfl) (fun _ _ _ h => h) (by kernel_rfl) ?_ ?_
      rotate_left
      · (intro w' hS; go_simp; (try go_bits); (try with_reducible rfl))
      try simp only [Act.put, List.getElem_toArray, List.getElem_cons_zero, List.getElem_cons_succ, List.setIfInBounds_toArray, List.set_cons_zero, List.set_cons_succ]
      refine wpAnyH_done (by kernel_rfl) ?_ _
      clear r
      go_wp2
      go_ret
      exact ⟨_, rfl, by simpa using hcut, (C0.of_pure.trans' C3).mono (fun k _ e => by rw [show k = g from e]; rfl), fun k hk => by simpa [Value.ownBlock] using hk⟩
    · have hxe : xs.drop (i + 1) = [] := List.drop_of_length_le (by omega)
      have hin1 : i = n1 := by omega
      subst hin1
      have hq1 : q = i + 1 := by omega
      subst hq1
      have r := hrun ⟨g, 0, none⟩ 0 (.inr hxe)
      rw [show i + 1 - (i + 1) = 0 from by omega] at r
      clear hrun hxe
      have s2 : (0 : Int) ≤ (i : Int) + 1 := by omega
      have s4 : (i : Int) ≤ (i : Int) + 1 := by omega
      rw [show i + 1 - i = 1 from by omega] at hclr
      clear hl
      go_enter Try.func31, Try.ntmps31
      go_wp2_with (fail)
      refine reg_begin (fun k => k = g) (by kernel_rfl) ?_
      rw [← HWD.out]
      refine reg_take 0 (v := ?_) rfl (by kernel_rfl) (by kernel_rfl) (by kernel_rfl) (fun _ _ _ h => h) (by kernel_rfl) ?_ ?_
      rotate_left
      · (intro w' hS; go_simp; (try go_bits); (try with_reducible rfl))
      try simp only [Act.put, List.getElem_toArray, List.getElem_cons_zero, List.getElem_cons_succ, List.setIfInBounds_toArray, List.set_cons_zero, List.set_cons_succ]
      refine reg_take 1 (v := ?_) rfl (by kernel_rfl) (by kernel_rfl) (by kernel_rfl) (fun _ _ _ h => h) (by kernel_rfl) ?_ ?_
      rotate_left
      · (intro w' hS; go_simp; (try go_bits); (try with_reducible rfl))
      try simp only [Act.put, List.getElem_toArray, List.getElem_cons_zero, List.getElem_cons_succ, List.setIfInBounds_toArray, List.set_cons_zero, List.set_cons_succ]
      refine reg_take 2 (v := ?_) rfl (by kernel_rfl) (by kernel_rfl) (by kernel_rfl) (fun _ _ _ h => h) (by kernel_rfl) ?_ ?_
      rotate_left
      · (intro w' hS; go_simp; (try go_bits); (try with_reducible rfl))
      try simp only [Act.put, List.getElem_toArray, List.getElem_cons_zero, List.getElem_cons_succ, List.setIfInBounds_toArray, List.set_cons_zero, List.set_cons_succ]
      refine reg_take 3 (v := ?_) rfl (by kernel_rfl) (by kernel_rfl) (by kernel_rfl) (fun _ _ _ h => h) (by kernel_rfl) ?_ ?_
      rotate_left
      · (intro w' hS; go_simp; (try go_bits); (try with_reducible rfl))
      try simp only [Act.put, List.getElem_toArray, List.getElem_cons_zero, List.getElem_cons_succ, List.setIfInBounds_toArray, List.set_cons_zero, List.set_cons_succ]
      refine reg_take 4 (v := ?_) rfl (by kernel_rfl) (by kernel_rfl) (by kernel_rfl) (fun _ _ _ h => h) (by kernel_rfl) ?_ ?_
      rotate_left
      · (intro w' hS; go_simp; (try go_bits); (try with_reducible rfl))
      try simp only [Act.put, List.getElem_toArray, List.getElem_cons_zero, List.getElem_cons_succ, List.setIfInBounds_toArray, List.set_cons_zero, List.set_cons_succ]
      refine reg_take 5 (v := ?_) rfl (by kernel_rfl) (by kernel_rfl) (by kernel_rfl) (fun _ _ _ h => h) (by kernel_rfl) ?_ ?_
      rotate_left
      · (intro w' hS; go_simp; (try go_bits); (try with_reducible rfl))
      try simp only [Act.put, List.getElem_toArray, List.getElem_cons_zero, List.getElem_cons_succ, List.setIfInBounds_toArray, List.set_cons_zero, List.set_cons_succ]
      refine reg_do 6 rfl (by kernel_rfl) (by kernel_rfl) ?_
      intro K hK
      refine Lib.wp_append_run _ _ _ _ _ rfl _ _ rfl rfl _ _ r ?_
      refine hK _ _ (c2) ?_
      clear hK K
      try simp only [Act.put, List.getElem_toArray, List.getElem_cons_zero, List.getElem_cons_succ, List.setIfInBounds_toArray, List.set_cons_zero, List.set_cons_succ]
      refine reg_take 7 (v := ?_) rfl (by kernel_rfl) (by kernel_rfl) (by kernel_rfl) (fun _ _ _ h => h) (by kernel_rfl) ?_ ?_
      rotate_left
      · (intro w' hS; go_simp; (try go_bits); (try with_reducible rfl))
      try simp only [Act.put, List.getElem_toArray, List.getElem_cons_zero, List.getElem_cons_succ, List.setIfInBounds_toArray, List.set_cons_zero, List.set_cons_succ]
      refine wpAnyH_done (by kernel_rfl) ?_ _
      clear r
      go_wp2
      go_ret
      exact ⟨_, rfl, by simpa using hcut, (C0.of_pure.trans' C3).mono (fun k _ e => by rw [show k = g from e]; rfl), fun k hk => by simpa [Value.ownBlock] using hk⟩
/-- A session goes. -/
theorem TabOf.gone {w w2 w3 : World} {p ub : Nat} {bs : List Nat} {v v' : Value} {T : Tb} {cnt i : Nat} (h : TabOf w p ub bs v T cnt) (hi : i < bs.length) (hc : Chg (fun k => v.ownBlock = some k) w w2)
    (hr : w2.ownsRow 0 66 1 v' (T.L.length - 1) ((bs.map ptr).eraseIdx i)) (hv : ∀ k, v'.ownBlock = some k → v.ownBlock = some k) (e : w3 = w2.setCell ⟨p, 3, none⟩ v') :
    TabOf w3 p ub (bs.eraseIdx i) v' { T with L := T.L.eraseIdx i } cnt ∧ Chg (fun k => k = p) w2 w3 := by
  have c3 : Chg (fun k => k = p) w2 w3 := by rw [e]; exact Chg.setCell (S := fun k => k = p) (Chg.refl _ w2) (p := ⟨p, 3, none⟩) (.inr rfl) v'
  obtain ⟨cs, b1, b2⟩ := h.blk
  have b3 := (hc.block p h.plt h.vp).trans b1
  have hlen := h.len
  have hil : i < T.L.length := by omega
  have hsub : ∀ a ∈ bs.eraseIdx i, a ∈ bs := fun a ha => List.mem_of_mem_eraseIdx ha
  refine ⟨⟨⟨_, by rw [e]; exact heap_setCell_same w2 p 3 _ _ _ b3, by simpa using b2⟩, ?_, ?_, ?_, ?_, ?_, ?_, ?_, ?_, ?_, ?_, ?_, h.pb, fun e => h.vp (hv _ e), fun e => h.vu (hv _ e), h.m1, h.m64, h.i1, h.i2, h.n0, ?_, ?_⟩, c3⟩
  · rw [e, set_far (by omega)]; exact hc.cell h.c0 h.vp
  · rw [e, set_far (by omega)]; exact hc.cell h.c1 h.vp
  · rw [e, set_far (by omega)]; exact hc.cell h.c2 h.vp
  · rw [e]; exact set_at (hc.cell h.c3 h.vp)
  · rw [e, set_far (by omega)]; exact hc.cell h.c4 h.vp
  · have := own_keep hr c3 (fun g hg e => h.vp (by rw [← show g = p from e]; exact hv g hg))
    simp only [List.length_eraseIdx, if_pos hil]
    have e1 : (bs.eraseIdx i).map ptr = (bs.map ptr).eraseIdx i := by simp [List.eraseIdx_eq_take_drop_succ, List.map_take, List.map_drop]
    rw [e1]
    exact this
  · exact (h.map.chg hc h.vu).chg c3 (fun e => h.pb e.symm)
  · simp only [List.length_eraseIdx, if_pos hil, if_pos hi, hlen]
  · intro j h1 h2
    simp only [List.getElem_eraseIdx]
    simp only [List.length_eraseIdx, if_pos hi] at h1
    split
    · have hmem : bs[j]'(by omega) ∈ bs := List.getElem_mem _
      exact ((h.ses j (by omega) (by omega)).frame hc (h.ap _ hmem).2.2).frame c3 (fun e => (h.ap _ hmem).1 e)
    · have hmem : bs[j + 1]'(by omega) ∈ bs := List.getElem_mem _
      exact ((h.ses (j + 1) (by omega) (by omega)).frame hc (h.ap _ hmem).2.2).frame c3 (fun e => (h.ap _ hmem).1 e)
  · exact List.Nodup.sublist (List.eraseIdx_sublist bs i) h.inj
  · intro a ha
    have := h.ap _ (hsub a ha)
    exact ⟨this.1, this.2.1, fun e => this.2.2 (hv _ e)⟩
  · have := h.lm
    simp only [List.length_eraseIdx, if_pos hil]; omega
  · intro x hx
    exact h.ep x (List.mem_of_mem_eraseIdx hx)
def closeOf (T : Tb) (tk : UInt64) (now : Int) : Int × Tb :=
  if place (tickT T now).L tk = -1 then (15, tickT T now) else (0, { tickT T now with L := (tickT T now).L.eraseIdx (place (tickT T now).L tk).toNat })
set_option maxHeartbeats 2000000 in
theorem close_of {w : World} {p ub : Nat} {bs : List Nat} {v : Value} {T : Tb} {cnt : Nat} (h : TabOf w p ub bs v T cnt) (tk : UInt64) (now : Int) :
    Calls Try.prog 14 #[.pointer (some ⟨p, 0, none⟩), .int .u64 (tk.toNat : Int), .int .i64 now] w fun e w' => e = .returned (.int .i64 (closeOf T tk now).1) ∧ Chg (TFoot p ub bs v) w w' ∧
      ∃ bs' v', TabOf w' p ub bs' v' (closeOf T tk now).2 cnt ∧ ∀ k, TFoot p ub bs' v' k → TFoot p ub bs v k := by
  have H := Lib.hid h
  clear h
  go_enter Try.func14, Try.ntmps14
  go_wp2_with (fail)
  refine (tok_any H.out).mono ?_
  rintro e w' ⟨rfl, rfl⟩
  go_wp2_with (fail)
  refine (tick_of H.out now).mono ?_
  rintro e w3 ⟨ve, rfl, hve, c3, bs3, v3, h3, hf3⟩
  obtain ⟨Be, qe, rfl, -, -, -⟩ := own_slice hve
  clear hve
  have H3 := Lib.hid h3
  have HF3 := Lib.hid hf3
  clear h3 hf3
  go_wp2_with (fail)
  refine (find_any H3.out tk).mono ?_
  rintro e w4 ⟨rfl, c4⟩
  rcases place_ge (tickT T now).L tk with hp | ⟨i, hi, hp, -, -⟩
  · have hR : closeOf T tk now = (15, tickT T now) := by unfold closeOf; rw [if_pos hp]
    have HR := Lib.hid hR
    rw [hp]
    clear hp hR
    go_wp2
    go_ret
    exact ⟨by rw [HR.out]; rfl, c3.pure c4, bs3, v3, by rw [HR.out]; exact H3.out.pure c4, HF3.out⟩
  · have hR : closeOf T tk now = (0, { tickT T now with L := (tickT T now).L.eraseIdx i }) := by unfold closeOf; rw [if_neg (fun e => by rw [hp] at e; omega), hp, Int.toNat_natCast]
    have HR := Lib.hid hR
    rw [hp]
    clear hp hR
    have H4 := Lib.hid (H3.out.pure c4)
    have x3 := H4.out.c3
    have hil : (i : Int) ≤ 64 := by have := H4.out.lm; have := H4.out.m64; omega
    have hib : i < bs3.length := by rw [H4.out.len]; exact hi
    go_wp2_with (fail)
    refine (del1_any H4.out.row hi (Nat.le_trans H4.out.lm H4.out.m64) (by intro u hu; obtain ⟨a, _, rfl⟩ := List.mem_map.1 hu; rfl)).mono ?_
    rintro e w5 ⟨v5, rfl, hr5, c5, hv5⟩
    have x35 := c5.cell x3 H4.out.vp
    have xf5 : w5.frozen? ⟨p, 3, none⟩ = false := (c5.frozen x3 H4.out.vp).trans (by obtain ⟨cs, b1, _⟩ := H4.out.blk; exact free_at b1)
    obtain ⟨h6, c6⟩ := H4.out.gone hib c5 hr5 hv5 rfl
    obtain ⟨B5, q5, rfl, -, -, -⟩ := own_slice hr5
    have HV5 := Lib.hid hv5
    have H6 := Lib.hid h6
    clear h6 hr5 hv5 x3
    go_wp2
    go_ret
    refine ⟨by rw [HR.out]; rfl, ((c3.pure c4).trans c5 (fun j hj e => HF3.out _ (.inr (.inr (.inr e))))).trans c6 (fun j hj e => .inl e), _, _, by rw [HR.out]; exact H6.out, ?_⟩
    rintro k (rfl | rfl | hk | hk)
    · exact .inl rfl
    · exact .inr (.inl rfl)
    · exact HF3.out k (.inr (.inr (.inl (List.mem_of_mem_eraseIdx hk))))
    · exact HF3.out k (.inr (.inr (.inr (HV5.out k hk))))
end Go.Proofs.Ytpfnphkgmjgmeaa
