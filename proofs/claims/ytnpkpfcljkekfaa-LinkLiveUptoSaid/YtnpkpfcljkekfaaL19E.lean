/- The laws of layer 19, going on: LinkPrefix. -/
import Derived.Test.YtnpkpfcljkekfaaL19D
namespace Go.Proofs.Ytnpkpfcljkekfaa
open Go Go.RowKit
set_option linter.unusedVariables false
set_option maxRecDepth 100000
set_option linter.unusedSimpArgs false

theorem reg_pureE {P : Program} {md : Region.Mode} {ops : Array Oper} {Q : Exit → Act → World → Prop} {T : Nat → Prop} {fuel : Nat} {listed : Array Bool} {a : Act} {w : World}
    (h : wpAnyH P md ops Q (Chg Pure' w) fuel listed a w) : wpAnyH P md ops Q (Chg T w) fuel listed a w := wpAnyH_imp (fun _ h => h.of_pure) _ _ _ _ h
theorem zero_watcher (w : World) : (zeroValue 46).run Try.prog w = .ok (.agg #[.pointer none, .slice none 0 0, .int .i64 0]) w := by kernel_rfl
/-- A watcher that is new. -/
theorem watched_new {w w2 : World} {p : Nat} {s : Lp} (h : LinkIn w2 (.of w.heap.size) p s) (hg : s.got = 0) (hc : Chg Pure' w w2) :
    Watched w (w2.alloc (.cells #[.pointer (some ⟨p, 0, none⟩), .slice none 0 0, .int .i64 0] 46)) p w2.heap.size s [] := by
  have ca : Chg Pure' w2 (w2.alloc (.cells #[.pointer (some ⟨p, 0, none⟩), .slice none 0 0, .int .i64 0] 46)) := (Chg.refl _ _).alloc _
  obtain ⟨B', h1, h2, h3, h4⟩ := h.apartS ca (fun k h => h.elim)
  have lit := fun j => cellAt_alloc_lit w2 #[.pointer (some ⟨p, 0, none⟩), .slice none 0 0, .int .i64 0] 46 j
  exact ⟨B', .slice none 0 0, [], h1, ⟨⟨_, heap_alloc_new w2 _, rfl⟩, lit 0, lit 1, by rw [hg]; exact lit 2, World.ownsRow_nil _ _ _ _, fun i hi => by simp at hi⟩, h4 _ (Nat.le_refl _) (by simp), fun k hk => (by cases hk), hc.pure ca, hc.size, h2⟩
theorem Watched.pure {w0 w w' : World} {p q : Nat} {s : Lp} {S : List (List UInt8)} (h : Watched w0 w p q s S) (hc : Chg Pure' w w') : Watched w0 w' p q s S := by
  obtain ⟨B, v, cs, h1, h2, h3, h4, h5, h6, h7⟩ := h
  exact ⟨B, v, cs, h1.pure hc, h2.frame hc (fun h => h) (fun _ _ h => h), h3, h4, h5.pure hc, h6, h7⟩
theorem Watched.lt {w0 w : World} {p q : Nat} {s : Lp} {S : List (List UInt8)} (h : Watched w0 w p q s S) : q < w.heap.size := by
  obtain ⟨B, v, cs, h1, h2, h3, h4, h5, h6, h7⟩ := h
  obtain ⟨cs, hb, -⟩ := h2.blk
  exact (Array.getElem?_eq_some_iff.1 hb).1
/-- A script's call under a watcher's eyes. -/
theorem lstep_at {w0 w : World} {p q N W : Nat} {s : Lp} {S : List (List UInt8)} (h : Watched w0 w p q s S) (ha : At N s S) (hN : N * 64 ≤ 140737488355264) (kind net i at_ : Int) (hat : -9223372036854775808 ≤ at_ ∧ at_ ≤ 9223372036854775807) (b : UInt32)
    (A : Option Addr) (n c : Nat) (xs : List UInt8) (hA : Bytes w0 A n xs) (hc : n ≤ c) (hn : n ≤ 140737488351232) (hW : s.W = W) :
    Calls Try.prog 17 #[.pointer (some ⟨q, 0, none⟩), .agg (actV kind net i at_ b A n c)] w fun e w' =>
      e = .returned (.bool true) ∧ Chg (fun k => w0.heap.size ≤ k) w w' ∧ ∃ s' S', Watched w0 w' p q s' S' ∧ At (N + 1) s' S' ∧ s'.W = W := by
  have hd := did_act ha (by omega) kind net i at_ b xs
  have hsz : S.length ≤ N := by have := ha.good.sent; have := ha.sent; omega
  refine (lstep_any h (ha.room (by omega)) (ha.framed (by omega)) (by omega) kind net i at_ hat b A n c xs hA hc hn ha.good.got (fun h1 h2 => ?_) (fun h1 => hd.kept h1)).mono ?_
  · exact hd.gave h1 h2
  · rintro e w' ⟨rfl, h1, h2⟩
    exact ⟨rfl, h2, _, _, h1, hd.at', hd.W.trans hW⟩
set_option maxHeartbeats 16000000 in
theorem law_LinkPrefix (a : Int) (token : UInt64) (A : Option Addr) (n c : Nat) (acts : List Act19) (w : World) (ha : -9223372036854775808 ≤ a ∧ a ≤ 9223372036854775807) (hA : Acts19 w A n acts) (hn : n * 64 ≤ 140737488351232) :
    Calls Try.prog 5 #[.int .i64 a, .int .u64 (token.toNat : Int), .slice A n c] w fun e w' => e = .returned (.bool true) ∧ Chg Pure' w w' := by
  by_cases hbad : a < 1 ∨ 32 < a
  · go_enter Try.func5, Try.ntmps5
    go_wp2_with (fail)
    refine (lnew_bad a token _ hbad).mono ?_
    rintro e w1 ⟨rfl, rfl⟩
    go_wp2_with (fail)
    refine (alive19 _).mono ?_
    rintro e w2 ⟨rfl, hg⟩
    go_wp2
    go_ret
    exact ⟨rfl, hg⟩
  · obtain ⟨W, rfl⟩ : ∃ W : Nat, a = W := ⟨a.toNat, by omega⟩
    have h1 : 1 ≤ W := by omega
    have h2 : W ≤ 32 := by omega
    have HAT := Lib.hid (at_new W token h1 h2)
    have hzw := zero_watcher
    clear hbad ha
    go_enter Try.func5, Try.ntmps5
    go_wp2_with (fail)
    refine (lnew_ok W token _ h1 h2).mono ?_
    rintro e w1 ⟨p, rfl, g1, c1⟩
    go_wp2_with (fail)
    refine (alive19 _).mono ?_
    rintro e w2 ⟨rfl, c2⟩
    have HWN := Lib.hid (watched_new (g1.pure c2) rfl (c1.pure c2))
    clear g1 c1 c2
    go_wp2_with (fail)
    generalize w2.heap.size = q at *
    go_loopw [33] (fun i wr => ∃ (k : Nat) (s : Lp) (S : List (List UInt8)), k ≤ n ∧ i = .int .i64 k ∧ Hid (At k s S) ∧ Hid (s.W = W) ∧ Hid (Watched w wr p q s S)) (fun i _ => n - (intOf i).toNat)
    case atStart => exact ⟨0, newL W token, [], Nat.zero_le _, rfl, HAT, Lib.hid rfl, HWN⟩
    case round =>
      clear HAT HWN
      obtain ⟨k, s, S, hk, rfl, HT, HW, HG⟩ := hrel
      obtain ⟨-, -, -, -, -, -, -, HC, -, -⟩ := HG.out
      by_cases hlt : k < n
      · obtain ⟨b, off, rfl, hbl, hcell⟩ := hA.cells (by omega)
        have hkx : k < acts.length := by have := hA.len; omega
        have hx := hcell k hkx
        have hx1 := hx.pure HC
        generalize acts[k] = act at hx hx1
        obtain ⟨kind, net, ii, at_, by_, xs⟩ := act
        obtain ⟨-, -, -, -, -, ⟨Aj, nj, cj, e5, hle, hnj, hbj⟩, hat⟩ := hx
        obtain ⟨e0, e1, e2, e3, e4, -, -⟩ := hx1
        have e5 := HC.cell e5 (fun h => h)
        simp only at e0 e1 e2 e3 e4 hbj hat
        have ca : Chg Pure' wr (wr.alloc (.cells (actV kind net ii at_ by_ Aj nj cj) 49)) := (Chg.refl _ wr).alloc _
        have HD := Lib.hid (lstep_at ((HG.out.pure ca).pure ((Chg.refl _ _).drew)) HT.out (by omega) kind net ii at_ hat by_ Aj nj cj xs hbj hle hnj HW.out)
        have bxc : ∀ j u, (actV kind net ii at_ by_ Aj nj cj)[j]? = some u → (wr.alloc (.cells (actV kind net ii at_ by_ Aj nj cj) 49)).cell? ⟨wr.heap.size, j, none⟩ = some u := fun j u hu => by rw [cellAt_alloc_lit]; exact hu
        have z0 := bxc 0 (.int .i64 kind) rfl
        have z1 := bxc 1 (.int .i64 net) rfl
        have z2 := bxc 2 (.int .i64 ii) rfl
        have z3 := bxc 3 (.int .i64 at_) rfl
        have z4 := bxc 4 (.int .u32 (by_.toNat : Int)) rfl
        have z5 := bxc 5 (.slice Aj nj cj) rfl
        clear ca HT HW HG HC hcell hbj bxc
        unfold actV at *
        go_upto_region 8 with (fail)
        refine reg_begin (fun k => w.heap.size ≤ k) (by kernel_rfl) ?_
        refine reg_do 0 rfl (by kernel_rfl) (by kernel_rfl) ?_
        intro K hK
        go_simp
        refine hK _ _ (Chg.refl _ _) ?_
        clear hK K
        refine reg_do 1 rfl (by kernel_rfl) (by kernel_rfl) ?_
        intro K hK
        go_simp
        refine HD.out.mono ?_
        rintro e w3 ⟨rfl, c3, s', S', h3, t3, k3⟩
        refine hK _ _ (c3) ?_
        clear hK K
        try simp only [Act.put, List.getElem_toArray, List.getElem_cons_zero, List.getElem_cons_succ, List.setIfInBounds_toArray, List.set_cons_zero, List.set_cons_succ]
        refine reg_pureE ?_
        have HT3 := Lib.hid t3
        have HK3 := Lib.hid k3
        have HG3 := Lib.hid h3
        obtain ⟨B3, v3, cs3, l3, g3, -, -, C3, -, -⟩ := h3
        obtain ⟨V, qv, hv, -, -⟩ := own_slice g3.row
        subst hv
        have y1 := g3.c1
        have y2 := g3.c2
        have HSE := Lib.hid (lsent_any l3)
        have HGO := Lib.hid (lgot_any l3)
        rw [← t3.good.sent] at HSE
        generalize S'.length = sl at *
        clear c3 t3 k3 l3 g3 C3 HD z0 z1 z2 z3 z4 z5 e0 e1 e2 e3 e4 e5
        refine reg_take 2 (v := ?_) rfl (by kernel_rfl) (by kernel_rfl) (by kernel_rfl) (fun _ _ _ h => h) (by kernel_rfl) ?_ ?_
        rotate_left
        · (intro w' hS; go_simp; (try go_bits); (try with_reducible rfl))
        try simp only [Act.put, List.getElem_toArray, List.getElem_cons_zero, List.getElem_cons_succ, List.setIfInBounds_toArray, List.set_cons_zero, List.set_cons_succ]
        refine reg_take 3 (v := ?_) rfl (by kernel_rfl) (by kernel_rfl) (by kernel_rfl) (fun _ _ _ h => h) (by kernel_rfl) ?_ ?_
        rotate_left
        · (intro w' hS; go_simp; (try go_bits); (try with_reducible rfl))
        try simp only [Act.put, List.getElem_toArray, List.getElem_cons_zero, List.getElem_cons_succ, List.setIfInBounds_toArray, List.set_cons_zero, List.set_cons_succ]
        refine reg_take 4 (v := ?_) rfl (by kernel_rfl) (by kernel_rfl) (by kernel_rfl) (fun _ _ _ h => h) (by kernel_rfl) ?_ ?_
        rotate_left
        · (intro w' hS; go_simp; (try go_bits); (try with_reducible rfl))
        try simp only [Act.put, List.getElem_toArray, List.getElem_cons_zero, List.getElem_cons_succ, List.setIfInBounds_toArray, List.set_cons_zero, List.set_cons_succ]
        refine reg_take 6 (v := ?_) rfl (by kernel_rfl) (by kernel_rfl) (by kernel_rfl) (fun _ _ _ h => h) (by kernel_rfl) ?_ ?_
        rotate_left
        · (intro w' hS; go_simp; (try go_bits); (try with_reducible rfl))
        try simp only [Act.put, List.getElem_toArray, List.getElem_cons_zero, List.getElem_cons_succ, List.setIfInBounds_toArray, List.set_cons_zero, List.set_cons_succ]
        refine reg_take 7 (v := ?_) rfl (by kernel_rfl) (by kernel_rfl) (by kernel_rfl) (fun _ _ _ h => h) (by kernel_rfl) ?_ ?_
        rotate_left
        · (intro w' hS; have hz := hS.cell (w := w3) y1 (fun h => h); go_simp; (try go_bits); (try with_reducible rfl))
        try simp only [Act.put, List.getElem_toArray, List.getElem_cons_zero, List.getElem_cons_succ, List.setIfInBounds_toArray, List.set_cons_zero, List.set_cons_succ]
        refine reg_take 8 (v := ?_) rfl (by kernel_rfl) (by kernel_rfl) (by kernel_rfl) (fun _ _ _ h => h) (by kernel_rfl) ?_ ?_
        rotate_left
        · (intro w' hS; go_simp; (try go_bits); (try with_reducible rfl))
        try simp only [Act.put, List.getElem_toArray, List.getElem_cons_zero, List.getElem_cons_succ, List.setIfInBounds_toArray, List.set_cons_zero, List.set_cons_succ]
        refine reg_do 5 rfl (by kernel_rfl) (by kernel_rfl) ?_
        intro K hK
        go_simp
        refine HSE.out.mono ?_
        rintro e w4 ⟨rfl, rfl⟩
        refine hK _ _ (Chg.refl _ _) ?_
        clear hK K
        try simp only [Act.put, List.getElem_toArray, List.getElem_cons_zero, List.getElem_cons_succ, List.setIfInBounds_toArray, List.set_cons_zero, List.set_cons_succ]
        refine reg_take 9 (v := ?_) rfl (by kernel_rfl) (by kernel_rfl) (by kernel_rfl) (fun _ _ _ h => h) (by kernel_rfl) ?_ ?_
        rotate_left
        · (intro w' hS; go_simp; (try go_bits); (try with_reducible rfl))
        try simp only [Act.put, List.getElem_toArray, List.getElem_cons_zero, List.getElem_cons_succ, List.setIfInBounds_toArray, List.set_cons_zero, List.set_cons_succ]
        refine reg_take 10 (v := ?_) rfl (by kernel_rfl) (by kernel_rfl) (by kernel_rfl) (fun _ _ _ h => h) (by kernel_rfl) ?_ ?_
        rotate_left
        · (intro w' hS; go_simp; (try go_bits); (try with_reducible rfl))
        try simp only [Act.put, List.getElem_toArray, List.getElem_cons_zero, List.getElem_cons_succ, List.setIfInBounds_toArray, List.set_cons_zero, List.set_cons_succ]
        refine reg_take 11 (v := ?_) rfl (by kernel_rfl) (by kernel_rfl) (by kernel_rfl) (fun _ _ _ h => h) (by kernel_rfl) ?_ ?_
        rotate_left
        · (intro w' hS; go_simp; (try go_bits); (try with_reducible rfl))
        try simp only [Act.put, List.getElem_toArray, List.getElem_cons_zero, List.getElem_cons_succ, List.setIfInBounds_toArray, List.set_cons_zero, List.set_cons_succ]
        refine reg_take 12 (v := ?_) rfl (by kernel_rfl) (by kernel_rfl) (by kernel_rfl) (fun _ _ _ h => h) (by kernel_rfl) ?_ ?_
        rotate_left
        · (intro w' hS; go_simp; (try go_bits); (try with_reducible rfl))
        try simp only [Act.put, List.getElem_toArray, List.getElem_cons_zero, List.getElem_cons_succ, List.setIfInBounds_toArray, List.set_cons_zero, List.set_cons_succ]
        refine reg_take 14 (v := ?_) rfl (by kernel_rfl) (by kernel_rfl) (by kernel_rfl) (fun _ _ _ h => h) (by kernel_rfl) ?_ ?_
        rotate_left
        · (intro w' hS; go_simp; (try go_bits); (try with_reducible rfl))
        try simp only [Act.put, List.getElem_toArray, List.getElem_cons_zero, List.getElem_cons_succ, List.setIfInBounds_toArray, List.set_cons_zero, List.set_cons_succ]
        refine reg_take 15 (v := ?_) rfl (by kernel_rfl) (by kernel_rfl) (by kernel_rfl) (fun _ _ _ h => h) (by kernel_rfl) ?_ ?_
        rotate_left
        · (intro w' hS; have hz := hS.cell (w := w3) y2 (fun h => h); go_simp; (try go_bits); (try with_reducible rfl))
        try simp only [Act.put, List.getElem_toArray, List.getElem_cons_zero, List.getElem_cons_succ, List.setIfInBounds_toArray, List.set_cons_zero, List.set_cons_succ]
        refine reg_do 13 rfl (by kernel_rfl) (by kernel_rfl) ?_
        intro K hK
        go_simp
        refine HGO.out.mono ?_
        rintro e w4 ⟨rfl, rfl⟩
        refine hK _ _ (Chg.refl _ _) ?_
        clear hK K
        try simp only [Act.put, List.getElem_toArray, List.getElem_cons_zero, List.getElem_cons_succ, List.setIfInBounds_toArray, List.set_cons_zero, List.set_cons_succ]
        refine reg_take 16 (v := ?_) rfl (by kernel_rfl) (by kernel_rfl) (by kernel_rfl) (fun _ _ _ h => h) (by kernel_rfl) ?_ ?_
        rotate_left
        · (intro w' hS; go_simp; (try go_bits); (try with_reducible rfl))
        try simp only [Act.put, List.getElem_toArray, List.getElem_cons_zero, List.getElem_cons_succ, List.setIfInBounds_toArray, List.set_cons_zero, List.set_cons_succ]
        refine reg_take 17 (v := ?_) rfl (by kernel_rfl) (by kernel_rfl) (by kernel_rfl) (fun _ _ _ h => h) (by kernel_rfl) ?_ ?_
        rotate_left
        · (intro w' hS; go_simp; (try go_bits); (try with_reducible rfl))
        try simp only [Act.put, List.getElem_toArray, List.getElem_cons_zero, List.getElem_cons_succ, List.setIfInBounds_toArray, List.set_cons_zero, List.set_cons_succ]
        refine wpAnyH_done (by kernel_rfl) ?_ _
        clear y1 y2 HSE HGO
        go_wp2
        go_roundw
        case rel => exact ⟨k + 1, s', S', by omega, by go_num, HT3, HK3, HG3⟩
        case measure => simp [intOf]; omega
      · have hC := HC
        go_wp2
        go_ret
        exact ⟨rfl, hC⟩
end Go.Proofs.Ytnpkpfcljkekfaa
