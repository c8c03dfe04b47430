/- The same tree (tree.same). -/
import Derived.Test.YtafpkecjicphoaaDoorTreeX
import Derived.Test.YtafpkecjicphoaaDoorSl
namespace Go.Proofs.YtafpkecjicphoaaDoor
open Go Go.RowKit
set_option linter.unusedVariables false
set_option linter.unusedSimpArgs false
set_option maxRecDepth 100000

set_option maxHeartbeats 4000000 in
theorem eqf_of {w0 : World} {A B : Option Addr} {l m : List Tn} (c d : Nat) (hA : ElemsAt w0 A 0 l) (hB : ElemsAt w0 B 0 m) (hl : l.length ≤ 140737488351232) (hm : m.length ≤ 140737488351232)
    (H : ∀ x ∈ l, ∀ y ∈ m, ∀ cx cy w, NodeAt w0 cx x → NodeAt w0 cy y → Chg Pure' w0 w → Calls Tryd.prog 28 #[.agg cx, .agg cy] w fun e w' => e = .returned (.bool (sameT x y)) ∧ Chg Pure' w w')
    (w : World) (hw : Chg Pure' w0 w) :
    Calls Tryd.prog 41 #[.slice A l.length c, .slice B m.length d, .func (.func 28) #[] #[]] w fun e w' => e = .returned (.bool (sameL l m)) ∧ Chg Pure' w w' := by
  by_cases hne : l.length = m.length
  · obtain ⟨n, hn⟩ : ∃ n, l.length = n := ⟨_, rfl⟩
    have hn2 : m.length = n := by omega
    rw [hn] at hl ⊢
    rw [hn2]
    have HN := Lib.hid (And.intro hn hn2)
    have HA := Lib.hid hA
    have HB := Lib.hid hB
    have HH := Lib.hid H
    have HW := Lib.hid hw
    clear hn hn2 hne hm hA hB H hw
    go_enter Tryd.func41, Tryd.ntmps41
    go_wp2_with (fail)
    go_loopw [17] (fun i wr => ∃ k : Nat, k ≤ n ∧ i = .int .i64 k ∧ Hid (Chg Pure' w wr) ∧ Hid (sameL l m = sameL (l.drop k) (m.drop k))) (fun i _ => n - (intOf i).toNat)
    case atStart => exact ⟨0, Nat.zero_le _, rfl, Lib.hid (Chg.refl _ _), Lib.hid rfl⟩
    case round =>
      obtain ⟨k, hk, rfl, HC, HS⟩ := hrel
      by_cases hlt : k < n
      · have i1 : (k : Int) < (n : Int) := by omega
        have HWR := Lib.hid (HW.out.pure HC.out)
        have hk1 : k < l.length := by rw [HN.out.1]; exact hlt
        have hk2 : k < m.length := by rw [HN.out.2]; exact hlt
        obtain ⟨b1, o1, Ab1, cb1, Ak1, ck1, Ai1, ci1, hA1, hb1, e1, n1⟩ := HA.out.cells9 HWR.out k hk1
        obtain ⟨b2, o2, Ab2, cb2, Ak2, ck2, Ai2, ci2, hA2, hb2, e2, n2⟩ := HB.out.cells9 HWR.out k hk2
        subst hA1
        subst hA2
        have hstep := HS.out
        rw [List.drop_eq_getElem_cons hk1, List.drop_eq_getElem_cons hk2, sameL] at hstep
        have m1 : l[k] ∈ l := List.getElem_mem hk1
        have m2 : m[k] ∈ m := List.getElem_mem hk2
        generalize l[k] = u at *
        generalize m[k] = v at *
        have ca := (Chg.refl Pure' wr).alloc (.cells (nodeCells u Ab1 cb1 Ak1 ck1 Ai1 ci1) 26)
        have cb := ca.alloc (.cells (nodeCells v Ab2 cb2 Ak2 ck2 Ai2 ci2) 26)
        have HC1 := Lib.hid (HH.out u m1 v m2 _ _ _ n1 n2 (HWR.out.pure cb))
        obtain ⟨q, hq⟩ : ∃ q, sameT u v = q := ⟨_, rfl⟩
        rw [hq] at HC1 hstep
        obtain ⟨p0, p1, p2, p3, p4, p5, p6, p7, p8⟩ := e1
        obtain ⟨r0, r1, r2, r3, r4, r5, r6, r7, r8⟩ := e2
        have HST := Lib.hid hstep
        have CB := Lib.hid (HC.out.pure cb)
        have ra := fun {j : Nat} {x : Value} (h : wr.cell? ⟨b2, o2 + k * 9 + j, none⟩ = some x) => ca.cell h (fun h => h)
        have g0 := ca.cell r0 (fun h => h)
        have g1 := ca.cell r1 (fun h => h)
        have g2 := ca.cell r2 (fun h => h)
        have g3 := ca.cell r3 (fun h => h)
        have g4 := ca.cell r4 (fun h => h)
        have g5 := ca.cell r5 (fun h => h)
        have g6 := ca.cell r6 (fun h => h)
        have g7 := ca.cell r7 (fun h => h)
        have g8 := ca.cell r8 (fun h => h)
        clear n1 n2 hstep hq m1 m2 ca cb HC HS ra
        unfold nodeCells at *
        go_wp2_with (fail)
        refine HC1.out.mono ?_
        rintro e w4 ⟨rfl, c4⟩
        have C4 := Lib.hid (CB.out.pure c4)
        clear c4 CB HC1 p0 p1 p2 p3 p4 p5 p6 p7 p8 r0 r1 r2 r3 r4 r5 r6 r7 r8 g0 g1 g2 g3 g4 g5 g6 g7 g8
        cases q with
        | false =>
          go_wp2
          go_ret
          refine ⟨?_, C4.out⟩
          rw [HST.out, Bool.false_and]
          rfl
        | true =>
          have HST2 : Hid (sameL l m = sameL (l.drop (k + 1)) (m.drop (k + 1))) := Lib.hid (by rw [HST.out, Bool.true_and])
          clear HST
          go_wp2
          go_roundw
          case rel => exact ⟨k + 1, by omega, by go_num, C4, HST2⟩
          case measure => simp [intOf]; omega
      · obtain rfl : k = n := by omega
        have HE : Hid (sameL l m = true) := Lib.hid (by
          rw [HS.out, List.drop_eq_nil_of_le (by rw [HN.out.1]; omega), List.drop_eq_nil_of_le (by rw [HN.out.2]; omega)]
          rfl)
        clear HS
        go_wp2
        go_ret
        exact ⟨by rw [HE.out]; rfl, HC.out⟩
  · have hs : sameL l m = false := sameL_append_false l m hne
    have i1 : ((l.length : Int) != (m.length : Int)) = true := by rw [bne_iff_ne]; omega
    rw [hs]
    clear H hA hB hs hne
    go_enter Tryd.func41, Tryd.ntmps41
    go_wp2
    go_ret
    exact ⟨rfl, Chg.refl _ _⟩
theorem sameT_ne {x y : Tn} (h : x ≠ y) : sameT x y = false := by
  cases hs : sameT x y with
  | false => rfl
  | true => exact absurd ((sameT_eq x y).1 hs) h
theorem sameT_parts (x y : Tn) (h0 : x.kind = y.kind) (h1 : x.n = y.n) (h2 : x.neg = y.neg) (h3 : x.dig = y.dig) (h4 : x.exp = y.exp) (h5 : x.text = y.text) : sameT x y = (decide (x.bytes = y.bytes) && sameL x.keys y.keys && sameL x.kids y.kids) := by
  obtain ⟨a0, a1, a2, a3, a4, a5, a6, a7, a8⟩ := x
  obtain ⟨b0, b1, b2, b3, b4, b5, b6, b7, b8⟩ := y
  have h0 : a0 = b0 := h0
  have h1 : a1 = b1 := h1
  have h2 : a2 = b2 := h2
  have h3 : a3 = b3 := h3
  have h4 : a4 = b4 := h4
  have h5 : a5 = b5 := h5
  subst h0 h1 h2 h3 h4 h5
  rw [sameT]
  simp [Tn.kind, Tn.n, Tn.neg, Tn.dig, Tn.exp, Tn.text, Tn.bytes, Tn.keys, Tn.kids]
  rfl
set_option maxHeartbeats 16000000 in
/-- tree.same. -/
theorem same_of {w0 : World} : ∀ (N : Nat) (x y : Tn), sizeT x ≤ N → ∀ (cx cy : Array Value) (w : World), NodeAt w0 cx x → NodeAt w0 cy y → Chg Pure' w0 w →
    Calls Tryd.prog 28 #[.agg cx, .agg cy] w fun e w' => e = .returned (.bool (sameT x y)) ∧ Chg Pure' w w' := by
  intro N
  induction N with
  | zero => intro x y hn; have := sizeT_pos x; omega
  | succ N ih =>
    intro x y hn cx cy w hx hy hw
    obtain ⟨Ab, cb, Ak, ck, Ai, ci, rfl, hp, hk, hi⟩ := hx.out
    obtain ⟨Bb, db, Bk, dk, Bi, di, rfl, gp, gk, gi⟩ := hy.out
    obtain ⟨w2, hw2⟩ : ∃ w2, (w.alloc (.cells (nodeCells x Ab cb Ak ck Ai ci) 26)).alloc (.cells (nodeCells y Bb db Bk dk Bi di) 26) = w2 := ⟨_, rfl⟩
    have ca : Chg Pure' w (w.alloc (.cells (nodeCells x Ab cb Ak ck Ai ci) 26)) := (Chg.refl _ _).alloc _
    have cb' : Chg Pure' (w.alloc (.cells (nodeCells x Ab cb Ak ck Ai ci) 26)) w2 := by rw [← hw2]; exact (Chg.refl _ _).alloc _
    have c2 := ca.pure cb'
    have litx := fun j => cellAt_alloc_lit w (nodeCells x Ab cb Ak ck Ai ci) 26 j
    have lity := fun j => cellAt_alloc_lit (w.alloc (.cells (nodeCells x Ab cb Ak ck Ai ci) 26)) (nodeCells y Bb db Bk dk Bi di) 26 j
    have sz : (w.alloc (.cells (nodeCells x Ab cb Ak ck Ai ci) 26)).heap.size = w.heap.size + 1 := by simp
    rw [hw2, sz] at lity
    have px := fun j u (hu : (nodeCells x Ab cb Ak ck Ai ci)[j]? = some u) => cb'.cell ((litx j).trans hu) (fun h => h)
    have py := fun j u (hu : (nodeCells y Bb db Bk dk Bi di)[j]? = some u) => (lity j).trans hu
    have x0 := px 0 _ rfl
    have x1 := px 1 _ rfl
    have x2 := px 2 _ rfl
    have x3 := px 3 _ rfl
    have x4 := px 4 _ rfl
    have x5 := px 5 _ rfl
    have x6 := px 6 _ rfl
    have x7 := px 7 _ rfl
    have x8 := px 8 _ rfl
    have y0 := py 0 _ rfl
    have y1 := py 1 _ rfl
    have y2 := py 2 _ rfl
    have y3 := py 3 _ rfl
    have y4 := py 4 _ rfl
    have y5 := py 5 _ rfl
    have y6 := py 6 _ rfl
    have y7 := py 7 _ rfl
    have y8 := py 8 _ rfl
    have C2 := Lib.hid c2
    have HWC := Lib.hid (hw.pure c2)
    have HE : Hid (∀ w', Chg Pure' w0 w' → Calls Tryd.prog 40 #[.slice Ab x.bytes.length cb, .slice Bb y.bytes.length db] w' fun e w'' => e = .returned (.bool (decide (x.bytes = y.bytes))) ∧ Chg Pure' w' w'') :=
      Lib.hid (fun w' c => by
        refine (equal_is (decide (x.bytes = y.bytes)) Ab cb x.bytes.length x.bytes Bb db y.bytes.length y.bytes w' (hp.bytes.pure c) (gp.bytes.pure c) (by have := hp.lb; omega) (by have := gp.lb; omega) rfl).mono ?_
        rintro e w'' h
        exact h)
    have HKE : Hid (∀ w', Chg Pure' w0 w' → Calls Tryd.prog 41 #[.slice Ak x.keys.length ck, .slice Bk y.keys.length dk, .func (.func 28) #[] #[]] w' fun e w'' => e = .returned (.bool (sameL x.keys y.keys)) ∧ Chg Pure' w' w'') :=
      Lib.hid (fun w' c => eqf_of ck dk hk gk hp.lk gp.lk (fun u hu v hv cx cy w'' a b c => ih u v (by have := size_key hu; omega) cx cy w'' a b c) w' c)
    have HIE : Hid (∀ w', Chg Pure' w0 w' → Calls Tryd.prog 41 #[.slice Ai x.kids.length ci, .slice Bi y.kids.length di, .func (.func 28) #[] #[]] w' fun e w'' => e = .returned (.bool (sameL x.kids y.kids)) ∧ Chg Pure' w' w'') :=
      Lib.hid (fun w' c => eqf_of ci di hi gi hp.li gp.li (fun u hu v hv cx cy w'' a b c => ih u v (by have := size_kid hu; omega) cx cy w'' a b c) w' c)
    have HW2 : Hid ((w.alloc (.cells (nodeCells x Ab cb Ak ck Ai ci) 26)).alloc (.cells (nodeCells y Bb db Bk dk Bi di) 26) = w2) := Lib.hid hw2
    clear hw2 ca cb' c2 litx lity px py hx hy hw hp hk hi gp gk gi ih
    have sz' : (w.alloc (.cells (nodeCells x Ab cb Ak ck Ai ci) 26)).heap.size = w.heap.size + 1 := sz
    clear sz sz'
    unfold nodeCells at *
    go_enter Tryd.func28, Tryd.ntmps28
    go_upto_region 1 with (fail)
    rw [HW2.out]
    clear HW2
    go_wp2_with (fail)
    all_goals first
      | (go_ret
         refine ⟨?_, C2.out⟩
         rw [sameT_ne (fun e => by subst e; first | exact absurd rfl ‹_› | omega)]
         rfl)
      | skip
    have hu : x.n = y.n := UInt64.toNat_inj.1 (by omega)
    have HP := Lib.hid (sameT_parts x y (by assumption) hu (by assumption) (by assumption) (by assumption) (by assumption))
    have z7 := fun (w' : World) (c : Chg Pure' w2 w') => c.cell x7 (fun h => h)
    have z8 := fun (w' : World) (c : Chg Pure' w2 w') => c.cell x8 (fun h => h)
    have v7 := fun (w' : World) (c : Chg Pure' w2 w') => c.cell y7 (fun h => h)
    have v8 := fun (w' : World) (c : Chg Pure' w2 w') => c.cell y8 (fun h => h)
    have Z := Lib.hid (And.intro (And.intro z7 z8) (And.intro v7 v8))
    have HB := Lib.hid (HE.out w2 HWC.out)
    clear hu z7 z8 v7 v8 x7 x8 y7 y8 x0 x1 x2 x3 x4 x5 x6 y0 y1 y2 y3 y4 y5 y6 HE
    refine HB.out.mono ?_
    rintro e w3 ⟨rfl, c3⟩
    have H3 := Lib.hid c3
    have x7 := Z.out.1.1 w3 c3
    have y7 := Z.out.2.1 w3 c3
    have HK3 := Lib.hid (HKE.out w3 (HWC.out.pure c3))
    obtain ⟨q1, hq1⟩ : ∃ q, decide (x.bytes = y.bytes) = q := ⟨_, rfl⟩
    rw [hq1] at HP ⊢
    clear c3 HB hq1
    cases q1 with
    | false =>
      go_wp2
      go_ret
      refine ⟨?_, C2.out.pure H3.out⟩
      rw [HP.out]
      rfl
    | true =>
      go_wp2_with (fail)
      refine HK3.out.mono ?_
      rintro e w4 ⟨rfl, c4⟩
      have H4 := Lib.hid (H3.out.pure c4)
      have x8 := Z.out.1.2 w4 H4.out
      have y8 := Z.out.2.2 w4 H4.out
      have HI4 := Lib.hid (HIE.out w4 (HWC.out.pure H4.out))
      obtain ⟨q2, hq2⟩ : ∃ q, sameL x.keys y.keys = q := ⟨_, rfl⟩
      rw [hq2] at HP ⊢
      clear c4 HK3 hq2 x7 y7
      cases q2 with
      | false =>
        go_wp2
        go_ret
        refine ⟨?_, C2.out.pure H4.out⟩
        rw [HP.out]
        rfl
      | true =>
        go_wp2_with (fail)
        refine HI4.out.mono ?_
        rintro e w5 ⟨rfl, c5⟩
        have H5 := Lib.hid (H4.out.pure c5)
        obtain ⟨q3, hq3⟩ : ∃ q, sameL x.kids y.kids = q := ⟨_, rfl⟩
        rw [hq3] at HP ⊢
        clear c5 HI4 hq3 x8 y8
        go_wp2
        go_ret
        refine ⟨?_, C2.out.pure H5.out⟩
        rw [HP.out]
        rfl
end Go.Proofs.YtafpkecjicphoaaDoor
