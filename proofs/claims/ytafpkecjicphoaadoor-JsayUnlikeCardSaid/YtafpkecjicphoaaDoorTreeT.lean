/- Keys that are the same (tree.twins). -/
import Derived.Test.YtafpkecjicphoaaDoorTreeS
namespace Go.Proofs.YtafpkecjicphoaaDoor
open Go Go.RowKit
set_option linter.unusedVariables false
set_option linter.unusedSimpArgs false
set_option maxRecDepth 100000

/-- One of some is the same. -/
def hasT (l : List Tn) (k : Tn) : Bool := l.any fun x => sameT x k
def twR (pre : List Tn) : List Tn → Bool
  | [] => false
  | x :: r => hasT pre x || twR (pre ++ [x]) r
/-- Two of a list are the same. -/
def twinsL (l : List Tn) : Bool := twR [] l
theorem ElemsAt.take {w : World} {A : Option Addr} {l : List Tn} (h : ElemsAt w A 0 l) (n : Nat) : ElemsAt w A 0 (l.take n) := by
  refine ElemsAt.of fun i hi => ?_
  have hi2 : i < l.length := by simp at hi; omega
  obtain ⟨b, off, cs, h1, h2, h3⟩ := h.get i hi2
  refine ⟨b, off, cs, h1, h2, ?_⟩
  rw [List.getElem_take]
  exact h3
set_option maxHeartbeats 4000000 in
theorem idxf_of {w0 wb : World} {A : Option Addr} {l : List Tn} (n c : Nat) (k : Tn) (kb : Nat) (hA : ElemsAt w0 A 0 l) (hn : l.length = n) (hl : n ≤ 140737488351232) (hb : Chg Pure' w0 wb)
    (H : ∀ x ∈ l, ∀ cx w, NodeAt w0 cx x → Chg Pure' wb w → Calls Tryd.prog 27 #[.agg cx, .pointer (some ⟨kb, 0, none⟩)] w fun e w' => e = .returned (.bool (sameT x k)) ∧ Chg Pure' w w')
    (w : World) (hw : Chg Pure' wb w) :
    Calls Tryd.prog 39 #[.slice A n c, .func (.func 27) #[] #[.pointer (some ⟨kb, 0, none⟩)]] w fun e w' => ∃ r : Int, e = .returned (.int .i64 r) ∧ decide (0 ≤ r) = hasT l k ∧ Chg Pure' w w' := by
  have HN := Lib.hid hn
  have HA := Lib.hid hA
  have HH := Lib.hid H
  have HW := Lib.hid hw
  have HB := Lib.hid hb
  clear hn hA H hw hb
  go_enter Tryd.func39, Tryd.ntmps39
  go_wp2_with (fail)
  go_loopw [8] (fun i wr => ∃ j : Nat, j ≤ n ∧ i = .int .i64 j ∧ Hid (Chg Pure' w wr) ∧ Hid (hasT l k = hasT (l.drop j) k)) (fun i _ => n - (intOf i).toNat)
  case atStart => exact ⟨0, Nat.zero_le _, rfl, Lib.hid (Chg.refl _ _), Lib.hid rfl⟩
  case round =>
    obtain ⟨j, hj, rfl, HC, HS⟩ := hrel
    by_cases hlt : j < n
    · have i1 : (j : Int) < (n : Int) := by omega
      have HWR := Lib.hid (HB.out.pure (HW.out.pure HC.out))
      have hk1 : j < l.length := by rw [HN.out]; exact hlt
      obtain ⟨b1, o1, Ab1, cb1, Ak1, ck1, Ai1, ci1, hA1, hb1, e1, n1⟩ := HA.out.cells9 HWR.out j hk1
      subst hA1
      have hstep := HS.out
      rw [List.drop_eq_getElem_cons hk1] at hstep
      have m1 : l[j] ∈ l := List.getElem_mem hk1
      generalize l[j] = u at *
      have HC1 := Lib.hid (HH.out u m1 _ wr n1 (HW.out.pure HC.out))
      obtain ⟨q, hq⟩ : ∃ q, sameT u k = q := ⟨_, rfl⟩
      have hstep2 : hasT l k = (q || hasT (l.drop (j + 1)) k) := by rw [hstep, ← hq]; rfl
      rw [hq] at HC1
      obtain ⟨p0, p1, p2, p3, p4, p5, p6, p7, p8⟩ := e1
      have HST := Lib.hid hstep2
      clear n1 hstep hstep2 hq m1 HS
      unfold nodeCells at *
      go_wp2_with (fail)
      refine HC1.out.mono ?_
      rintro e w4 ⟨rfl, c4⟩
      have C4 := Lib.hid (HC.out.pure c4)
      clear c4 HC HC1 p0 p1 p2 p3 p4 p5 p6 p7 p8
      cases q with
      | true =>
        go_wp2
        go_ret
        refine ⟨(j : Int), rfl, ?_, C4.out⟩
        rw [HST.out, Bool.true_or]
        exact decide_eq_true (by omega)
      | false =>
        have HST2 : Hid (hasT l k = hasT (l.drop (j + 1)) k) := Lib.hid (by rw [HST.out, Bool.false_or])
        clear HST
        go_wp2
        go_roundw
        case rel => exact ⟨j + 1, by omega, by go_num, C4, HST2⟩
        case measure => simp [intOf]; omega
    · obtain rfl : j = n := by omega
      have HE : Hid (hasT l k = false) := Lib.hid (by
        rw [HS.out, List.drop_eq_nil_of_le (by rw [HN.out]; omega)]
        rfl)
      clear HS
      go_wp2
      go_ret
      refine ⟨-1, rfl, ?_, HC.out⟩
      rw [HE.out]
      rfl
theorem conf_of {w0 wb : World} {A : Option Addr} {l : List Tn} (n c : Nat) (k : Tn) (kb : Nat) (hA : ElemsAt w0 A 0 l) (hn : l.length = n) (hl : n ≤ 140737488351232) (hb : Chg Pure' w0 wb)
    (H : ∀ x ∈ l, ∀ cx w, NodeAt w0 cx x → Chg Pure' wb w → Calls Tryd.prog 27 #[.agg cx, .pointer (some ⟨kb, 0, none⟩)] w fun e w' => e = .returned (.bool (sameT x k)) ∧ Chg Pure' w w')
    (w : World) (hw : Chg Pure' wb w) :
    Calls Tryd.prog 26 #[.slice A n c, .func (.func 27) #[] #[.pointer (some ⟨kb, 0, none⟩)]] w fun e w' => e = .returned (.bool (hasT l k)) ∧ Chg Pure' w w' := by
  have HI := Lib.hid (idxf_of n c k kb hA hn hl hb H w hw)
  clear hA hn hl hb H hw
  go_enter Tryd.func26, Tryd.ntmps26
  go_wp2_with (fail)
  refine HI.out.mono ?_
  rintro e w1 ⟨r, rfl, hr, c1⟩
  have HR := Lib.hid hr
  clear hr HI
  go_wp2
  go_ret
  refine ⟨?_, c1⟩
  rw [← HR.out]
  rfl
set_option maxHeartbeats 4000000 in
/-- twins' closure. -/
theorem twin1_of {w0 wb : World} (x k : Tn) (cx ck : Array Value) (kb : Nat) (hx : NodeAt w0 cx x) (hk : NodeAt w0 ck k) (hbx : ∀ j u, ck[j]? = some u → wb.cell? ⟨kb, j, none⟩ = some u) (hb : Chg Pure' w0 wb) (w : World) (hw : Chg Pure' wb w) :
    Calls Tryd.prog 27 #[.agg cx, .pointer (some ⟨kb, 0, none⟩)] w fun e w' => e = .returned (.bool (sameT x k)) ∧ Chg Pure' w w' := by
  have hx0 := hx
  have hk0 := hk
  obtain ⟨Ab, cb, Ak, ck', Ai, ci, rfl, -⟩ := hx.out
  obtain ⟨Bb, db, Bk, dk, Bi, di, rfl, -⟩ := hk.out
  have ca : Chg Pure' w (w.alloc (.cells (nodeCells x Ab cb Ak ck' Ai ci) 26)) := (Chg.refl _ _).alloc _
  have hz := fun j u hu => (hw.pure ca).cell (hbx j u hu) (fun h => h)
  have z0 := hz 0 _ rfl
  have z1 := hz 1 _ rfl
  have z2 := hz 2 _ rfl
  have z3 := hz 3 _ rfl
  have z4 := hz 4 _ rfl
  have z5 := hz 5 _ rfl
  have z6 := hz 6 _ rfl
  have z7 := hz 7 _ rfl
  have z8 := hz 8 _ rfl
  have HC := Lib.hid (same_of (sizeT x) x k (Nat.le_refl _) _ _ _ hx0 hk0 (hb.pure (hw.pure ca)))
  have CA := Lib.hid ca
  clear hx hk hbx hb hw ca hz hx0 hk0
  unfold nodeCells at *
  go_enter Tryd.func27, Tryd.ntmps27
  go_wp2_with (fail)
  refine HC.out.mono ?_
  rintro e w1 ⟨rfl, c1⟩
  have C1 := Lib.hid (CA.out.pure c1)
  clear c1 HC CA z0 z1 z2 z3 z4 z5 z6 z7 z8
  go_wp2
  go_ret
  exact ⟨rfl, C1.out⟩
set_option maxHeartbeats 8000000 in
/-- tree.twins. -/
theorem twins_of {w0 : World} (t : Tn) (cs : Array Value) (w : World) (ht : NodeAt w0 cs t) (hw : Chg Pure' w0 w) :
    Calls Tryd.prog 19 #[.agg cs] w fun e w' => e = .returned (.bool (twinsL t.keys)) ∧ Chg Pure' w w' := by
  obtain ⟨Ab, cb, Ak, ck, Ai, ci, rfl, hp, hk, hi⟩ := ht.out
  have ca : Chg Pure' w (w.alloc (.cells (nodeCells t Ab cb Ak ck Ai ci) 26)) := (Chg.refl _ _).alloc _
  obtain ⟨w1, hw1⟩ : ∃ w1, w.alloc (.cells (nodeCells t Ab cb Ak ck Ai ci) 26) = w1 := ⟨_, rfl⟩
  have x7 : w1.cell? ⟨w.heap.size, 7, none⟩ = some (.slice Ak t.keys.length ck) := by rw [← hw1, cellAt_alloc_lit]; rfl
  rw [hw1] at ca
  have hlk := hp.lk
  have hck := hp.ck
  obtain ⟨n, hn⟩ : ∃ n, t.keys.length = n := ⟨_, rfl⟩
  rw [hn] at x7 hlk hck
  have HN := Lib.hid hn
  have HW1 : Hid (w.alloc (.cells (nodeCells t Ab cb Ak ck Ai ci) 26) = w1) := Lib.hid hw1
  have CA := Lib.hid ca
  have HW := Lib.hid hw
  have HK := Lib.hid hk
  clear hn hw1 ca hw hk hi hp ht
  unfold nodeCells at *
  go_enter Tryd.func19, Tryd.ntmps19
  go_upto_region 1 with (fail)
  rw [HW1.out]
  clear HW1
  generalize w.heap.size = nb at *
  go_wp2_with (fail)
  go_loopw [8] (fun i wr => ∃ j : Nat, j ≤ n ∧ i = .int .i64 j ∧ Hid (Chg Pure' w1 wr) ∧ Hid (twinsL t.keys = twR (t.keys.take j) (t.keys.drop j))) (fun i _ => n - (intOf i).toNat)
  case atStart => exact ⟨0, Nat.zero_le _, rfl, Lib.hid (Chg.refl _ _), Lib.hid rfl⟩
  case round =>
    obtain ⟨j, hj, rfl, HC, HS⟩ := hrel
    have y7 := HC.out.cell x7 (fun h => h)
    by_cases hlt : j < n
    · have i1 : (j : Int) < (n : Int) := by omega
      have i2 : (j : Int) ≤ (ck : Int) := by omega
      have HWR := Lib.hid (HW.out.pure (CA.out.pure HC.out))
      have hk1 : j < t.keys.length := by rw [HN.out]; exact hlt
      obtain ⟨b1, o1, Ab1, cb1, Ak1, ck1, Ai1, ci1, hA1, hb1, e1, n1⟩ := HK.out.cells9 HWR.out j hk1
      have HKJ := Lib.hid (HK.out.take j)
      subst hA1
      have hstep := HS.out
      rw [List.drop_eq_getElem_cons hk1, twR] at hstep
      have htk : t.keys.take j ++ [t.keys[j]] = t.keys.take (j + 1) := (List.take_succ_eq_append_getElem hk1).symm
      rw [htk] at hstep
      have htl : (t.keys.take j).length = j := by rw [List.length_take]; omega
      generalize t.keys[j] = u at *
      obtain ⟨w2, hw2⟩ : ∃ w2, wr.alloc (.cells (nodeCells u Ab1 cb1 Ak1 ck1 Ai1 ci1) 26) = w2 := ⟨_, rfl⟩
      have cu : Chg Pure' wr w2 := by rw [← hw2]; exact (Chg.refl _ _).alloc _
      have hbox : ∀ i v, (nodeCells u Ab1 cb1 Ak1 ck1 Ai1 ci1)[i]? = some v → w2.cell? ⟨wr.heap.size, i, none⟩ = some v := fun i v hv => by rw [← hw2, cellAt_alloc_lit]; exact hv
      have HC1 := Lib.hid (conf_of j ck u wr.heap.size HKJ.out htl (by omega) (HWR.out.pure cu) (fun x hx cx w' hcx hc => twin1_of x u cx _ wr.heap.size hcx n1 hbox (HWR.out.pure cu) w' hc) w2 (Chg.refl _ _))
      obtain ⟨q, hq⟩ : ∃ q, hasT (t.keys.take j) u = q := ⟨_, rfl⟩
      rw [hq] at HC1 hstep
      obtain ⟨p0, p1, p2, p3, p4, p5, p6, p7, p8⟩ := e1
      have HST := Lib.hid hstep
      have CU := Lib.hid (HC.out.pure cu)
      have y7' := cu.cell y7 (fun h => h)
      have HW2 : Hid (wr.alloc (.cells (nodeCells u Ab1 cb1 Ak1 ck1 Ai1 ci1) 26) = w2) := Lib.hid hw2
      clear n1 hstep hq hbox cu HC HS htk htl hw2
      unfold nodeCells at *
      go_upto_region 4 with (fail)
      rw [HW2.out]
      clear HW2 y7 p0 p1 p2 p3 p4 p5 p6 p7 p8
      generalize wr.heap.size = ub at *
      go_wp2_with (fail)
      refine HC1.out.mono ?_
      rintro e w4 ⟨rfl, c4⟩
      have C4 := Lib.hid (CU.out.pure c4)
      clear c4 CU HC1 y7'
      cases q with
      | true =>
        go_wp2
        go_ret
        refine ⟨?_, CA.out.pure C4.out⟩
        rw [HST.out, Bool.true_or]
        rfl
      | false =>
        have HST2 : Hid (twinsL t.keys = twR (t.keys.take (j + 1)) (t.keys.drop (j + 1))) := Lib.hid (by rw [HST.out, Bool.false_or])
        clear HST
        go_wp2
        go_roundw
        case rel => exact ⟨j + 1, by omega, by go_num, C4, HST2⟩
        case measure => simp [intOf]; omega
    · obtain rfl : j = n := by omega
      have HE : Hid (twinsL t.keys = false) := Lib.hid (by
        rw [HS.out, show t.keys.drop j = [] from List.drop_eq_nil_of_le (by rw [HN.out]; omega)]
        rfl)
      clear HS
      go_wp2
      go_ret
      exact ⟨by rw [HE.out]; rfl, CA.out.pure HC.out⟩
end Go.Proofs.YtafpkecjicphoaaDoor
