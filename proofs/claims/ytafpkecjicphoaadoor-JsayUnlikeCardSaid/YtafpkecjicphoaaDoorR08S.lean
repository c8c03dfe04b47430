/- The document's trees: Few, Same. -/
import Derived.Test.YtafpkecjicphoaaDoorTreeY
import Derived.Test.YtafpkecjicphoaaDoorTreeS
import Derived.StillTailTactics
namespace Go.Proofs.YtafpkecjicphoaaDoor
open Go Go.RowKit
set_option linter.unusedVariables false
set_option linter.unusedSimpArgs false
set_option maxRecDepth 100000

/-- How many are left behind a tree's; -1: there are more. -/
def leftA (many : Int) (s : Nat) : Int := max (many - (s : Int)) (-1)
theorem sizeTL_take {l : List Tn} {k : Nat} (h : k < l.length) : sizeTL (l.take (k + 1)) = sizeTL (l.take k) + sizeT l[k] := by
  rw [List.take_succ_eq_append_getElem h, sizeTL_append, sizeTL, sizeTL]; omega
theorem sizeT_split (t : Tn) : sizeT t = 1 + sizeTL t.keys + sizeTL t.kids := by cases t; rw [sizeT]; rfl
theorem sizeTL_take_le (l : List Tn) (k : Nat) : sizeTL (l.take k) ≤ sizeTL l := by
  conv => rhs; rw [← List.take_append_drop k l]
  rw [sizeTL_append]; omega
set_option maxHeartbeats 4000000 in
theorem rleft_of {w0 : World} : ∀ (N : Nat) (t : Tn), sizeT t ≤ N → ∀ (cs : Array Value) (w : World) (many : Int), NodeAt w0 cs t → Chg Pure' w0 w → 0 ≤ many → many ≤ 1024 →
    Calls Tryd.prog 21 #[.agg cs, .int .i64 many] w fun e w' => e = .returned (.int .i64 (leftA many (sizeT t))) ∧ Chg Pure' w w' := by
  intro N
  induction N with
  | zero => intro t hn; have := sizeT_pos t; omega
  | succ N ih =>
    intro t hn cs w many ht hw hm hm2
    obtain ⟨Ab, cb, Ak, ck, Ai, ci, rfl, hp, hk, hi⟩ := ht.out
    obtain ⟨w1, hw1⟩ : ∃ w1, w.alloc (.cells (nodeCells t Ab cb Ak ck Ai ci) 26) = w1 := ⟨_, rfl⟩
    have ca : Chg Pure' w w1 := by rw [← hw1]; exact (Chg.refl _ _).alloc _
    have hblk : w1.heap[w.heap.size]? = some (.cells (nodeCells t Ab cb Ak ck Ai ci) 26 (0, 0)) := by rw [← hw1]; exact Array.getElem?_push_size
    obtain ⟨-, -, -, -, -, -, -, x7, x8⟩ := node_nine hblk
    have hS := Lib.hid (sizeT_split t)
    have CA := Lib.hid ca
    have HWC := Lib.hid (hw.trans' ca)
    have HK := Lib.hid hk
    have HI := Lib.hid hi
    have HWE := Lib.hid hw1
    have REC : Hid (∀ x, x ∈ t.keys ∨ x ∈ t.kids → ∀ (cs : Array Value) (w : World) (many : Int), NodeAt w0 cs x → Chg Pure' w0 w → 0 ≤ many → many ≤ 1024 →
        Calls Tryd.prog 21 #[.agg cs, .int .i64 many] w fun e w' => e = .returned (.int .i64 (leftA many (sizeT x))) ∧ Chg Pure' w w') := Lib.hid (fun x hx => ih x (by
          rcases hx with hx | hx
          · have := size_key hx; omega
          · have := size_kid hx; omega))
    have hlk := hp.lk
    have hli := hp.li
    generalize hsz : sizeT t = s at *
    generalize hkk : t.keys = ks at *
    generalize hii : t.kids = is at *
    obtain ⟨n1, hn1⟩ : ∃ n, ks.length = n := ⟨_, rfl⟩
    obtain ⟨n2, hn2⟩ : ∃ n, is.length = n := ⟨_, rfl⟩
    rw [hn1] at x7 hlk
    rw [hn2] at x8 hli
    have HN1 := Lib.hid hn1
    have HN2 := Lib.hid hn2
    have b1 : ¬ many - 1 < -1 := by omega
    clear hsz ih ht hw hp hk hi ca hblk hn1 hn2 hn
    unfold nodeCells at *
    rw [hkk, hii, HN1.out, HN2.out] at HWE ⊢
    clear hkk hii
    go_enter Tryd.func21, Tryd.ntmps21
    go_wp2_with (fail)
    rw [HWE.out]
    go_loopw [1, 5] (fun m i wr => ∃ (k : Nat), k ≤ n1 ∧ i = .int .i64 k ∧ m = .int .i64 (leftA (many - 1) (sizeTL (ks.take k))) ∧ Hid (Chg Pure' w1 wr)) (fun _ i _ => n1 - (intOf i).toNat)
    case atStart => exact ⟨0, Nat.zero_le _, rfl, by unfold leftA; simp [sizeTL]; omega, Lib.hid (Chg.refl _ _)⟩
    case round =>
      obtain ⟨k, hk, rfl, rfl, HC⟩ := hrel
      have z7 := HC.out.cell x7 (fun h => h)
      obtain ⟨M, hM⟩ : ∃ M, leftA (many - 1) (sizeTL (ks.take k)) = M := ⟨_, rfl⟩
      have hMb : -1 ≤ M ∧ M ≤ 1023 := by rw [← hM]; unfold leftA; omega
      rw [hM]
      have HMM := Lib.hid hM
      clear hM
      by_cases hgo : k < n1 ∧ 0 ≤ M
      · obtain ⟨hlt, hM0⟩ := hgo
        have i1 : (k : Int) < (n1 : Int) := by omega
        have HWR := Lib.hid (HWC.out.trans' HC.out)
        have hk1 : k < ks.length := by rw [HN1.out]; exact hlt
        obtain ⟨b1', o1, Ab1, cb1, Ak1, ck1, Ai1, ci1, rfl, hb1, e1, nd1⟩ := HK.out.cells9 HWR.out k hk1
        have HT := Lib.hid (sizeTL_take hk1)
        have m1 : ks[k] ∈ ks := List.getElem_mem hk1
        generalize ks[k] = u at *
        have HC1 := Lib.hid (REC.out u (.inl m1) _ wr M nd1 HWR.out hM0 (by omega))
        obtain ⟨p0, p1, p2, p3, p4, p5, p6, p7, p8⟩ := e1
        clear nd1 m1 hk1
        unfold nodeCells at HC1
        go_wp2_with (fail)
        refine HC1.out.mono ?_
        rintro e w3 ⟨rfl, c3⟩
        have HC3 := Lib.hid (HC.out.trans' c3)
        have hnew : leftA M (sizeT u) = leftA (many - 1) (sizeTL (ks.take (k + 1))) := by rw [HT.out, ← HMM.out]; unfold leftA; omega
        have HNW := Lib.hid hnew
        clear hnew c3 HC1
        go_wp2
        go_roundw
        case rel => exact ⟨k + 1, by omega, by go_num, by rw [HNW.out], HC3⟩
        case measure => simp [intOf]; omega
      · have hend : leftA (many - 1) (sizeTL ks) = M := by
          rw [← HMM.out]
          have h1 := sizeTL_take_le ks k
          have h2 := HMM.out
          unfold leftA at h2 ⊢
          by_cases hlt : k < n1
          · have : M < 0 := by omega
            omega
          · rw [List.take_of_length_le (by rw [HN1.out]; omega)]
        have HEND := Lib.hid hend
        have y8 := HC.out.cell x8 (fun h => h)
        have HWR := Lib.hid (HWC.out.trans' HC.out)
        have HCW := HC
        clear hend HMM x7 x8 HC
        have hq : ((n1 : Int) ≤ (k : Int)) ∨ ((k : Int) < (n1 : Int) ∧ M < 0) := by
          by_cases hlt : k < n1
          · exact .inr ⟨by omega, by omega⟩
          · exact .inl (by omega)
        obtain ⟨wo, rfl⟩ : ∃ wo : World, wo = wr := ⟨_, rfl⟩
        have hM1 := hMb
        generalize HGM : M = M1 at *
        clear HGM hgo
        rcases hq with hq | ⟨hq, hq2⟩ <;> (
          go_wp2_with (fail)
          go_loopw [1, 6] (fun m i wr => ∃ (j : Nat), j ≤ n2 ∧ i = .int .i64 j ∧ m = .int .i64 (leftA M1 (sizeTL (is.take j))) ∧ Hid (Chg Pure' wo wr)) (fun _ i _ => n2 - (intOf i).toNat)
          case atStart => exact ⟨0, Nat.zero_le _, rfl, by unfold leftA; simp [sizeTL]; omega, Lib.hid (Chg.refl _ _)⟩
          case round =>
            obtain ⟨j, hj, rfl, rfl, HC⟩ := hrel
            have z8 := HC.out.cell y8 (fun h => h)
            obtain ⟨M2, hM2⟩ : ∃ M, leftA M1 (sizeTL (is.take j)) = M := ⟨_, rfl⟩
            have hMb2 : -1 ≤ M2 ∧ M2 ≤ 1023 := by rw [← hM2]; unfold leftA; omega
            rw [hM2]
            have HMM2 := Lib.hid hM2
            clear hM2
            by_cases hgo : j < n2 ∧ 0 ≤ M2
            · obtain ⟨hlt, hM0⟩ := hgo
              have i1 : (j : Int) < (n2 : Int) := by omega
              have HW2 := Lib.hid (HWR.out.trans' HC.out)
              have hk1 : j < is.length := by rw [HN2.out]; exact hlt
              obtain ⟨b1', o1, Ab1, cb1, Ak1, ck1, Ai1, ci1, rfl, hb1, e1, nd1⟩ := HI.out.cells9 HW2.out j hk1
              have HT := Lib.hid (sizeTL_take hk1)
              have m1 : is[j] ∈ is := List.getElem_mem hk1
              generalize is[j] = u at *
              have HC1 := Lib.hid (REC.out u (.inr m1) _ wr M2 nd1 HW2.out hM0 (by omega))
              obtain ⟨p0, p1, p2, p3, p4, p5, p6, p7, p8⟩ := e1
              clear nd1 m1 hk1
              unfold nodeCells at HC1
              go_wp2_with (fail)
              refine HC1.out.mono ?_
              rintro e w3 ⟨rfl, c3⟩
              have HC3 := Lib.hid (HC.out.trans' c3)
              have hnew : leftA M2 (sizeT u) = leftA M1 (sizeTL (is.take (j + 1))) := by rw [HT.out, ← HMM2.out]; unfold leftA; omega
              have HNW := Lib.hid hnew
              clear hnew c3 HC1
              go_wp2
              go_roundw
              case rel => exact ⟨j + 1, by omega, by go_num, by rw [HNW.out], HC3⟩
              case measure => simp [intOf]; omega
            · have hend : leftA M1 (sizeTL is) = M2 := by
                rw [← HMM2.out]
                have h1 := sizeTL_take_le is j
                have h2 := HMM2.out
                unfold leftA at h2 ⊢
                by_cases hlt : j < n2
                · have : M2 < 0 := by omega
                  omega
                · rw [List.take_of_length_le (by rw [HN2.out]; omega)]
              have hfin : leftA many s = M2 := by
                rw [← hend, ← HEND.out, hS.out]
                unfold leftA
                omega
              have HFIN := Lib.hid hfin
              have CF := Lib.hid ((CA.out.trans' HCW.out).trans' HC.out)
              have hq3 : ((n2 : Int) ≤ (j : Int)) ∨ ((j : Int) < (n2 : Int) ∧ M2 < 0) := by
                by_cases hlt : j < n2
                · exact .inr ⟨by omega, by omega⟩
                · exact .inl (by omega)
              clear hend hfin hgo HMM2 y8 HC
              rcases hq3 with hq3 | ⟨hq3, hq4⟩ <;> (
                go_wp2
                go_ret
                rw [HFIN.out]
                exact ⟨rfl, CF.out⟩))
set_option maxHeartbeats 1000000 in
theorem rfew_of {w0 : World} (t : Tn) (cs : Array Value) (w : World) (ht : NodeAt w0 cs t) (hw : Chg Pure' w0 w) :
    Calls Tryd.prog 13 #[.agg cs] w fun e w' => e = .returned (.bool (decide (sizeT t ≤ 1024))) ∧ Chg Pure' w w' := by
  obtain ⟨Ab, cb, Ak, ck, Ai, ci, rfl, -⟩ := ht.out
  have ca : Chg Pure' w (w.alloc (.cells (nodeCells t Ab cb Ak ck Ai ci) 26)) := (Chg.refl _ _).alloc _
  have HL := Lib.hid (rleft_of (sizeT t) t (Nat.le_refl _) _ (w.alloc (.cells (nodeCells t Ab cb Ak ck Ai ci) 26)) 1024 ht (hw.trans' ca) (by decide) (by decide))
  have CA := Lib.hid ca
  have hd : decide (0 ≤ leftA 1024 (sizeT t)) = decide (sizeT t ≤ 1024) := by
    rw [Bool.eq_iff_iff, decide_eq_true_eq, decide_eq_true_eq]; unfold leftA; omega
  rw [← hd]
  generalize leftA 1024 (sizeT t) = X at *
  clear ca hd ht hw
  unfold nodeCells at *
  go_enter Tryd.func13, Tryd.ntmps13
  go_wp2_with (fail)
  refine HL.out.mono ?_
  rintro e w2 ⟨rfl, z2⟩
  have C2 := Lib.hid (CA.out.trans' z2)
  clear z2 HL
  go_wp2
  go_ret
  exact ⟨rfl, C2.out⟩
theorem sameL_drop {l m : List Tn} {k : Nat} (h1 : k < l.length) (h2 : k < m.length) : sameL (l.drop k) (m.drop k) = (sameT l[k] m[k] && sameL (l.drop (k + 1)) (m.drop (k + 1))) := by
  rw [List.drop_eq_getElem_cons h1, List.drop_eq_getElem_cons h2, sameL]
set_option maxHeartbeats 16000000 in
/-- The document's same. -/
theorem rsame_of {w0 : World} : ∀ (N : Nat) (x y : Tn), sizeT x ≤ N → ∀ (cx cy : Array Value) (w : World), NodeAt w0 cx x → NodeAt w0 cy y → Chg Pure' w0 w →
    Calls Tryd.prog 14 #[.agg cx, .agg cy] w fun e w' => e = .returned (.bool (sameT x y)) ∧ Chg Pure' w w' := by
  intro N
  induction N with
  | zero => intro x y hn; have := sizeT_pos x; omega
  | succ N ih =>
    intro x y hn cx cy w hx hy hw
    obtain ⟨Ab, cb, Ak, ck, Ai, ci, rfl, hp, hk, hi⟩ := hx.out
    obtain ⟨Bb, db, Bk, dk, Bi, di, rfl, gp, gk, gi⟩ := hy.out
    obtain ⟨w2, hw2⟩ : ∃ w2, (w.alloc (.cells (nodeCells x Ab cb Ak ck Ai ci) 26)).alloc (.cells (nodeCells y Bb db Bk dk Bi di) 26) = w2 := ⟨_, rfl⟩
    have ca : Chg Pure' w (w.alloc (.cells (nodeCells x Ab cb Ak ck Ai ci) 26)) := (Chg.refl _ _).alloc _
    have cb' : Chg Pure' (w.alloc (.cells (nodeCells x Ab cb Ak ck Ai ci) 26)) w2 := by rw [← hw2]; exact (Chg.refl _ _).alloc _
    have c2 := ca.pure cb'
    have hbx : w2.heap[w.heap.size]? = some (.cells (nodeCells x Ab cb Ak ck Ai ci) 26 (0, 0)) := by rw [← hw2]; exact (Below.heap_alloc _ _ _ (by simp)).trans (heap_alloc_new w _)
    have hby : w2.heap[w.heap.size + 1]? = some (.cells (nodeCells y Bb db Bk dk Bi di) 26 (0, 0)) := by
      rw [← hw2]
      have := heap_alloc_new (w.alloc (.cells (nodeCells x Ab cb Ak ck Ai ci) 26)) (.cells (nodeCells y Bb db Bk dk Bi di) 26)
      rwa [show (w.alloc (.cells (nodeCells x Ab cb Ak ck Ai ci) 26)).heap.size = w.heap.size + 1 by simp] at this
    have C2 := Lib.hid c2
    have HWC := Lib.hid (hw.pure c2)
    have s1 := (hp.bytes.pure (hw.pure c2)).run_string (P := Tryd.prog) 23 9 5 Tryd.underlying23 Tryd.underlying5 Tryd.underlying9 cb
    have s2 := (gp.bytes.pure (hw.pure c2)).run_string (P := Tryd.prog) 23 9 5 Tryd.underlying23 Tryd.underlying5 Tryd.underlying9 db
    have HRK : Hid (∀ u ∈ x.keys, ∀ v cx cy w, NodeAt w0 cx u → NodeAt w0 cy v → Chg Pure' w0 w → Calls Tryd.prog 14 #[.agg cx, .agg cy] w fun e w' => e = .returned (.bool (sameT u v)) ∧ Chg Pure' w w') := Lib.hid (fun u hu v => ih u v (by have := size_key hu; omega))
    have HRI : Hid (∀ u ∈ x.kids, ∀ v cx cy w, NodeAt w0 cx u → NodeAt w0 cy v → Chg Pure' w0 w → Calls Tryd.prog 14 #[.agg cx, .agg cy] w fun e w' => e = .returned (.bool (sameT u v)) ∧ Chg Pure' w w') := Lib.hid (fun u hu v => ih u v (by have := size_kid hu; omega))
    have HKX := Lib.hid hk
    have HIX := Lib.hid hi
    have HKY := Lib.hid gk
    have HIY := Lib.hid gi
    have l1 := hp.lk
    have l2 := hp.li
    have HW2 : Hid ((w.alloc (.cells (nodeCells x Ab cb Ak ck Ai ci) 26)).alloc (.cells (nodeCells y Bb db Bk dk Bi di) 26) = w2) := Lib.hid hw2
    clear hw2 ca cb' c2 hx hy hw hp hk hi gp gk gi ih hn
    by_cases hall : x.kind = y.kind ∧ x.n = y.n ∧ x.neg = y.neg ∧ x.dig = y.dig ∧ x.exp = y.exp ∧ x.text = y.text ∧ x.bytes = y.bytes ∧ x.keys.length = y.keys.length ∧ x.kids.length = y.kids.length
    · obtain ⟨e0, e1, e2, e3, e4, e5, e6, e7, e8⟩ := hall
      have HP := Lib.hid (sameT_parts x y e0 e1 e2 e3 e4 e5)
      have HP2 : Hid (sameT x y = (sameL x.keys y.keys && sameL x.kids y.kids)) := Lib.hid (by rw [HP.out, e6]; simp)
      clear HP
      have HE7 := Lib.hid e7
      have HE8 := Lib.hid e8
      unfold nodeCells at *
      simp only [← e0, ← e1, ← e2, ← e3, ← e4, ← e5, ← e6, ← e7, ← e8] at hby s2 HW2 ⊢
      clear e0 e1 e2 e3 e4 e5 e6 e7 e8
      obtain ⟨x0, x1, x2, x3, x4, x5, x6, x7, x8⟩ := node_nine hbx
      obtain ⟨y0, y1, y2, y3, y4, y5, y6, y7, y8⟩ := node_nine hby
      clear hbx hby
      generalize hD : x.bytes = XB at *
      generalize hE : x.text = XT at *
      generalize hF : x.dig = XD at *
      obtain ⟨n1, hn1⟩ : ∃ n, x.keys.length = n := ⟨_, rfl⟩
      obtain ⟨n2, hn2⟩ : ∃ n, x.kids.length = n := ⟨_, rfl⟩
      rw [hn1] at x7 y7 l1
      rw [hn2] at x8 y8 l2
      simp only [hn1, hn2] at HW2 ⊢
      have HN1 := Lib.hid hn1
      have HN2 := Lib.hid hn2
      clear hD hE hF hn1 hn2
      go_enter Tryd.func14, Tryd.ntmps14
      go_upto_region 1 with (fail)
      rw [HW2.out]
      clear HW2
      go_wp2_with (fail)
      go_loopw [5] (fun i wr => ∃ (k : Nat), k ≤ n1 ∧ i = .int .i64 k ∧ Hid (Chg Pure' w2 wr) ∧ Hid (sameL x.keys y.keys = sameL (x.keys.drop k) (y.keys.drop k))) (fun i _ => n1 - (intOf i).toNat)
      case atStart => exact ⟨0, Nat.zero_le _, rfl, Lib.hid (Chg.refl _ _), Lib.hid rfl⟩
      case round =>
        obtain ⟨k, hk, rfl, HC, HS⟩ := hrel
        by_cases hlt : k < n1
        · have i1 : (k : Int) < (n1 : Int) := by omega
          have cd := (Chg.refl Pure' wr).drew
          have HWR := Lib.hid ((HWC.out.trans' HC.out).trans' cd)
          have hk1 : k < x.keys.length := by rw [HN1.out]; exact hlt
          have hk2 : k < y.keys.length := by rw [← HE7.out, HN1.out]; exact hlt
          obtain ⟨b1, o1, Ab1, cb1, Ak1, ck1, Ai1, ci1, rfl, hb1, e1, nd1⟩ := HKX.out.cells9 HWR.out k hk1
          obtain ⟨b2, o2, Ab2, cb2, Ak2, ck2, Ai2, ci2, rfl, hb2, e2, nd2⟩ := HKY.out.cells9 HWR.out k hk2
          have HSK := Lib.hid (HS.out.trans (sameL_drop hk1 hk2))
          have m1 : x.keys[k] ∈ x.keys := List.getElem_mem hk1
          have z0 := cd.cell (HC.out.cell x7 (fun h => h)) (fun h => h)
          have v0 := cd.cell (HC.out.cell y7 (fun h => h)) (fun h => h)
          have t0 := HC.out.cell x7 (fun h => h)
          have HC1 := Lib.hid (HRK.out _ m1 y.keys[k] _ _ wr.drew nd1 nd2 HWR.out)
          have HCD := Lib.hid (HC.out.trans' cd)
          generalize x.keys[k] = u at *
          generalize y.keys[k] = v at *
          obtain ⟨p0, p1, p2, p3, p4, p5, p6, p7, p8⟩ := e1
          obtain ⟨q0, q1, q2, q3, q4, q5, q6, q7, q8⟩ := e2
          generalize hwd : wr.drew = wd at *
          have HDE := Lib.hid hwd
          clear nd1 nd2 m1 hk1 hk2 hwd cd HS
          unfold nodeCells at HC1
          go_wp2_with (fail)
          refine wp_region_still_tail 10 (by kernel_rfl) (by kernel_rfl) ?_
          simp only [List.take_succ_cons, List.take_zero, List.drop_succ_cons, List.drop_zero]
          change wpStill _ _ wr.drew _ _ _
          rw [HDE.out]
          clear t0
          repeat still_step
          refine wpStill_nil ?_
          change wpList _ _ _ _ _ wr.drew
          rw [HDE.out]
          go_wp2_with (fail)
          refine HC1.out.mono ?_
          rintro e w3 ⟨rfl, c3⟩
          have HC3 := Lib.hid (HCD.out.trans' c3)
          cases hq : sameT u v with
          | false =>
            have HF : Hid (sameT x y = false) := Lib.hid (by rw [HP2.out, HSK.out, hq]; simp)
            clear c3 HC1 hq
            go_wp2
            go_ret
            rw [HF.out]
            exact ⟨rfl, C2.out.trans' HC3.out⟩
          | true =>
            have HS3 : Hid (sameL x.keys y.keys = sameL (x.keys.drop (k + 1)) (y.keys.drop (k + 1))) := Lib.hid (by rw [HSK.out, hq]; simp)
            clear c3 HC1 hq
            go_wp2
            go_roundw
            case rel => exact ⟨k + 1, by omega, by go_num, HC3, HS3⟩
            case measure => simp [intOf]; omega
        · have hge : (n1 : Int) ≤ (k : Int) := by omega
          have t7 := HC.out.cell x7 (fun h => h)
          have x8' := HC.out.cell x8 (fun h => h)
          have y8' := HC.out.cell y8 (fun h => h)
          have HKT : Hid (sameL x.keys y.keys = true) := Lib.hid (by rw [HS.out, List.drop_eq_nil_of_le (by rw [HN1.out]; omega), List.drop_eq_nil_of_le (by rw [← HE7.out, HN1.out]; omega), sameL])
          have HWO := Lib.hid (HWC.out.trans' HC.out)
          have HCO := Lib.hid (C2.out.trans' HC.out)
          obtain ⟨wo, rfl⟩ : ∃ wo : World, wo = wr := ⟨_, rfl⟩
          clear HS HC x7 y7 x8 y8
          go_wp2_with (fail)
          clear t7
          go_loopw [6] (fun i wr => ∃ (k : Nat), k ≤ n2 ∧ i = .int .i64 k ∧ Hid (Chg Pure' wo wr) ∧ Hid (sameL x.kids y.kids = sameL (x.kids.drop k) (y.kids.drop k))) (fun i _ => n2 - (intOf i).toNat)
          case atStart => exact ⟨0, Nat.zero_le _, rfl, Lib.hid (Chg.refl _ _), Lib.hid rfl⟩
          case round =>
            obtain ⟨k, hk, rfl, HC, HS⟩ := hrel
            by_cases hlt : k < n2
            · have i1 : (k : Int) < (n2 : Int) := by omega
              have cd := (Chg.refl Pure' wr).drew
              have HWR := Lib.hid ((HWO.out.trans' HC.out).trans' cd)
              have hk1 : k < x.kids.length := by rw [HN2.out]; exact hlt
              have hk2 : k < y.kids.length := by rw [← HE8.out, HN2.out]; exact hlt
              obtain ⟨b1, o1, Ab1, cb1, Ak1, ck1, Ai1, ci1, rfl, hb1, e1, nd1⟩ := HIX.out.cells9 HWR.out k hk1
              obtain ⟨b2, o2, Ab2, cb2, Ak2, ck2, Ai2, ci2, rfl, hb2, e2, nd2⟩ := HIY.out.cells9 HWR.out k hk2
              have HSK := Lib.hid (HS.out.trans (sameL_drop hk1 hk2))
              have m1 : x.kids[k] ∈ x.kids := List.getElem_mem hk1
              have z0 := cd.cell (HC.out.cell x8' (fun h => h)) (fun h => h)
              have v0 := cd.cell (HC.out.cell y8' (fun h => h)) (fun h => h)
              have t0 := HC.out.cell x8' (fun h => h)
              have HC1 := Lib.hid (HRI.out _ m1 y.kids[k] _ _ wr.drew nd1 nd2 HWR.out)
              have HCD := Lib.hid (HC.out.trans' cd)
              generalize x.kids[k] = u at *
              generalize y.kids[k] = v at *
              obtain ⟨p0, p1, p2, p3, p4, p5, p6, p7, p8⟩ := e1
              obtain ⟨q0, q1, q2, q3, q4, q5, q6, q7, q8⟩ := e2
              generalize hwd : wr.drew = wd at *
              have HDE := Lib.hid hwd
              clear nd1 nd2 m1 hk1 hk2 hwd cd HS
              unfold nodeCells at HC1
              go_wp2_with (fail)
              refine wp_region_still_tail 10 (by kernel_rfl) (by kernel_rfl) ?_
              simp only [List.take_succ_cons, List.take_zero, List.drop_succ_cons, List.drop_zero]
              change wpStill _ _ wr.drew _ _ _
              rw [HDE.out]
              clear t0
              repeat still_step
              refine wpStill_nil ?_
              change wpList _ _ _ _ _ wr.drew
              rw [HDE.out]
              go_wp2_with (fail)
              refine HC1.out.mono ?_
              rintro e w3 ⟨rfl, c3⟩
              have HC3 := Lib.hid (HCD.out.trans' c3)
              cases hq : sameT u v with
              | false =>
                have HF : Hid (sameT x y = false) := Lib.hid (by rw [HP2.out, HSK.out, hq]; simp)
                clear c3 HC1 hq
                go_wp2
                go_ret
                rw [HF.out]
                exact ⟨rfl, HCO.out.trans' HC3.out⟩
              | true =>
                have HS3 : Hid (sameL x.kids y.kids = sameL (x.kids.drop (k + 1)) (y.kids.drop (k + 1))) := Lib.hid (by rw [HSK.out, hq]; simp)
                clear c3 HC1 hq
                go_wp2
                go_roundw
                case rel => exact ⟨k + 1, by omega, by go_num, HC3, HS3⟩
                case measure => simp [intOf]; omega
            · have hge : (n2 : Int) ≤ (k : Int) := by omega
              have t8 := HC.out.cell x8' (fun h => h)
              have HT : Hid (sameT x y = true) := Lib.hid (by rw [HP2.out, HKT.out, HS.out, List.drop_eq_nil_of_le (by rw [HN2.out]; omega), List.drop_eq_nil_of_le (by rw [← HE8.out, HN2.out]; omega), sameL]; rfl)
              have HCF := Lib.hid (HCO.out.trans' HC.out)
              clear HS HC
              go_wp2
              go_ret
              rw [HT.out]
              exact ⟨rfl, HCF.out⟩
    · unfold nodeCells at *
      obtain ⟨x0, x1, x2, x3, x4, x5, x6, x7, x8⟩ := node_nine hbx
      obtain ⟨y0, y1, y2, y3, y4, y5, y6, y7, y8⟩ := node_nine hby
      clear hbx hby
      go_enter Tryd.func14, Tryd.ntmps14
      go_upto_region 1 with (fail)
      rw [HW2.out]
      clear HW2
      go_wp2_with (fail)
      all_goals first
        | (go_ret
           refine ⟨?_, C2.out⟩
           rw [sameT_ne (fun e => by subst e; first | exact absurd rfl ‹_› | omega)]
           rfl)
        | skip
      all_goals
        by_cases hki : x.kids.length = y.kids.length
        · exfalso
          exact hall ⟨by assumption, UInt64.toNat_inj.1 (by omega), by assumption, by assumption, by assumption, by assumption, by assumption, by omega, hki⟩
        · have hkb : ((x.kids.length : Int) != (y.kids.length : Int)) = true := by simp; omega
          first
            | exact absurd ‹((x.kids.length : Int) != (y.kids.length : Int)) = false› (by rw [hkb]; decide)
            | (go_wp2
               go_ret
               refine ⟨?_, C2.out⟩
               rw [sameT_ne (fun e => by subst e; exact absurd rfl hki)]
               rfl)
/-- What the document's Same answers. -/
def sameA (a b : Tn) : Bool := decide (sizeT a ≤ 1024) && decide (sizeT b ≤ 1024) && sameT a b
set_option maxHeartbeats 4000000 in
theorem rSame_of {w0 : World} (a b : Tn) (ca cb : Array Value) (w : World) (ha : NodeAt w0 ca a) (hb : NodeAt w0 cb b) (hw : Chg Pure' w0 w) :
    Calls Tryd.prog 8 #[.agg ca, .agg cb] w fun e w' => e = .returned (.bool (sameA a b)) ∧ Chg Pure' w w' := by
  have F1 := Lib.hid (fun W h => rfew_of a ca W ha (hw.trans' (c := W) h))
  have F2 := Lib.hid (fun W h => rfew_of b cb W hb (hw.trans' (c := W) h))
  have F3 := Lib.hid (fun W h => rsame_of (sizeT a) a b (Nat.le_refl _) ca cb W ha hb (hw.trans' (c := W) h))
  obtain ⟨Ab, cb1, Ak, ck, Ai, ci, rfl, -⟩ := ha.out
  obtain ⟨Bb, db, Bk, dk, Bi, di, rfl, -⟩ := hb.out
  obtain ⟨w2, hw2⟩ : ∃ w2, (w.alloc (.cells (nodeCells a Ab cb1 Ak ck Ai ci) 26)).alloc (.cells (nodeCells b Bb db Bk dk Bi di) 26) = w2 := ⟨_, rfl⟩
  have c2 : Chg Pure' w w2 := by rw [← hw2]; exact ((Chg.refl _ _).alloc _).alloc _
  have hbx : w2.heap[w.heap.size]? = some (.cells (nodeCells a Ab cb1 Ak ck Ai ci) 26 (0, 0)) := by rw [← hw2]; exact (Below.heap_alloc _ _ _ (by simp)).trans (heap_alloc_new w _)
  have hby : w2.heap[w.heap.size + 1]? = some (.cells (nodeCells b Bb db Bk dk Bi di) 26 (0, 0)) := by
    rw [← hw2]
    have := heap_alloc_new (w.alloc (.cells (nodeCells a Ab cb1 Ak ck Ai ci) 26)) (.cells (nodeCells b Bb db Bk dk Bi di) 26)
    rwa [show (w.alloc (.cells (nodeCells a Ab cb1 Ak ck Ai ci) 26)).heap.size = w.heap.size + 1 by simp] at this
  have C2 := Lib.hid c2
  have HWE := Lib.hid hw2
  have HBX := Lib.hid hbx
  have HBY := Lib.hid hby
  clear hw2 c2 hbx hby ha hb hw
  unfold sameA
  generalize decide (sizeT a ≤ 1024) = q1 at *
  generalize decide (sizeT b ≤ 1024) = q2 at *
  generalize sameT a b = q3 at *
  unfold nodeCells at *
  have blk : ∀ W, Chg Pure' w2 W → W.heap[w.heap.size]? = w2.heap[w.heap.size]? ∧ W.heap[w.heap.size + 1]? = w2.heap[w.heap.size + 1]? := fun W h => ⟨h.block _ (Array.getElem?_eq_some_iff.1 HBX.out).1 (fun h => h), h.block _ (Array.getElem?_eq_some_iff.1 HBY.out).1 (fun h => h)⟩
  have BLK := Lib.hid blk
  clear blk
  cases q1
  · go_enter Tryd.func8, Tryd.ntmps8
    go_wp2_with (fail)
    rw [HWE.out]
    refine (F1.out w2 C2.out).mono ?_
    rintro e w3 ⟨rfl, z3⟩
    have C3 := Lib.hid (C2.out.trans' z3)
    clear z3
    go_wp2
    go_ret
    exact ⟨rfl, C3.out⟩
  · go_enter Tryd.func8, Tryd.ntmps8
    go_wp2_with (fail)
    rw [HWE.out]
    refine (F1.out w2 C2.out).mono ?_
    rintro e w3 ⟨rfl, z3⟩
    have C3 := Lib.hid (C2.out.trans' z3)
    obtain ⟨y0, y1, y2, y3, y4, y5, y6, y7, y8⟩ := node_nine ((BLK.out w3 z3).2.trans HBY.out)
    have Z3 := Lib.hid z3
    clear z3
    go_wp2_with (fail)
    refine (F2.out w3 C3.out).mono ?_
    rintro e w4 ⟨rfl, z4⟩
    have C4 := Lib.hid (C3.out.trans' z4)
    have Z4 := Lib.hid (Z3.out.trans' z4)
    clear z4 y0 y1 y2 y3 y4 y5 y6 y7 y8
    cases q2
    · go_wp2
      go_ret
      exact ⟨rfl, C4.out⟩
    · obtain ⟨x0, x1, x2, x3, x4, x5, x6, x7, x8⟩ := node_nine ((BLK.out w4 Z4.out).1.trans HBX.out)
      obtain ⟨y0, y1, y2, y3, y4, y5, y6, y7, y8⟩ := node_nine ((BLK.out w4 Z4.out).2.trans HBY.out)
      go_wp2_with (fail)
      refine (F3.out w4 C4.out).mono ?_
      rintro e w5 ⟨rfl, z5⟩
      have C5 := Lib.hid (C4.out.trans' z5)
      clear z5
      go_wp2
      go_ret
      exact ⟨by rfl, C5.out⟩
end Go.Proofs.YtafpkecjicphoaaDoor
