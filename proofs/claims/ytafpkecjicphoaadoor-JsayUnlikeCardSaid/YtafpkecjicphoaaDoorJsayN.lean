/- jsay's writer: a node's closures, and nodes of each Kind. -/
import Derived.Test.YtafpkecjicphoaaDoorJsayL
import Derived.Test.YtafpkecjicphoaaDoorJlexE
import Derived.Test.YtafpkecjicphoaaDoorRegL
import Derived.StillTailTactics
namespace Go.Proofs.YtafpkecjicphoaaDoor
open Go Go.RowKit
set_option linter.unusedVariables false
set_option linter.unusedSimpArgs false
set_option maxRecDepth 100000

theorem escape_of (l : List UInt8) (hl : l.length ≤ 1099511627776) (w : World) :
    Calls Tryd.prog 31 #[.string ⟨l.toArray⟩] w fun e w' => e = .returned (.string ⟨(escT l).toArray⟩) ∧ Chg Pure' w w' := by
  cases h : utfOk l
  · exact escape_bad l hl h w
  · exact escape_ok l hl h w
/-- What a node's own call does. -/
def NodeC (w0 : World) (base wb : Nat) (x : Tn) : Prop :=
  ∀ (cs : Array Value) (w : World) (v : Value) (acc : List UInt8) (ok : Bool), NodeAt w0 cs x → Chg Pure' w0 w → WrAt base wb v acc ok w → acc.length + (sayT x).length ≤ 1099511627776 →
    Calls Tryd.prog 20 #[.pointer (some ⟨wb, 0, none⟩), .agg cs] w (WrPost base wb v (acc ++ sayT x) (ok && toldT x) w)
set_option maxHeartbeats 1000000 in
theorem node1_of {w0 w : World} {base wb b2 b3 : Nat} {v : Value} {acc : List UInt8} {ok : Bool} (hW : WrAt base wb v acc ok w) (hb2 : w.cell? ⟨b2, 0, none⟩ = some (.pointer (some ⟨wb, 0, none⟩))) {A : Option Addr} {l : List Tn} {c : Nat}
    (h8 : w.cell? ⟨b3, 8, none⟩ = some (.slice A l.length c)) (he : ElemsAt w0 A 0 l) (hll : l.length ≤ 140737488351232) (hc : Chg Pure' w0 w) (k : Nat) (hk : k < l.length) (hrec : NodeC w0 base wb l[k]) (hl : acc.length + (sayT l[k]).length ≤ 1099511627776) :
    Calls Tryd.prog 33 #[.int .i64 (k : Nat), .pointer (some ⟨b2, 0, none⟩), .pointer (some ⟨b3, 0, none⟩)] w (WrPost base wb v (acc ++ sayT l[k]) (ok && toldT l[k]) w) := by
  have cd := (Chg.refl Pure' w).drew
  obtain ⟨b1, o1, Ab1, cb1, Ak1, ck1, Ai1, ci1, rfl, -, e1, n1⟩ := he.cells9 (hc.trans' cd) k hk
  have HC := Lib.hid (hrec _ w.drew v acc ok n1 (hc.trans' cd) (hW.pure cd) hl)
  have CD := Lib.hid cd
  have i1 : (k : Int) < (l.length : Int) := by omega
  have hb2' := cd.cell hb2 (fun h => h)
  have h8' := cd.cell h8 (fun h => h)
  generalize l[k] = x at *
  generalize hn : l.length = n at *
  obtain ⟨p0, p1, p2, p3, p4, p5, p6, p7, p8⟩ := e1
  clear hrec n1 cd hc he hW hl hn hb2 h8
  unfold nodeCells at HC
  go_enter Tryd.func33, Tryd.ntmps33
  refine wp_region_still_tail 6 (by kernel_rfl) (by kernel_rfl) ?_
  simp only [List.take_succ_cons, List.take_zero, List.drop_succ_cons, List.drop_zero]
  change wpStill _ _ w.drew _ _ _
  repeat still_step
  refine wpStill_nil ?_
  change wpList _ _ _ _ _ w.drew
  go_wp2_with (fail)
  refine HC.out.mono ?_
  rintro e w3 ⟨rfl, v3, hW3, hS3⟩
  have HW3 := Lib.hid hW3
  have HS3 := Lib.hid hS3
  clear hW3 hS3 HC
  go_wp2
  first | go_end0 | (refine bodyPost_ret (results_none rfl _ _ _) rfl ?_)
  exact ⟨rfl, v3, HW3.out, WrStep.of_pure CD.out HS3.out⟩
theorem WrAt.setOk {base wb : Nat} {v : Value} {acc : List UInt8} {ok : Bool} {w : World} (h : WrAt base wb v acc ok w) (b : Bool) : WrAt base wb v acc b (w.setCell ⟨wb, 1, none⟩ (.bool b)) ∧ WrStep wb v v w (w.setCell ⟨wb, 1, none⟩ (.bool b)) :=
  ⟨⟨heap_setCell_same w wb 1 _ _ _ h.blk, own_keep h.own (S := fun k => k = wb) (Chg.setCell (S := fun k => k = wb) (Chg.refl _ _) (p := ⟨wb, 1, none⟩) (.inr rfl) _) (fun g hg e => h.ne (by rw [hg, e])), h.le, h.ne⟩,
    ⟨(Chg.refl _ _).setCell (.inr (.inl rfl)) _, fun k hk => .inl hk⟩⟩
set_option maxHeartbeats 2000000 in
theorem node2_of {w0 w : World} {base wb b2 b3 : Nat} {v : Value} {acc : List UInt8} {ok : Bool} (hW : WrAt base wb v acc ok w) (hb2 : w.cell? ⟨b2, 0, none⟩ = some (.pointer (some ⟨wb, 0, none⟩))) {A B : Option Addr} {ks l : List Tn} {c d : Nat}
    (h7 : w.cell? ⟨b3, 7, none⟩ = some (.slice B ks.length d)) (h8 : w.cell? ⟨b3, 8, none⟩ = some (.slice A l.length c)) (hks : ElemsAt w0 B 0 ks) (he : ElemsAt w0 A 0 l) (hkl : ks.length ≤ 140737488351232) (hll : l.length ≤ 140737488351232)
    (hc : Chg Pure' w0 w) (k : Nat) (hk : k < l.length) (hk2 : k < ks.length) (hrec : NodeC w0 base wb l[k]) (hx : ks[k].text.length ≤ 1099511627776) (hbw : w0.heap.size ≤ wb ∧ w0.heap.size ≤ base) (hbb : b2 ≠ wb ∧ b3 ≠ wb ∧ v.ownBlock ≠ some b2 ∧ v.ownBlock ≠ some b3)
    (hl : acc.length + (escT ks[k].text ++ 58 :: sayT l[k]).length ≤ 1099511627776) :
    Calls Tryd.prog 34 #[.int .i64 (k : Nat), .pointer (some ⟨b2, 0, none⟩), .pointer (some ⟨b3, 0, none⟩)] w (WrPost base wb v (acc ++ (escT ks[k].text ++ 58 :: sayT l[k])) (ok && (decide (ks[k].kind = 5) && toldT l[k])) w) := by
  have cd := (Chg.refl Pure' w).drew
  obtain ⟨bk, ok1, Abk, cbk, Akk, ckk, Aik, cik, rfl, hbk, ek, -⟩ := hks.cells9 (hc.trans' cd) k hk2
  obtain ⟨b1, o1, Ab1, cb1, Ak1, ck1, Ai1, ci1, rfl, hb1, e1, n1⟩ := he.cells9 (hc.trans' cd) k hk
  have HCR := Lib.hid hrec
  have HN1 := Lib.hid n1
  have CD := Lib.hid cd
  have HC0 := Lib.hid (hc.trans' cd)
  have i1 : (k : Int) < (l.length : Int) := by omega
  have i2 : (k : Int) < (ks.length : Int) := by omega
  have c2 := cd.cell hb2 (fun h => h)
  have c7 := cd.cell h7 (fun h => h)
  have c8 := cd.cell h8 (fun h => h)
  have hWd := hW.pure cd
  have x0 := hWd.c0
  have x1 := hWd.c1
  have f1 := hWd.free 1
  have HW := Lib.hid hWd
  have HB := Lib.hid hbb
  have HBW := Lib.hid hbw
  have HES := Lib.hid (escape_of ks[k].text hx)
  have HL := Lib.hid hl
  generalize l[k] = x at *
  generalize ks[k] = y at *
  generalize hn : l.length = n at *
  generalize hn2 : ks.length = n2 at *
  obtain ⟨q0, -, -, -, -, q5, -, -, -⟩ := ek
  obtain ⟨p0, p1, p2, p3, p4, p5, p6, p7, p8⟩ := e1
  generalize hwd : w.drew = wd at *
  have HWD := Lib.hid hwd
  clear hwd
  clear hrec n1 cd hc he hW hl hn hn2 hb2 h8 h7 hks hWd hbb hbw hx
  generalize escT y.text = E at *
  have hl0 := HL.out
  have HL2 : Hid (acc.length + E.length + ([58] : List UInt8).length ≤ 1099511627776) := Lib.hid (by simp at hl0; simp; omega)
  have HL3 : Hid ((acc ++ (E ++ [58])).length + (sayT x).length ≤ 1099511627776) := Lib.hid (by simp at hl0; simp; omega)
  have HTX : Hid (acc ++ (E ++ 58 :: sayT x) = acc ++ (E ++ [58]) ++ sayT x) := Lib.hid (by simp)
  clear hl0
  obtain ⟨KD, hKD⟩ : ∃ b, decide (y.kind = 5) = b := ⟨_, rfl⟩
  have hKD2 : (y.kind == 5) = KD := by rw [← hKD]; rfl
  rw [hKD]
  replace hKD := Lib.hid hKD
  obtain ⟨hWs, hSs⟩ := HW.out.setOk (ok && KD)
  have HWS := Lib.hid hWs
  have HSS := Lib.hid hSs
  clear hWs hSs
  obtain ⟨OK2, hOK2⟩ : ∃ b, (ok && KD) = b := ⟨_, rfl⟩
  have hOKA : (ok && (KD && toldT x)) = (OK2 && toldT x) := by rw [← hOK2, Bool.and_assoc]
  rw [hOKA]
  rw [hOK2] at HWS HSS
  clear hOKA
  obtain ⟨w1, hw1⟩ : ∃ w1, wd.setCell ⟨wb, 1, none⟩ (.bool OK2) = w1 := ⟨_, rfl⟩
  rw [hw1] at HWS HSS
  have HWE := Lib.hid hw1
  have hnb2 : ¬ WrS wb v b2 := fun h => h.elim HB.out.1 HB.out.2.2.1
  have hnb3 : ¬ WrS wb v b3 := fun h => h.elim HB.out.2.1 HB.out.2.2.2
  have hnbk : ∀ b, b < w0.heap.size → ¬ WrS wb v b := fun b hb h => by
    have h1 := HBW.out
    rcases h with h | h
    · omega
    · have := (HW.out.ownLt h).1; omega
  have cdw := (Chg.refl Pure' w1).drew
  have c2b := cdw.cell (HSS.out.chg.cell c2 hnb2) (fun h => h)
  have c7b := cdw.cell (HSS.out.chg.cell c7 hnb3) (fun h => h)
  have c8b := cdw.cell (HSS.out.chg.cell c8 hnb3) (fun h => h)
  have q5b := cdw.cell (HSS.out.chg.cell q5 (hnbk _ hbk)) (fun h => h)
  have HW1 := Lib.hid (HWS.out.pure cdw)
  have HS1 := Lib.hid (HSS.out.pure cdw)
  have HC1 := Lib.hid ((HC0.out.trans HSS.out.chg (fun i hi h => hnbk i hi h)).trans' cdw)
  have HNB := Lib.hid hnbk
  have HNB2 := Lib.hid hnb2
  have HNB3 := Lib.hid hnb3
  have HHB1 := Lib.hid hb1
  have HHBK := Lib.hid hbk
  generalize hw2 : w1.drew = w2 at *
  have HW2E := Lib.hid hw2
  clear HWS HSS hw1 hnb2 hnb3 hnbk cdw hw2 hb1 hbk
  go_enter Tryd.func34, Tryd.ntmps34
  cases ok
  · obtain rfl : OK2 = false := by rw [← hOK2]; rfl
    go_wp2_with (fail)
    refine regL_begin 16 (Pure') (by kernel_rfl) ?_
    rw [HWD.out]
    refine regL_take 0 (v := ?_) rfl (by kernel_rfl) (by kernel_rfl) (by kernel_rfl) (by kernel_rfl) (fun _ _ _ h => h) (by kernel_rfl) ?_ ?_
    rotate_left
    · (intro w' hS; have hz := hS.cell (w := wd) c2 (fun h => h); go_simp; (try go_bits); (try with_reducible rfl))
    try simp only [Act.put, List.getElem_toArray, List.getElem_cons_zero, List.getElem_cons_succ, List.setIfInBounds_toArray, List.set_cons_zero, List.set_cons_succ]
    refine regL_take 1 (v := ?_) rfl (by kernel_rfl) (by kernel_rfl) (by kernel_rfl) (by kernel_rfl) (fun _ _ _ h => h) (by kernel_rfl) ?_ ?_
    rotate_left
    · (intro w' hS; have hz := hS.cell (w := wd) c2 (fun h => h); go_simp; (try go_bits); (try with_reducible rfl))
    try simp only [Act.put, List.getElem_toArray, List.getElem_cons_zero, List.getElem_cons_succ, List.setIfInBounds_toArray, List.set_cons_zero, List.set_cons_succ]
    refine regL_take 2 (v := ?_) rfl (by kernel_rfl) (by kernel_rfl) (by kernel_rfl) (by kernel_rfl) (fun _ _ _ h => h) (by kernel_rfl) ?_ ?_
    rotate_left
    · (intro w' hS; go_simp; (try go_bits); (try with_reducible rfl))
    try simp only [Act.put, List.getElem_toArray, List.getElem_cons_zero, List.getElem_cons_succ, List.setIfInBounds_toArray, List.set_cons_zero, List.set_cons_succ]
    refine regL_take 3 (v := ?_) rfl (by kernel_rfl) (by kernel_rfl) (by kernel_rfl) (by kernel_rfl) (fun _ _ _ h => h) (by kernel_rfl) ?_ ?_
    rotate_left
    · (intro w' hS; go_simp; (try go_bits); (try with_reducible rfl))
    try simp only [Act.put, List.getElem_toArray, List.getElem_cons_zero, List.getElem_cons_succ, List.setIfInBounds_toArray, List.set_cons_zero, List.set_cons_succ]
    refine regL_take 4 (v := ?_) rfl (by kernel_rfl) (by kernel_rfl) (by kernel_rfl) (by kernel_rfl) (fun _ _ _ h => h) (by kernel_rfl) ?_ ?_
    rotate_left
    · (intro w' hS; have hz := hS.cell (w := wd) x1 (fun h => h); go_simp; (try go_bits); (try with_reducible rfl))
    try simp only [Act.put, List.getElem_toArray, List.getElem_cons_zero, List.getElem_cons_succ, List.setIfInBounds_toArray, List.set_cons_zero, List.set_cons_succ]
    refine regL_take 5 (v := ?_) rfl (by kernel_rfl) (by kernel_rfl) (by kernel_rfl) (by kernel_rfl) (fun _ _ _ h => h) (by kernel_rfl) ?_ ?_
    rotate_left
    · (intro w' hS; go_simp; (try go_bits); (try with_reducible rfl))
    try simp only [Act.put, List.getElem_toArray, List.getElem_cons_zero, List.getElem_cons_succ, List.setIfInBounds_toArray, List.set_cons_zero, List.set_cons_succ]
    refine regL_off 6 rfl (by kernel_rfl) (by kernel_rfl) (by kernel_rfl) (by kernel_rfl) (fun _ _ _ h => h) (by kernel_rfl) ?_
    try simp only [Act.put, List.getElem_toArray, List.getElem_cons_zero, List.getElem_cons_succ, List.setIfInBounds_toArray, List.set_cons_zero, List.set_cons_succ]
    refine regL_off 7 rfl (by kernel_rfl) (by kernel_rfl) (by kernel_rfl) (by kernel_rfl) (fun _ _ _ h => h) (by kernel_rfl) ?_
    try simp only [Act.put, List.getElem_toArray, List.getElem_cons_zero, List.getElem_cons_succ, List.setIfInBounds_toArray, List.set_cons_zero, List.set_cons_succ]
    refine regL_off 8 rfl (by kernel_rfl) (by kernel_rfl) (by kernel_rfl) (by kernel_rfl) (fun _ _ _ h => h) (by kernel_rfl) ?_
    try simp only [Act.put, List.getElem_toArray, List.getElem_cons_zero, List.getElem_cons_succ, List.setIfInBounds_toArray, List.set_cons_zero, List.set_cons_succ]
    refine regL_off 9 rfl (by kernel_rfl) (by kernel_rfl) (by kernel_rfl) (by kernel_rfl) (fun _ _ _ h => h) (by kernel_rfl) ?_
    try simp only [Act.put, List.getElem_toArray, List.getElem_cons_zero, List.getElem_cons_succ, List.setIfInBounds_toArray, List.set_cons_zero, List.set_cons_succ]
    refine regL_off 10 rfl (by kernel_rfl) (by kernel_rfl) (by kernel_rfl) (by kernel_rfl) (fun _ _ _ h => h) (by kernel_rfl) ?_
    try simp only [Act.put, List.getElem_toArray, List.getElem_cons_zero, List.getElem_cons_succ, List.setIfInBounds_toArray, List.set_cons_zero, List.set_cons_succ]
    refine regL_off 11 rfl (by kernel_rfl) (by kernel_rfl) (by kernel_rfl) (by kernel_rfl) (fun _ _ _ h => h) (by kernel_rfl) ?_
    try simp only [Act.put, List.getElem_toArray, List.getElem_cons_zero, List.getElem_cons_succ, List.setIfInBounds_toArray, List.set_cons_zero, List.set_cons_succ]
    refine regL_off 12 rfl (by kernel_rfl) (by kernel_rfl) (by kernel_rfl) (by kernel_rfl) (fun _ _ _ h => h) (by kernel_rfl) ?_
    try simp only [Act.put, List.getElem_toArray, List.getElem_cons_zero, List.getElem_cons_succ, List.setIfInBounds_toArray, List.set_cons_zero, List.set_cons_succ]
    refine regL_take 13 (v := ?_) rfl (by kernel_rfl) (by kernel_rfl) (by kernel_rfl) (by kernel_rfl) (fun _ _ _ h => h) (by kernel_rfl) ?_ ?_
    rotate_left
    · (intro w' hS; go_simp; (try go_bits); (try with_reducible rfl))
    try simp only [Act.put, List.getElem_toArray, List.getElem_cons_zero, List.getElem_cons_succ, List.setIfInBounds_toArray, List.set_cons_zero, List.set_cons_succ]
    refine regL_do 14 rfl (by kernel_rfl) (by kernel_rfl) ?_
    intro K hK
    go_simp
    refine hK _ _ (Chg.refl _ _) ?_
    clear hK K
    try simp only [Act.put, List.getElem_toArray, List.getElem_cons_zero, List.getElem_cons_succ, List.setIfInBounds_toArray, List.set_cons_zero, List.set_cons_succ]
    refine regL_do 15 rfl (by kernel_rfl) (by kernel_rfl) ?_
    intro K hK
    go_simp
    refine hK _ _ (Chg.refl _ _) ?_
    clear hK K
    try simp only [Act.put, List.getElem_toArray, List.getElem_cons_zero, List.getElem_cons_succ, List.setIfInBounds_toArray, List.set_cons_zero, List.set_cons_succ]
    refine regL_last rfl (by kernel_rfl) (by kernel_rfl) ?_
    intro K hK
    go_simp
    refine hK _ _ ?_
    clear hK K
    try simp only [Act.put, List.getElem_toArray, List.getElem_cons_zero, List.getElem_cons_succ, List.setIfInBounds_toArray, List.set_cons_zero, List.set_cons_succ]
    refine wpAnyL_done (by kernel_rfl) ?_ _
    rw [HWE.out]
    clear c2 c7 c8 q0 x0 x1 f1
    go_wp2_with (fail)
    refine reg_begin (WrS wb v) (by kernel_rfl) ?_
    rw [HW2E.out]
    refine reg_take 0 (v := ?_) rfl (by kernel_rfl) (by kernel_rfl) (by kernel_rfl) (fun _ _ _ h => h) (by kernel_rfl) ?_ ?_
    rotate_left
    · (intro w' hS; have hz := hS.cell (w := w2) c2b HNB2.out; go_simp; (try go_bits); (try with_reducible rfl))
    try simp only [Act.put, List.getElem_toArray, List.getElem_cons_zero, List.getElem_cons_succ, List.setIfInBounds_toArray, List.set_cons_zero, List.set_cons_succ]
    refine reg_take 1 (v := ?_) rfl (by kernel_rfl) (by kernel_rfl) (by kernel_rfl) (fun _ _ _ h => h) (by kernel_rfl) ?_ ?_
    rotate_left
    · (intro w' hS; go_simp; (try go_bits); (try with_reducible rfl))
    try simp only [Act.put, List.getElem_toArray, List.getElem_cons_zero, List.getElem_cons_succ, List.setIfInBounds_toArray, List.set_cons_zero, List.set_cons_succ]
    refine reg_take 2 (v := ?_) rfl (by kernel_rfl) (by kernel_rfl) (by kernel_rfl) (fun _ _ _ h => h) (by kernel_rfl) ?_ ?_
    rotate_left
    · (intro w' hS; have hz := hS.cell (w := w2) c7b HNB3.out; go_simp; (try go_bits); (try with_reducible rfl))
    try simp only [Act.put, List.getElem_toArray, List.getElem_cons_zero, List.getElem_cons_succ, List.setIfInBounds_toArray, List.set_cons_zero, List.set_cons_succ]
    refine reg_take 3 (v := ?_) rfl (by kernel_rfl) (by kernel_rfl) (by kernel_rfl) (fun _ _ _ h => h) (by kernel_rfl) ?_ ?_
    rotate_left
    · (intro w' hS; go_simp; (try go_bits); (try with_reducible rfl))
    try simp only [Act.put, List.getElem_toArray, List.getElem_cons_zero, List.getElem_cons_succ, List.setIfInBounds_toArray, List.set_cons_zero, List.set_cons_succ]
    refine reg_take 4 (v := ?_) rfl (by kernel_rfl) (by kernel_rfl) (by kernel_rfl) (fun _ _ _ h => h) (by kernel_rfl) ?_ ?_
    rotate_left
    · (intro w' hS; go_simp; (try go_bits); (try with_reducible rfl))
    try simp only [Act.put, List.getElem_toArray, List.getElem_cons_zero, List.getElem_cons_succ, List.setIfInBounds_toArray, List.set_cons_zero, List.set_cons_succ]
    refine reg_take 5 (v := ?_) rfl (by kernel_rfl) (by kernel_rfl) (by kernel_rfl) (fun _ _ _ h => h) (by kernel_rfl) ?_ ?_
    rotate_left
    · (intro w' hS; go_simp; (try go_bits); (try with_reducible rfl))
    try simp only [Act.put, List.getElem_toArray, List.getElem_cons_zero, List.getElem_cons_succ, List.setIfInBounds_toArray, List.set_cons_zero, List.set_cons_succ]
    refine reg_take 6 (v := ?_) rfl (by kernel_rfl) (by kernel_rfl) (by kernel_rfl) (fun _ _ _ h => h) (by kernel_rfl) ?_ ?_
    rotate_left
    · (intro w' hS; have hz := hS.cell (w := w2) q5b (HNB.out _ HHBK.out); go_simp; (try go_bits); (try with_reducible rfl))
    try simp only [Act.put, List.getElem_toArray, List.getElem_cons_zero, List.getElem_cons_succ, List.setIfInBounds_toArray, List.set_cons_zero, List.set_cons_succ]
    refine reg_do 7 rfl (by kernel_rfl) (by kernel_rfl) ?_
    intro K hK
    go_simp
    refine (HES.out _).mono ?_
    rintro e w3 ⟨rfl, z3⟩
    refine hK _ _ (Chg.of_pure z3) ?_
    clear hK K
    try simp only [Act.put, List.getElem_toArray, List.getElem_cons_zero, List.getElem_cons_succ, List.setIfInBounds_toArray, List.set_cons_zero, List.set_cons_succ]
    refine reg_do 8 rfl (by kernel_rfl) (by kernel_rfl) ?_
    intro K hK
    go_simp
    refine hK _ _ ((Chg.refl _ _).alloc _) ?_
    clear hK K
    try simp only [Act.put, List.getElem_toArray, List.getElem_cons_zero, List.getElem_cons_succ, List.setIfInBounds_toArray, List.set_cons_zero, List.set_cons_succ]
    refine reg_do 9 rfl (by kernel_rfl) (by kernel_rfl) ?_
    intro K hK
    go_simp
    have HW3 := Lib.hid (HW1.out.pure z3)
    refine (put2a HW3.out E [58] HL2.out).mono ?_
    rintro e w4 ⟨rfl, v4, hW4, hS4a⟩
    refine hK _ _ (hS4a.chg) ?_
    clear hK K
    try simp only [Act.put, List.getElem_toArray, List.getElem_cons_zero, List.getElem_cons_succ, List.setIfInBounds_toArray, List.set_cons_zero, List.set_cons_succ]
    refine wpAnyH_done (by kernel_rfl) ?_ _
    have hS4 := WrStep.of_pure ((Chg.refl Pure' w3).alloc (.cells #[.string ⟨E.toArray⟩, .string ⟨([58] : List UInt8).toArray⟩] 9)) hS4a
    clear hS4a
    have HS4 := Lib.hid ((HS1.out.pure z3).trans hS4)
    have hch := HS4.out.chg
    have hc4 : Chg (WrS wb v) w2 w4 := (Chg.of_pure (S := WrS wb v) z3).trans hS4.chg (fun _ _ h => h)
    have cd4 := (Chg.refl Pure' w4).drew
    have c2c := cd4.cell (hc4.cell c2b HNB2.out) (fun h => h)
    have c8c := cd4.cell (hc4.cell c8b HNB3.out) (fun h => h)
    have p0c := cd4.cell (hch.cell p0 (HNB.out _ HHB1.out)) (fun h => h)
    have p1c := cd4.cell (hch.cell p1 (HNB.out _ HHB1.out)) (fun h => h)
    have p2c := cd4.cell (hch.cell p2 (HNB.out _ HHB1.out)) (fun h => h)
    have p3c := cd4.cell (hch.cell p3 (HNB.out _ HHB1.out)) (fun h => h)
    have p4c := cd4.cell (hch.cell p4 (HNB.out _ HHB1.out)) (fun h => h)
    have p5c := cd4.cell (hch.cell p5 (HNB.out _ HHB1.out)) (fun h => h)
    have p6c := cd4.cell (hch.cell p6 (HNB.out _ HHB1.out)) (fun h => h)
    have p7c := cd4.cell (hch.cell p7 (HNB.out _ HHB1.out)) (fun h => h)
    have p8c := cd4.cell (hch.cell p8 (HNB.out _ HHB1.out)) (fun h => h)
    have HC4 := Lib.hid ((HC1.out.trans hc4 (fun i hi h => HNB.out i hi h)).trans' cd4)
    have HW4 := Lib.hid (hW4.pure cd4)
    have HS5 := Lib.hid (HS4.out.pure cd4)
    generalize hw5 : w4.drew = w5 at *
    have HW5E := Lib.hid hw5
    have HCN := Lib.hid (HCR.out _ w5 v4 _ _ HN1.out HC4.out HW4.out HL3.out)
    clear hw5 cd4 hc4 hch hS4 hW4 z3 c2b c7b c8b q5b p0 p1 p2 p3 p4 p5 p6 p7 p8 HN1
    unfold nodeCells at HCN
    go_wp2_with (fail)
    refine wp_region_still_tail 6 (by kernel_rfl) (by kernel_rfl) ?_
    simp only [List.take_succ_cons, List.take_zero, List.drop_succ_cons, List.drop_zero]
    change wpStill _ _ w4.drew _ _ _
    rw [HW5E.out]
    repeat still_step
    refine wpStill_nil ?_
    change wpList _ _ _ _ _ w4.drew
    rw [HW5E.out]
    go_wp2_with (fail)
    refine HCN.out.mono ?_
    rintro e w6 ⟨rfl, v6, hW6, hS6⟩
    have HW6 := Lib.hid hW6
    have HS6 := Lib.hid (WrStep.of_pure CD.out (HS5.out.trans hS6))
    clear hW6 hS6 HCN
    go_wp2
    first | go_end0 | (refine bodyPost_ret (results_none rfl _ _ _) rfl ?_)
    exact ⟨rfl, v6, by rw [HTX.out]; exact HW6.out, HS6.out⟩
  · obtain rfl : OK2 = KD := by rw [← hOK2]; rfl
    go_wp2_with (fail)
    refine regL_begin 16 (Pure') (by kernel_rfl) ?_
    rw [HWD.out]
    refine regL_take 0 (v := ?_) rfl (by kernel_rfl) (by kernel_rfl) (by kernel_rfl) (by kernel_rfl) (fun _ _ _ h => h) (by kernel_rfl) ?_ ?_
    rotate_left
    · (intro w' hS; have hz := hS.cell (w := wd) c2 (fun h => h); go_simp; (try go_bits); (try with_reducible rfl))
    try simp only [Act.put, List.getElem_toArray, List.getElem_cons_zero, List.getElem_cons_succ, List.setIfInBounds_toArray, List.set_cons_zero, List.set_cons_succ]
    refine regL_take 1 (v := ?_) rfl (by kernel_rfl) (by kernel_rfl) (by kernel_rfl) (by kernel_rfl) (fun _ _ _ h => h) (by kernel_rfl) ?_ ?_
    rotate_left
    · (intro w' hS; have hz := hS.cell (w := wd) c2 (fun h => h); go_simp; (try go_bits); (try with_reducible rfl))
    try simp only [Act.put, List.getElem_toArray, List.getElem_cons_zero, List.getElem_cons_succ, List.setIfInBounds_toArray, List.set_cons_zero, List.set_cons_succ]
    refine regL_take 2 (v := ?_) rfl (by kernel_rfl) (by kernel_rfl) (by kernel_rfl) (by kernel_rfl) (fun _ _ _ h => h) (by kernel_rfl) ?_ ?_
    rotate_left
    · (intro w' hS; go_simp; (try go_bits); (try with_reducible rfl))
    try simp only [Act.put, List.getElem_toArray, List.getElem_cons_zero, List.getElem_cons_succ, List.setIfInBounds_toArray, List.set_cons_zero, List.set_cons_succ]
    refine regL_take 3 (v := ?_) rfl (by kernel_rfl) (by kernel_rfl) (by kernel_rfl) (by kernel_rfl) (fun _ _ _ h => h) (by kernel_rfl) ?_ ?_
    rotate_left
    · (intro w' hS; go_simp; (try go_bits); (try with_reducible rfl))
    try simp only [Act.put, List.getElem_toArray, List.getElem_cons_zero, List.getElem_cons_succ, List.setIfInBounds_toArray, List.set_cons_zero, List.set_cons_succ]
    refine regL_take 4 (v := ?_) rfl (by kernel_rfl) (by kernel_rfl) (by kernel_rfl) (by kernel_rfl) (fun _ _ _ h => h) (by kernel_rfl) ?_ ?_
    rotate_left
    · (intro w' hS; have hz := hS.cell (w := wd) x1 (fun h => h); go_simp; (try go_bits); (try with_reducible rfl))
    try simp only [Act.put, List.getElem_toArray, List.getElem_cons_zero, List.getElem_cons_succ, List.setIfInBounds_toArray, List.set_cons_zero, List.set_cons_succ]
    refine regL_take 5 (v := ?_) rfl (by kernel_rfl) (by kernel_rfl) (by kernel_rfl) (by kernel_rfl) (fun _ _ _ h => h) (by kernel_rfl) ?_ ?_
    rotate_left
    · (intro w' hS; go_simp; (try go_bits); (try with_reducible rfl))
    try simp only [Act.put, List.getElem_toArray, List.getElem_cons_zero, List.getElem_cons_succ, List.setIfInBounds_toArray, List.set_cons_zero, List.set_cons_succ]
    refine regL_take 6 (v := ?_) rfl (by kernel_rfl) (by kernel_rfl) (by kernel_rfl) (by kernel_rfl) (fun _ _ _ h => h) (by kernel_rfl) ?_ ?_
    rotate_left
    · (intro w' hS; go_simp; (try go_bits); (try with_reducible rfl))
    try simp only [Act.put, List.getElem_toArray, List.getElem_cons_zero, List.getElem_cons_succ, List.setIfInBounds_toArray, List.set_cons_zero, List.set_cons_succ]
    refine regL_take 7 (v := ?_) rfl (by kernel_rfl) (by kernel_rfl) (by kernel_rfl) (by kernel_rfl) (fun _ _ _ h => h) (by kernel_rfl) ?_ ?_
    rotate_left
    · (intro w' hS; have hz := hS.cell (w := wd) c7 (fun h => h); go_simp; (try go_bits); (try with_reducible rfl))
    try simp only [Act.put, List.getElem_toArray, List.getElem_cons_zero, List.getElem_cons_succ, List.setIfInBounds_toArray, List.set_cons_zero, List.set_cons_succ]
    refine regL_take 8 (v := ?_) rfl (by kernel_rfl) (by kernel_rfl) (by kernel_rfl) (by kernel_rfl) (fun _ _ _ h => h) (by kernel_rfl) ?_ ?_
    rotate_left
    · (intro w' hS; go_simp; (try go_bits); (try with_reducible rfl))
    try simp only [Act.put, List.getElem_toArray, List.getElem_cons_zero, List.getElem_cons_succ, List.setIfInBounds_toArray, List.set_cons_zero, List.set_cons_succ]
    refine regL_take 9 (v := ?_) rfl (by kernel_rfl) (by kernel_rfl) (by kernel_rfl) (by kernel_rfl) (fun _ _ _ h => h) (by kernel_rfl) ?_ ?_
    rotate_left
    · (intro w' hS; go_simp; (try go_bits); (try with_reducible rfl))
    try simp only [Act.put, List.getElem_toArray, List.getElem_cons_zero, List.getElem_cons_succ, List.setIfInBounds_toArray, List.set_cons_zero, List.set_cons_succ]
    refine regL_take 10 (v := ?_) rfl (by kernel_rfl) (by kernel_rfl) (by kernel_rfl) (by kernel_rfl) (fun _ _ _ h => h) (by kernel_rfl) ?_ ?_
    rotate_left
    · (intro w' hS; go_simp; (try go_bits); (try with_reducible rfl))
    try simp only [Act.put, List.getElem_toArray, List.getElem_cons_zero, List.getElem_cons_succ, List.setIfInBounds_toArray, List.set_cons_zero, List.set_cons_succ]
    refine regL_take 11 (v := ?_) rfl (by kernel_rfl) (by kernel_rfl) (by kernel_rfl) (by kernel_rfl) (fun _ _ _ h => h) (by kernel_rfl) ?_ ?_
    rotate_left
    · (intro w' hS; have hz := hS.cell (w := wd) q0 (fun h => h); go_simp; (try go_bits); (try with_reducible rfl))
    try simp only [Act.put, List.getElem_toArray, List.getElem_cons_zero, List.getElem_cons_succ, List.setIfInBounds_toArray, List.set_cons_zero, List.set_cons_succ]
    refine regL_take 12 (v := ?_) rfl (by kernel_rfl) (by kernel_rfl) (by kernel_rfl) (by kernel_rfl) (fun _ _ _ h => h) (by kernel_rfl) ?_ ?_
    rotate_left
    · (intro w' hS; go_simp; (try go_bits); (try with_reducible rfl))
    try simp only [Act.put, List.getElem_toArray, List.getElem_cons_zero, List.getElem_cons_succ, List.setIfInBounds_toArray, List.set_cons_zero, List.set_cons_succ]
    refine regL_take 13 (v := ?_) rfl (by kernel_rfl) (by kernel_rfl) (by kernel_rfl) (by kernel_rfl) (fun _ _ _ h => h) (by kernel_rfl) ?_ ?_
    rotate_left
    · (intro w' hS; go_simp; (try go_bits); (try with_reducible rfl))
    try simp only [Act.put, List.getElem_toArray, List.getElem_cons_zero, List.getElem_cons_succ, List.setIfInBounds_toArray, List.set_cons_zero, List.set_cons_succ]
    refine regL_do 14 rfl (by kernel_rfl) (by kernel_rfl) ?_
    intro K hK
    go_simp
    refine hK _ _ (Chg.refl _ _) ?_
    clear hK K
    try simp only [Act.put, List.getElem_toArray, List.getElem_cons_zero, List.getElem_cons_succ, List.setIfInBounds_toArray, List.set_cons_zero, List.set_cons_succ]
    refine regL_do 15 rfl (by kernel_rfl) (by kernel_rfl) ?_
    intro K hK
    go_simp
    refine hK _ _ (Chg.refl _ _) ?_
    clear hK K
    try simp only [Act.put, List.getElem_toArray, List.getElem_cons_zero, List.getElem_cons_succ, List.setIfInBounds_toArray, List.set_cons_zero, List.set_cons_succ]
    refine regL_last rfl (by kernel_rfl) (by kernel_rfl) ?_
    intro K hK
    go_simp
    refine hK _ _ ?_
    clear hK K
    try simp only [Act.put, List.getElem_toArray, List.getElem_cons_zero, List.getElem_cons_succ, List.setIfInBounds_toArray, List.set_cons_zero, List.set_cons_succ]
    refine wpAnyL_done (by kernel_rfl) ?_ _
    rw [HWE.out]
    clear c2 c7 c8 q0 x0 x1 f1
    go_wp2_with (fail)
    refine reg_begin (WrS wb v) (by kernel_rfl) ?_
    rw [HW2E.out]
    refine reg_take 0 (v := ?_) rfl (by kernel_rfl) (by kernel_rfl) (by kernel_rfl) (fun _ _ _ h => h) (by kernel_rfl) ?_ ?_
    rotate_left
    · (intro w' hS; have hz := hS.cell (w := w2) c2b HNB2.out; go_simp; (try go_bits); (try with_reducible rfl))
    try simp only [Act.put, List.getElem_toArray, List.getElem_cons_zero, List.getElem_cons_succ, List.setIfInBounds_toArray, List.set_cons_zero, List.set_cons_succ]
    refine reg_take 1 (v := ?_) rfl (by kernel_rfl) (by kernel_rfl) (by kernel_rfl) (fun _ _ _ h => h) (by kernel_rfl) ?_ ?_
    rotate_left
    · (intro w' hS; go_simp; (try go_bits); (try with_reducible rfl))
    try simp only [Act.put, List.getElem_toArray, List.getElem_cons_zero, List.getElem_cons_succ, List.setIfInBounds_toArray, List.set_cons_zero, List.set_cons_succ]
    refine reg_take 2 (v := ?_) rfl (by kernel_rfl) (by kernel_rfl) (by kernel_rfl) (fun _ _ _ h => h) (by kernel_rfl) ?_ ?_
    rotate_left
    · (intro w' hS; have hz := hS.cell (w := w2) c7b HNB3.out; go_simp; (try go_bits); (try with_reducible rfl))
    try simp only [Act.put, List.getElem_toArray, List.getElem_cons_zero, List.getElem_cons_succ, List.setIfInBounds_toArray, List.set_cons_zero, List.set_cons_succ]
    refine reg_take 3 (v := ?_) rfl (by kernel_rfl) (by kernel_rfl) (by kernel_rfl) (fun _ _ _ h => h) (by kernel_rfl) ?_ ?_
    rotate_left
    · (intro w' hS; go_simp; (try go_bits); (try with_reducible rfl))
    try simp only [Act.put, List.getElem_toArray, List.getElem_cons_zero, List.getElem_cons_succ, List.setIfInBounds_toArray, List.set_cons_zero, List.set_cons_succ]
    refine reg_take 4 (v := ?_) rfl (by kernel_rfl) (by kernel_rfl) (by kernel_rfl) (fun _ _ _ h => h) (by kernel_rfl) ?_ ?_
    rotate_left
    · (intro w' hS; go_simp; (try go_bits); (try with_reducible rfl))
    try simp only [Act.put, List.getElem_toArray, List.getElem_cons_zero, List.getElem_cons_succ, List.setIfInBounds_toArray, List.set_cons_zero, List.set_cons_succ]
    refine reg_take 5 (v := ?_) rfl (by kernel_rfl) (by kernel_rfl) (by kernel_rfl) (fun _ _ _ h => h) (by kernel_rfl) ?_ ?_
    rotate_left
    · (intro w' hS; go_simp; (try go_bits); (try with_reducible rfl))
    try simp only [Act.put, List.getElem_toArray, List.getElem_cons_zero, List.getElem_cons_succ, List.setIfInBounds_toArray, List.set_cons_zero, List.set_cons_succ]
    refine reg_take 6 (v := ?_) rfl (by kernel_rfl) (by kernel_rfl) (by kernel_rfl) (fun _ _ _ h => h) (by kernel_rfl) ?_ ?_
    rotate_left
    · (intro w' hS; have hz := hS.cell (w := w2) q5b (HNB.out _ HHBK.out); go_simp; (try go_bits); (try with_reducible rfl))
    try simp only [Act.put, List.getElem_toArray, List.getElem_cons_zero, List.getElem_cons_succ, List.setIfInBounds_toArray, List.set_cons_zero, List.set_cons_succ]
    refine reg_do 7 rfl (by kernel_rfl) (by kernel_rfl) ?_
    intro K hK
    go_simp
    refine (HES.out _).mono ?_
    rintro e w3 ⟨rfl, z3⟩
    refine hK _ _ (Chg.of_pure z3) ?_
    clear hK K
    try simp only [Act.put, List.getElem_toArray, List.getElem_cons_zero, List.getElem_cons_succ, List.setIfInBounds_toArray, List.set_cons_zero, List.set_cons_succ]
    refine reg_do 8 rfl (by kernel_rfl) (by kernel_rfl) ?_
    intro K hK
    go_simp
    refine hK _ _ ((Chg.refl _ _).alloc _) ?_
    clear hK K
    try simp only [Act.put, List.getElem_toArray, List.getElem_cons_zero, List.getElem_cons_succ, List.setIfInBounds_toArray, List.set_cons_zero, List.set_cons_succ]
    refine reg_do 9 rfl (by kernel_rfl) (by kernel_rfl) ?_
    intro K hK
    go_simp
    have HW3 := Lib.hid (HW1.out.pure z3)
    refine (put2a HW3.out E [58] HL2.out).mono ?_
    rintro e w4 ⟨rfl, v4, hW4, hS4a⟩
    refine hK _ _ (hS4a.chg) ?_
    clear hK K
    try simp only [Act.put, List.getElem_toArray, List.getElem_cons_zero, List.getElem_cons_succ, List.setIfInBounds_toArray, List.set_cons_zero, List.set_cons_succ]
    refine wpAnyH_done (by kernel_rfl) ?_ _
    have hS4 := WrStep.of_pure ((Chg.refl Pure' w3).alloc (.cells #[.string ⟨E.toArray⟩, .string ⟨([58] : List UInt8).toArray⟩] 9)) hS4a
    clear hS4a
    have HS4 := Lib.hid ((HS1.out.pure z3).trans hS4)
    have hch := HS4.out.chg
    have hc4 : Chg (WrS wb v) w2 w4 := (Chg.of_pure (S := WrS wb v) z3).trans hS4.chg (fun _ _ h => h)
    have cd4 := (Chg.refl Pure' w4).drew
    have c2c := cd4.cell (hc4.cell c2b HNB2.out) (fun h => h)
    have c8c := cd4.cell (hc4.cell c8b HNB3.out) (fun h => h)
    have p0c := cd4.cell (hch.cell p0 (HNB.out _ HHB1.out)) (fun h => h)
    have p1c := cd4.cell (hch.cell p1 (HNB.out _ HHB1.out)) (fun h => h)
    have p2c := cd4.cell (hch.cell p2 (HNB.out _ HHB1.out)) (fun h => h)
    have p3c := cd4.cell (hch.cell p3 (HNB.out _ HHB1.out)) (fun h => h)
    have p4c := cd4.cell (hch.cell p4 (HNB.out _ HHB1.out)) (fun h => h)
    have p5c := cd4.cell (hch.cell p5 (HNB.out _ HHB1.out)) (fun h => h)
    have p6c := cd4.cell (hch.cell p6 (HNB.out _ HHB1.out)) (fun h => h)
    have p7c := cd4.cell (hch.cell p7 (HNB.out _ HHB1.out)) (fun h => h)
    have p8c := cd4.cell (hch.cell p8 (HNB.out _ HHB1.out)) (fun h => h)
    have HC4 := Lib.hid ((HC1.out.trans hc4 (fun i hi h => HNB.out i hi h)).trans' cd4)
    have HW4 := Lib.hid (hW4.pure cd4)
    have HS5 := Lib.hid (HS4.out.pure cd4)
    generalize hw5 : w4.drew = w5 at *
    have HW5E := Lib.hid hw5
    have HCN := Lib.hid (HCR.out _ w5 v4 _ _ HN1.out HC4.out HW4.out HL3.out)
    clear hw5 cd4 hc4 hch hS4 hW4 z3 c2b c7b c8b q5b p0 p1 p2 p3 p4 p5 p6 p7 p8 HN1
    unfold nodeCells at HCN
    go_wp2_with (fail)
    refine wp_region_still_tail 6 (by kernel_rfl) (by kernel_rfl) ?_
    simp only [List.take_succ_cons, List.take_zero, List.drop_succ_cons, List.drop_zero]
    change wpStill _ _ w4.drew _ _ _
    rw [HW5E.out]
    repeat still_step
    refine wpStill_nil ?_
    change wpList _ _ _ _ _ w4.drew
    rw [HW5E.out]
    go_wp2_with (fail)
    refine HCN.out.mono ?_
    rintro e w6 ⟨rfl, v6, hW6, hS6⟩
    have HW6 := Lib.hid hW6
    have HS6 := Lib.hid (WrStep.of_pure CD.out (HS5.out.trans hS6))
    clear hW6 hS6 HCN
    go_wp2
    first | go_end0 | (refine bodyPost_ret (results_none rfl _ _ _) rfl ?_)
    exact ⟨rfl, v6, by rw [HTX.out]; exact HW6.out, HS6.out⟩
end Go.Proofs.YtafpkecjicphoaaDoor
