/- jsay.write, Print, Can. -/
import Derived.Test.YtafpkecjicphoaaDoorJsayO
namespace Go.Proofs.YtafpkecjicphoaaDoor
open Go Go.RowKit
set_option linter.unusedVariables false
set_option linter.unusedSimpArgs false
set_option maxRecDepth 100000

theorem esc1_len (r : Nat) : (esc1 r).length ≤ 6 := by
  unfold esc1
  split
  · simp
  · split
    · simp
    · have := Lib.encodeRuneZ_length (r : Int)
      rw [Lib.encodeRune, List.length_map]
      omega
theorem escR_len : ∀ (f : Nat) (l : List UInt8), (escR f l).length ≤ 6 * l.length
  | 0, l => by simp [escR]
  | f + 1, [] => by simp [escR]
  | f + 1, c :: l => by
    rw [escR, List.length_append]
    have h1 := esc1_len (decL (c :: l)).1
    have h2 := escR_len f ((c :: l).drop (decL (c :: l)).2)
    have h3 := decL_width c l
    rw [List.length_drop] at h2
    simp only [List.length_cons] at h2 ⊢
    omega
theorem escT_len (l : List UInt8) : (escT l).length ≤ 6 * l.length + 2 := by
  unfold escT
  split
  · have := escR_len l.length l
    simp; omega
  · simp
theorem textA_len (n : Num) : (textA n).length ≤ 810 := by
  unfold textA
  split
  · rename_i h
    have h1 := n.right_len h
    have h2 := itoa_len (n.right_exp h)
    have h3 : (if n.neg then [45] else [] : List UInt8).length ≤ 1 := by split <;> simp
    have h4 : (if n.exp = 0 then [] else 101 :: Lib.itoa n.exp : List UInt8).length ≤ 6 := by split <;> simp; omega
    simp only [List.length_append]
    omega
  · simp
theorem alone_int {t : Tn} (h : t.kind = 2) (ha : aloneT t = 0) : natR t.dig = true ∧ ¬ (t.neg = true ∧ t.dig = [48]) := by
  unfold aloneT at ha
  split at ha
  · exact absurd ha ‹_›
  · rename_i hf
    unfold firstT at hf
    rw [if_neg (by omega), if_neg (by omega), if_pos h] at hf
    split at hf
    · exact absurd (show (11 : Int) ≠ 0 by decide) hf
    · rename_i hn
      refine ⟨?_, fun e => hn (.inr e)⟩
      cases hr : natR t.dig
      · exact absurd (.inl hr) hn
      · rfl
def lens (l : List (List UInt8)) : Nat := (l.map fun x => x.length + 1).sum
theorem sepB_len : ∀ (b : Bool) (l : List (List UInt8)), (sepB b l).length ≤ lens l
  | _, [] => by simp [sepB]
  | b, x :: l => by
    have := sepB_len true l
    rw [sepB]
    simp only [List.length_append, lens, List.map_cons, List.sum_cons] at *
    cases b <;> simp <;> omega
theorem goodT_out {k : Int} {n : UInt64} {ng : Bool} {dg : List UInt8} {ex : Int} {tx bs : List UInt8} {keys kids : List Tn} (h : goodT (.mk k n ng dg ex tx bs keys kids)) : aloneT (.mk k n ng dg ex tx bs keys kids) = 0 ∧ goodL keys ∧ goodL kids := (goodT_iff _).1 h
mutual
theorem say_len : ∀ t : Tn, goodT t → (sayT t).length + 2 ≤ 30000 * sizeT t
  | .mk k n ng dg ex tx bs keys kids, hg => by
    obtain ⟨ha, hk, hi⟩ := goodT_out hg
    have h1 := sayL_len kids hi
    have h2 := sayP_len keys kids hk hi
    have h3 := sepB_len false (sayL kids)
    have h4 := sepB_len false (sayP keys kids)
    have h5 := textA_len ⟨ng, dg, ex⟩
    have h6 := escT_len tx
    have h7 : tx.length ≤ 4096 := alone_text ha
    have h8 : k = 2 → dg.length ≤ 800 := fun e => natR_len (alone_int (t := .mk k n ng dg ex tx bs keys kids) e ha).1
    rw [sayT, sizeT]
    split
    · simp; omega
    · split
      · split <;> simp <;> omega
      · split
        · have := h8 ‹_›
          cases ng <;> simp <;> omega
        · split
          · omega
          · split
            · omega
            · split
              · simp only [List.length_cons, List.length_append, List.length_nil]; omega
              · split
                · simp only [List.length_cons, List.length_append, List.length_nil]; omega
                · simp; omega
theorem sayL_len : ∀ l : List Tn, goodL l → lens (sayL l) ≤ 30000 * sizeTL l
  | [], _ => by simp [sayL, lens]
  | t :: l, hg => by
    rw [goodL] at hg
    have h1 := say_len t hg.1
    have h2 := sayL_len l hg.2
    rw [sayL, sizeTL]
    simp only [lens, List.map_cons, List.sum_cons] at *
    omega
theorem sayP_len : ∀ (ks l : List Tn), goodL ks → goodL l → lens (sayP ks l) ≤ 30000 * (sizeTL ks + sizeTL l)
  | k :: ks, t :: l, hk, hg => by
    rw [goodL] at hk hg
    have h1 := say_len t hg.1
    have h2 := sayP_len ks l hk.2 hg.2
    have h3 := escT_len k.text
    have h4 := alone_text ((goodT_iff k).1 hk.1).1
    have h5 := sizeT_pos k
    rw [sayP, sizeTL, sizeTL]
    simp only [lens, List.map_cons, List.sum_cons, List.length_append, List.length_cons] at *
    omega
  | [], l, _, _ => by rw [sayP]; simp [lens]
  | k :: ks, [], _, _ => by rw [sayP]; simp [lens]
end
/-- What Print answers. -/
def printA (t : Tn) : List UInt8 × Int :=
  if checkT t ≠ 0 then ([], checkT t) else if toldT t = false then ([], 12) else if 4096 < (sayT t).length then ([], 8) else (sayT t, 0)
def WritePost (t : Tn) (w : World) (e : Ending) (w' : World) : Prop :=
  ∃ A c, e = .returned (.tuple #[.slice A (sayT t).length c, .bool (toldT t)]) ∧ Bytes w' A (sayT t).length (sayT t) ∧ (sayT t).length ≤ c ∧ From A w.heap.size ∧ Chg Pure' w w'
set_option maxHeartbeats 2000000 in
theorem write_of (cs : Array Value) (t : Tn) (w : World) (ht : NodeAt w cs t) (he : Env w) (hc : checkT t = 0) :
    Calls Tryd.prog 10 #[.agg cs] w (WritePost t w) := by
  obtain ⟨hs, hd, hg, -⟩ := check_zero hc
  have hlen : (sayT t).length ≤ 1099511627776 := by have := say_len t hg; omega
  obtain ⟨Ab, cb, Ak, ck, Ai, ci, rfl, -⟩ := ht.out
  obtain ⟨w1, hw1⟩ : ∃ w1, (w.alloc (.cells (nodeCells t Ab cb Ak ck Ai ci) 26)).alloc (.cells #[.slice none 0 0, .bool true] 44) = w1 := ⟨_, rfl⟩
  have ca : Chg Pure' w w1 := by rw [← hw1]; exact ((Chg.refl _ _).alloc _).alloc _
  have hW : WrAt w.heap.size (w.heap.size + 1) (.slice none 0 0) [] true w1 := by
    refine ⟨?_, World.ownsRow_nil _ _ _ _, by omega, by simp [Value.ownBlock]⟩
    rw [← hw1]
    have := heap_alloc_new (w.alloc (.cells (nodeCells t Ab cb Ak ck Ai ci) 26)) (.cells #[.slice none 0 0, .bool true] 44)
    rwa [show (w.alloc (.cells (nodeCells t Ab cb Ak ck Ai ci) 26)).heap.size = w.heap.size + 1 by simp] at this
  have HC := Lib.hid (node_all (w0 := w) (base := w.heap.size) (wb := w.heap.size + 1) ⟨by omega, Nat.le_refl _⟩ he (sizeT t) t (Nat.le_refl _) hs hg _ w1 _ [] true ht ca hW (by simpa using hlen))
  have CA := Lib.hid ca
  have HWE := Lib.hid hw1
  have HW0 := Lib.hid hW
  clear hw1 ca hW ht he hg
  rw [List.nil_append, Bool.true_and] at HC
  unfold WritePost
  generalize sayT t = X at *
  generalize toldT t = O at *
  unfold nodeCells at *
  go_enter Tryd.func10, Tryd.ntmps10
  go_wp2_with (fail)
  rw [HWE.out]
  refine HC.out.mono ?_
  rintro e w2 ⟨rfl, v2, hW2, hS2⟩
  obtain ⟨A, q, hv, hq, hA, hF⟩ := Bytes.of_own hW2.own
  have hc2 : Chg Pure' w w2 := CA.out.trans hS2.chg (fun i hi h => by
    rcases h with h | h
    · omega
    · have := (HW0.out.ownLt h).1; omega)
  subst hv
  have c0 := hW2.c0
  have c1 := hW2.c1
  have HA := Lib.hid (hA.drew)
  have HF := Lib.hid hF
  have HC2 := Lib.hid hc2.drew
  have HQ := Lib.hid hq
  clear hW2 hS2 hA hF hc2 hq HC
  go_wp2
  go_region
  all_goals
    go_wp2
    first | go_ret2 | go_ret
    exact ⟨A, q, rfl, HA.out, HQ.out, HF.out, HC2.out⟩
theorem clip_of (A : Option Addr) (n c : Nat) (w : World) (hn : n ≤ 1099511627776) (hc : n ≤ c) : Calls Tryd.prog 11 #[.slice A n c] w fun e w' => e = .returned (.slice A n n) ∧ w = w' := by
  have h1 : (n : Int) ≤ (c : Int) := by omega
  go_enter Tryd.func11, Tryd.ntmps11
  go_wp2
  go_ret
  exact ⟨rfl, rfl⟩
def PrintPost (t : Tn) (w : World) (e : Ending) (w' : World) : Prop :=
  ∃ A n c, e = .returned (.tuple #[.slice A n c, .int .i64 (printA t).2]) ∧ Bytes w' A n (printA t).1 ∧ n ≤ c ∧ From A w.heap.size ∧ Chg Pure' w w'
theorem From.none (B : Nat) : From none B := fun _ h => by cases h
set_option maxHeartbeats 2000000 in
theorem print_of (cs : Array Value) (t : Tn) (w : World) (ht : NodeAt w cs t) (he : Env w) :
    Calls Tryd.prog 5 #[.agg cs] w (PrintPost t w) := by
  have hck := fun W hc => treeCheck_of cs t W (ht.pure (w' := W) hc)
  have hwr := fun W hc => write_of cs t W (ht.pure (w' := W) hc) (he.pure hc)
  obtain ⟨Ab, cb, Ak, ck, Ai, ci, rfl, -⟩ := ht.out
  obtain ⟨w1, hw1⟩ : ∃ w1, w.alloc (.cells (nodeCells t Ab cb Ak ck Ai ci) 26) = w1 := ⟨_, rfl⟩
  have ca : Chg Pure' w w1 := by rw [← hw1]; exact (Chg.refl _ _).alloc _
  have hblk : w1.heap[w.heap.size]? = some (.cells (nodeCells t Ab cb Ak ck Ai ci) 26 (0, 0)) := by rw [← hw1]; exact Array.getElem?_push_size
  have HCK := Lib.hid (hck w1 ca)
  have HWR := Lib.hid hwr
  have CA := Lib.hid ca
  have HWE := Lib.hid hw1
  have HB := Lib.hid hblk
  clear hck hwr ca hw1 hblk ht he
  unfold PrintPost printA
  by_cases h0 : checkT t = 0
  · rw [if_neg (by simp [h0])]
    rw [h0] at HCK
    have hX : (sayT t).length ≤ 1099511627776 := by have := say_len t (check_zero h0).2.2.1; have := (check_zero h0).1; omega
    have HWR2 := Lib.hid (fun W hc => HWR.out W hc h0)
    unfold WritePost at HWR2
    generalize sayT t = X at *
    generalize toldT t = O at *
    clear HWR h0
    cases O
    · rw [if_pos rfl]
      unfold nodeCells at *
      go_enter Tryd.func5, Tryd.ntmps5
      go_wp2_with (fail)
      rw [HWE.out]
      refine HCK.out.mono ?_
      first | rintro e w2 rfl z2 | rintro e w2 ⟨rfl, z2⟩
      have hb2 := (z2.block w.heap.size (Array.getElem?_eq_some_iff.1 HB.out).1 (fun h => h)).trans HB.out
      obtain ⟨p0, p1, p2, p3, p4, p5, p6, p7, p8⟩ := node_nine hb2
      have C2 := Lib.hid (CA.out.trans' z2)
      clear z2 hb2 HCK
      go_wp2_with (fail)
      refine (HWR2.out w2 C2.out).mono ?_
      rintro e w3 ⟨A, c, rfl, hA, hq, hF, z3⟩
      have HA := Lib.hid hA
      have HF := Lib.hid hF
      have HQ := Lib.hid hq
      have C3 := Lib.hid (C2.out.trans' z3)
      have hs : w.heap.size ≤ w2.heap.size := C2.out.size
      clear hA hF hq z3 p0 p1 p2 p3 p4 p5 p6 p7 p8 HWR2
      go_wp2
      first | go_ret2 | go_ret
      exact ⟨none, 0, 0, rfl, Bytes.nil _ _, Nat.le_refl _, From.none _, C3.out⟩
    · rw [if_neg (by decide)]
      by_cases hl : 4096 < X.length
      · rw [if_pos hl]
        have hl2 : (4096 : Int) < (X.length : Int) := by omega
        unfold nodeCells at *
        go_enter Tryd.func5, Tryd.ntmps5
        go_wp2_with (fail)
        rw [HWE.out]
        refine HCK.out.mono ?_
        first | rintro e w2 rfl z2 | rintro e w2 ⟨rfl, z2⟩
        have hb2 := (z2.block w.heap.size (Array.getElem?_eq_some_iff.1 HB.out).1 (fun h => h)).trans HB.out
        obtain ⟨p0, p1, p2, p3, p4, p5, p6, p7, p8⟩ := node_nine hb2
        have C2 := Lib.hid (CA.out.trans' z2)
        clear z2 hb2 HCK
        go_wp2_with (fail)
        refine (HWR2.out w2 C2.out).mono ?_
        rintro e w3 ⟨A, c, rfl, hA, hq, hF, z3⟩
        have HA := Lib.hid hA
        have HF := Lib.hid hF
        have HQ := Lib.hid hq
        have C3 := Lib.hid (C2.out.trans' z3)
        have hs : w.heap.size ≤ w2.heap.size := C2.out.size
        clear hA hF hq z3 p0 p1 p2 p3 p4 p5 p6 p7 p8 HWR2
        go_wp2
        first | go_ret2 | go_ret
        exact ⟨none, 0, 0, rfl, Bytes.nil _ _, Nat.le_refl _, From.none _, C3.out⟩
      · rw [if_neg hl]
        have hl2 : (X.length : Int) ≤ 4096 := by omega
        unfold nodeCells at *
        go_enter Tryd.func5, Tryd.ntmps5
        go_wp2_with (fail)
        rw [HWE.out]
        refine HCK.out.mono ?_
        first | rintro e w2 rfl z2 | rintro e w2 ⟨rfl, z2⟩
        have hb2 := (z2.block w.heap.size (Array.getElem?_eq_some_iff.1 HB.out).1 (fun h => h)).trans HB.out
        obtain ⟨p0, p1, p2, p3, p4, p5, p6, p7, p8⟩ := node_nine hb2
        have C2 := Lib.hid (CA.out.trans' z2)
        clear z2 hb2 HCK
        go_wp2_with (fail)
        refine (HWR2.out w2 C2.out).mono ?_
        rintro e w3 ⟨A, c, rfl, hA, hq, hF, z3⟩
        have HA := Lib.hid hA
        have HF := Lib.hid hF
        have HQ := Lib.hid hq
        have C3 := Lib.hid (C2.out.trans' z3)
        have hs : w.heap.size ≤ w2.heap.size := C2.out.size
        clear hA hF hq z3 p0 p1 p2 p3 p4 p5 p6 p7 p8 HWR2
        go_wp2_with (go_at_call 11; refine (clip_of A X.length c w3 (by omega) HQ.out).mono ?_; rintro e w4 ⟨rfl, rfl⟩)
        first | go_ret2 | go_ret
        exact ⟨A, X.length, X.length, rfl, HA.out, Nat.le_refl _, fun a ha => Nat.le_trans hs (HF.out a ha), C3.out⟩
  · rw [if_pos h0]
    have h0' : (checkT t == 0) = false := by simpa using h0
    generalize checkT t = F at *
    clear HWR
    unfold nodeCells at *
    go_enter Tryd.func5, Tryd.ntmps5
    go_wp2_with (fail)
    rw [HWE.out]
    refine HCK.out.mono ?_
    first | rintro e w2 rfl z2 | rintro e w2 ⟨rfl, z2⟩
    have C2 := Lib.hid (CA.out.trans' z2)
    clear z2 HCK
    go_wp2
    first | go_ret2 | go_ret
    exact ⟨none, 0, 0, rfl, Bytes.nil _ _, Nat.le_refl _, From.none _, C2.out⟩
/-- What Can answers. -/
def canA (t : Tn) : Bool := decide (checkT t = 0) && toldT t
set_option maxHeartbeats 2000000 in
theorem can_of (cs : Array Value) (t : Tn) (w : World) (ht : NodeAt w cs t) (he : Env w) :
    Calls Tryd.prog 12 #[.agg cs] w fun e w' => e = .returned (.bool (canA t)) ∧ Chg Pure' w w' := by
  have hck := fun W hc => treeCheck_of cs t W (ht.pure (w' := W) hc)
  have hwr := fun W hc => write_of cs t W (ht.pure (w' := W) hc) (he.pure hc)
  obtain ⟨Ab, cb, Ak, ck, Ai, ci, rfl, -⟩ := ht.out
  obtain ⟨w1, hw1⟩ : ∃ w1, w.alloc (.cells (nodeCells t Ab cb Ak ck Ai ci) 26) = w1 := ⟨_, rfl⟩
  have ca : Chg Pure' w w1 := by rw [← hw1]; exact (Chg.refl _ _).alloc _
  have hblk : w1.heap[w.heap.size]? = some (.cells (nodeCells t Ab cb Ak ck Ai ci) 26 (0, 0)) := by rw [← hw1]; exact Array.getElem?_push_size
  have HCK := Lib.hid (hck w1 ca)
  have HWR := Lib.hid hwr
  have CA := Lib.hid ca
  have HWE := Lib.hid hw1
  have HB := Lib.hid hblk
  clear hck hwr ca hw1 hblk ht he
  unfold canA
  by_cases h0 : checkT t = 0
  · rw [h0] at HCK
    have HWR2 := Lib.hid (fun W hc => HWR.out W hc h0)
    unfold WritePost at HWR2
    rw [h0, show decide ((0 : Int) = 0) = true from rfl, Bool.true_and]
    generalize sayT t = X at *
    generalize toldT t = O at *
    clear HWR h0
    unfold nodeCells at *
    go_enter Tryd.func12, Tryd.ntmps12
    go_wp2_with (fail)
    rw [HWE.out]
    refine HCK.out.mono ?_
    first | rintro e w2 rfl z2 | rintro e w2 ⟨rfl, z2⟩
    have hb2 := (z2.block w.heap.size (Array.getElem?_eq_some_iff.1 HB.out).1 (fun h => h)).trans HB.out
    obtain ⟨p0, p1, p2, p3, p4, p5, p6, p7, p8⟩ := node_nine hb2
    have C2 := Lib.hid (CA.out.trans' z2)
    clear z2 hb2 HCK
    go_wp2_with (fail)
    refine (HWR2.out w2 C2.out).mono ?_
    rintro e w3 ⟨A, c, rfl, -, -, -, z3⟩
    have C3 := Lib.hid (C2.out.trans' z3)
    clear z3 p0 p1 p2 p3 p4 p5 p6 p7 p8 HWR2
    go_wp2
    go_ret
    exact ⟨rfl, C3.out⟩
  · have h0' : (checkT t == 0) = false := by simpa using h0
    rw [decide_eq_false h0, Bool.false_and]
    generalize checkT t = F at *
    clear HWR
    unfold nodeCells at *
    go_enter Tryd.func12, Tryd.ntmps12
    go_wp2_with (fail)
    rw [HWE.out]
    refine HCK.out.mono ?_
    first | rintro e w2 rfl z2 | rintro e w2 ⟨rfl, z2⟩
    have C2 := Lib.hid (CA.out.trans' z2)
    clear z2 HCK
    go_wp2
    go_ret
    exact ⟨rfl, C2.out⟩
end Go.Proofs.YtafpkecjicphoaaDoor
