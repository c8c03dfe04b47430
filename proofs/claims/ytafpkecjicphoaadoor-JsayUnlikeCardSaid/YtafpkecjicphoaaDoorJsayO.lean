/- jsay's writer: a node, by its Kind (printed by wip/genJsayO.py). -/
import Derived.Test.YtafpkecjicphoaaDoorJsayN
namespace Go.Proofs.YtafpkecjicphoaaDoor
open Go Go.RowKit
set_option linter.unusedVariables false
set_option linter.unusedSimpArgs false
set_option maxRecDepth 100000

theorem sayL_map : ∀ l : List Tn, sayL l = l.map sayT
  | [] => rfl
  | t :: l => by rw [sayL, sayL_map l]; rfl
theorem toldL_all : ∀ l : List Tn, toldL l = (l.map toldT).all id
  | [] => rfl
  | t :: l => by rw [toldL, toldL_all l]; rfl
def pairS (k t : Tn) : List UInt8 := escT k.text ++ 58 :: sayT t
def pairO (k t : Tn) : Bool := decide (k.kind = 5) && toldT t
theorem sayP_zip : ∀ l m : List Tn, sayP l m = List.zipWith pairS l m
  | k :: l, t :: m => by rw [sayP, sayP_zip l m]; rfl
  | [], m => by rw [sayP]; rfl
  | k :: l, [] => by rw [sayP]; rfl
theorem toldP_zip : ∀ l m : List Tn, toldP l m = (List.zipWith pairO l m).all id
  | k :: l, t :: m => by rw [toldP, toldP_zip l m]; rfl
  | [], m => by rw [toldP]; rfl
  | k :: l, [] => by rw [toldP]; rfl
theorem say_0 {t : Tn} (h : t.kind = 0) : sayT t = [110, 117, 108, 108] ∧ toldT t = true := by
  cases t; simp only [Tn.kind] at h; subst h; exact ⟨by rw [sayT]; rfl, by rw [toldT]; rfl⟩
theorem say_1 {t : Tn} (h : t.kind = 1) : sayT t = (if t.n = 0 then [102, 97, 108, 115, 101] else [116, 114, 117, 101]) ∧ toldT t = true := by
  cases t; simp only [Tn.kind] at h; subst h; exact ⟨by rw [sayT]; rfl, by rw [toldT]; rfl⟩
theorem say_2 {t : Tn} (h : t.kind = 2) : sayT t = (if t.neg then [45] else []) ++ t.dig ∧ toldT t = true := by
  cases t; simp only [Tn.kind] at h; subst h; exact ⟨by rw [sayT]; rfl, by rw [toldT]; rfl⟩
theorem say_3 {t : Tn} (h : t.kind = 3) : sayT t = textA t.num ∧ toldT t = true := by
  cases t; simp only [Tn.kind] at h; subst h; exact ⟨by rw [sayT]; rfl, by rw [toldT]; rfl⟩
theorem say_5 {t : Tn} (h : t.kind = 5) : sayT t = escT t.text ∧ toldT t = true := by
  cases t; simp only [Tn.kind] at h; subst h; exact ⟨by rw [sayT]; rfl, by rw [toldT]; rfl⟩
theorem say_7 {t : Tn} (h : t.kind = 7) : sayT t = [91] ++ (sepB false (sayL t.kids) ++ [93]) ∧ toldT t = toldL t.kids := by
  cases t; simp only [Tn.kind] at h; subst h; exact ⟨by rw [sayT]; rfl, by rw [toldT]; rfl⟩
theorem say_8 {t : Tn} (h : t.kind = 8) : sayT t = [123] ++ (sepB false (sayP t.keys t.kids) ++ [125]) ∧ toldT t = toldP t.keys t.kids := by
  cases t; simp only [Tn.kind] at h; subst h; exact ⟨by rw [sayT]; rfl, by rw [toldT]; rfl⟩
theorem say_x {t : Tn} (h : t.kind ≠ 0 ∧ t.kind ≠ 1 ∧ t.kind ≠ 2 ∧ t.kind ≠ 3 ∧ t.kind ≠ 5 ∧ t.kind ≠ 7 ∧ t.kind ≠ 8) : sayT t = [] ∧ toldT t = false := by
  cases t
  simp only [Tn.kind] at h
  obtain ⟨h0, h1, h2, h3, h5, h7, h8⟩ := h
  exact ⟨by rw [sayT, if_neg h0, if_neg h1, if_neg h2, if_neg h3, if_neg h5, if_neg h7, if_neg h8], by rw [toldT, if_neg h7, if_neg h8]; simp [h0, h1, h2, h3, h5]⟩
theorem alone_bool {t : Tn} (h : t.kind = 1) (ha : aloneT t = 0) : t.n = 0 ∨ t.n = 1 := by
  unfold aloneT at ha
  split at ha
  · exact absurd ha ‹_›
  · split at ha
    · exact absurd ha (by decide)
    · rename_i hb
      have hn : ¬ 1 < t.n.toNat := fun e => hb (.inl (.inl ⟨h, e⟩))
      rcases Nat.lt_or_ge t.n.toNat 1 with h1 | h1
      · exact .inl (UInt64.toNat_inj.1 (by simp; omega))
      · exact .inr (UInt64.toNat_inj.1 (by simp; omega))
theorem alone_text {t : Tn} (ha : aloneT t = 0) : t.text.length ≤ 4096 := by
  unfold aloneT at ha
  split at ha
  · exact absurd ha ‹_›
  · rename_i hf
    split at ha
    · exact absurd ha (by decide)
    · rename_i hb
      by_cases h5 : t.kind = 5
      · unfold firstT at hf
        rw [if_pos h5] at hf
        split at hf
        · exact absurd (show (8 : Int) ≠ 0 by decide) hf
        · omega
      · have he : emptyT (plainT t) = true := by
          cases h : emptyT (plainT t)
          · exact absurd (.inr (.inr (.inr h))) hb
          · rfl
        have ht : (plainT t).text = t.text := by
          unfold plainT
          rw [if_neg h5]
          repeat' split
          all_goals rfl
        unfold emptyT at he
        simp only [Bool.and_eq_true, decide_eq_true_eq] at he
        rw [ht] at he
        rw [he.1.2]
        simp
theorem alone_map {t : Tn} (h : t.kind = 8) (ha : aloneT t = 0) : t.keys.length = t.kids.length := by
  unfold aloneT at ha
  split at ha
  · exact absurd ha ‹_›
  · split at ha
    · exact absurd ha (by decide)
    · rename_i hb
      exact Classical.byContradiction fun e => hb (.inl (.inr (.inl ⟨h, e⟩)))
theorem blk_nine {w : World} {g : Nat} {T : TypeId} {v0 v1 v2 v3 v4 v5 v6 v7 v8 : Value} (h : w.heap[g]? = some (.cells #[v0, v1, v2, v3, v4, v5, v6, v7, v8] T (0, 0))) :
    w.cell? ⟨g, 0, none⟩ = some v0 ∧ w.cell? ⟨g, 1, none⟩ = some v1 ∧ w.cell? ⟨g, 2, none⟩ = some v2 ∧ w.cell? ⟨g, 3, none⟩ = some v3 ∧ w.cell? ⟨g, 4, none⟩ = some v4 ∧ w.cell? ⟨g, 5, none⟩ = some v5 ∧ w.cell? ⟨g, 6, none⟩ = some v6 ∧ w.cell? ⟨g, 7, none⟩ = some v7 ∧ w.cell? ⟨g, 8, none⟩ = some v8 := node_nine h
theorem len_sizeTL : ∀ l : List Tn, l.length ≤ sizeTL l
  | [] => Nat.zero_le _
  | t :: l => by have := len_sizeTL l; have := sizeT_pos t; rw [sizeTL, List.length_cons]; omega
theorem kids_size (t : Tn) : t.kids.length ≤ sizeT t := by
  cases t with
  | mk a b c d e f g keys kids =>
    have := len_sizeTL kids
    rw [sizeT]; simp only [Tn.kids]; omega
/-- The boxes of a node's call: the writer's place, and the node. -/
structure BoxAt (w : World) (b wb : Nat) (cs : Array Value) : Prop where
  k0 : w.heap[b]? = some (.cells #[.pointer (some ⟨wb, 0, none⟩)] 42 (0, 0))
  k1 : w.heap[b + 1]? = some (.cells cs 26 (0, 0))
theorem BoxAt.new (w : World) (wb : Nat) (cs : Array Value) : BoxAt ((w.alloc (.cells #[.pointer (some ⟨wb, 0, none⟩)] 42)).alloc (.cells cs 26)) w.heap.size wb cs :=
  ⟨(Below.heap_alloc _ _ _ (by simp)).trans (heap_alloc_new w _), by
    have := heap_alloc_new (w.alloc (.cells #[.pointer (some ⟨wb, 0, none⟩)] 42)) (.cells cs 26)
    rwa [show (w.alloc (.cells #[.pointer (some ⟨wb, 0, none⟩)] 42)).heap.size = w.heap.size + 1 by simp] at this⟩
theorem BoxAt.chg {S : Nat → Prop} {w w' : World} {b wb : Nat} {cs : Array Value} (h : BoxAt w b wb cs) (hc : Chg S w w') (hs : ¬ S b ∧ ¬ S (b + 1)) : BoxAt w' b wb cs :=
  ⟨(hc.block b (Array.getElem?_eq_some_iff.1 h.k0).1 hs.1).trans h.k0, (hc.block (b + 1) (Array.getElem?_eq_some_iff.1 h.k1).1 hs.2).trans h.k1⟩
theorem BoxAt.p {w : World} {b wb : Nat} {cs : Array Value} (h : BoxAt w b wb cs) : w.cell? ⟨b, 0, none⟩ = some (.pointer (some ⟨wb, 0, none⟩)) := by simp [World.cell?, h.k0]
theorem BoxAt.c {w : World} {b wb : Nat} {t : Tn} {Ab : Option Addr} {cb : Nat} {Ak : Option Addr} {ck : Nat} {Ai : Option Addr} {ci : Nat} (h : BoxAt w b wb (nodeCells t Ab cb Ak ck Ai ci)) :
    w.cell? ⟨b + 1, 0, none⟩ = some (.int .i64 t.kind) ∧ w.cell? ⟨b + 1, 1, none⟩ = some (.int .u64 (t.n.toNat : Int)) ∧ w.cell? ⟨b + 1, 2, none⟩ = some (.bool t.neg) ∧ w.cell? ⟨b + 1, 3, none⟩ = some (.string ⟨t.dig.toArray⟩) ∧ w.cell? ⟨b + 1, 4, none⟩ = some (.int .i64 t.exp) ∧
    w.cell? ⟨b + 1, 5, none⟩ = some (.string ⟨t.text.toArray⟩) ∧ w.cell? ⟨b + 1, 6, none⟩ = some (.slice Ab t.bytes.length cb) ∧ w.cell? ⟨b + 1, 7, none⟩ = some (.slice Ak t.keys.length ck) ∧ w.cell? ⟨b + 1, 8, none⟩ = some (.slice Ai t.kids.length ci) := node_nine h.k1
theorem BoxAt.step {w w' : World} {b wb wb' base : Nat} {v v' : Value} {acc : List UInt8} {ok : Bool} {cs : Array Value} {w0 : World} (h : BoxAt w b wb cs) (h0 : WrAt base wb' v acc ok w0) (hb : w0.heap.size ≤ b) (hs : WrStep wb' v v' w w') : BoxAt w' b wb cs := by
  have h1 := h0.lt
  refine h.chg hs.chg ⟨fun e => ?_, fun e => ?_⟩
  · rcases e with e | e
    · omega
    · have := (h0.ownLt e).2; omega
  · rcases e with e | e
    · omega
    · have := (h0.ownLt e).2; omega
set_option maxHeartbeats 2000000 in
theorem node_0 {w0 w : World} {base wb : Nat} {v : Value} {acc : List UInt8} {ok : Bool} (t : Tn) (Ab : Option Addr) (cb : Nat) (Ak : Option Addr) (ck : Nat) (Ai : Option Addr) (ci : Nat) (hP : PartsAt w0 t Ab cb ck ci) (hk : t.kind = 0) (ha : aloneT t = 0) (hW : WrAt base wb v acc ok w)
    (hl : acc.length + (sayT t).length ≤ 1099511627776) :
    Calls Tryd.prog 20 #[.pointer (some ⟨wb, 0, none⟩), .agg (nodeCells t Ab cb Ak ck Ai ci)] w (WrPost base wb v (acc ++ sayT t) (ok && toldT t) w) := by
  obtain ⟨w1, hw1⟩ : ∃ w1, (w.alloc (.cells #[.pointer (some ⟨wb, 0, none⟩)] 42)).alloc (.cells (nodeCells t Ab cb Ak ck Ai ci) 26) = w1 := ⟨_, rfl⟩
  have ca : Chg Pure' w w1 := by rw [← hw1]; exact ((Chg.refl _ _).alloc _).alloc _
  have hB : BoxAt w1 w.heap.size wb (nodeCells t Ab cb Ak ck Ai ci) := by rw [← hw1]; exact BoxAt.new w wb _
  have hsz : w1.heap.size = w.heap.size + 1 + 1 := by rw [← hw1]; simp
  have HW0 := Lib.hid hW
  have HW1 := Lib.hid (hW.pure ca)
  have HSZ := Lib.hid hsz
  have CA := Lib.hid ca
  have HWE := Lib.hid hw1
  have HB := Lib.hid hB
  clear hw1 hB ca hsz hW
  obtain ⟨e1, e2⟩ := say_0 hk
  rw [e1] at hl
  rw [e1, e2, Bool.and_true]
  have HP := Lib.hid (put1 HW1.out [110, 117, 108, 108] hl)
  clear e1 e2 hl ha hP
  unfold nodeCells at *
  rw [hk] at HWE HB
  go_enter Tryd.func20, Tryd.ntmps20
  go_wp2_with (fail)
  rw [HWE.out, ← HSZ.out]
  refine HP.out.mono ?_
  rintro e w2 ⟨rfl, v2, hW2, hS2⟩
  have HW2 := Lib.hid hW2
  have HS2 := Lib.hid (WrStep.of_pure CA.out hS2)
  clear hW2 hS2 HP
  go_wp2
  first | go_end0 | (refine bodyPost_ret (results_none rfl _ _ _) rfl ?_)
  exact ⟨rfl, v2, HW2.out, HS2.out⟩
set_option maxHeartbeats 2000000 in
theorem node_x {w0 w : World} {base wb : Nat} {v : Value} {acc : List UInt8} {ok : Bool} (t : Tn) (Ab : Option Addr) (cb : Nat) (Ak : Option Addr) (ck : Nat) (Ai : Option Addr) (ci : Nat) (hP : PartsAt w0 t Ab cb ck ci) (hk : t.kind ≠ 0 ∧ t.kind ≠ 1 ∧ t.kind ≠ 2 ∧ t.kind ≠ 3 ∧ t.kind ≠ 5 ∧ t.kind ≠ 7 ∧ t.kind ≠ 8) (ha : aloneT t = 0) (hW : WrAt base wb v acc ok w)
    (hl : acc.length + (sayT t).length ≤ 1099511627776) :
    Calls Tryd.prog 20 #[.pointer (some ⟨wb, 0, none⟩), .agg (nodeCells t Ab cb Ak ck Ai ci)] w (WrPost base wb v (acc ++ sayT t) (ok && toldT t) w) := by
  obtain ⟨w1, hw1⟩ : ∃ w1, (w.alloc (.cells #[.pointer (some ⟨wb, 0, none⟩)] 42)).alloc (.cells (nodeCells t Ab cb Ak ck Ai ci) 26) = w1 := ⟨_, rfl⟩
  have ca : Chg Pure' w w1 := by rw [← hw1]; exact ((Chg.refl _ _).alloc _).alloc _
  have hB : BoxAt w1 w.heap.size wb (nodeCells t Ab cb Ak ck Ai ci) := by rw [← hw1]; exact BoxAt.new w wb _
  have hsz : w1.heap.size = w.heap.size + 1 + 1 := by rw [← hw1]; simp
  have HW0 := Lib.hid hW
  have HW1 := Lib.hid (hW.pure ca)
  have HSZ := Lib.hid hsz
  have CA := Lib.hid ca
  have HWE := Lib.hid hw1
  have HB := Lib.hid hB
  clear hw1 hB ca hsz hW
  obtain ⟨e1, e2⟩ := say_x hk
  rw [e1, e2, Bool.and_false, List.append_nil]
  obtain ⟨h0, h1, h2, h3, h5, h7, h8⟩ := hk
  have b0 : (t.kind == 0) = false := by simpa using h0
  have b1 : (t.kind == 1) = false := by simpa using h1
  have b2 : (t.kind == 2) = false := by simpa using h2
  have b3 : (t.kind == 3) = false := by simpa using h3
  have b5 : (t.kind == 5) = false := by simpa using h5
  have b7 : (t.kind == 7) = false := by simpa using h7
  have b8 : (t.kind == 8) = false := by simpa using h8
  obtain ⟨hWs, hSs⟩ := HW1.out.setOk false
  have HWS := Lib.hid hWs
  have HSS := Lib.hid (WrStep.of_pure CA.out hSs)
  have x1 := HW1.out.c1
  have f1 := HW1.out.free 1
  have hx1 := (HW0.out).c1
  have hf1 := (HW0.out).free 1
  have hlt := HW0.out.lt
  clear e1 e2 hl ha hP hWs hSs h0 h1 h2 h3 h5 h7 h8
  unfold nodeCells at *
  go_enter Tryd.func20, Tryd.ntmps20
  go_wp2
  first | go_end0 | (refine bodyPost_ret (results_none rfl _ _ _) rfl ?_)
  exact ⟨rfl, v, (HW0.out.setOk false).1.pure (((Chg.refl _ _).alloc _).alloc _), (HW0.out.setOk false).2.pure (((Chg.refl _ _).alloc _).alloc _)⟩
set_option maxHeartbeats 2000000 in
theorem node_1 {w0 w : World} {base wb : Nat} {v : Value} {acc : List UInt8} {ok : Bool} (t : Tn) (Ab : Option Addr) (cb : Nat) (Ak : Option Addr) (ck : Nat) (Ai : Option Addr) (ci : Nat) (hP : PartsAt w0 t Ab cb ck ci) (hk : t.kind = 1) (ha : aloneT t = 0) (hW : WrAt base wb v acc ok w)
    (hl : acc.length + (sayT t).length ≤ 1099511627776) :
    Calls Tryd.prog 20 #[.pointer (some ⟨wb, 0, none⟩), .agg (nodeCells t Ab cb Ak ck Ai ci)] w (WrPost base wb v (acc ++ sayT t) (ok && toldT t) w) := by
  obtain ⟨w1, hw1⟩ : ∃ w1, (w.alloc (.cells #[.pointer (some ⟨wb, 0, none⟩)] 42)).alloc (.cells (nodeCells t Ab cb Ak ck Ai ci) 26) = w1 := ⟨_, rfl⟩
  have ca : Chg Pure' w w1 := by rw [← hw1]; exact ((Chg.refl _ _).alloc _).alloc _
  have hB : BoxAt w1 w.heap.size wb (nodeCells t Ab cb Ak ck Ai ci) := by rw [← hw1]; exact BoxAt.new w wb _
  have hsz : w1.heap.size = w.heap.size + 1 + 1 := by rw [← hw1]; simp
  have HW0 := Lib.hid hW
  have HW1 := Lib.hid (hW.pure ca)
  have HSZ := Lib.hid hsz
  have CA := Lib.hid ca
  have HWE := Lib.hid hw1
  have HB := Lib.hid hB
  clear hw1 hB ca hsz hW
  obtain ⟨e1, e2⟩ := say_1 hk
  have hn := alone_bool hk ha
  rw [e1] at hl
  rw [e1, e2, Bool.and_true]
  unfold nodeCells at *
  rw [hk] at HWE HB
  have cd := (Chg.refl Pure' w1).drew
  have HBD := Lib.hid (HB.out.chg cd ⟨fun h => h, fun h => h⟩)
  have HWD := Lib.hid (HW1.out.pure cd)
  have CD := Lib.hid (CA.out.trans' cd)
  generalize hwd : w1.drew = wd at *
  have HDE := Lib.hid hwd
  have hnb : ¬ WrS wb v w.heap.size := fun h => by
    have h0 := HW0.out.lt
    rcases h with h | h
    · omega
    · have := (HW0.out.ownLt h).2; omega
  have hnb1 : ¬ WrS wb v (w.heap.size + 1) := fun h => by
    have h0 := HW0.out.lt
    rcases h with h | h
    · omega
    · have := (HW0.out.ownLt h).2; omega
  have bp := HBD.out.p
  obtain ⟨b0, b1, b2, b3, b4, b5, b6, b7, b8⟩ := blk_nine HBD.out.k1
  have HNB := Lib.hid hnb
  have HNB1 := Lib.hid hnb1
  clear hwd cd hnb hnb1
  obtain ⟨X, hX⟩ : ∃ X, (if t.n = 0 then [102, 97, 108, 115, 101] else [116, 114, 117, 101] : List UInt8) = X := ⟨_, rfl⟩
  rw [hX] at hl
  rw [hX]
  have hn2 : ((t.n.toNat : Int) = 0 ∧ X = [102, 97, 108, 115, 101]) ∨ ((t.n.toNat : Int) = 1 ∧ X = [116, 114, 117, 101]) := by
    rcases hn with h | h
    · rw [if_pos h] at hX; exact .inl ⟨by rw [h]; rfl, hX.symm⟩
    · rw [if_neg (by rw [h]; decide)] at hX; exact .inr ⟨by rw [h]; rfl, hX.symm⟩
  clear e1 e2 hX hn
  generalize (t.n.toNat : Int) = N at *
  rcases hn2 with ⟨rfl, rfl⟩ | ⟨rfl, rfl⟩
  · have HL := Lib.hid hl
    clear hl ha hP
    go_enter Tryd.func20, Tryd.ntmps20
    go_wp2_with (fail)
    refine reg_begin (WrS wb v) (by kernel_rfl) ?_
    rw [HWE.out, HDE.out]
    refine reg_take 0 (v := ?_) rfl (by kernel_rfl) (by kernel_rfl) (by kernel_rfl) (fun _ _ _ h => h) (by kernel_rfl) ?_ ?_
    rotate_left
    · (intro w' hS; have hz := hS.cell (w := wd) bp HNB.out; go_simp; (try go_bits); (try with_reducible rfl))
    try simp only [Act.put, List.getElem_toArray, List.getElem_cons_zero, List.getElem_cons_succ, List.setIfInBounds_toArray, List.set_cons_zero, List.set_cons_succ]
    refine reg_take 2 (v := ?_) rfl (by kernel_rfl) (by kernel_rfl) (by kernel_rfl) (fun _ _ _ h => h) (by kernel_rfl) ?_ ?_
    rotate_left
    · (intro w' hS; go_simp; (try go_bits); (try with_reducible rfl))
    try simp only [Act.put, List.getElem_toArray, List.getElem_cons_zero, List.getElem_cons_succ, List.setIfInBounds_toArray, List.set_cons_zero, List.set_cons_succ]
    refine reg_take 3 (v := ?_) rfl (by kernel_rfl) (by kernel_rfl) (by kernel_rfl) (fun _ _ _ h => h) (by kernel_rfl) ?_ ?_
    rotate_left
    · (intro w' hS; have hz := hS.cell (w := wd) b1 HNB1.out; go_simp; (try go_bits); (try with_reducible rfl))
    try simp only [Act.put, List.getElem_toArray, List.getElem_cons_zero, List.getElem_cons_succ, List.setIfInBounds_toArray, List.set_cons_zero, List.set_cons_succ]
    refine reg_do 1 rfl (by kernel_rfl) (by kernel_rfl) ?_
    intro K hK
    go_simp
    refine hK _ _ ((Chg.refl _ _).alloc _) ?_
    clear hK K
    try simp only [Act.put, List.getElem_toArray, List.getElem_cons_zero, List.getElem_cons_succ, List.setIfInBounds_toArray, List.set_cons_zero, List.set_cons_succ]
    have lit := fun j => cellAt_alloc_lit wd #[.string ⟨#[102, 97, 108, 115, 101]⟩, .string ⟨#[116, 114, 117, 101]⟩] 9 j
    have L0 := lit 0
    have hnl : ¬ WrS wb v wd.heap.size := fun h => by
      have h0 := HWD.out.lt
      rcases h with h | h
      · omega
      · have := (HWD.out.ownLt h).2; omega
    have HWL := Lib.hid (HWD.out.pure ((Chg.refl _ _).alloc (.cells #[.string ⟨#[102, 97, 108, 115, 101]⟩, .string ⟨#[116, 114, 117, 101]⟩] 9)))
    obtain ⟨wl, hwl⟩ : ∃ wl, wd.alloc (.cells #[.string ⟨#[102, 97, 108, 115, 101]⟩, .string ⟨#[116, 114, 117, 101]⟩] 9) = wl := ⟨_, rfl⟩
    have hcl : Chg Pure' wd wl := by rw [← hwl]; exact (Chg.refl _ _).alloc _
    have hzl : wl.heap.size = wd.heap.size + 1 := by rw [← hwl]; simp
    rw [hwl] at HWL L0
    rw [hwl]
    refine reg_take 4 (v := ?_) rfl (by kernel_rfl) (by kernel_rfl) (by kernel_rfl) (fun _ _ _ h => h) (by kernel_rfl) ?_ ?_
    rotate_left
    · (intro w' hS; go_simp; (try go_bits); (try with_reducible rfl))
    try simp only [Act.put, List.getElem_toArray, List.getElem_cons_zero, List.getElem_cons_succ, List.setIfInBounds_toArray, List.set_cons_zero, List.set_cons_succ]
    refine reg_take 5 (v := ?_) rfl (by kernel_rfl) (by kernel_rfl) (by kernel_rfl) (fun _ _ _ h => h) (by kernel_rfl) ?_ ?_
    rotate_left
    · (intro w' hS; have hz := hS.cell (w := wl) L0 hnl; go_simp; (try go_bits); (try with_reducible rfl))
    try simp only [Act.put, List.getElem_toArray, List.getElem_cons_zero, List.getElem_cons_succ, List.setIfInBounds_toArray, List.set_cons_zero, List.set_cons_succ]
    refine reg_do 6 rfl (by kernel_rfl) (by kernel_rfl) ?_
    intro K hK
    go_simp
    refine hK _ _ ((Chg.refl _ _).alloc _) ?_
    clear hK K
    try simp only [Act.put, List.getElem_toArray, List.getElem_cons_zero, List.getElem_cons_succ, List.setIfInBounds_toArray, List.set_cons_zero, List.set_cons_succ]
    refine reg_do 7 rfl (by kernel_rfl) (by kernel_rfl) ?_
    intro K hK
    go_simp
    rw [← hzl]
    refine (put1a HWL.out [102, 97, 108, 115, 101] HL.out).mono ?_
    rintro e w4 ⟨rfl, v4, hW4, hS4a⟩
    refine hK _ _ (hS4a.chg) ?_
    clear hK K
    try simp only [Act.put, List.getElem_toArray, List.getElem_cons_zero, List.getElem_cons_succ, List.setIfInBounds_toArray, List.set_cons_zero, List.set_cons_succ]
    refine wpAnyH_done (by kernel_rfl) ?_ _
    have HW4 := Lib.hid hW4
    have HS4 := Lib.hid (WrStep.of_pure CD.out (WrStep.of_pure hcl (WrStep.of_pure ((Chg.refl Pure' wl).alloc _) hS4a)))
    clear hW4 hS4a lit hwl hcl hzl hnl
    go_wp2
    first | go_end0 | (refine bodyPost_ret (results_none rfl _ _ _) rfl ?_)
    exact ⟨rfl, v4, HW4.out, HS4.out⟩
  · have HL := Lib.hid hl
    clear hl ha hP
    go_enter Tryd.func20, Tryd.ntmps20
    go_wp2_with (fail)
    refine reg_begin (WrS wb v) (by kernel_rfl) ?_
    rw [HWE.out, HDE.out]
    refine reg_take 0 (v := ?_) rfl (by kernel_rfl) (by kernel_rfl) (by kernel_rfl) (fun _ _ _ h => h) (by kernel_rfl) ?_ ?_
    rotate_left
    · (intro w' hS; have hz := hS.cell (w := wd) bp HNB.out; go_simp; (try go_bits); (try with_reducible rfl))
    try simp only [Act.put, List.getElem_toArray, List.getElem_cons_zero, List.getElem_cons_succ, List.setIfInBounds_toArray, List.set_cons_zero, List.set_cons_succ]
    refine reg_take 2 (v := ?_) rfl (by kernel_rfl) (by kernel_rfl) (by kernel_rfl) (fun _ _ _ h => h) (by kernel_rfl) ?_ ?_
    rotate_left
    · (intro w' hS; go_simp; (try go_bits); (try with_reducible rfl))
    try simp only [Act.put, List.getElem_toArray, List.getElem_cons_zero, List.getElem_cons_succ, List.setIfInBounds_toArray, List.set_cons_zero, List.set_cons_succ]
    refine reg_take 3 (v := ?_) rfl (by kernel_rfl) (by kernel_rfl) (by kernel_rfl) (fun _ _ _ h => h) (by kernel_rfl) ?_ ?_
    rotate_left
    · (intro w' hS; have hz := hS.cell (w := wd) b1 HNB1.out; go_simp; (try go_bits); (try with_reducible rfl))
    try simp only [Act.put, List.getElem_toArray, List.getElem_cons_zero, List.getElem_cons_succ, List.setIfInBounds_toArray, List.set_cons_zero, List.set_cons_succ]
    refine reg_do 1 rfl (by kernel_rfl) (by kernel_rfl) ?_
    intro K hK
    go_simp
    refine hK _ _ ((Chg.refl _ _).alloc _) ?_
    clear hK K
    try simp only [Act.put, List.getElem_toArray, List.getElem_cons_zero, List.getElem_cons_succ, List.setIfInBounds_toArray, List.set_cons_zero, List.set_cons_succ]
    have lit := fun j => cellAt_alloc_lit wd #[.string ⟨#[102, 97, 108, 115, 101]⟩, .string ⟨#[116, 114, 117, 101]⟩] 9 j
    have L1 := lit 1
    have hnl : ¬ WrS wb v wd.heap.size := fun h => by
      have h0 := HWD.out.lt
      rcases h with h | h
      · omega
      · have := (HWD.out.ownLt h).2; omega
    have HWL := Lib.hid (HWD.out.pure ((Chg.refl _ _).alloc (.cells #[.string ⟨#[102, 97, 108, 115, 101]⟩, .string ⟨#[116, 114, 117, 101]⟩] 9)))
    obtain ⟨wl, hwl⟩ : ∃ wl, wd.alloc (.cells #[.string ⟨#[102, 97, 108, 115, 101]⟩, .string ⟨#[116, 114, 117, 101]⟩] 9) = wl := ⟨_, rfl⟩
    have hcl : Chg Pure' wd wl := by rw [← hwl]; exact (Chg.refl _ _).alloc _
    have hzl : wl.heap.size = wd.heap.size + 1 := by rw [← hwl]; simp
    rw [hwl] at HWL L1
    rw [hwl]
    refine reg_take 4 (v := ?_) rfl (by kernel_rfl) (by kernel_rfl) (by kernel_rfl) (fun _ _ _ h => h) (by kernel_rfl) ?_ ?_
    rotate_left
    · (intro w' hS; go_simp; (try go_bits); (try with_reducible rfl))
    try simp only [Act.put, List.getElem_toArray, List.getElem_cons_zero, List.getElem_cons_succ, List.setIfInBounds_toArray, List.set_cons_zero, List.set_cons_succ]
    refine reg_take 5 (v := ?_) rfl (by kernel_rfl) (by kernel_rfl) (by kernel_rfl) (fun _ _ _ h => h) (by kernel_rfl) ?_ ?_
    rotate_left
    · (intro w' hS; have hz := hS.cell (w := wl) L1 hnl; go_simp; (try go_bits); (try with_reducible rfl))
    try simp only [Act.put, List.getElem_toArray, List.getElem_cons_zero, List.getElem_cons_succ, List.setIfInBounds_toArray, List.set_cons_zero, List.set_cons_succ]
    refine reg_do 6 rfl (by kernel_rfl) (by kernel_rfl) ?_
    intro K hK
    go_simp
    refine hK _ _ ((Chg.refl _ _).alloc _) ?_
    clear hK K
    try simp only [Act.put, List.getElem_toArray, List.getElem_cons_zero, List.getElem_cons_succ, List.setIfInBounds_toArray, List.set_cons_zero, List.set_cons_succ]
    refine reg_do 7 rfl (by kernel_rfl) (by kernel_rfl) ?_
    intro K hK
    go_simp
    rw [← hzl]
    refine (put1a HWL.out [116, 114, 117, 101] HL.out).mono ?_
    rintro e w4 ⟨rfl, v4, hW4, hS4a⟩
    refine hK _ _ (hS4a.chg) ?_
    clear hK K
    try simp only [Act.put, List.getElem_toArray, List.getElem_cons_zero, List.getElem_cons_succ, List.setIfInBounds_toArray, List.set_cons_zero, List.set_cons_succ]
    refine wpAnyH_done (by kernel_rfl) ?_ _
    have HW4 := Lib.hid hW4
    have HS4 := Lib.hid (WrStep.of_pure CD.out (WrStep.of_pure hcl (WrStep.of_pure ((Chg.refl Pure' wl).alloc _) hS4a)))
    clear hW4 hS4a lit hwl hcl hzl hnl
    go_wp2
    first | go_end0 | (refine bodyPost_ret (results_none rfl _ _ _) rfl ?_)
    exact ⟨rfl, v4, HW4.out, HS4.out⟩
set_option maxHeartbeats 2000000 in
theorem node_5 {w0 w : World} {base wb : Nat} {v : Value} {acc : List UInt8} {ok : Bool} (t : Tn) (Ab : Option Addr) (cb : Nat) (Ak : Option Addr) (ck : Nat) (Ai : Option Addr) (ci : Nat) (hP : PartsAt w0 t Ab cb ck ci) (hk : t.kind = 5) (ha : aloneT t = 0) (hW : WrAt base wb v acc ok w)
    (hl : acc.length + (sayT t).length ≤ 1099511627776) :
    Calls Tryd.prog 20 #[.pointer (some ⟨wb, 0, none⟩), .agg (nodeCells t Ab cb Ak ck Ai ci)] w (WrPost base wb v (acc ++ sayT t) (ok && toldT t) w) := by
  obtain ⟨w1, hw1⟩ : ∃ w1, (w.alloc (.cells #[.pointer (some ⟨wb, 0, none⟩)] 42)).alloc (.cells (nodeCells t Ab cb Ak ck Ai ci) 26) = w1 := ⟨_, rfl⟩
  have ca : Chg Pure' w w1 := by rw [← hw1]; exact ((Chg.refl _ _).alloc _).alloc _
  have hB : BoxAt w1 w.heap.size wb (nodeCells t Ab cb Ak ck Ai ci) := by rw [← hw1]; exact BoxAt.new w wb _
  have hsz : w1.heap.size = w.heap.size + 1 + 1 := by rw [← hw1]; simp
  have HW0 := Lib.hid hW
  have HW1 := Lib.hid (hW.pure ca)
  have HSZ := Lib.hid hsz
  have CA := Lib.hid ca
  have HWE := Lib.hid hw1
  have HB := Lib.hid hB
  clear hw1 hB ca hsz hW
  obtain ⟨e1, e2⟩ := say_5 hk
  rw [e1] at hl
  rw [e1, e2, Bool.and_true]
  unfold nodeCells at *
  rw [hk] at HWE HB
  have cd := (Chg.refl Pure' w1).drew
  have HBD := Lib.hid (HB.out.chg cd ⟨fun h => h, fun h => h⟩)
  have HWD := Lib.hid (HW1.out.pure cd)
  have CD := Lib.hid (CA.out.trans' cd)
  generalize hwd : w1.drew = wd at *
  have HDE := Lib.hid hwd
  have hnb : ¬ WrS wb v w.heap.size := fun h => by
    have h0 := HW0.out.lt
    rcases h with h | h
    · omega
    · have := (HW0.out.ownLt h).2; omega
  have hnb1 : ¬ WrS wb v (w.heap.size + 1) := fun h => by
    have h0 := HW0.out.lt
    rcases h with h | h
    · omega
    · have := (HW0.out.ownLt h).2; omega
  have bp := HBD.out.p
  obtain ⟨b0, b1, b2, b3, b4, b5, b6, b7, b8⟩ := blk_nine HBD.out.k1
  have HNB := Lib.hid hnb
  have HNB1 := Lib.hid hnb1
  clear hwd cd hnb hnb1
  have HL := Lib.hid hl
  have HES := Lib.hid (escape_of t.text (Nat.le_trans (alone_text ha) (by decide)))
  clear e1 e2 hl ha hP
  go_enter Tryd.func20, Tryd.ntmps20
  go_wp2_with (fail)
  refine reg_begin (WrS wb v) (by kernel_rfl) ?_
  rw [HWE.out, HDE.out]
  refine reg_take 0 (v := ?_) rfl (by kernel_rfl) (by kernel_rfl) (by kernel_rfl) (fun _ _ _ h => h) (by kernel_rfl) ?_ ?_
  rotate_left
  · (intro w' hS; have hz := hS.cell (w := wd) bp HNB.out; go_simp; (try go_bits); (try with_reducible rfl))
  try simp only [Act.put, List.getElem_toArray, List.getElem_cons_zero, List.getElem_cons_succ, List.setIfInBounds_toArray, List.set_cons_zero, List.set_cons_succ]
  refine reg_take 1 (v := ?_) rfl (by kernel_rfl) (by kernel_rfl) (by kernel_rfl) (fun _ _ _ h => h) (by kernel_rfl) ?_ ?_
  rotate_left
  · (intro w' hS; go_simp; (try go_bits); (try with_reducible rfl))
  try simp only [Act.put, List.getElem_toArray, List.getElem_cons_zero, List.getElem_cons_succ, List.setIfInBounds_toArray, List.set_cons_zero, List.set_cons_succ]
  refine reg_take 2 (v := ?_) rfl (by kernel_rfl) (by kernel_rfl) (by kernel_rfl) (fun _ _ _ h => h) (by kernel_rfl) ?_ ?_
  rotate_left
  · (intro w' hS; have hz := hS.cell (w := wd) b5 HNB1.out; go_simp; (try go_bits); (try with_reducible rfl))
  try simp only [Act.put, List.getElem_toArray, List.getElem_cons_zero, List.getElem_cons_succ, List.setIfInBounds_toArray, List.set_cons_zero, List.set_cons_succ]
  refine reg_do 3 rfl (by kernel_rfl) (by kernel_rfl) ?_
  intro K hK
  go_simp
  refine (HES.out _).mono ?_
  rintro e w3 ⟨rfl, z3⟩
  refine hK _ _ (Chg.of_pure z3) ?_
  clear hK K
  try simp only [Act.put, List.getElem_toArray, List.getElem_cons_zero, List.getElem_cons_succ, List.setIfInBounds_toArray, List.set_cons_zero, List.set_cons_succ]
  refine reg_do 4 rfl (by kernel_rfl) (by kernel_rfl) ?_
  intro K hK
  go_simp
  refine hK _ _ ((Chg.refl _ _).alloc _) ?_
  clear hK K
  try simp only [Act.put, List.getElem_toArray, List.getElem_cons_zero, List.getElem_cons_succ, List.setIfInBounds_toArray, List.set_cons_zero, List.set_cons_succ]
  refine reg_do 5 rfl (by kernel_rfl) (by kernel_rfl) ?_
  intro K hK
  go_simp
  have HW3 := Lib.hid (HWD.out.pure z3)
  refine (put1a HW3.out _ HL.out).mono ?_
  rintro e w4 ⟨rfl, v4, hW4, hS4a⟩
  refine hK _ _ (hS4a.chg) ?_
  clear hK K
  try simp only [Act.put, List.getElem_toArray, List.getElem_cons_zero, List.getElem_cons_succ, List.setIfInBounds_toArray, List.set_cons_zero, List.set_cons_succ]
  refine wpAnyH_done (by kernel_rfl) ?_ _
  have HW4 := Lib.hid hW4
  have HS4 := Lib.hid (WrStep.of_pure (CD.out.trans' z3) (WrStep.of_pure ((Chg.refl Pure' w3).alloc _) hS4a))
  clear hW4 hS4a z3
  go_wp2
  first | go_end0 | (refine bodyPost_ret (results_none rfl _ _ _) rfl ?_)
  exact ⟨rfl, v4, HW4.out, HS4.out⟩
set_option maxHeartbeats 2000000 in
theorem node_3 {w0 w : World} {base wb : Nat} {v : Value} {acc : List UInt8} {ok : Bool} (t : Tn) (Ab : Option Addr) (cb : Nat) (Ak : Option Addr) (ck : Nat) (Ai : Option Addr) (ci : Nat) (hP : PartsAt w0 t Ab cb ck ci) (hk : t.kind = 3) (ha : aloneT t = 0) (hW : WrAt base wb v acc ok w)
    (hl : acc.length + (sayT t).length ≤ 1099511627776) (he : Env w) :
    Calls Tryd.prog 20 #[.pointer (some ⟨wb, 0, none⟩), .agg (nodeCells t Ab cb Ak ck Ai ci)] w (WrPost base wb v (acc ++ sayT t) (ok && toldT t) w) := by
  obtain ⟨w1, hw1⟩ : ∃ w1, (w.alloc (.cells #[.pointer (some ⟨wb, 0, none⟩)] 42)).alloc (.cells (nodeCells t Ab cb Ak ck Ai ci) 26) = w1 := ⟨_, rfl⟩
  have ca : Chg Pure' w w1 := by rw [← hw1]; exact ((Chg.refl _ _).alloc _).alloc _
  have hB : BoxAt w1 w.heap.size wb (nodeCells t Ab cb Ak ck Ai ci) := by rw [← hw1]; exact BoxAt.new w wb _
  have hsz : w1.heap.size = w.heap.size + 1 + 1 := by rw [← hw1]; simp
  have HW0 := Lib.hid hW
  have HW1 := Lib.hid (hW.pure ca)
  have HSZ := Lib.hid hsz
  have CA := Lib.hid ca
  have HWE := Lib.hid hw1
  have HB := Lib.hid hB
  clear hw1 hB ca hsz hW
  obtain ⟨e1, e2⟩ := say_3 hk
  rw [e1] at hl
  rw [e1, e2, Bool.and_true]
  unfold nodeCells at *
  rw [hk] at HWE HB
  have cd := (Chg.refl Pure' w1).drew
  have HBD := Lib.hid (HB.out.chg cd ⟨fun h => h, fun h => h⟩)
  have HWD := Lib.hid (HW1.out.pure cd)
  have CD := Lib.hid (CA.out.trans' cd)
  generalize hwd : w1.drew = wd at *
  have HDE := Lib.hid hwd
  have hnb : ¬ WrS wb v w.heap.size := fun h => by
    have h0 := HW0.out.lt
    rcases h with h | h
    · omega
    · have := (HW0.out.ownLt h).2; omega
  have hnb1 : ¬ WrS wb v (w.heap.size + 1) := fun h => by
    have h0 := HW0.out.lt
    rcases h with h | h
    · omega
    · have := (HW0.out.ownLt h).2; omega
  have bp := HBD.out.p
  obtain ⟨b0, b1, b2, b3, b4, b5, b6, b7, b8⟩ := blk_nine HBD.out.k1
  have HNB := Lib.hid hnb
  have HNB1 := Lib.hid hnb1
  clear hwd cd hnb hnb1
  have HL := Lib.hid hl
  have HES := Lib.hid (fun W h => text_of t.num W (show t.num.dig.length ≤ 9223372036854775807 from Nat.le_trans hP.dig (by decide)) (he.pure (w' := W) h))
  unfold Num.val Tn.num at HES
  unfold Tn.num at HL
  clear e1 e2 hl ha hP
  unfold Tn.num
  go_enter Tryd.func20, Tryd.ntmps20
  go_wp2_with (fail)
  refine reg_begin (WrS wb v) (by kernel_rfl) ?_
  rw [HWE.out, HDE.out]
  refine reg_take 0 (v := ?_) rfl (by kernel_rfl) (by kernel_rfl) (by kernel_rfl) (fun _ _ _ h => h) (by kernel_rfl) ?_ ?_
  rotate_left
  · (intro w' hS; have hz := hS.cell (w := wd) bp HNB.out; go_simp; (try go_bits); (try with_reducible rfl))
  try simp only [Act.put, List.getElem_toArray, List.getElem_cons_zero, List.getElem_cons_succ, List.setIfInBounds_toArray, List.set_cons_zero, List.set_cons_succ]
  refine reg_take 1 (v := ?_) rfl (by kernel_rfl) (by kernel_rfl) (by kernel_rfl) (fun _ _ _ h => h) (by kernel_rfl) ?_ ?_
  rotate_left
  · (intro w' hS; go_simp; (try go_bits); (try with_reducible rfl))
  try simp only [Act.put, List.getElem_toArray, List.getElem_cons_zero, List.getElem_cons_succ, List.setIfInBounds_toArray, List.set_cons_zero, List.set_cons_succ]
  refine reg_take 2 (v := ?_) rfl (by kernel_rfl) (by kernel_rfl) (by kernel_rfl) (fun _ _ _ h => h) (by kernel_rfl) ?_ ?_
  rotate_left
  · (intro w' hS; have hz := hS.cell (w := wd) b2 HNB1.out; go_simp; (try go_bits); (try with_reducible rfl))
  try simp only [Act.put, List.getElem_toArray, List.getElem_cons_zero, List.getElem_cons_succ, List.setIfInBounds_toArray, List.set_cons_zero, List.set_cons_succ]
  refine reg_take 3 (v := ?_) rfl (by kernel_rfl) (by kernel_rfl) (by kernel_rfl) (fun _ _ _ h => h) (by kernel_rfl) ?_ ?_
  rotate_left
  · (intro w' hS; go_simp; (try go_bits); (try with_reducible rfl))
  try simp only [Act.put, List.getElem_toArray, List.getElem_cons_zero, List.getElem_cons_succ, List.setIfInBounds_toArray, List.set_cons_zero, List.set_cons_succ]
  refine reg_take 4 (v := ?_) rfl (by kernel_rfl) (by kernel_rfl) (by kernel_rfl) (fun _ _ _ h => h) (by kernel_rfl) ?_ ?_
  rotate_left
  · (intro w' hS; have hz := hS.cell (w := wd) b3 HNB1.out; go_simp; (try go_bits); (try with_reducible rfl))
  try simp only [Act.put, List.getElem_toArray, List.getElem_cons_zero, List.getElem_cons_succ, List.setIfInBounds_toArray, List.set_cons_zero, List.set_cons_succ]
  refine reg_take 5 (v := ?_) rfl (by kernel_rfl) (by kernel_rfl) (by kernel_rfl) (fun _ _ _ h => h) (by kernel_rfl) ?_ ?_
  rotate_left
  · (intro w' hS; go_simp; (try go_bits); (try with_reducible rfl))
  try simp only [Act.put, List.getElem_toArray, List.getElem_cons_zero, List.getElem_cons_succ, List.setIfInBounds_toArray, List.set_cons_zero, List.set_cons_succ]
  refine reg_take 6 (v := ?_) rfl (by kernel_rfl) (by kernel_rfl) (by kernel_rfl) (fun _ _ _ h => h) (by kernel_rfl) ?_ ?_
  rotate_left
  · (intro w' hS; have hz := hS.cell (w := wd) b4 HNB1.out; go_simp; (try go_bits); (try with_reducible rfl))
  try simp only [Act.put, List.getElem_toArray, List.getElem_cons_zero, List.getElem_cons_succ, List.setIfInBounds_toArray, List.set_cons_zero, List.set_cons_succ]
  refine reg_take 7 (v := ?_) rfl (by kernel_rfl) (by kernel_rfl) (by kernel_rfl) (fun _ _ _ h => h) (by kernel_rfl) ?_ ?_
  rotate_left
  · (intro w' hS; go_simp; (try go_bits); (try with_reducible rfl))
  try simp only [Act.put, List.getElem_toArray, List.getElem_cons_zero, List.getElem_cons_succ, List.setIfInBounds_toArray, List.set_cons_zero, List.set_cons_succ]
  refine reg_do 8 rfl (by kernel_rfl) (by kernel_rfl) ?_
  intro K hK
  go_simp
  refine (HES.out _ CD.out).mono ?_
  rintro e w3 ⟨rfl, z3⟩
  refine hK _ _ (Chg.of_pure z3) ?_
  clear hK K
  try simp only [Act.put, List.getElem_toArray, List.getElem_cons_zero, List.getElem_cons_succ, List.setIfInBounds_toArray, List.set_cons_zero, List.set_cons_succ]
  refine reg_do 9 rfl (by kernel_rfl) (by kernel_rfl) ?_
  intro K hK
  go_simp
  refine hK _ _ ((Chg.refl _ _).alloc _) ?_
  clear hK K
  try simp only [Act.put, List.getElem_toArray, List.getElem_cons_zero, List.getElem_cons_succ, List.setIfInBounds_toArray, List.set_cons_zero, List.set_cons_succ]
  refine reg_do 10 rfl (by kernel_rfl) (by kernel_rfl) ?_
  intro K hK
  go_simp
  have HW3 := Lib.hid (HWD.out.pure z3)
  refine (put1a HW3.out _ HL.out).mono ?_
  rintro e w4 ⟨rfl, v4, hW4, hS4a⟩
  refine hK _ _ (hS4a.chg) ?_
  clear hK K
  try simp only [Act.put, List.getElem_toArray, List.getElem_cons_zero, List.getElem_cons_succ, List.setIfInBounds_toArray, List.set_cons_zero, List.set_cons_succ]
  refine wpAnyH_done (by kernel_rfl) ?_ _
  have HW4 := Lib.hid hW4
  have HS4 := Lib.hid (WrStep.of_pure (CD.out.trans' z3) (WrStep.of_pure ((Chg.refl Pure' w3).alloc _) hS4a))
  clear hW4 hS4a z3
  go_wp2
  first | go_end0 | (refine bodyPost_ret (results_none rfl _ _ _) rfl ?_)
  exact ⟨rfl, v4, HW4.out, HS4.out⟩
set_option maxHeartbeats 2000000 in
theorem node_2 {w0 w : World} {base wb : Nat} {v : Value} {acc : List UInt8} {ok : Bool} (t : Tn) (Ab : Option Addr) (cb : Nat) (Ak : Option Addr) (ck : Nat) (Ai : Option Addr) (ci : Nat) (hP : PartsAt w0 t Ab cb ck ci) (hk : t.kind = 2) (ha : aloneT t = 0) (hW : WrAt base wb v acc ok w)
    (hl : acc.length + (sayT t).length ≤ 1099511627776) :
    Calls Tryd.prog 20 #[.pointer (some ⟨wb, 0, none⟩), .agg (nodeCells t Ab cb Ak ck Ai ci)] w (WrPost base wb v (acc ++ sayT t) (ok && toldT t) w) := by
  obtain ⟨w1, hw1⟩ : ∃ w1, (w.alloc (.cells #[.pointer (some ⟨wb, 0, none⟩)] 42)).alloc (.cells (nodeCells t Ab cb Ak ck Ai ci) 26) = w1 := ⟨_, rfl⟩
  have ca : Chg Pure' w w1 := by rw [← hw1]; exact ((Chg.refl _ _).alloc _).alloc _
  have hB : BoxAt w1 w.heap.size wb (nodeCells t Ab cb Ak ck Ai ci) := by rw [← hw1]; exact BoxAt.new w wb _
  have hsz : w1.heap.size = w.heap.size + 1 + 1 := by rw [← hw1]; simp
  have HW0 := Lib.hid hW
  have HW1 := Lib.hid (hW.pure ca)
  have HSZ := Lib.hid hsz
  have CA := Lib.hid ca
  have HWE := Lib.hid hw1
  have HB := Lib.hid hB
  clear hw1 hB ca hsz hW
  obtain ⟨e1, e2⟩ := say_2 hk
  rw [e1] at hl
  rw [e1, e2, Bool.and_true]
  unfold nodeCells at *
  rw [hk] at HWE HB
  cases hng : t.neg
  · rw [hng] at hl HWE HB
    simp only [Bool.false_eq_true, if_false, List.nil_append] at hl ⊢
    have HP := Lib.hid (put1 HW1.out t.dig hl)
    clear e1 e2 hl ha hP
    go_enter Tryd.func20, Tryd.ntmps20
    go_wp2_with (fail)
    rw [HWE.out, ← HSZ.out]
    refine HP.out.mono ?_
    rintro e w2 ⟨rfl, v2, hW2, hS2⟩
    have HW2 := Lib.hid hW2
    have HS2 := Lib.hid (WrStep.of_pure CA.out hS2)
    clear hW2 hS2 HP
    go_wp2
    first | go_end0 | (refine bodyPost_ret (results_none rfl _ _ _) rfl ?_)
    exact ⟨rfl, v2, HW2.out, HS2.out⟩
  · rw [hng] at hl HWE HB
    simp only [if_true] at hl ⊢
    have HP := Lib.hid (put1 HW1.out [45] (by simp at hl; simp; omega))
    have HL := Lib.hid (show (acc ++ [45]).length + t.dig.length ≤ 1099511627776 by simp at hl; simp; omega)
    clear e1 e2 hl ha hP
    go_enter Tryd.func20, Tryd.ntmps20
    go_wp2_with (fail)
    rw [HWE.out, ← HSZ.out]
    refine HP.out.mono ?_
    rintro e w2 ⟨rfl, v2, hW2, hS2⟩
    have HB2 := Lib.hid (HB.out.step HW0.out (Nat.le_refl _) hS2)
    have bp := HB2.out.p
    obtain ⟨b0, b1, b2, b3, b4, b5, b6, b7, b8⟩ := blk_nine HB2.out.k1
    have HW2 := Lib.hid hW2
    have HS2 := Lib.hid (WrStep.of_pure CA.out hS2)
    have HP2 := Lib.hid (put1 hW2 t.dig HL.out)
    clear hW2 hS2 HP
    go_wp2_with (fail)
    refine HP2.out.mono ?_
    rintro e w3 ⟨rfl, v3, hW3, hS3⟩
    have HW3 := Lib.hid hW3
    have HS3 := Lib.hid (HS2.out.trans hS3)
    clear hW3 hS3 HP2
    go_wp2
    first | go_end0 | (refine bodyPost_ret (results_none rfl _ _ _) rfl ?_)
    exact ⟨rfl, v3, by rw [show acc ++ 45 :: t.dig = acc ++ [45] ++ t.dig by simp]; exact HW3.out, HS3.out⟩
set_option maxHeartbeats 2000000 in
theorem node_7 {w0 w : World} {base wb : Nat} {v : Value} {acc : List UInt8} {ok : Bool} (t : Tn) (Ab : Option Addr) (cb : Nat) (Ak : Option Addr) (ck : Nat) (Ai : Option Addr) (ci : Nat) (hP : PartsAt w0 t Ab cb ck ci) (hk : t.kind = 7) (ha : aloneT t = 0) (hW : WrAt base wb v acc ok w)
    (hl : acc.length + (sayT t).length ≤ 1099511627776) (hz : sizeT t ≤ 1024) (hc : Chg Pure' w0 w) (hbw : w0.heap.size ≤ wb ∧ w0.heap.size ≤ base) (hi : ElemsAt w0 Ai 0 t.kids) (hrec : ∀ x ∈ t.kids, NodeC w0 base wb x) :
    Calls Tryd.prog 20 #[.pointer (some ⟨wb, 0, none⟩), .agg (nodeCells t Ab cb Ak ck Ai ci)] w (WrPost base wb v (acc ++ sayT t) (ok && toldT t) w) := by
  obtain ⟨w1, hw1⟩ : ∃ w1, (w.alloc (.cells #[.pointer (some ⟨wb, 0, none⟩)] 42)).alloc (.cells (nodeCells t Ab cb Ak ck Ai ci) 26) = w1 := ⟨_, rfl⟩
  have ca : Chg Pure' w w1 := by rw [← hw1]; exact ((Chg.refl _ _).alloc _).alloc _
  have hB : BoxAt w1 w.heap.size wb (nodeCells t Ab cb Ak ck Ai ci) := by rw [← hw1]; exact BoxAt.new w wb _
  have hsz : w1.heap.size = w.heap.size + 1 + 1 := by rw [← hw1]; simp
  have HW0 := Lib.hid hW
  have HW1 := Lib.hid (hW.pure ca)
  have HSZ := Lib.hid hsz
  have CA := Lib.hid ca
  have HWE := Lib.hid hw1
  have HB := Lib.hid hB
  clear hw1 hB ca hsz hW
  obtain ⟨e1, e2⟩ := say_7 hk
  have e3 : toldT t = (t.kids.map toldT).all id := by rw [e2, toldL_all]
  have hlen : t.kids.length ≤ 1024 := Nat.le_trans (kids_size t) hz
  rw [e1] at hl
  rw [e1, e3]
  have HB' := HB
  have HWE' := HWE
  unfold nodeCells at HWE HB
  rw [hk] at HWE HB
  have HC1 := Lib.hid (hc.trans' CA.out)
  have HL := Lib.hid (list_of HW1.out [91] [93] 33 #[.pointer (some ⟨w.heap.size, 0, none⟩), .pointer (some ⟨w.heap.size + 1, 0, none⟩)] t.kids.length (sayL t.kids) (t.kids.map toldT) (by rw [sayL_map]; simp) (by simp) (fun _ _ => by kernel_rfl) hl (by omega)
    (fun k h1 h2 w' v' acc' ok' hS hW' hle => by
      have hbx := HB'.out.step HW0.out (Nat.le_refl _) hS
      have hk1 : k < t.kids.length := by simpa using h2
      have e4 : (sayL t.kids)[k] = sayT t.kids[k] := by simp only [sayL_map, List.getElem_map]
      have e5 : (t.kids.map toldT)[k] = toldT t.kids[k] := by simp only [List.getElem_map]
      rw [e4] at hle
      rw [e4, e5]
      have hc' : Chg Pure' w0 w' := HC1.out.trans hS.chg (fun i hi h => by
        rcases h with h | h
        · omega
        · have := (HW0.out.ownLt h).1; omega)
      exact node1_of hW' hbx.p hbx.c.2.2.2.2.2.2.2.2 hi hP.li hc' k hk1 (hrec _ (List.getElem_mem hk1)) hle))
  clear e1 e2 e3 hl ha hP HB' HWE' hi hrec hc hbw hz
  generalize hT : acc ++ ([91] ++ (sepB false (sayL t.kids) ++ [93])) = T at *
  generalize hO : (ok && (t.kids.map toldT).all id) = O at *
  unfold nodeCells
  go_enter Tryd.func20, Tryd.ntmps20
  go_wp2_with (fail)
  rw [HWE.out]
  refine HL.out.mono ?_
  rintro e w2 ⟨rfl, v2, hW2, hS2⟩
  have HW2 := Lib.hid hW2
  have HS2 := Lib.hid (WrStep.of_pure CA.out hS2)
  clear hW2 hS2 HL hT hO
  go_wp2
  first | go_end0 | (refine bodyPost_ret (results_none rfl _ _ _) rfl ?_)
  exact ⟨rfl, v2, HW2.out, HS2.out⟩
set_option maxHeartbeats 2000000 in
theorem node_8 {w0 w : World} {base wb : Nat} {v : Value} {acc : List UInt8} {ok : Bool} (t : Tn) (Ab : Option Addr) (cb : Nat) (Ak : Option Addr) (ck : Nat) (Ai : Option Addr) (ci : Nat) (hP : PartsAt w0 t Ab cb ck ci) (hk : t.kind = 8) (ha : aloneT t = 0) (hW : WrAt base wb v acc ok w)
    (hl : acc.length + (sayT t).length ≤ 1099511627776) (hz : sizeT t ≤ 1024) (hc : Chg Pure' w0 w) (hbw : w0.heap.size ≤ wb ∧ w0.heap.size ≤ base) (hi : ElemsAt w0 Ai 0 t.kids) (hrec : ∀ x ∈ t.kids, NodeC w0 base wb x) (hj : ElemsAt w0 Ak 0 t.keys) (hkt : ∀ x ∈ t.keys, x.text.length ≤ 4096) :
    Calls Tryd.prog 20 #[.pointer (some ⟨wb, 0, none⟩), .agg (nodeCells t Ab cb Ak ck Ai ci)] w (WrPost base wb v (acc ++ sayT t) (ok && toldT t) w) := by
  obtain ⟨w1, hw1⟩ : ∃ w1, (w.alloc (.cells #[.pointer (some ⟨wb, 0, none⟩)] 42)).alloc (.cells (nodeCells t Ab cb Ak ck Ai ci) 26) = w1 := ⟨_, rfl⟩
  have ca : Chg Pure' w w1 := by rw [← hw1]; exact ((Chg.refl _ _).alloc _).alloc _
  have hB : BoxAt w1 w.heap.size wb (nodeCells t Ab cb Ak ck Ai ci) := by rw [← hw1]; exact BoxAt.new w wb _
  have hsz : w1.heap.size = w.heap.size + 1 + 1 := by rw [← hw1]; simp
  have HW0 := Lib.hid hW
  have HW1 := Lib.hid (hW.pure ca)
  have HSZ := Lib.hid hsz
  have CA := Lib.hid ca
  have HWE := Lib.hid hw1
  have HB := Lib.hid hB
  clear hw1 hB ca hsz hW
  obtain ⟨e1, e2⟩ := say_8 hk
  have e3 : toldT t = (List.zipWith pairO t.keys t.kids).all id := by rw [e2, toldP_zip]
  have hlen : t.kids.length ≤ 1024 := Nat.le_trans (kids_size t) hz
  have hkl := alone_map hk ha
  rw [e1] at hl
  rw [e1, e3]
  have HB' := HB
  have HWE' := HWE
  unfold nodeCells at HWE HB
  rw [hk] at HWE HB
  have HC1 := Lib.hid (hc.trans' CA.out)
  have HL := Lib.hid (list_of HW1.out [123] [125] 34 #[.pointer (some ⟨w.heap.size, 0, none⟩), .pointer (some ⟨w.heap.size + 1, 0, none⟩)] t.kids.length (sayP t.keys t.kids) (List.zipWith pairO t.keys t.kids) (by rw [sayP_zip]; simp; omega) (by simp; omega) (fun _ _ => by kernel_rfl) hl (by omega)
    (fun k h1 h2 w' v' acc' ok' hS hW' hle => by
      have hbx := HB'.out.step HW0.out (Nat.le_refl _) hS
      have hk1 : k < t.kids.length := by simp at h2; omega
      have hk2 : k < t.keys.length := by omega
      have e4 : (sayP t.keys t.kids)[k] = pairS t.keys[k] t.kids[k] := by simp only [sayP_zip, List.getElem_zipWith]
      have e5 : (List.zipWith pairO t.keys t.kids)[k] = pairO t.keys[k] t.kids[k] := by simp only [List.getElem_zipWith]
      rw [e4] at hle
      rw [e4, e5]
      have hc' : Chg Pure' w0 w' := HC1.out.trans hS.chg (fun i hi h => by
        rcases h with h | h
        · omega
        · have := (HW0.out.ownLt h).1; omega)
      have h0 := HW0.out.lt
      have hs1 := HSZ.out
      have hnew : ∀ b, w.heap.size ≤ b → b < w1.heap.size → v'.ownBlock ≠ some b := fun b hb1 hb2 e => by
        rcases hS.new b e with h | h
        · have := (HW0.out.ownLt h).2; omega
        · omega
      exact node2_of hW' hbx.p hbx.c.2.2.2.2.2.2.2.1 hbx.c.2.2.2.2.2.2.2.2 hj hi hP.lk hP.li hc' k hk1 hk2 (hrec _ (List.getElem_mem hk1)) (Nat.le_trans (hkt _ (List.getElem_mem hk2)) (by decide)) hbw ⟨by omega, by omega, hnew _ (Nat.le_refl _) (by omega), hnew _ (by omega) (by omega)⟩ hle))
  clear e1 e2 e3 hl ha hP HB' HWE' hi hrec hc hbw hz hj hkt hkl
  generalize hT : acc ++ ([123] ++ (sepB false (sayP t.keys t.kids) ++ [125])) = T at *
  generalize hO : (ok && (List.zipWith pairO t.keys t.kids).all id) = O at *
  unfold nodeCells
  go_enter Tryd.func20, Tryd.ntmps20
  go_wp2_with (fail)
  rw [HWE.out]
  refine HL.out.mono ?_
  rintro e w2 ⟨rfl, v2, hW2, hS2⟩
  have HW2 := Lib.hid hW2
  have HS2 := Lib.hid (WrStep.of_pure CA.out hS2)
  clear hW2 hS2 HL hT hO
  go_wp2
  first | go_end0 | (refine bodyPost_ret (results_none rfl _ _ _) rfl ?_)
  exact ⟨rfl, v2, HW2.out, HS2.out⟩
/-- A node's call, whatever its Kind. -/
theorem node_all {w0 : World} {base wb : Nat} (hbw : w0.heap.size ≤ wb ∧ w0.heap.size ≤ base) (he : Env w0) : ∀ (N : Nat) (t : Tn), sizeT t ≤ N → sizeT t ≤ 1024 → goodT t → NodeC w0 base wb t
  | 0, t, h, _, _ => by have := sizeT_pos t; omega
  | N + 1, t, h, hz, hg => by
    intro cs w v acc ok hn hc hW hl
    obtain ⟨Ab, cb, Ak, ck, Ai, ci, rfl, hP, hj, hi⟩ := hn.out
    obtain ⟨ha, hgk, hgi⟩ := (goodT_iff t).1 hg
    have hrec : ∀ x ∈ t.kids, NodeC w0 base wb x := fun x hx => node_all hbw he N x (by have := size_kid hx; omega) (by have := size_kid hx; omega) (goodL_mem.1 hgi x hx)
    by_cases k0 : t.kind = 0
    · exact node_0 t Ab cb Ak ck Ai ci hP k0 ha hW hl
    by_cases k1 : t.kind = 1
    · exact node_1 t Ab cb Ak ck Ai ci hP k1 ha hW hl
    by_cases k2 : t.kind = 2
    · exact node_2 t Ab cb Ak ck Ai ci hP k2 ha hW hl
    by_cases k3 : t.kind = 3
    · exact node_3 t Ab cb Ak ck Ai ci hP k3 ha hW hl (he.pure hc)
    by_cases k5 : t.kind = 5
    · exact node_5 t Ab cb Ak ck Ai ci hP k5 ha hW hl
    by_cases k7 : t.kind = 7
    · exact node_7 t Ab cb Ak ck Ai ci hP k7 ha hW hl hz hc hbw hi hrec
    by_cases k8 : t.kind = 8
    · exact node_8 t Ab cb Ak ck Ai ci hP k8 ha hW hl hz hc hbw hi hrec hj (fun x hx => alone_text ((goodT_iff x).1 (goodL_mem.1 hgk x hx)).1)
    exact node_x t Ab cb Ak ck Ai ci hP ⟨k0, k1, k2, k3, k5, k7, k8⟩ ha hW hl
end Go.Proofs.YtafpkecjicphoaaDoor
