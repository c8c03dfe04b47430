/- Package frame: FrameAmong. -/
import Derived.Test.YtemofjaonoofhaaFrameR
namespace Go.Proofs.Ytemofjaonoofhaa
open Go Go.RowKit
set_option linter.unusedVariables false
set_option linter.unusedSimpArgs false

theorem own_far {w : World} {B B' e e' s s' n n' : Nat} {v v' : Value} {us us' : List Value} (h : w.ownsRow B e s v n us) (h' : w.ownsRow B' e' s' v' n' us') (he : e ≠ e') {g : Nat} (hg : v.ownBlock = some g) : v'.ownBlock ≠ some g := by
  intro hg'
  rcases h.2 with ⟨rfl, -⟩ | ⟨b, cap, cur, rfl, -, hb, -⟩
  · cases hg
  · rcases h'.2 with ⟨rfl, -⟩ | ⟨b', cap', cur', rfl, -, hb', -⟩
    · cases hg'
    · simp only [Value.ownBlock, Option.some.injEq] at hg hg'
      rw [hg] at hb
      rw [hg', hb] at hb'
      injection hb' with hb'
      injection hb' with h1 h2
      exact he h2
theorem Bytes.chg' {S : Nat → Prop} {w w' : World} {A : Option Addr} {n : Nat} {xs : List UInt8} (h : Bytes w A n xs) (hc : Chg S w w') (ho : 0 < n → Off A S) : Bytes w' A n xs := by
  refine ⟨h.len, fun hn => ?_⟩
  obtain ⟨b, off, rfl, hcell⟩ := h.cells hn
  exact ⟨b, off, rfl, fun j hj => hc.cell (hcell j hj) (ho hn ⟨b, off, none⟩ rfl)⟩
theorem Bytes.lt' {w : World} {A : Option Addr} {n : Nat} {xs : List UInt8} (h : Bytes w A n xs) (hn : 0 < n) : ∀ a, A = some a → a.block < w.heap.size := by
  obtain ⟨b, off, rfl, hcell⟩ := h.cells hn
  intro a ha
  cases ha
  exact cell_lt (hcell 0 (by have := h.len; omega))
/-- One byte more, or some bytes, behind a row of the call's own. -/
theorem own_push {w w1 : World} {B n : Nat} {v : Value} {xs : List UInt8} (h : w.ownsRow B 5 1 v n (enc xs)) (c : UInt8) (hB : B ≤ w.heap.size) (hn : n + 1 ≤ 140737488355328) (h1 : w1 = w.alloc (.cells #[.int .u8 (c.toNat : Int)] 5)) :
    ∃ v' w', (Builtin.append_ #[22, 22] 22 #[v, .slice (some ⟨w.heap.size, 0, none⟩) 1 1]).run Try.prog w1 = .ok v' w' ∧ w'.ownsRow B 5 1 v' (n + 1) (enc (xs ++ [c])) ∧ Chg (fun k => v.ownBlock = some k) w w' := by
  subst h1
  have ca : Chg Pure' w (w.alloc (.cells #[.int .u8 (c.toNat : Int)] 5)) := (Chg.refl _ w).alloc _
  have hb := Bytes.alloc_lit w #[.int .u8 (c.toNat : Int)] 5 [c] rfl 1 rfl
  have hr2 := own_keep h ca (fun _ _ h => h)
  obtain ⟨v6, w6, hr6, ho6, hg6, -⟩ := app_own (P := Try.prog) _ B 22 22 5 Try.underlying22 infoU8 rfl (by decide) _ _ _ hr2 _ 1 1 _ hb.row rfl (enc_one _) (by decide) (by omega) (by have := ca.size; omega)
  rw [← enc_append] at ho6
  exact ⟨v6, w6, hr6, ho6, (Chg.of_pure ca).trans' ((Chg.refl _ _).grown hg6 (fun k hk => .inr hk))⟩
theorem own_cat {w : World} {B n m c : Nat} {v : Value} {xs ys : List UInt8} {A : Option Addr} (h : w.ownsRow B 5 1 v n (enc xs)) (hb : Bytes w A m ys) (hB : B ≤ w.heap.size) (hn : n + m ≤ 140737488355328) :
    ∃ v' w', (Builtin.append_ #[22, 22] 22 #[v, .slice A m c]).run Try.prog w = .ok v' w' ∧ w'.ownsRow B 5 1 v' (n + m) (enc (xs ++ ys)) ∧ Chg (fun k => v.ownBlock = some k) w w' := by
  obtain ⟨v6, w6, hr6, ho6, hg6, -⟩ := app_own (P := Try.prog) w B 22 22 5 Try.underlying22 infoU8 rfl (by decide) _ _ _ h A m c _ hb.row (by rw [enc_length, hb.len, Nat.mul_one]) (enc_one _) (by decide) (by omega) hB
  rw [← enc_append] at ho6
  exact ⟨v6, w6, hr6, ho6, (Chg.refl _ _).grown hg6 (fun k hk => .inr hk)⟩
/-- A row of the call's own of slices that read as these lists. -/
def Wants (w : World) (B : Nat) (v : Value) (ls : List (List UInt8)) : Prop :=
  ∃ us, w.ownsRow B 22 1 v ls.length us ∧ ∀ i (h : i < ls.length), ∃ A c, us[i]? = some (.slice A (ls[i]'h).length c) ∧ (ls[i]'h).length ≤ c ∧ Bytes w A (ls[i]'h).length (ls[i]'h) ∧ (0 < (ls[i]'h).length → ∀ a, A = some a → a.block < B)
theorem Wants.nil (w : World) (B : Nat) : Wants w B (.slice none 0 0) [] := ⟨[], World.ownsRow_nil _ _ _ _, fun i h => absurd h (by simp)⟩
theorem Wants.keep {S : Nat → Prop} {w w' : World} {B : Nat} {v : Value} {ls : List (List UInt8)} (h : Wants w B v ls) (hc : Chg S w w') (h1 : ∀ g, v.ownBlock = some g → ¬ S g) (h2 : ∀ k, k < B → ¬ S k) : Wants w' B v ls := by
  obtain ⟨us, ho, hu⟩ := h
  refine ⟨us, own_keep ho hc h1, fun i hi => ?_⟩
  obtain ⟨A, c, e1, e2, e3, e4⟩ := hu i hi
  exact ⟨A, c, e1, e2, e3.chg' hc (fun hp a ha => h2 _ (e4 hp a ha)), e4⟩
theorem Wants.bl {w : World} {B : Nat} {A : Option Addr} {n c : Nat} {ls : List (List UInt8)} (h : Wants w B (.slice A n c) ls) : BytesL w A ls.length ls := by
  obtain ⟨us, ho, hu⟩ := h
  refine ⟨rfl, fun hp => ?_⟩
  rcases ho.2 with ⟨h', h0⟩ | ⟨g, cap, cur, h', hb, hg, hnc, hcm, hcs, htake⟩
  · omega
  · injection h' with h1 h2 h3
    subst h1
    subst h2
    refine ⟨g, 0, rfl, fun j hj => ?_⟩
    obtain ⟨A1, c1, h1, h2, h3, -⟩ := hu j hj
    have := World.ownsRow.cells ho (g := g) rfl j _ h1
    have e : (⟨g, 0, none⟩ : Addr).add j = ⟨g, 0 + j, none⟩ := by unfold Addr.add; split <;> simp_all
    rw [e] at this
    exact ⟨A1, _, c1, this, h2, h3⟩
theorem Wants.val {w : World} {B : Nat} {v : Value} {ls : List (List UInt8)} (h : Wants w B v ls) : ∃ A c, v = .slice A ls.length c := by
  obtain ⟨us, hr, -⟩ := h
  obtain ⟨A, c, h1, -⟩ := own_slice hr
  exact ⟨A, c, h1⟩
theorem Wants.own {w : World} {B : Nat} {v : Value} {ls : List (List UInt8)} (h : Wants w B v ls) {k : Nat} (hk : v.ownBlock = some k) : B ≤ k ∧ k < w.heap.size := by
  obtain ⟨us, hr, -⟩ := h
  exact hr.lt k hk
theorem Wants.more {w w1 : World} {B : Nat} {v : Value} {ls : List (List UInt8)} {A : Option Addr} {l : List UInt8} {c : Nat} (h : Wants w B v ls) (hl : Bytes w A l.length l) (hc : l.length ≤ c) (hA : 0 < l.length → ∀ a, A = some a → a.block < B) (hB : B ≤ w.heap.size) (hn : (ls.length + 1) * 24 ≤ 140737488355328) (h1 : w1 = w.alloc (.cells #[.slice A l.length c] 22)) :
    ∃ v' w', (Builtin.append_ #[31, 31] 31 #[v, .slice (some ⟨w.heap.size, 0, none⟩) 1 1]).run Try.prog w1 = .ok v' w' ∧ Wants w' B v' (ls ++ [l]) ∧ Chg (fun k => v.ownBlock = some k) w w' := by
  subst h1
  have hown := fun k hk => (h.own (k := k) hk)
  obtain ⟨us, hr, hu⟩ := h
  have ca : Chg Pure' w (w.alloc (.cells #[.slice A l.length c] 22)) := (Chg.refl _ w).alloc _
  have hrow : Row (w.alloc (.cells #[.slice A l.length c] 22)) (some ⟨w.heap.size, 0, none⟩) [.slice A l.length c] := by
    refine ⟨fun _ => ⟨w.heap.size, 0, rfl, fun j x hx => ?_⟩⟩
    rw [Nat.zero_add, cellAt_alloc_lit, ← hx]
    simp
  have hr2 := own_keep hr ca (fun _ _ h => h)
  obtain ⟨v6, w6, hr6, ho6, hg6, hb6⟩ := app_own (P := Try.prog) _ B 31 31 22 Try.underlying31 infoBs rfl (by decide) _ _ _ hr2 _ 1 1 _ hrow rfl (by intro u hu; simp at hu; subst hu; rfl) (by decide) (by omega) (by have := ca.size; omega)
  have c6 : Chg (fun k => v.ownBlock = some k) (w.alloc (.cells #[.slice A l.length c] 22)) w6 := (Chg.refl _ _).grown hg6 (fun k hk => .inr hk)
  have C : Chg (fun k => v.ownBlock = some k) w w6 := (Chg.of_pure ca).trans' c6
  refine ⟨v6, w6, hr6, ⟨us ++ [.slice A l.length c], by simpa using ho6, fun i hi => ?_⟩, C⟩
  have hul : us.length = ls.length := by have := hr.1; simpa using this
  by_cases hil : i < ls.length
  · obtain ⟨A1, c1, h3, h4, h5, h6⟩ := hu i hil
    refine ⟨A1, c1, ?_, ?_, ?_, ?_⟩
    · rw [List.getElem?_append_left (by omega), List.getElem_append_left hil]; exact h3
    · rw [List.getElem_append_left hil]; exact h4
    · rw [List.getElem_append_left hil]; exact h5.chg' C (fun hp a ha e => by have := h6 hp a ha; have := hown _ e; omega)
    · rw [List.getElem_append_left hil]; exact h6
  · have hie : i = ls.length := by simp at hi; omega
    subst hie
    refine ⟨A, c, ?_, ?_, ?_, ?_⟩
    · rw [List.getElem?_append_right (by omega), hul, Nat.sub_self, List.getElem_append_right (by omega)]; simp
    · rw [List.getElem_append_right (by omega)]; simpa using hc
    · rw [List.getElem_append_right (by omega)]
      have := hl.chg' C (fun hp a ha e => by have := hA hp a ha; have := hown _ e; omega)
      simpa using this
    · rw [List.getElem_append_right (by omega)]; simpa using hA
/-- These bytes are frames of loads, with bytes between. -/
def Among (bs : List UInt8) (want : List (List UInt8)) (lost : Nat) : Prop := scan bs = (want, bs.length) ∧ sizeL want + lost = bs.length
theorem Among.nil : Among [] [] 0 := ⟨rfl, rfl⟩
theorem Among.frame {bs l : List UInt8} {want : List (List UInt8)} {lost : Nat} (h : Among bs want lost) (hl : l.length ≤ 1200) : Among (bs ++ frameB l) (want ++ [l]) lost := by
  obtain ⟨h1, h2⟩ := h
  have h3 := scan_frame l [] hl
  rw [List.append_nil, scan_nil] at h3
  have hfl := frameB_len l
  constructor
  · rw [scan_append bs.length bs _ (Nat.le_refl _), h1]
    simp only [List.drop_length, List.nil_append]
    rw [h3]
    simp only [List.length_append, Prod.mk.injEq, true_and]
    omega
  · rw [sizeL_cat, List.length_append, hfl]
    simp only [sizeL, List.map_cons, List.map_nil, List.sum_cons, List.sum_nil] at h2 ⊢
    omega
theorem Among.byte {bs : List UInt8} {want : List (List UInt8)} {lost : Nat} (h : Among bs want lost) (c : UInt8) (hc : c ≠ 165) : Among (bs ++ [c]) want (lost + 1) := by
  obtain ⟨h1, h2⟩ := h
  have h3 := scan_not c [] hc
  rw [scan_nil] at h3
  constructor
  · rw [scan_append bs.length bs _ (Nat.le_refl _), h1]
    simp only [List.drop_length, List.nil_append]
    rw [h3]
    simp
  · rw [List.length_append]
    simp only [List.length_cons, List.length_nil]
    omega
theorem Among.len {bs : List UInt8} {want : List (List UInt8)} {lost : Nat} (h : Among bs want lost) : 8 * want.length + lost ≤ bs.length := by
  obtain ⟨-, h2⟩ := h
  have := sizeL_len want
  omega
def bnd (k : Nat) : Nat := k * 2097152
theorem bnd_zero : bnd 0 = 0 := rfl
theorem bnd_succ (k : Nat) : bnd (k + 1) = bnd k + 2097152 := by unfold bnd; omega
theorem bnd_le {k n : Nat} (h : k ≤ n) (hn : n ≤ 1048576) : bnd k ≤ 2199023255552 := by unfold bnd; omega
/-- Where the walk of FrameAmong stands. -/
def Here (w wr : World) (vb vw : Value) (bs : List UInt8) (want : List (List UInt8)) (lost : Nat) : Prop :=
  wr.ownsRow w.heap.size 5 1 vb bs.length (enc bs) ∧ Wants wr w.heap.size vw want ∧ Among bs want lost ∧ Chg Pure' w wr
theorem Here.out' {w wr : World} {vb vw : Value} {bs : List UInt8} {want : List (List UInt8)} {lost : Nat} (h : Here w wr vb vw bs want lost) {w' : World} (hc : Chg (fun k => vb.ownBlock = some k) wr w') {vb' : Value} {bs' : List UInt8} {lost' : Nat}
    (ho : w'.ownsRow w.heap.size 5 1 vb' bs'.length (enc bs')) (ha : Among bs' want lost') : Here w w' vb' vw bs' want lost' := by
  obtain ⟨h1, h2, h3, h4⟩ := h
  refine ⟨ho, h2.keep hc (fun g hg e => ?_) (fun k hk e => ?_), ha, h4.trans hc (fun i hi e => ?_)⟩
  · obtain ⟨us, hw, -⟩ := h2
    exact own_far hw h1 (by decide) hg e
  · have := (h1.lt k e).1; omega
  · have := (h1.lt i e).1; omega
set_option maxRecDepth 100000 in
set_option maxHeartbeats 4000000 in
theorem law_FrameAmong (A : Option Addr) (n c : Nat) (xss : List (List UInt8)) (B : Option Addr) (m d : Nat) (bss : List (List UInt8)) (w : World) (hA : BytesL w A n xss) (hc : n ≤ c) (hn : n ≤ 1048576) (hx : ∀ x ∈ xss, x.length ≤ 1048576) (hB : BytesL w B m bss) (hd : m ≤ d) (hm : m ≤ 1048576) (hy : ∀ x ∈ bss, x.length ≤ 1048576) :
    Calls Try.prog 6 #[.slice A n c, .slice B m d] w fun e w' => e = .returned (.bool true) ∧ Chg Pure' w w' := by
  go_enter Try.func6, Try.ntmps6
  go_wp2_with (fail)
  go_loopw [5, 6, 7, 17] (fun vb vw lo i wr => ∃ (k : Nat) (bs : List UInt8) (want : List (List UInt8)) (lost : Nat), k ≤ n ∧ i = .int .i64 k ∧ lo = .int .i64 lost ∧ bs.length ≤ bnd k ∧ want.length ≤ k ∧ Hid (Here w wr vb vw bs want lost)) (fun _ _ _ i _ => n - (intOf i).toNat)
  case atStart => exact ⟨0, [], [], 0, Nat.zero_le _, rfl, rfl, Nat.le_refl _, Nat.le_refl _, Lib.hid ⟨World.ownsRow_nil _ _ _ _, Wants.nil _ _, Among.nil, Chg.refl _ _⟩⟩
  case round =>
    obtain ⟨k, bs, want, lost, hk, rfl, rfl, hbl, hwl, HS⟩ := hrel
    by_cases hlt : k < n
    · have hlx := hA.len
      obtain ⟨b, off, rfl, -⟩ := hA.cells (by omega)
      have hkx : k < xss.length := by omega
      obtain ⟨Aj, nj, cj, e1, e2, e3⟩ := hA.at' hkx
      have C := HS.out.2.2.2
      have x1 := C.cell e1 (fun h => h)
      have b1 := e3.pure C
      have hxl : (xss[k]'hkx).length ≤ 1048576 := hx _ (List.getElem_mem hkx)
      have hj := e3.len
      rw [hj] at hxl
      have HLT : Hid (0 < nj → ∀ a, Aj = some a → a.block < w.heap.size) := Lib.hid (fun h => e3.lt' h)
      generalize xss[k] = x at *
      have E3 := Lib.hid e3
      have HJ := Lib.hid hj
      clear e1 e3 hkx hlx hj
      have hbl2 : bs.length ≤ 2199023255552 := by have := bnd_le hk hn; omega
      have HBL := Lib.hid hbl
      clear hbl
      go_wp2_with (fail)
      refine (fenc_any Aj nj cj x wr b1 e2 (by omega)).mono ?_
      rintro e w1 ⟨c1, h⟩
      have H1 : Here w w1 u5 u6 bs want lost := HS.out.out' c1.of_pure (own_keep HS.out.1 c1 (fun _ _ h => h)) HS.out.2.2.1
      rcases h with ⟨hbig, rfl⟩ | ⟨hsm, v, rfl, hv⟩
      · have H1 := Lib.hid H1
        clear HS C
        go_wp2
        go_roundw
        case rel => exact ⟨k + 1, bs, want, lost, by omega, by go_num, rfl, by have := HBL.out; have := bnd_succ k; omega, by omega, H1⟩
        case measure => simp [intOf]; omega
      · obtain ⟨Af, qf, rfl, -, hbf, -⟩ := Bytes.of_own hv
        have hxl2 : x.length = nj := HJ.out
        have hAm := H1.2.2.1.frame (l := x) (by omega)
        obtain ⟨vw2, w2, hr2, hw2, c2⟩ := H1.2.1.more (A := Aj) (l := x) (c := cj) (by rw [hxl2]; exact b1.pure c1) (by omega) (by rw [hxl2]; exact HLT.out) (by have := H1.2.2.2.size; omega) (by omega) rfl
        rw [hxl2] at hr2
        have H2b : w2.ownsRow w.heap.size 5 1 u5 bs.length (enc bs) := own_keep H1.1 c2 (fun g hg e => by
          obtain ⟨us, hw, -⟩ := H1.2.1
          exact own_far hw H1.1 (by decide) e hg)
        have C2 : Chg Pure' w w2 := H1.2.2.2.trans c2 (fun i hi e => by have := H1.2.1.own e; omega)
        have hbf2 : Bytes w2 Af (nj + 8) (frameB x) := hbf.chg' c2 (fun _ a ha e => by
          obtain ⟨us, hw, -⟩ := H1.2.1
          obtain ⟨A', c', e', -, -, h5⟩ := own_bytes hv
          cases e'
          rcases h5 with ⟨rfl, -⟩ | ⟨g, rfl, -, -⟩
          · cases ha
          · cases ha
            exact own_far hw hv (by decide) e rfl)
        obtain ⟨vb3, w3, hr3, ho3, c3⟩ := own_cat (c := qf) H2b hbf2 C2.size (by omega)
        have H3 : Here w w3 vb3 vw2 (bs ++ frameB x) (want ++ [x]) lost := by
          have hl : (bs ++ frameB x).length = bs.length + (nj + 8) := by rw [List.length_append, frameB_len, hxl2]
          refine ⟨by rw [hl]; exact ho3, hw2.keep c3 (fun g hg e => ?_) (fun k hk e => ?_), hAm, C2.trans c3 (fun i hi e => ?_)⟩
          · obtain ⟨us, hw, -⟩ := hw2
            exact own_far hw H2b (by decide) hg e
          · have := (H2b.lt k e).1; omega
          · have := (H2b.lt i e).1; omega
        have HS3 := Lib.hid H3
        have hb3 : (bs ++ frameB x).length ≤ bs.length + 1208 := by rw [List.length_append, frameB_len, hxl2]; omega
        have hw3 : (want ++ [x]).length ≤ k + 1 := by rw [List.length_append]; exact Nat.succ_le_succ hwl
        have HB3 := Lib.hid hb3
        have HW3 := Lib.hid hw3
        clear H3 hw2 H2b C2 c2 c3 ho3 hbf2 hbf hv hAm hb3 hw3 HS C H1
        generalize bs ++ frameB x = bs3 at *
        generalize want ++ [x] = want3 at *
        have tok1 : True := trivial
        by_cases hkm : k < m
        · have hly := hB.len
          obtain ⟨bb, boff, rfl, -⟩ := hB.cells (by omega)
          have hky : k < bss.length := by omega
          obtain ⟨Ab, nb, cb, f1, f2, f3⟩ := hB.at' hky
          have y1 := HS3.out.2.2.2.cell f1 (fun h => h)
          have hyl : (bss[k]'hky).length ≤ 1048576 := hy _ (List.getElem_mem hky)
          have hjb := f3.len
          rw [hjb] at hyl
          generalize bss[k] = y at *
          have F3 := Lib.hid f3
          have HJB := Lib.hid hjb
          have hkmi : (k : Int) < (m : Int) := by omega
          clear f1 f3 hky hly hjb
          go_wp2_with (first
            | (at_builtin; have _t := tok1; refine Lib.wpList_append_run _ rfl _ _ _ _ rfl _ _ rfl rfl _ _ hr2 ?_; clear tok1 hr2)
            | (at_builtin; refine Lib.wpList_append_run _ rfl _ _ _ _ rfl _ _ rfl rfl _ _ hr3 ?_; clear hr3)
            | fail)
          obtain ⟨wo, hwo⟩ : ∃ wo : World, wo = wr := ⟨_, rfl⟩
          clear hwo
          go_loopw [5, 7, 45] (fun vb lo j wr' => ∃ (t : Nat) (bs' : List UInt8) (lost' : Nat), t ≤ nb ∧ j = .int .i64 t ∧ lo = .int .i64 lost' ∧ bs'.length ≤ bs3.length + t ∧ Hid (Here w wr' vb vw2 bs' want3 lost')) (fun _ _ j _ => nb - (intOf j).toNat)
          case atStart => exact ⟨0, bs3, lost, Nat.zero_le _, rfl, rfl, Nat.le_refl _, HS3⟩
          case round =>
            obtain ⟨t, bs', lost', ht, rfl, rfl, hbl', HS'⟩ := hrel
            have hb3 := HB3.out
            by_cases htn : t < nb
            · have hyl2 := F3.out.len
              obtain ⟨yb, yoff, rfl, hyc⟩ := F3.out.cells (by omega)
              have hty : t < y.length := by omega
              have z1 := HS'.out.2.2.2.cell (hyc t hty) (fun h => h)
              generalize y[t] = z at *
              clear hyc hty hyl2
              by_cases hz : z = 165
              · have e0 := eq_u8 z 165 165 rfl hz
                clear hz
                go_wp2
                go_roundw
                case rel => exact ⟨t + 1, bs', lost', by omega, by go_num, rfl, by omega, HS'⟩
                case measure => simp [intOf]; omega
              · have e0 := neq_u8 z 165 165 rfl hz
                obtain ⟨vb6, w6, hr6, ho6, c6⟩ := own_push HS'.out.1 z HS'.out.2.2.2.size (by omega) rfl
                have H6 : Here w w6 vb6 vw2 (bs' ++ [z]) want3 (lost' + 1) := HS'.out.out' c6 (by rw [List.length_append]; exact ho6) (HS'.out.2.2.1.byte z hz)
                have hll := HS'.out.2.2.1.len
                have H6 := Lib.hid H6
                have hb6 : (bs' ++ [z]).length = bs'.length + 1 := by simp
                have HB6 := Lib.hid hb6
                clear hz HS' c6 ho6 hb6
                generalize bs' ++ [z] = bs6 at *
                have hll2 : lost' ≤ 2199023255552 + 2199023255552 := by omega
                clear hll
                go_wp2_with (first
                  | (at_builtin; refine Lib.wpList_append_run _ rfl _ _ _ _ rfl _ _ rfl rfl _ _ hr6 ?_; clear hr6)
                  | fail)
                go_roundw
                case rel => exact ⟨t + 1, bs6, lost' + 1, by omega, by go_num, by go_num, by rw [HB6.out]; omega, H6⟩
                case measure => simp [intOf]; omega
            · have htn2 : ((t : Int) < (nb : Int)) = False := eq_false (by omega)
              have hb4 : bs'.length ≤ bnd (k + 1) := by have := HBL.out; have := bnd_succ k; omega
              go_wp2
              go_roundw
              case rel => exact ⟨k + 1, bs', want3, lost', by omega, by go_num, rfl, hb4, HW3.out, HS'⟩
              case measure => simp [intOf]; omega
        · have hkmi : ((k : Int) < (m : Int)) = False := eq_false (by omega)
          have hkmi2 : (k < m) = False := eq_false (by omega)
          go_wp2_with (first
            | (at_builtin; have _t := tok1; refine Lib.wpList_append_run _ rfl _ _ _ _ rfl _ _ rfl rfl _ _ hr2 ?_; clear tok1 hr2)
            | (at_builtin; refine Lib.wpList_append_run _ rfl _ _ _ _ rfl _ _ rfl rfl _ _ hr3 ?_; clear hr3)
            | fail)
          go_roundw
          case rel => exact ⟨k + 1, bs3, want3, lost, by omega, by go_num, rfl, by have := HBL.out; have := HB3.out; have := bnd_succ k; omega, HW3.out, HS3⟩
          case measure => simp [intOf]; omega
    · have hkn : ((k : Int) < (n : Int)) = False := eq_false (by omega)
      have hbl2 : bs.length ≤ 2199023255552 := by have := bnd_le hk hn; omega
      obtain ⟨h1, h2, h3, h4⟩ := HS.out
      obtain ⟨Ab, qb, rfl, hqb, hbb, -⟩ := Bytes.of_own h1
      obtain ⟨Aw, qw, rfl⟩ := h2.val
      have hbw := h2.bl
      have H2 := Lib.hid h2
      clear h1 h2 HS hbl hwl
      go_wp2_with (fail)
      refine (fnew_any wr).mono ?_
      rintro e w2 ⟨rfl, hst, c2⟩
      have hb2 := hbb.pure c2
      have hw2 := hbw.pure c2
      have C2 := h4.pure c2
      have hplt := hst.plt
      have HPW := Lib.hid h4.size
      have HO2 := Lib.hid (fun k hk => (H2.out.own (k := k) hk).2)
      have H2' := Lib.hid (H2.out.keep c2 (fun _ _ h => h) (fun _ _ h => h))
      clear H2
      generalize wr.heap.size = ps at *
      clear c2 hbb hbw h4
      go_wp2_with (fail)
      refine (feed_any hst _ _ _ bs hb2 hqb (by simp only [List.length_nil]; omega) (by decide)).mono ?_
      rintro e w3 ⟨v3, q4, rfl, hq4, hl3, hst3, c3⟩
      rw [List.nil_append, h3.1] at hl3 hst3
      simp only [List.drop_length] at hst3
      have hlo : 0 + bs.length - sizeL want = lost := by have := h3.2; omega
      rw [hlo] at hst3
      simp only at hl3
      have hwl := h3.len
      obtain ⟨A4, d4, rfl, -⟩ := hl3.val
      have hb3 := hl3.bl
      have C3 : Chg Pure' w w3 := C2.trans c3 (fun i hi e => by have := HPW.out; omega)
      have hw3 : BytesL w3 Aw want.length want := (H2'.out.keep c3 (fun g hg e => by have := HO2.out g hg; omega) (fun k hk e => by have := HPW.out; omega)).bl
      clear hl3 hlo c3 C2 hst h3
      go_wp2_with (fail)
      refine (sames_any A4 want.length d4 want Aw want.length qw want w3 hb3 hw3 (by omega) (by omega) true (by simp)).mono ?_
      rintro e w4 ⟨rfl, c4⟩
      have hst4 := hst3.pure c4
      have C4 := C3.pure c4
      go_wp2_with (fail)
      refine (lost_any hst4).mono ?_
      rintro e w5 ⟨rfl, rfl⟩
      go_wp2_with (fail)
      refine (waits_any hst4).mono ?_
      rintro e w5 ⟨rfl, rfl⟩
      go_wp2_with (fail)
      refine (alive03 _).mono ?_
      rintro e w6 ⟨rfl, c6⟩
      go_wp2
      go_ret
      exact ⟨rfl, C4.pure c6⟩
end Go.Proofs.Ytemofjaonoofhaa
