/- A walk over a tree (tree.walk), whatever it does at each node. -/
import Derived.Test.YtafpkecjicphoaaDoorTreeM
import Derived.Deep.Cut
namespace Go.Proofs.YtafpkecjicphoaaDoor
open Go Go.RowKit
set_option linter.unusedVariables false
set_option linter.unusedSimpArgs false
set_option maxRecDepth 100000

section
variable {σ : Type}
/-- What is asked of what is done at each node. -/
structure Visit (w0 : World) (st : σ → Tn → Nat → σ × Bool) (R : σ → Nat → Tn → Prop) (Inv : World → σ → Prop) (T : Nat → Prop) (F : FuncId) (caps : Array Value) : Prop where
  keep : ∀ w w' s, Inv w s → Chg Pure' w w' → Inv w' s
  new : ∀ k, T k → w0.heap.size ≤ k
  old : ∀ w s k, Inv w s → T k → k < w.heap.size
  enter : ∀ args w, (callFunc F args).run Tryd.prog w = .ok (.enter F args) w
  low : ∀ s d t, R s d t → d ≤ 1099511627776
  kids : ∀ s d t, R s d t → (st s t d).2 = true → ∀ x, x ∈ t.keys ∨ x ∈ t.kids → R (st s t d).1 (d + 1) x
  stay : ∀ s d t t' d', R s d t → R s d' t' → (st s t' d').2 = true → R (st s t' d').1 d t
  call : ∀ (t : Tn) (cs : Array Value) (d : Nat) (w : World) (s : σ), NodeAt w0 cs t → R s d t → Chg Pure' w0 w → Inv w s →
    Calls Tryd.prog F (#[.agg cs, .int .i64 (d : Nat)] ++ caps) w fun e w' => e = .returned (.bool (st s t d).2) ∧ Inv w' (st s t d).1 ∧ Chg T w w'
variable {w0 : World} {st : σ → Tn → Nat → σ × Bool} {R : σ → Nat → Tn → Prop} {Inv : World → σ → Prop} {T : Nat → Prop} {F : FuncId} {caps : Array Value}

theorem seqA_stay (h : Visit w0 st R Inv T F caps) {d : Nat} {t : Tn} : ∀ (l : List Tn) (d' : Nat) (s : σ), (∀ x ∈ l, ∀ s, R s d t → R s d' x → (actT st x d' s).2 = true → R (actT st x d' s).1 d t) → (∀ x ∈ l, ∀ y ∈ l, ∀ s, R s d' x → R s d' y → (actT st y d' s).2 = true → R (actT st y d' s).1 d' x) →
    R s d t → (∀ x ∈ l, R s d' x) → (seqA (l.map (actT st)) d' s).2 = true → R (seqA (l.map (actT st)) d' s).1 d t
  | [], d', s, _, _, h1, _, _ => h1
  | x :: l, d', s, hx, hy, h1, h2, h3 => by
    rw [List.map_cons, seqA] at h3 ⊢
    by_cases hg : (actT st x d' s).2 = true
    · rw [if_pos hg] at h3 ⊢
      exact seqA_stay h l d' _ (fun y hy => hx y (List.mem_cons_of_mem _ hy)) (fun a ha b hb => hy a (List.mem_cons_of_mem _ ha) b (List.mem_cons_of_mem _ hb)) (hx x (List.mem_cons_self ..) s h1 (h2 x (List.mem_cons_self ..)) hg)
        (fun y hyl => hy y (List.mem_cons_of_mem _ hyl) x (List.mem_cons_self ..) s (h2 y (List.mem_cons_of_mem _ hyl)) (h2 x (List.mem_cons_self ..)) hg) h3
    · rw [if_neg hg] at h3
      exact absurd h3 hg
theorem inter_map {α β : Type} (f : α → β) : ∀ (l m : List α), inter (l.map f) (m.map f) = (inter l m).map f
  | a :: l, b :: m => by rw [List.map_cons, List.map_cons, inter, inter, inter_map f l m]; rfl
  | [], m => by cases m <;> rfl
  | a :: l, [] => rfl
theorem inter_mem {α : Type} {x : α} : ∀ {l m : List α}, x ∈ inter l m → x ∈ l ∨ x ∈ m
  | a :: l, b :: m, h => by
    rw [inter] at h
    rcases List.mem_cons.1 h with rfl | h
    · exact .inl (List.mem_cons_self ..)
    · rcases List.mem_cons.1 h with rfl | h
      · exact .inr (List.mem_cons_self ..)
      · rcases inter_mem h with h | h
        · exact .inl (List.mem_cons_of_mem _ h)
        · exact .inr (List.mem_cons_of_mem _ h)
  | [], m, h => by cases m <;> cases h
  | a :: l, [], h => by cases h
/-- What a walk goes over behind a node. -/
def below (t : Tn) : List Tn := if t.kind = 8 ∧ t.keys.length = t.kids.length then inter t.keys t.kids else t.keys ++ t.kids
theorem below_mem {t x : Tn} (h : x ∈ below t) : x ∈ t.keys ∨ x ∈ t.kids := by
  unfold below at h
  split at h
  · exact inter_mem h
  · exact List.mem_append.1 h
theorem actT_eq (t : Tn) (d : Nat) (s : σ) : actT st t d s = if (st s t d).2 = true then seqA ((below t).map (actT st)) (d + 1) (st s t d).1 else st s t d := by
  cases t with
  | mk k n ng dg ex tx bs keys kids =>
    rw [actT, actL_map, actL_map]
    have e : (if k = 8 ∧ keys.length = kids.length then inter (keys.map (actT st)) (kids.map (actT st)) else keys.map (actT st) ++ kids.map (actT st)) = (below (.mk k n ng dg ex tx bs keys kids)).map (actT st) := by
      show _ = (if k = 8 ∧ keys.length = kids.length then inter keys kids else keys ++ kids).map (actT st)
      split
      · exact inter_map _ _ _
      · exact List.map_append.symm
    rw [e]
theorem actT_stay (h : Visit w0 st R Inv T F caps) : ∀ (n : Nat) (t' : Tn), sizeT t' ≤ n → ∀ (d d' : Nat) (t : Tn) (s : σ), R s d t → R s d' t' → (actT st t' d' s).2 = true → R (actT st t' d' s).1 d t := by
  intro n
  induction n with
  | zero => intro t' hn; have := sizeT_pos t'; omega
  | succ n ih =>
    intro t' hn d d' t s h1 h2 h3
    rw [actT_eq] at h3 ⊢
    by_cases hg : (st s t' d').2 = true
    · rw [if_pos hg] at h3 ⊢
      have hsz : ∀ x ∈ below t', sizeT x ≤ n := fun x hx => by
        rcases below_mem hx with hx | hx
        · have := size_key hx; omega
        · have := size_kid hx; omega
      exact seqA_stay h (below t') (d' + 1) _ (fun x hx s a b c => ih x (hsz x hx) d (d' + 1) t s a b c) (fun x hx y hy s a b c => ih y (hsz y hy) (d' + 1) (d' + 1) x s a b c) (h.stay s d t t' d' h1 h2 hg) (fun x hx => h.kids s d' t' h2 hg x (below_mem hx)) h3
    · rw [if_neg hg] at h3
      exact absurd h3 hg
theorem seqA_step (st : σ → Tn → Nat → σ × Bool) (x : Tn) (l : List Tn) (d : Nat) (s : σ) : seqA ((x :: l).map (actT st)) d s = if (actT st x d s).2 = true then seqA (l.map (actT st)) d (actT st x d s).1 else actT st x d s := by
  rw [List.map_cons, seqA]
theorem inter_drop {α : Type} : ∀ {l m : List α} {i : Nat} (h1 : i < l.length) (h2 : i < m.length), inter (l.drop i) (m.drop i) = l[i] :: m[i] :: inter (l.drop (i + 1)) (m.drop (i + 1))
  | a :: l, b :: m, 0, h1, h2 => by simp [inter]
  | a :: l, b :: m, i + 1, h1, h2 => by
    simp only [List.drop_succ_cons, List.getElem_cons_succ]
    exact inter_drop (by simpa using h1) (by simpa using h2)
  | [], m, i, h1, h2 => by simp at h1
  | a :: l, [], i, h1, h2 => by simp at h2
/-- An element of a row, cell by cell. -/
structure Elem9 (w : World) (b o : Nat) (t : Tn) (Ab : Option Addr) (cb : Nat) (Ak : Option Addr) (ck : Nat) (Ai : Option Addr) (ci : Nat) : Prop where
  c0 : w.cell? ⟨b, o, none⟩ = some (.int .i64 t.kind)
  c1 : w.cell? ⟨b, o + 1, none⟩ = some (.int .u64 (t.n.toNat : Int))
  c2 : w.cell? ⟨b, o + 2, none⟩ = some (.bool t.neg)
  c3 : w.cell? ⟨b, o + 3, none⟩ = some (.string ⟨t.dig.toArray⟩)
  c4 : w.cell? ⟨b, o + 4, none⟩ = some (.int .i64 t.exp)
  c5 : w.cell? ⟨b, o + 5, none⟩ = some (.string ⟨t.text.toArray⟩)
  c6 : w.cell? ⟨b, o + 6, none⟩ = some (.slice Ab t.bytes.length cb)
  c7 : w.cell? ⟨b, o + 7, none⟩ = some (.slice Ak t.keys.length ck)
  c8 : w.cell? ⟨b, o + 8, none⟩ = some (.slice Ai t.kids.length ci)
theorem ElemsAt.cells9 {w0 w : World} {A : Option Addr} {l : List Tn} (h : ElemsAt w0 A 0 l) (hc : Chg Pure' w0 w) (i : Nat) (hi : i < l.length) :
    ∃ b off Ab cb Ak ck Ai ci, A = some ⟨b, off, none⟩ ∧ b < w0.heap.size ∧ Elem9 w b (off + i * 9) l[i] Ab cb Ak ck Ai ci ∧ NodeAt w0 (nodeCells l[i] Ab cb Ak ck Ai ci) l[i] := by
  obtain ⟨b, off, cs, hA, hcell, hn⟩ := h.get i hi
  obtain ⟨Ab, cb, Ak, ck, Ai, ci, rfl, -⟩ := hn.out
  rw [Nat.zero_add] at hcell
  have g := fun k u hu => hc.cell (hcell k u hu) (fun h => h)
  exact ⟨b, off, Ab, cb, Ak, ck, Ai, ci, hA, World.block_lt_of_cell? w0 _ (hcell 0 _ rfl), ⟨g 0 _ rfl, g 1 _ rfl, g 2 _ rfl, g 3 _ rfl, g 4 _ rfl, g 5 _ rfl, g 6 _ rfl, g 7 _ rfl, g 8 _ rfl⟩, hn⟩
set_option maxHeartbeats 16000000 in
/-- tree.walk. -/
theorem walk_of (h : Visit w0 st R Inv T F caps) : ∀ (N : Nat) (t : Tn), sizeT t ≤ N → ∀ (cs : Array Value) (d : Nat) (w : World) (s : σ), NodeAt w0 cs t → R s d t → Chg Pure' w0 w → Inv w s →
    Calls Tryd.prog 16 #[.agg cs, .int .i64 (d : Nat), .func (.func F) #[] caps] w fun e w' => e = .returned (.bool (actT st t d s).2) ∧ Inv w' (actT st t d s).1 ∧ Chg T w w' := by
  intro N
  induction N with
  | zero => intro t hn; have := sizeT_pos t; omega
  | succ N ih =>
    intro t hn cs d w s ht hR hw hI
    have hd := h.low s d t hR
    have HS := Lib.hid (actT_eq (st := st) t d s)
    have HSZ : Hid (∀ x, x ∈ t.keys ∨ x ∈ t.kids → sizeT x ≤ N) := Lib.hid (fun x hx => by
      rcases hx with hx | hx
      · have := size_key hx; omega
      · have := size_kid hx; omega)
    obtain ⟨Ab, cb, Ak, ck, Ai, ci, rfl, hp, hk, hi⟩ := ht.out
    have HT0 := Lib.hid ht
    have ca : Chg Pure' w (w.alloc (.cells (nodeCells t Ab cb Ak ck Ai ci) 26)) := (Chg.refl _ _).alloc _
    have HC := Lib.hid (h.call t _ d _ s ht hR (hw.pure ca) (h.keep _ _ _ hI ca))
    have HK := Lib.hid (fun hg => h.kids s d t hR hg)
    have CA := Lib.hid ca
    have HOLD := Lib.hid (fun k hT => h.old w s k hI hT)
    have HH := Lib.hid h
    have HW := Lib.hid hw
    have HP := Lib.hid hp
    have HKE := Lib.hid hk
    have HIE := Lib.hid hi
    have lit := fun j => cellAt_alloc_lit w (nodeCells t Ab cb Ak ck Ai ci) 26 j
    have x0 : (w.alloc (.cells (nodeCells t Ab cb Ak ck Ai ci) 26)).cell? ⟨w.heap.size, 0, none⟩ = some (.int .i64 t.kind) := lit 0
    have x7 : (w.alloc (.cells (nodeCells t Ab cb Ak ck Ai ci) 26)).cell? ⟨w.heap.size, 7, none⟩ = some (.slice Ak t.keys.length ck) := lit 7
    have x8 : (w.alloc (.cells (nodeCells t Ab cb Ak ck Ai ci) 26)).cell? ⟨w.heap.size, 8, none⟩ = some (.slice Ai t.kids.length ci) := lit 8
    obtain ⟨⟨s1, g1⟩, hst⟩ : ∃ r, st s t d = r := ⟨_, rfl⟩
    rw [hst] at HC HS HK
    simp only at HC HS HK
    clear lit ca hI hw hp hk hi ht h hst hR hn
    unfold nodeCells at *
    go_enter Tryd.func16, Tryd.ntmps16
    go_wp2_with (fail)
    rw [HH.out.enter, Oper.upon_enter]
    refine HC.out.mono ?_
    rintro e w2 ⟨rfl, hI2, c2⟩
    have hbx : ¬ T w.heap.size := fun hT => Nat.lt_irrefl _ (HOLD.out _ hT)
    cases g1 with
    | false =>
      simp only [Bool.false_eq_true, if_false] at HS
      have C2 := Lib.hid ((Chg.of_pure CA.out).trans' c2)
      have HI2 := Lib.hid hI2
      clear hI2 c2 HC
      go_wp2
      go_ret
      rw [HS.out]
      exact ⟨rfl, HI2.out, C2.out⟩
    | true =>
      have y0 := c2.cell x0 hbx
      have y7 := c2.cell x7 hbx
      have y8 := c2.cell x8 hbx
      have HS2 : Hid (actT st t d s = seqA ((below t).map (actT st)) (d + 1) s1) := Lib.hid (by have := HS.out; simpa using this)
      have HR2 := Lib.hid (HK.out rfl)
      have HW2 := Lib.hid ((HW.out.pure CA.out).trans c2 (fun k hk hT => by have := HH.out.new k hT; omega))
      have C2 := Lib.hid ((Chg.of_pure (S := T) CA.out).trans' c2)
      have HI2 := Lib.hid hI2
      have hsz2 : w.heap.size < w2.heap.size := by have h1 := CA.out.size; have h2 := c2.size; simp at h1 h2; omega
      have HD1 : Hid (((d : Nat) : Int) + 1 = ((d + 1 : Nat) : Int)) := Lib.hid rfl
      have wd : wrap64 ((d : Int) + 1) = (d : Int) + 1 := by unfold wrap64; omega
      have REC : Hid (∀ (x : Tn), x ∈ t.keys ∨ x ∈ t.kids → ∀ (cs : Array Value) (wr : World) (s' : σ), NodeAt w0 cs x → R s' (d + 1) x → Chg Pure' w0 wr → Inv wr s' →
          Calls Tryd.prog 16 #[.agg cs, .int .i64 ((d : Int) + 1), .func (.func F) #[] caps] wr fun e w' => e = .returned (.bool (actT st x (d + 1) s').2) ∧ Inv w' (actT st x (d + 1) s').1 ∧ Chg T wr w') :=
        Lib.hid (fun x hx cs wr s' a b c e => ih x (HSZ.out x hx) cs (d + 1) wr s' a b c e)
      have STAY : Hid (∀ (x y : Tn) (s' : σ), R s' (d + 1) x → R s' (d + 1) y → (actT st y (d + 1) s').2 = true → R (actT st y (d + 1) s').1 (d + 1) x) :=
        Lib.hid (fun x y s' a b c => actT_stay HH.out (sizeT y) y (Nat.le_refl _) (d + 1) (d + 1) x s' a b c)
      have HN : Hid (∀ k, T k → w0.heap.size ≤ k) := Lib.hid HH.out.new
      have KEEP := Lib.hid HH.out.keep
      have hlk := HP.out.lk
      have hli := HP.out.li
      clear hI2 c2 HC HS HK x0 x7 x8 ih HSZ HW CA HH HP HT0
      by_cases hm : t.kind = 8 ∧ t.keys.length = t.kids.length
      · obtain ⟨hm8, hml⟩ := hm
        have hbel : below t = inter t.keys t.kids := by unfold below; rw [if_pos ⟨hm8, hml⟩]
        rw [hbel] at HS2
        rw [hm8] at y0
        obtain ⟨n, hn⟩ : ∃ n, t.keys.length = n := ⟨_, rfl⟩
        have hn2 : t.kids.length = n := by rw [← hml, hn]
        rw [hn] at y7 hlk
        rw [hn2] at y8
        have HNK := Lib.hid hn
        have HNI := Lib.hid hn2
        clear hm8 hml hbel hn hn2 hli
        go_wp2_with (fail)
        go_loopw [32] (fun i wr => ∃ (k : Nat) (s' : σ), k ≤ n ∧ i = .int .i64 k ∧ Hid (Inv wr s') ∧ Hid (Chg T w2 wr) ∧ Hid (seqA ((inter t.keys t.kids).map (actT st)) (d + 1) s1 = seqA ((inter (t.keys.drop k) (t.kids.drop k)).map (actT st)) (d + 1) s') ∧ Hid (∀ x, x ∈ t.keys ∨ x ∈ t.kids → R s' (d + 1) x)) (fun i _ => n - (intOf i).toNat)
        case atStart => exact ⟨0, s1, Nat.zero_le _, rfl, HI2, Lib.hid (Chg.refl _ _), Lib.hid rfl, HR2⟩
        case round =>
          clear HI2 HR2
          obtain ⟨k, s', hk, rfl, HI, HC, HSQ, HR⟩ := hrel
          have z7 := HC.out.cell y7 hbx
          have z8 := HC.out.cell y8 hbx
          by_cases hlt : k < n
          · have i1 : (k : Int) < (n : Int) := by omega
            have HWR := Lib.hid (HW2.out.trans HC.out (fun j hj hT => by have := HN.out j hT; omega))
            have hk1 : k < t.keys.length := by rw [HNK.out]; exact hlt
            have hk2 : k < t.kids.length := by rw [HNI.out]; exact hlt
            obtain ⟨b1, o1, Ab1, cb1, Ak1, ck1, Ai1, ci1, rfl, hb1, e1, n1⟩ := HKE.out.cells9 HWR.out k hk1
            obtain ⟨b2, o2, Ab2, cb2, Ak2, ck2, Ai2, ci2, rfl, hb2, e2, n2⟩ := HIE.out.cells9 HWR.out k hk2
            have hstep := HS2.out.trans HSQ.out
            rw [inter_drop hk1 hk2, seqA_step] at hstep
            have m1 : t.keys[k] ∈ t.keys := List.getElem_mem hk1
            have m2 : t.kids[k] ∈ t.kids := List.getElem_mem hk2
            generalize t.keys[k] = u at *
            generalize t.kids[k] = v at *
            have HC1 := Lib.hid (REC.out u (.inl m1) _ wr s' n1 (HR.out u (.inl m1)) HWR.out HI.out)
            have HR1 : Hid ((actT st u (d + 1) s').2 = true → ∀ x, x ∈ t.keys ∨ x ∈ t.kids → R (actT st u (d + 1) s').1 (d + 1) x) := Lib.hid (fun hg x hx => STAY.out x u s' (HR.out x hx) (HR.out u (.inl m1)) hg)
            obtain ⟨⟨s2, q1⟩, hq⟩ : ∃ r, actT st u (d + 1) s' = r := ⟨_, rfl⟩
            rw [hq] at HC1 HR1 hstep
            simp only at HC1 HR1 hstep
            obtain ⟨p0, p1, p2, p3, p4, p5, p6, p7, p8⟩ := e1
            obtain ⟨r0, r1, r2, r3, r4, r5, r6, r7, r8⟩ := e2
            have N2 := Lib.hid n2
            have HST := Lib.hid hstep
            have M2 := Lib.hid m2
            clear n1 n2 hstep hq HI HSQ HR m1 m2
            unfold nodeCells at HC1
            go_wp2_with (fail)
            refine HC1.out.mono ?_
            rintro e w3 ⟨rfl, hI3, c3⟩
            have nb2 : ¬ T b2 := fun hT => by have := HN.out b2 hT; omega
            have C3 := Lib.hid (C2.out.trans' (HC.out.trans' c3))
            cases q1 with
            | false =>
              simp only [Bool.false_eq_true, if_false] at HST
              have HI3 := Lib.hid hI3
              clear hI3 c3 HC1
              go_wp2
              go_ret
              rw [HST.out]
              exact ⟨rfl, HI3.out, C3.out⟩
            | true =>
              have HST2 : Hid (actT st t d s = seqA ((v :: inter (t.keys.drop (k + 1)) (t.kids.drop (k + 1))).map (actT st)) (d + 1) s2) := Lib.hid (by have := HST.out; simpa using this)
              have hstep := HST2.out
              rw [seqA_step] at hstep
              have HWR3 := Lib.hid (HWR.out.trans c3 (fun j hj hT => by have := HN.out j hT; omega))
              have hr3 := HR1.out rfl
              have HC2 := Lib.hid (REC.out v (.inr M2.out) _ w3 s2 N2.out (hr3 v (.inr M2.out)) HWR3.out hI3)
              have HR3 : Hid ((actT st v (d + 1) s2).2 = true → ∀ x, x ∈ t.keys ∨ x ∈ t.kids → R (actT st v (d + 1) s2).1 (d + 1) x) := Lib.hid (fun hg x hx => STAY.out x v s2 (hr3 x hx) (hr3 v (.inr M2.out)) hg)
              obtain ⟨⟨s3, q2⟩, hq⟩ : ∃ r, actT st v (d + 1) s2 = r := ⟨_, rfl⟩
              rw [hq] at HC2 HR3 hstep
              simp only at HC2 HR3 hstep
              have HST3 := Lib.hid hstep
              have z8' := c3.cell z8 hbx
              have g0 := c3.cell r0 nb2
              have g1 := c3.cell r1 nb2
              have g2 := c3.cell r2 nb2
              have g3 := c3.cell r3 nb2
              have g4 := c3.cell r4 nb2
              have g5 := c3.cell r5 nb2
              have g6 := c3.cell r6 nb2
              have g7 := c3.cell r7 nb2
              have g8 := c3.cell r8 nb2
              have HC3 := Lib.hid (HC.out.trans' c3)
              clear hstep hq hI3 hr3 c3 p0 p1 p2 p3 p4 p5 p6 p7 p8 r0 r1 r2 r3 r4 r5 r6 r7 r8 HC1 HR1 HST HC z7 z8
              unfold nodeCells at HC2
              go_wp2_with (fail)
              refine HC2.out.mono ?_
              rintro e w4 ⟨rfl, hI4, c4⟩
              have C4 := Lib.hid (C3.out.trans' c4)
              have HC4 := Lib.hid (HC3.out.trans' c4)
              have HI4 := Lib.hid hI4
              clear hI4 c4 HC2 g0 g1 g2 g3 g4 g5 g6 g7 g8 z8' C3
              cases q2 with
              | false =>
                simp only [Bool.false_eq_true, if_false] at HST3
                go_wp2
                go_ret
                rw [HST3.out]
                exact ⟨rfl, HI4.out, C4.out⟩
              | true =>
                have HR4 := Lib.hid (HR3.out rfl)
                have HST4 : Hid (seqA ((inter t.keys t.kids).map (actT st)) (d + 1) s1 = seqA ((inter (t.keys.drop (k + 1)) (t.kids.drop (k + 1))).map (actT st)) (d + 1) s3) := Lib.hid (by
                  have h1 := HST3.out
                  rw [HS2.out] at h1
                  simpa using h1)
                clear HR3 HST3 HST2
                go_wp2
                go_roundw
                case rel => exact ⟨k + 1, s3, by omega, by go_num, HI4, HC4, HST4, HR4⟩
                case measure => simp [intOf]; omega
          · obtain rfl : k = n := by omega
            have hend := HS2.out.trans HSQ.out
            rw [show t.keys.drop k = [] from List.drop_eq_nil_of_le (by rw [HNK.out]; omega)] at hend
            have hend2 : actT st t d s = (s', true) := by rw [hend]; cases t.kids.drop k <;> rfl
            have HE := Lib.hid hend2
            have C3 := Lib.hid (C2.out.trans' HC.out)
            clear hend hend2 HSQ HR
            go_wp2
            go_ret
            rw [HE.out]
            exact ⟨rfl, HI.out, C3.out⟩
      · have hq : (t.kind == 8) = false ∨ ((t.kind == 8) = true ∧ ((t.keys.length : Int) == (t.kids.length : Int)) = false) := by
          by_cases h8 : t.kind = 8
          · refine .inr ⟨by rw [h8]; rfl, ?_⟩
            rw [beq_eq_false_iff_ne]
            intro e
            exact hm ⟨h8, by omega⟩
          · exact .inl (by rw [beq_eq_false_iff_ne]; exact h8)
        have hbel : below t = t.keys ++ t.kids := by unfold below; rw [if_neg hm]
        rw [hbel] at HS2
        clear hm hbel
        have C3 : Hid (Chg T w (w2.alloc (.cells #[.slice Ak t.keys.length ck, .slice Ai t.kids.length ci] 24))) := Lib.hid (C2.out.alloc _)
        have HW3 : Hid (Chg Pure' w0 (w2.alloc (.cells #[.slice Ak t.keys.length ck, .slice Ai t.kids.length ci] 24))) := Lib.hid (HW2.out.alloc _)
        have lit := fun j => cellAt_alloc_lit w2 #[.slice Ak t.keys.length ck, .slice Ai t.kids.length ci] 24 j
        have L0 := lit 0
        have L1 := lit 1
        have HI3 := Lib.hid (KEEP.out _ _ _ HI2.out ((Chg.refl Pure' w2).alloc (.cells #[.slice Ak t.keys.length ck, .slice Ai t.kids.length ci] 24)))
        have hbl : ¬ T w2.heap.size := fun hT => by have := HOLD.out _ hT; omega
        obtain ⟨w3, hw3⟩ : ∃ w3, w2.alloc (.cells #[.slice Ak t.keys.length ck, .slice Ai t.kids.length ci] 24) = w3 := ⟨_, rfl⟩
        rw [hw3] at C3 HW3 L0 L1 HI3
        have L0 : w3.cell? ⟨w2.heap.size, 0, none⟩ = some (.slice Ak t.keys.length ck) := L0
        have L1 : w3.cell? ⟨w2.heap.size, 1, none⟩ = some (.slice Ai t.kids.length ci) := L1
        have HW3E := Lib.hid hw3
        clear lit hw3
        rcases hq with hq | ⟨hq, hq2⟩ <;> (
          go_upto_region 12 with (fail)
          try rw [HW3E.out]
          clear HW3E
          try clear hq2
          clear hq y0 y7 y8
          generalize w2.heap.size = lb at *
          go_loopw [64] (fun i wr => ∃ (j : Int) (s' : σ), i = .int .i64 j ∧ Hid (Inv wr s') ∧ Hid (Chg T w3 wr) ∧ Hid (∀ x, x ∈ t.keys ∨ x ∈ t.kids → R s' (d + 1) x) ∧ ((j = 0 ∧ Hid (actT st t d s = seqA ((t.keys ++ t.kids).map (actT st)) (d + 1) s')) ∨ (j = 1 ∧ Hid (actT st t d s = seqA (t.kids.map (actT st)) (d + 1) s')) ∨ (j = 2 ∧ Hid (actT st t d s = (s', true))))) (fun i _ => 2 - (intOf i).toNat)
          case atStart => exact ⟨0, s1, rfl, HI3, Lib.hid (Chg.refl _ _), HR2, .inl ⟨rfl, HS2⟩⟩
          case round =>
            clear HI3 HR2 HS2
            obtain ⟨j, s', rfl, HI, HC, HR, hph⟩ := hrel
            have v0 := HC.out.cell L0 hbl
            have v1 := HC.out.cell L1 hbl
            rcases hph with ⟨rfl, HSQ⟩ | ⟨rfl, HSQ⟩ | ⟨rfl, HSQ⟩
            · have hnb : t.keys.length ≤ 140737488351232 := hlk
              obtain ⟨n, hn⟩ : ∃ n, t.keys.length = n := ⟨_, rfl⟩
              rw [hn] at hnb v0
              have HNL := Lib.hid hn
              clear hn
              go_wp2_with (fail)
              go_loopw [70] (fun i wr2 => ∃ (k : Nat) (s2 : σ), k ≤ n ∧ i = .int .i64 k ∧ Hid (Inv wr2 s2) ∧ Hid (Chg T w3 wr2) ∧ Hid (actT st t d s = seqA ((t.keys.drop k ++ t.kids).map (actT st)) (d + 1) s2) ∧ Hid (∀ x, x ∈ t.keys ∨ x ∈ t.kids → R s2 (d + 1) x)) (fun i _ => n - (intOf i).toNat)
              case atStart => exact ⟨0, s', Nat.zero_le _, rfl, HI, HC, HSQ, HR⟩
              case round =>
                clear HI HC HSQ HR v0 v1
                obtain ⟨k, s2, hk, rfl, HI, HC, HSQ, HR⟩ := hrel
                by_cases hlt : k < n
                · have i1 : (k : Int) < (n : Int) := by omega
                  have HWR := Lib.hid (HW3.out.trans HC.out (fun j hj hT => by have := HN.out j hT; omega))
                  have hk1 : k < t.keys.length := by rw [HNL.out]; exact hlt
                  obtain ⟨b1, o1, Ab1, cb1, Ak1, ck1, Ai1, ci1, hA1, hb1, e1, n1⟩ := HKE.out.cells9 HWR.out k hk1
                  subst hA1
                  have hstep := HSQ.out
                  rw [show (t.keys.drop k ++ t.kids) = t.keys[k] :: (t.keys.drop (k + 1) ++ t.kids) from by rw [List.drop_eq_getElem_cons hk1]; rfl, seqA_step] at hstep
                  have m1 : t.keys[k] ∈ t.keys := List.getElem_mem hk1
                  generalize t.keys[k] = u at *
                  have ca := (Chg.refl Pure' wr).alloc (.cells (nodeCells u Ab1 cb1 Ak1 ck1 Ai1 ci1) 26)
                  have HC1 := Lib.hid (REC.out u (.inl m1) _ _ s2 n1 (HR.out u (.inl m1)) (HWR.out.pure ca) (KEEP.out _ _ _ HI.out ca))
                  have HR1 : Hid ((actT st u (d + 1) s2).2 = true → ∀ x, x ∈ t.keys ∨ x ∈ t.kids → R (actT st u (d + 1) s2).1 (d + 1) x) := Lib.hid (fun hg x hx => STAY.out x u s2 (HR.out x hx) (HR.out u (.inl m1)) hg)
                  obtain ⟨⟨s3, q1⟩, hq⟩ : ∃ r, actT st u (d + 1) s2 = r := ⟨_, rfl⟩
                  rw [hq] at HC1 HR1 hstep
                  simp only at HC1 HR1 hstep
                  obtain ⟨p0, p1, p2, p3, p4, p5, p6, p7, p8⟩ := e1
                  have HST := Lib.hid hstep
                  have CAA := Lib.hid (Chg.of_pure (S := T) ca)
                  clear n1 hstep hq HI HSQ HR m1 ca
                  unfold nodeCells at HC1 CAA
                  go_wp2_with (fail)
                  refine HC1.out.mono ?_
                  rintro e w4 ⟨rfl, hI4, c4⟩
                  have HC4 := Lib.hid (HC.out.trans' (CAA.out.trans' c4))
                  have C4 := Lib.hid (C3.out.trans' HC4.out)
                  have HI4 := Lib.hid hI4
                  clear hI4 c4 HC1 p0 p1 p2 p3 p4 p5 p6 p7 p8 CAA HC
                  cases q1 with
                  | false =>
                    simp only [Bool.false_eq_true, if_false] at HST
                    go_wp2
                    go_ret
                    rw [HST.out]
                    exact ⟨rfl, HI4.out, C4.out⟩
                  | true =>
                    have HR4 := Lib.hid (HR1.out rfl)
                    have HST4 : Hid (actT st t d s = seqA ((t.keys.drop (k + 1) ++ t.kids).map (actT st)) (d + 1) s3) := Lib.hid (by
                      have h1 := HST.out
                      simpa using h1)
                    clear HR1 HST
                    go_wp2
                    go_roundw
                    case rel => exact ⟨k + 1, s3, by omega, by go_num, HI4, HC4, HST4, HR4⟩
                    case measure => simp [intOf]; omega
                · obtain rfl : k = n := by omega
                  have hdr : t.keys.drop k = [] := List.drop_eq_nil_of_le (by rw [HNL.out]; omega)
                  have HST4 : Hid (actT st t d s = seqA (t.kids.map (actT st)) (d + 1) s2) := Lib.hid (by
                    have h1 := HSQ.out
                    rw [hdr] at h1
                    exact h1)
                  clear HSQ hdr
                  go_wp2
                  go_roundw
                  case rel => exact ⟨1, s2, by go_num, HI, HC, HR, .inr (.inl ⟨rfl, HST4⟩)⟩
                  case measure => simp [intOf]
            · have hnb : t.kids.length ≤ 140737488351232 := hli
              obtain ⟨n, hn⟩ : ∃ n, t.kids.length = n := ⟨_, rfl⟩
              rw [hn] at hnb v1
              have HNL := Lib.hid hn
              clear hn
              go_wp2_with (fail)
              go_loopw [70] (fun i wr2 => ∃ (k : Nat) (s2 : σ), k ≤ n ∧ i = .int .i64 k ∧ Hid (Inv wr2 s2) ∧ Hid (Chg T w3 wr2) ∧ Hid (actT st t d s = seqA ((t.kids.drop k).map (actT st)) (d + 1) s2) ∧ Hid (∀ x, x ∈ t.keys ∨ x ∈ t.kids → R s2 (d + 1) x)) (fun i _ => n - (intOf i).toNat)
              case atStart => exact ⟨0, s', Nat.zero_le _, rfl, HI, HC, HSQ, HR⟩
              case round =>
                clear HI HC HSQ HR v0 v1
                obtain ⟨k, s2, hk, rfl, HI, HC, HSQ, HR⟩ := hrel
                by_cases hlt : k < n
                · have i1 : (k : Int) < (n : Int) := by omega
                  have HWR := Lib.hid (HW3.out.trans HC.out (fun j hj hT => by have := HN.out j hT; omega))
                  have hk1 : k < t.kids.length := by rw [HNL.out]; exact hlt
                  obtain ⟨b1, o1, Ab1, cb1, Ak1, ck1, Ai1, ci1, hA1, hb1, e1, n1⟩ := HIE.out.cells9 HWR.out k hk1
                  subst hA1
                  have hstep := HSQ.out
                  rw [show (t.kids.drop k) = t.kids[k] :: (t.kids.drop (k + 1)) from by rw [List.drop_eq_getElem_cons hk1], seqA_step] at hstep
                  have m1 : t.kids[k] ∈ t.kids := List.getElem_mem hk1
                  generalize t.kids[k] = u at *
                  have ca := (Chg.refl Pure' wr).alloc (.cells (nodeCells u Ab1 cb1 Ak1 ck1 Ai1 ci1) 26)
                  have HC1 := Lib.hid (REC.out u (.inr m1) _ _ s2 n1 (HR.out u (.inr m1)) (HWR.out.pure ca) (KEEP.out _ _ _ HI.out ca))
                  have HR1 : Hid ((actT st u (d + 1) s2).2 = true → ∀ x, x ∈ t.keys ∨ x ∈ t.kids → R (actT st u (d + 1) s2).1 (d + 1) x) := Lib.hid (fun hg x hx => STAY.out x u s2 (HR.out x hx) (HR.out u (.inr m1)) hg)
                  obtain ⟨⟨s3, q1⟩, hq⟩ : ∃ r, actT st u (d + 1) s2 = r := ⟨_, rfl⟩
                  rw [hq] at HC1 HR1 hstep
                  simp only at HC1 HR1 hstep
                  obtain ⟨p0, p1, p2, p3, p4, p5, p6, p7, p8⟩ := e1
                  have HST := Lib.hid hstep
                  have CAA := Lib.hid (Chg.of_pure (S := T) ca)
                  clear n1 hstep hq HI HSQ HR m1 ca
                  unfold nodeCells at HC1 CAA
                  go_wp2_with (fail)
                  refine HC1.out.mono ?_
                  rintro e w4 ⟨rfl, hI4, c4⟩
                  have HC4 := Lib.hid (HC.out.trans' (CAA.out.trans' c4))
                  have C4 := Lib.hid (C3.out.trans' HC4.out)
                  have HI4 := Lib.hid hI4
                  clear hI4 c4 HC1 p0 p1 p2 p3 p4 p5 p6 p7 p8 CAA HC
                  cases q1 with
                  | false =>
                    simp only [Bool.false_eq_true, if_false] at HST
                    go_wp2
                    go_ret
                    rw [HST.out]
                    exact ⟨rfl, HI4.out, C4.out⟩
                  | true =>
                    have HR4 := Lib.hid (HR1.out rfl)
                    have HST4 : Hid (actT st t d s = seqA ((t.kids.drop (k + 1)).map (actT st)) (d + 1) s3) := Lib.hid (by
                      have h1 := HST.out
                      simpa using h1)
                    clear HR1 HST
                    go_wp2
                    go_roundw
                    case rel => exact ⟨k + 1, s3, by omega, by go_num, HI4, HC4, HST4, HR4⟩
                    case measure => simp [intOf]; omega
                · obtain rfl : k = n := by omega
                  have hdr : t.kids.drop k = [] := List.drop_eq_nil_of_le (by rw [HNL.out]; omega)
                  have HST4 : Hid (actT st t d s = (s2, true)) := Lib.hid (by
                    have h1 := HSQ.out
                    rw [hdr] at h1
                    rw [h1]; rfl)
                  clear HSQ hdr
                  go_wp2
                  go_roundw
                  case rel => exact ⟨2, s2, by go_num, HI, HC, HR, .inr (.inr ⟨rfl, HST4⟩)⟩
                  case measure => simp [intOf]
            · have C4 := Lib.hid (C3.out.trans' HC.out)
              go_wp2
              go_ret
              rw [HSQ.out]
              exact ⟨rfl, HI.out, C4.out⟩)
end
end Go.Proofs.YtafpkecjicphoaaDoor
