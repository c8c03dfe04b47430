/- Package gantlineref20: Tick. -/
import Derived.Test.YtpfnphkgmjgmeaaSessM
namespace Go.Proofs.Ytpfnphkgmjgmeaa
open Go Go.RowKit
set_option linter.unusedVariables false
set_option linter.unusedSimpArgs false

theorem own_far {w : World} {B B' e e' s s' n n' : Nat} {v v' : Value} {us us' : List Value} (h : w.ownsRow B e s v n us) (h' : w.ownsRow B' e' s' v' n' us') (he : e ≠ e') {g : Nat} (hg : v.ownBlock = some g) : v'.ownBlock ≠ some g := by
  intro hg'
  rcases h.2 with ⟨rfl, -⟩ | ⟨b, cap, cur, rfl, -, hb, -⟩
  · cases hg
  · rcases h'.2 with ⟨rfl, -⟩ | ⟨b', cap', cur', rfl, -, hb', -⟩
    · cases hg'
    · simp only [Value.ownBlock, Option.some.injEq] at hg hg'
      rw [hg] at hb
      rw [hg', hb] at hb'
      injection hb' with hb'
      injection hb' with h1 h2
      exact he h2
theorem infoSes : (Try.prog.info? 75).map (fun i => (i.zero, i.size, i.bytes)) = some (some (.agg #[.int .u64 0, .int .i64 0, .int .i64 0, .int .i64 0]), 4, 32) := by kernel_rfl
/-- One number, or one session, behind a row of the call's own. -/
theorem push64 {w w1 : World} {B : Nat} {v : Value} {ts : List UInt64} (h : w.ownsRow B 29 1 v ts.length (ts.map u64v)) (t : UInt64) (hB : B ≤ w.heap.size) (hn : (ts.length + 1) * 8 ≤ 140737488355328) (h1 : w1 = w.alloc (.cells #[.int .u64 (t.toNat : Int)] 29)) :
    ∃ v' w', (Builtin.append_ #[22, 22] 22 #[v, .slice (some ⟨w.heap.size, 0, none⟩) 1 1]).run Try.prog w1 = .ok v' w' ∧ w'.ownsRow B 29 1 v' (ts ++ [t]).length ((ts ++ [t]).map u64v) ∧ Chg (fun k => v.ownBlock = some k) w w' ∧ (∀ k, v'.ownBlock = some k → v.ownBlock = some k ∨ w.heap.size ≤ k) := by
  subst h1
  have ca : Chg Pure' w (w.alloc (.cells #[.int .u64 (t.toNat : Int)] 29)) := (Chg.refl _ w).alloc _
  have hrow : Row (w.alloc (.cells #[.int .u64 (t.toNat : Int)] 29)) (some ⟨w.heap.size, 0, none⟩) [.int .u64 (t.toNat : Int)] := by
    refine ⟨fun _ => ⟨w.heap.size, 0, rfl, fun j x hx => ?_⟩⟩
    rw [Nat.zero_add, cellAt_alloc_lit, ← hx]
    simp
  have hr2 := own_keep h ca (fun _ _ h => h)
  obtain ⟨v6, w6, hr6, ho6, hg6, hb6⟩ := app_own (P := Try.prog) _ B 22 22 29 Try.underlying22 infoU64 rfl (by decide) _ _ _ hr2 _ 1 1 _ hrow rfl (by intro u hu; simp at hu; subst hu; rfl) (by decide) hn (by have := ca.size; omega)
  refine ⟨v6, w6, hr6, ?_, (Chg.of_pure ca).trans' ((Chg.refl _ _).grown hg6 (fun k hk => .inr hk)), fun k hk => (hb6 k hk).imp id (fun h => by have := ca.size; omega)⟩
  rw [List.length_append, List.map_append]
  exact ho6
theorem pushSe {w w1 : World} {B : Nat} {v : Value} {L : List Se} (h : w.ownsRow B 75 4 v L.length (rowCells L)) (x : Se) (hB : B ≤ w.heap.size) (hn : (L.length + 1) * 32 ≤ 140737488355328)
    (h1 : w1 = w.alloc (.cells #[.int .u64 (x.token.toNat : Int), .int .i64 x.epoch, .int .i64 x.format, .int .i64 x.last] 75)) :
    ∃ v' w', (Builtin.append_ #[40, 40] 40 #[v, .slice (some ⟨w.heap.size, 0, none⟩) 1 1]).run Try.prog w1 = .ok v' w' ∧ w'.ownsRow B 75 4 v' (L ++ [x]).length (rowCells (L ++ [x])) ∧ Chg (fun k => v.ownBlock = some k) w w' ∧ (∀ k, v'.ownBlock = some k → v.ownBlock = some k ∨ w.heap.size ≤ k) := by
  subst h1
  have ca : Chg Pure' w (w.alloc (.cells #[.int .u64 (x.token.toNat : Int), .int .i64 x.epoch, .int .i64 x.format, .int .i64 x.last] 75)) := (Chg.refl _ w).alloc _
  have hrow : Row (w.alloc (.cells #[.int .u64 (x.token.toNat : Int), .int .i64 x.epoch, .int .i64 x.format, .int .i64 x.last] 75)) (some ⟨w.heap.size, 0, none⟩) (seCells x) := by
    refine ⟨fun _ => ⟨w.heap.size, 0, rfl, fun j y hy => ?_⟩⟩
    rw [Nat.zero_add, cellAt_alloc_lit, ← hy]
    simp [seCells]
  have hr2 := own_keep h ca (fun _ _ h => h)
  obtain ⟨v6, w6, hr6, ho6, hg6, hb6⟩ := app_own (P := Try.prog) _ B 40 40 75 Try.underlying40 infoSes rfl (by decide) _ _ _ hr2 _ 1 1 _ hrow rfl (by intro u hu; simp [seCells] at hu; rcases hu with rfl | rfl | rfl | rfl <;> rfl) (by decide) hn (by have := ca.size; omega)
  refine ⟨v6, w6, hr6, ?_, (Chg.of_pure ca).trans' ((Chg.refl _ _).grown hg6 (fun k hk => .inr hk)), fun k hk => (hb6 k hk).imp id (fun h => by have := ca.size; omega)⟩
  rw [List.length_append, rowCells_append]
  have : rowCells [x] = seCells x := by simp [rowCells]
  rw [this]
  exact ho6
/-- The clock is set. -/
theorem RTab.setNow {w w' : World} {B p : Nat} {T : Tb} {us : List UInt64} {vL vU : Value} (h : RTab w B p T us vL vU) (n : Int) (hn : 0 ≤ n ∧ n ≤ 1099511627776) (e : w' = w.setCell ⟨p, 2, none⟩ (.int .i64 n)) : RTab w' B p { T with now := n } us vL vU ∧ Chg (fun k => k = p) w w' := by
  subst e
  have c : Chg (fun k => k = p) w (w.setCell ⟨p, 2, none⟩ (.int .i64 n)) := Chg.setCell (S := fun k => k = p) (Chg.refl _ w) (p := ⟨p, 2, none⟩) (.inr rfl) _
  obtain ⟨cs, b1⟩ := h.blk
  have hp := h.pB
  refine ⟨⟨⟨_, heap_setCell_same w p 2 _ 42 (.int .i64 n) b1⟩, ?_, ?_, ?_, ?_, ?_, own_keep h.rowL c (fun g hg e => by have := (h.rowL.lt g hg).1; omega), own_keep h.rowU c (fun g hg e => by have := (h.rowU.lt g hg).1; omega), h.uu, h.pB, hn, h.i2, h.l64, h.m64, h.ul, h.ep⟩, c⟩
  · rw [set_far (by decide)]; exact h.c0
  · rw [set_far (by decide)]; exact h.c1
  · exact set_at h.c2
  · rw [set_far (by decide)]; exact h.c3
  · rw [set_far (by decide)]; exact h.c4
/-- The list is set. -/
theorem RTab.setL {w w' : World} {B p : Nat} {T : Tb} {us : List UInt64} {vL vU vL' : Value} (h : RTab w B p T us vL vU) (L : List Se) (hr : w.ownsRow B 75 4 vL' L.length (rowCells L)) (hl : L.length ≤ 64) (hep : ∀ x ∈ L, 0 ≤ x.epoch ∧ x.epoch ≤ 4398046511104 ∧ 0 ≤ x.last ∧ x.last ≤ 1099511627776)
    (e : w' = w.setCell ⟨p, 3, none⟩ vL') : RTab w' B p { T with L := L } us vL' vU ∧ Chg (fun k => k = p) w w' := by
  subst e
  have c : Chg (fun k => k = p) w (w.setCell ⟨p, 3, none⟩ vL') := Chg.setCell (S := fun k => k = p) (Chg.refl _ w) (p := ⟨p, 3, none⟩) (.inr rfl) _
  obtain ⟨cs, b1⟩ := h.blk
  have hp := h.pB
  refine ⟨⟨⟨_, heap_setCell_same w p 3 _ 42 vL' b1⟩, ?_, ?_, ?_, ?_, ?_, own_keep hr c (fun g hg e => by have := (hr.lt g hg).1; omega), own_keep h.rowU c (fun g hg e => by have := (h.rowU.lt g hg).1; omega), h.uu, h.pB, h.n0, h.i2, hl, h.m64, h.ul, hep⟩, c⟩
  · rw [set_far (by decide)]; exact h.c0
  · rw [set_far (by decide)]; exact h.c1
  · rw [set_far (by decide)]; exact h.c2
  · exact set_at h.c3
  · rw [set_far (by decide)]; exact h.c4
/-- The rest of Tick: what the loop makes. -/
def endedK (n : Int) (idle : Nat) (L : List Se) (k : Nat) : List UInt64 := ((L.take k).filter fun x => overB n idle x).map (·.token)
def keptK (n : Int) (idle : Nat) (L : List Se) (k : Nat) : List Se := (L.take k).filter fun x => !overB n idle x
theorem endedK_succ (n : Int) (idle : Nat) (L : List Se) (k : Nat) (hk : k < L.length) : endedK n idle L (k + 1) = endedK n idle L k ++ (if overB n idle (L[k]'hk) then [(L[k]'hk).token] else []) := by
  unfold endedK
  rw [filter_snoc _ L k hk, List.map_append]
  split <;> simp
theorem keptK_succ (n : Int) (idle : Nat) (L : List Se) (k : Nat) (hk : k < L.length) : keptK n idle L (k + 1) = keptK n idle L k ++ (if overB n idle (L[k]'hk) then [] else [L[k]'hk]) := by
  unfold keptK
  rw [filter_snoc _ L k hk]
  cases overB n idle (L[k]'hk) <;> simp
theorem keptK_le (n : Int) (idle : Nat) (L : List Se) (k : Nat) : (keptK n idle L k).length ≤ L.length ∧ (endedK n idle L k).length ≤ L.length := by
  unfold keptK endedK
  constructor
  · exact Nat.le_trans (List.length_filter_le _ _) (by simp; omega)
  · rw [List.length_map]; exact Nat.le_trans (List.length_filter_le _ _) (by simp; omega)
/-- What Tick leaves. -/
def rtickPost (w : World) (B p : Nat) (T : Tb) (us : List UInt64) (vU : Value) (now : Int) (e : Ending) (w' : World) : Prop :=
  ∃ ve vL', e = .returned ve ∧ w'.ownsRow w.heap.size 29 1 ve (tickE T now).length ((tickE T now).map u64v) ∧ RTab w' B p (tickT T now) us vL' vU ∧ (∀ k, vL'.ownBlock = some k → w.heap.size ≤ k) ∧ Chg (fun k => k = p) w w'
set_option maxRecDepth 100000 in
set_option maxHeartbeats 4000000 in
theorem rtick_any {w : World} {B p : Nat} {T : Tb} {us : List UInt64} {vL vU : Value} (h : RTab w B p T us vL vU) (hB : B ≤ w.heap.size) (now : Int) :
    Calls Try.prog 23 #[.pointer (some ⟨p, 0, none⟩), .int .i64 now] w (rtickPost w B p T us vU now) := by
  obtain ⟨n1, hn1⟩ : ∃ n, tickNow T now = n := ⟨_, rfl⟩
  have hn0 := h.n0
  have h2 := h.c2
  have hfr : w.frozen? ⟨p, 2, none⟩ = false := by obtain ⟨cs, b1⟩ := h.blk; exact free_at b1
  have hN1 : 0 ≤ n1 ∧ n1 ≤ 1099511627776 := by rw [← hn1]; unfold tickNow; split <;> omega
  have hplt := h.plt
  have hvU := Lib.hid (fun k hk => (h.rowU.lt k hk).2)
  have hvL := Lib.hid (fun k hk => (h.rowL.lt k hk).2)
  have hE : tickE T now = endedK n1 T.idle T.L T.L.length := by unfold tickE endedK; rw [hn1, List.take_length]
  have hT : tickT T now = { T with now := n1, L := keptK n1 T.idle T.L T.L.length } := by unfold tickT keptK; rw [hn1, List.take_length]
  have HE := Lib.hid hE
  have HT := Lib.hid hT
  have H := Lib.hid h
  clear hE hT h
  go_enter Try.func23, Try.ntmps23
  rcases (show (0 ≤ now ∧ now ≤ 1099511627776 ∧ T.now < now) ∨ (0 ≤ now ∧ now ≤ 1099511627776 ∧ now ≤ T.now) ∨ (now < 0 ∨ 1099511627776 < now) from by omega) with hv | hv | hv
  case' inl =>
    obtain ⟨hv1, hv2, hgt⟩ := hv
    have e1 : n1 = now := by rw [← hn1]; unfold tickNow; rw [if_pos hv2]; omega
    obtain ⟨H5, c5⟩ := H.out.setNow now (by omega) rfl
    have H5 : Hid (RTab (w.setCell ⟨p, 2, none⟩ (.int .i64 now)) B p { T with now := n1 } us vL vU) := by rw [e1]; exact Lib.hid H5
    clear e1
    go_wp2_with (go_at_call 38; refine (rtime_yes _ _ hv1 hv2).mono ?_; rintro e w' ⟨rfl, rfl⟩)
    clear hgt hv1 hv2 h2 hn1 hfr H
  case' inr.inl =>
    obtain ⟨hv1, hv2, hgt⟩ := hv
    have e1 : n1 = T.now := by rw [← hn1]; unfold tickNow; rw [if_pos hv2]; omega
    have H5 : Hid (RTab w B p { T with now := n1 } us vL vU) := by rw [e1]; exact H
    have c5 : Chg (fun k => k = p) w w := Chg.refl _ _
    have hgt' : ¬ (T.now < now) := by omega
    clear e1 hn1
    go_wp2_with (go_at_call 38; refine (rtime_yes _ _ hv1 hv2).mono ?_; rintro e w' ⟨rfl, rfl⟩)
    clear hgt hgt' hv1 hv2 h2 hfr H
  case' inr.inr =>
    have e1 : n1 = T.now := by rw [← hn1]; unfold tickNow; split <;> omega
    have H5 : Hid (RTab w B p { T with now := n1 } us vL vU) := by rw [e1]; exact H
    have c5 : Chg (fun k => k = p) w w := Chg.refl _ _
    clear e1 hn1
    go_wp2_with (go_at_call 38; refine (rtime_no _ _ hv).mono ?_; rintro e w' ⟨rfl, rfl⟩)
    clear hv h2 hfr H
  all_goals
    go_loopw [5, 6, 7] (fun ve vl i wr => ∃ k : Nat, k ≤ T.L.length ∧ i = .int .i64 k ∧ Hid (wr.ownsRow w.heap.size 29 1 ve (endedK n1 T.idle T.L k).length ((endedK n1 T.idle T.L k).map u64v) ∧ wr.ownsRow w.heap.size 75 4 vl (keptK n1 T.idle T.L k).length (rowCells (keptK n1 T.idle T.L k)) ∧ RTab wr B p { T with now := n1 } us vL vU ∧ Chg (fun k => k = p) w wr)) (fun _ _ i _ => T.L.length - (intOf i).toNat)
    case atStart => exact ⟨0, Nat.zero_le _, rfl, Lib.hid ⟨World.ownsRow_nil _ _ _ _, World.ownsRow_nil _ _ _ _, H5.out, c5⟩⟩
    case round =>
      obtain ⟨k, hk, rfl, HS⟩ := hrel
      clear H5 c5
      have hl64 := HS.out.2.2.1.l64
      have hkl := keptK_le n1 T.idle T.L k
      obtain ⟨A, q, rfl, hq⟩ := HS.out.2.2.1.val
      have y1 := HS.out.2.2.1.c1
      have y2 := HS.out.2.2.1.c2
      have y3 := HS.out.2.2.1.c3
      have hidle := HS.out.2.2.1.i2
      by_cases hlt : k < T.L.length
      · obtain ⟨g, rfl, -, -, -, x0, x1, x2, x3, -⟩ := HS.out.2.2.1.at' hlt
        have hx := HS.out.2.2.1.ep _ (List.getElem_mem hlt)
        have hes := Lib.hid (endedK_succ n1 T.idle T.L k hlt)
        have hks := Lib.hid (keptK_succ n1 T.idle T.L k hlt)
        simp only at y1 y2 y3 x0 x1 x2 x3 hx hq
        generalize T.L[k] = x at *
        have t1 : (k : Int) < (T.L.length : Int) := by omega
        have t2 : k ≤ 64 := by simp only at hl64; omega
        have hl64' : T.L.length ≤ 64 := hl64
        clear hl64
        obtain ⟨N, hN⟩ : ∃ N, T.L.length = N := ⟨_, rfl⟩
        have HNN := Lib.hid hN
        rw [hN] at y3 t1 hkl hl64' hk ⊢
        clear hN hlt hq
        cases hov : overB n1 T.idle x with
        | true =>
          have hd : decide ((T.idle : Int) < n1 - x.last) = true := hov
          rw [hov, if_pos rfl] at hes
          rw [hov, if_pos rfl, List.append_nil] at hks
          have HES := Lib.hid hes.out
          have HKS := Lib.hid hks.out
          have hd2 : ((T.idle : Int) < n1 - x.last) = True := eq_true (by simpa using hd)
          clear hes hks hov
          go_wp2_with (fail)
          go_quiet (fail)
          have cd : Chg Pure' wr (wr.drewN nq) := (Chg.refl _ _).drewN _
          obtain ⟨v6, w6, hr6, ho6, c6, -⟩ := push64 (own_keep HS.out.1 cd (fun _ _ h => h)) x.token (HS.out.2.2.2.size) (by omega) rfl
          have z0 : (wr.drewN nq).cell? ⟨g, k * 4, none⟩ = some (.int .u64 (x.token.toNat : Int)) := x0
          have z3 : (wr.drewN nq).cell? ⟨p, 3, none⟩ = some (.slice (some ⟨g, 0, none⟩) N q) := y3
          have c7 := (cd.of_pure (S := fun k => u5.ownBlock = some k)).trans' c6
          have HN : Hid (w6.ownsRow w.heap.size 29 1 v6 (endedK n1 T.idle T.L (k + 1)).length ((endedK n1 T.idle T.L (k + 1)).map u64v) ∧ w6.ownsRow w.heap.size 75 4 u6 (keptK n1 T.idle T.L (k + 1)).length (rowCells (keptK n1 T.idle T.L (k + 1))) ∧ RTab w6 B p { T with now := n1 } us (.slice (some ⟨g, 0, none⟩) N q) vU ∧ Chg (fun k => k = p) w w6) := by
            have hge := fun k hk => (HS.out.1.lt k hk).1
            rw [HES.out, HKS.out, ← HNN.out]
            refine Lib.hid ⟨ho6, own_keep HS.out.2.1 c7 (fun g' hg' e => own_far HS.out.2.1 HS.out.1 (by decide) hg' e), HS.out.2.2.1.frame c7 (fun e => by have := hge _ e; omega) (fun k hk e => by have := hge _ e; have := hvL.out k hk; omega) (fun k hk e => by have := hge _ e; have := hvU.out k hk; omega), HS.out.2.2.2.trans c7 (fun i hi e => by have := hge _ e; omega)⟩
          clear HS c6 c7 ho6 HES HKS x0 x1 x2 x3 y1 y2 y3
          go_wp2_with (first
            | (at_builtin; refine Lib.wpList_append_run _ rfl _ _ _ _ rfl _ _ rfl rfl _ _ hr6 ?_; clear hr6)
            | fail)
          go_roundw
          case rel => exact ⟨k + 1, by omega, by go_num, HN⟩
          case measure => simp [intOf]; omega
        | false =>
          have hd : decide ((T.idle : Int) < n1 - x.last) = false := hov
          rw [hov, if_neg (by simp), List.append_nil] at hes
          rw [hov, if_neg (by simp)] at hks
          have HES := Lib.hid hes.out
          have HKS := Lib.hid hks.out
          have hd2 : ((T.idle : Int) < n1 - x.last) = False := eq_false (by simpa using hd)
          clear hes hks hov
          go_wp2_with (fail)
          go_quiet (fail)
          have cd : Chg Pure' wr (wr.drewN nq) := (Chg.refl _ _).drewN _
          obtain ⟨v6, w6, hr6, ho6, c6, -⟩ := pushSe (own_keep HS.out.2.1 cd (fun _ _ h => h)) x (HS.out.2.2.2.size) (by omega) rfl
          have z0 : (wr.drewN nq).cell? ⟨g, k * 4, none⟩ = some (.int .u64 (x.token.toNat : Int)) := x0
          have z1 : (wr.drewN nq).cell? ⟨g, k * 4 + 1, none⟩ = some (.int .i64 x.epoch) := x1
          have z2 : (wr.drewN nq).cell? ⟨g, k * 4 + 2, none⟩ = some (.int .i64 x.format) := x2
          have z5 : (wr.drewN nq).cell? ⟨g, k * 4 + 3, none⟩ = some (.int .i64 x.last) := x3
          have z3 : (wr.drewN nq).cell? ⟨p, 3, none⟩ = some (.slice (some ⟨g, 0, none⟩) N q) := y3
          have c7 := (cd.of_pure (S := fun k => u6.ownBlock = some k)).trans' c6
          have HN : Hid (w6.ownsRow w.heap.size 29 1 u5 (endedK n1 T.idle T.L (k + 1)).length ((endedK n1 T.idle T.L (k + 1)).map u64v) ∧ w6.ownsRow w.heap.size 75 4 v6 (keptK n1 T.idle T.L (k + 1)).length (rowCells (keptK n1 T.idle T.L (k + 1))) ∧ RTab w6 B p { T with now := n1 } us (.slice (some ⟨g, 0, none⟩) N q) vU ∧ Chg (fun k => k = p) w w6) := by
            have hge := fun k hk => (HS.out.2.1.lt k hk).1
            rw [HES.out, HKS.out, ← HNN.out]
            refine Lib.hid ⟨own_keep HS.out.1 c7 (fun g' hg' e => own_far HS.out.1 HS.out.2.1 (by decide) hg' e), ho6, HS.out.2.2.1.frame c7 (fun e => by have := hge _ e; omega) (fun k hk e => by have := hge _ e; have := hvL.out k hk; omega) (fun k hk e => by have := hge _ e; have := hvU.out k hk; omega), HS.out.2.2.2.trans c7 (fun i hi e => by have := hge _ e; omega)⟩
          clear HS c6 c7 ho6 HES HKS x0 x1 x2 x3 y1 y2 y3
          go_wp2_with (first
            | (at_builtin; refine Lib.wpList_append_run _ rfl _ _ _ _ rfl _ _ rfl rfl _ _ hr6 ?_; clear hr6)
            | fail)
          go_roundw
          case rel => exact ⟨k + 1, by omega, by go_num, HN⟩
          case measure => simp [intOf]; omega
      · have hkn : k = T.L.length := by omega
        have hknl : ((k : Int) < (T.L.length : Int)) = False := eq_false (by omega)
        have hfr3 : wr.frozen? ⟨p, 3, none⟩ = false := by obtain ⟨cs, b1⟩ := HS.out.2.2.1.blk; exact free_at b1
        obtain ⟨A6, q6, rfl, -⟩ := own_slice HS.out.2.1
        obtain ⟨h5, c5⟩ := HS.out.2.2.1.setL (keptK n1 T.idle T.L k) (World.ownsRow.low HS.out.2.1 hB) (by simp only at hl64; omega) (fun x hx => HS.out.2.2.1.ep x (List.mem_of_mem_take (List.mem_filter.1 hx).1)) rfl
        have hend : Hid (∀ w9, w9 = wr.setCell ⟨p, 3, none⟩ (.slice A6 (keptK n1 T.idle T.L k).length q6) → w9.ownsRow w.heap.size 29 1 u5 (tickE T now).length ((tickE T now).map u64v) ∧ RTab w9 B p (tickT T now) us (.slice A6 (keptK n1 T.idle T.L k).length q6) vU ∧ (∀ j, (Value.slice A6 (keptK n1 T.idle T.L k).length q6).ownBlock = some j → w.heap.size ≤ j) ∧ Chg (fun k => k = p) w w9) := by
          refine Lib.hid ?_
          rintro w9 rfl
          rw [HE.out, HT.out, ← hkn]
          exact ⟨own_keep HS.out.1 c5 (fun g hg e => by have := (HS.out.1.lt g hg).1; omega), h5, fun k hk => (HS.out.2.1.lt k hk).1, HS.out.2.2.2.trans' c5⟩
        simp only at y3
        clear HS h5 c5 hkn y1 y2 hl64
        go_wp2
        go_ret
        exact ⟨_, _, rfl, hend.out _ rfl⟩
end Go.Proofs.Ytpfnphkgmjgmeaa
