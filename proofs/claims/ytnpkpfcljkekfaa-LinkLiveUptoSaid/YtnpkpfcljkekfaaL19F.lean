/- The laws of layer 19, going on: fair rounds, and LinkLive. -/
import Derived.Test.YtnpkpfcljkekfaaL19E
namespace Go.Proofs.Ytnpkpfcljkekfaa
open Go Go.RowKit
set_option linter.unusedVariables false
set_option maxRecDepth 100000
set_option linter.unusedSimpArgs false

/-- What a fair round leaves as it is. -/
structure Kept (s s' : Lp) : Prop where
  cnt : s'.cnt = s.cnt
  epoch : s'.epoch = s.epoch
  sent : s'.sent = s.sent
theorem Kept.refl (s : Lp) : Kept s s := ⟨rfl, rfl, rfl⟩
theorem Kept.trans {a b c : Lp} (h : Kept a b) (k : Kept b c) : Kept a c := ⟨k.cnt.trans h.cnt, k.epoch.trans h.epoch, k.sent.trans h.sent⟩
theorem kept_of (s s' : Lp) (h1 : s'.cnt = s.cnt) (h2 : s'.epoch = s.epoch) (h3 : s'.sent = s.sent) : Kept s s' := ⟨h1, h2, h3⟩
theorem kept_tickA (s : Lp) (now : Nat) (Ls : List Ld) (G0 G1 : List (List UInt8 × Bool)) : Kept s { s with now := now, Ls := Ls, G0 := G0, G1 := G1 } ∧ ({ s with now := now, Ls := Ls, G0 := G0, G1 := G1 } : Lp).got = s.got := ⟨⟨rfl, rfl, rfl⟩, rfl⟩
theorem kept_tick (s : Lp) (h : s.now < 1099511627776) : Kept s (tickL s) ∧ (tickL s).got = s.got := by
  rw [tick_go (by omega)]
  exact kept_tickA s _ _ _ _
theorem kept_step0 (s : Lp) (b : List UInt8) : Kept s (step0 s b) ∧ (step0 s b).got = s.got := by
  obtain ⟨L, hL, -⟩ := came0_is { s with G0 := s.G0.eraseIdx 0 } (unpR b).1 (unpR b).2
  unfold step0
  rw [hL]
  exact ⟨⟨rfl, rfl, rfl⟩, rfl⟩
theorem kept_step1 (s : Lp) (b : List UInt8) (hs : SoonL s) (hf : Few s) : Kept s (step1 s b) ∧ (step1 s b).got = s.got := by
  obtain ⟨b1, l1, Ls, hL, -, -⟩ := came1_is { s with G1 := s.G1.eraseIdx 0 } (unpR b).1 (unpR b).2 hs hf
  unfold step1
  rw [hL]
  exact ⟨⟨rfl, rfl, rfl⟩, rfl⟩
theorem kept_poll (s : Lp) : Kept s (pollL s).2 := by
  obtain ⟨T, L, got, e⟩ := pollL_is s
  rw [e]
  exact ⟨rfl, rfl, rfl⟩
/-- Numbers that are far from the bounds, by those that stay. -/
structure Room0 (s : Lp) : Prop where
  cnt : s.cnt ≤ 4611686018427380000
  sent : s.sent ≤ 4611686018427380000
  epoch : s.epoch ≤ 4611686018427380000
theorem Room0.room {s s' : Lp} {S : List (List UInt8)} (h : Room0 s) (k : Kept s s') (g : Good s' S) : Room s' := by
  have h1 := h.cnt; have h2 := h.sent; have h3 := h.epoch; have h4 := k.cnt; have h5 := k.sent; have h6 := k.epoch; have h7 := g.ts; have h8 := g.got
  exact ⟨by omega, by omega, by omega, by omega, by omega⟩
theorem Room0.kept {s s' : Lp} (h : Room0 s) (k : Kept s s') : Room0 s' := by
  have h1 := h.cnt; have h2 := h.sent; have h3 := h.epoch; have h4 := k.cnt; have h5 := k.sent; have h6 := k.epoch
  exact ⟨by omega, by omega, by omega⟩
theorem Fit.framed {s : Lp} {S : List (List UInt8)} (h : Fit s S) : Framed s := by
  refine ⟨fun i b hi => ?_, fun i b hi => ?_⟩
  · obtain ⟨l, rfl⟩ := frame0 h.good h.near i b hi
    rw [frameB_len]; omega
  · obtain ⟨l, rfl⟩ := frame1 h.good h.near i b hi
    rw [frameB_len]; omega
/-- A link under a watcher's eyes is called. -/
theorem Watched.use {w0 w : World} {p q : Nat} {s : Lp} {S : List (List UInt8)} (h : Watched w0 w p q s S) :
    ∃ B, LinkIn w B p s ∧ w.cell? ⟨q, 0, none⟩ = some (.pointer (some ⟨p, 0, none⟩)) ∧ ∀ w' s', LinkIn w' B p s' → Chg (fun k => B.ok k) w w' → s'.got = s.got → Watched w0 w' p q s' S := by
  obtain ⟨B, v, cs, h1, h2, h3, h4, h5, h6, h7⟩ := h
  refine ⟨B, h1, h2.c0, fun w' s' hl hc hg => ⟨B, v, cs, hl, ?_, h3, h4, h5.trans hc (fun k hk h => by
    have h8 : B.n ≤ k := h.1
    omega), h6, h7⟩⟩
  rw [hg]
  exact h2.frame hc (fun h => h.2 h3) (fun k hk h => h.2 (h4 k hk).1)
theorem zero_act19 (w : World) : (zeroValue 49).run Try.prog w = .ok (.agg #[.int .i64 0, .int .i64 0, .int .i64 0, .int .i64 0, .int .u32 0, .slice none 0 0]) w := by kernel_rfl
theorem first_of {α : Type} {G : List (α × Bool)} {k : Nat} (h : G.length = k + 1) : ∃ b sp, G[0]? = some (b, sp) := by
  refine ⟨(G[0]'(by omega)).1, (G[0]'(by omega)).2, ?_⟩
  rw [List.getElem?_eq_getElem (by omega)]
/-- A poll under a watcher's eyes. -/
theorem lstep_poll {w0 w : World} {p q : Nat} {s : Lp} {S : List (List UInt8)} (h : Watched w0 w p q s S) (hf : Fit s S) (hr : Room s) (hS : (S.length + 1) * 24 ≤ 140737488355328) :
    Calls Try.prog 17 #[.pointer (some ⟨q, 0, none⟩), .agg #[.int .i64 1, .int .i64 0, .int .i64 0, .int .i64 0, .int .u32 0, .slice none 0 0]] w fun e w' => e = .returned (.bool true) ∧ Watched w0 w' p q (pollL s).2 S := by
  have hx := (good_poll hf.good).2
  have ha : actL s 1 0 0 0 0 [] = (((pollL s).1.getD [], (pollL s).1.isSome, 0), (pollL s).2) := by unfold actL; rw [if_neg (by decide), if_pos rfl]
  have hp : (pollL s).1 = none → (pollL s).2.got = s.got := by
    unfold pollL
    split
    · intro h; cases h
    · intro _; rfl
  refine (lstep_any h hr hf.framed hS 1 0 0 0 (by decide) 0 none 0 0 [] (Bytes.nil _ _) (Nat.le_refl _) (by decide) hf.good.got (fun _ h2 => ?_) (fun h2 => ?_)).mono ?_
  · rw [ha] at h2 ⊢
    simp only at h2 ⊢
    cases hq : (pollL s).1 with
    | none => rw [hq] at h2; cases h2
    | some y => exact hx y hq
  · rw [ha] at h2 ⊢
    simp only at h2 ⊢
    cases hq : (pollL s).1 with
    | none => exact hp hq
    | some y => simp [hq] at h2
  · rintro e w' ⟨rfl, h1, -⟩
    rw [ha, if_neg (fun h => by cases h.1)] at h1
    exact ⟨rfl, h1⟩
set_option maxHeartbeats 16000000 in
theorem lfair_any {w0 w : World} {p q r : Nat} {s : Lp} {S : List (List UInt8)} (h : Watched w0 w p q s S) (ho : Outer r S s) (hnow : s.now < 1099511627776) (hR : Room0 s) (hS : (S.length + 1) * 24 ≤ 140737488355328) :
    Calls Try.prog 21 #[.pointer (some ⟨q, 0, none⟩)] w fun e w' => e = .returned (.bool true) ∧ ∃ s', Watched w0 w' p q s' S ∧ Outer (r + 1) S s' ∧ s'.now = s.now + 1 ∧ Kept s s' := by
  have hza := zero_act19
  obtain ⟨D, hD, hI⟩ := outer_tick ho hnow
  obtain ⟨B, hL, y0, hU⟩ := h.use
  have hk1 := kept_tick s hnow
  have HT := Lib.hid (ltick_any hL (by have := (hR.room (Kept.refl s) ho.fit.good).T; omega))
  have HU := Lib.hid hU
  have HI := Lib.hid hI
  have HD := Lib.hid hD
  have HK1 := Lib.hid hk1
  have HR := Lib.hid hR
  obtain ⟨t, ht⟩ : ∃ t, s.now = t := ⟨_, rfl⟩
  rw [ht] at HI HD ⊢
  clear hL hU hI hD hk1 hR ho h hnow ht
  go_enter Try.func21, Try.ntmps21
  go_wp2_with (fail)
  refine HT.out.mono ?_
  rintro e w1 ⟨rfl, l1, c1⟩
  have H1 := Lib.hid (HU.out _ _ l1 c1 HK1.out.2)
  have K1 := Lib.hid HK1.out.1
  clear l1 c1 HT HU HK1 y0
  go_wp2_with (fail)
  go_loopw [10] (fun i wr => ∃ (j : Int) (s1 : Lp), i = .int .i64 j ∧ Hid (Watched w0 wr p q s1 S) ∧ Hid (Kept s s1) ∧ ((j = 0 ∧ Hid (In0 (1 ≤ r) D (t + 1) S s1.G0.length s1)) ∨ (j = 1 ∧ Hid (In1 (1 ≤ r) D (t + 1) S s1.G1.length s1)) ∨ (j = 2 ∧ Hid (In2 (1 ≤ r) D (t + 1) S 33 s1)))) (fun i _ => 2 - (intOf i).toNat)
  case atStart => exact ⟨0, tickL s, rfl, H1, K1, .inl ⟨rfl, HI⟩⟩
  case round =>
    clear H1 K1 HI
    obtain ⟨j, s1, rfl, H1, K1, hph⟩ := hrel
    rcases hph with ⟨rfl, HI⟩ | ⟨rfl, HI⟩ | ⟨rfl, HI⟩
    · obtain ⟨B1, hL1, y0, -⟩ := H1.out.use
      have HW := Lib.hid (lway0 hL1)
      clear hL1
      go_wp2_with (fail)
      refine HW.out.mono ?_
      rintro e w2 ⟨rfl, rfl⟩
      go_wp2_with (fail)
      go_loopw [4] (fun i w2 => ∃ (k : Nat) (s2 : Lp), i = .int .i64 k ∧ Hid (Watched w0 w2 p q s2 S) ∧ Hid (Kept s s2) ∧ Hid (In0 (1 ≤ r) D (t + 1) S k s2)) (fun i _ => (intOf i).toNat)
      case atStart => exact ⟨_, s1, rfl, H1, K1, HI⟩
      case round =>
        clear H1 K1 HI y0 HW
        obtain ⟨k, s2, rfl, H2, K2, HI⟩ := hrel
        cases k with
        | zero =>
          have HN := Lib.hid HI.out.done
          go_wp2
          go_roundw
          case rel => exact ⟨1, s2, by go_num, H2, K2, .inr (.inl ⟨rfl, HN⟩)⟩
          case measure => simp [intOf]
        | succ k =>
          obtain ⟨b, sp, hb⟩ := first_of HI.out.way
          obtain ⟨B2, hL2, y0, hU⟩ := H2.out.use
          have HDV := Lib.hid (ldeliver_in0 hL2 0 b sp hb (by have := (HR.out.room K2.out HI.out.fit.good).T; omega))
          have HN := Lib.hid (HI.out.step b sp hb)
          have HU := Lib.hid hU
          have HK := Lib.hid (kept_step0 s2 b)
          have i1 : (0 : Int) < ((k + 1 : Nat) : Int) := by omega
          have i2 : k ≤ 256 := by have := HI.out.way; have := HI.out.fit.good.l0; omega
          clear hL2 hU hb
          go_wp2_with (fail)
          refine HDV.out.mono ?_
          rintro e w3 ⟨rfl, l3, c3⟩
          have H3 := Lib.hid (HU.out _ _ l3 c3 HK.out.2)
          have K3 := Lib.hid (K2.out.trans HK.out.1)
          clear l3 c3 HU HDV HK y0 H2 K2 HI
          go_wp2
          go_roundw
          case rel => exact ⟨k, step0 s2 b, by go_num, H3, K3, HN⟩
          case measure => simp [intOf]
    · obtain ⟨B1, hL1, y0, -⟩ := H1.out.use
      have HW := Lib.hid (lway1 hL1)
      clear hL1
      go_wp2_with (fail)
      refine HW.out.mono ?_
      rintro e w2 ⟨rfl, rfl⟩
      go_wp2_with (fail)
      go_loopw [4] (fun i w2 => ∃ (k : Nat) (s2 : Lp), i = .int .i64 k ∧ Hid (Watched w0 w2 p q s2 S) ∧ Hid (Kept s s2) ∧ Hid (In1 (1 ≤ r) D (t + 1) S k s2)) (fun i _ => (intOf i).toNat)
      case atStart => exact ⟨_, s1, rfl, H1, K1, HI⟩
      case round =>
        clear H1 K1 HI y0 HW
        obtain ⟨k, s2, rfl, H2, K2, HI⟩ := hrel
        cases k with
        | zero =>
          have HN := Lib.hid HI.out.done
          go_wp2
          go_roundw
          case rel => exact ⟨2, s2, by go_num, H2, K2, .inr (.inr ⟨rfl, HN⟩)⟩
          case measure => simp [intOf]
        | succ k =>
          obtain ⟨b, sp, hb⟩ := first_of HI.out.way
          obtain ⟨B2, hL2, y0, hU⟩ := H2.out.use
          have HDV := Lib.hid (ldeliver_in1 hL2 0 b sp hb (by have := (HR.out.room K2.out HI.out.fit.good).T; omega))
          have HN := Lib.hid (HI.out.step b sp hb)
          have HU := Lib.hid hU
          have HK := Lib.hid (kept_step1 s2 b HI.out.fit.soon HI.out.fit.few)
          have i1 : (0 : Int) < ((k + 1 : Nat) : Int) := by omega
          have i2 : k ≤ 256 := by have := HI.out.way; have := HI.out.fit.good.l1; omega
          clear hL2 hU hb
          go_wp2_with (fail)
          refine HDV.out.mono ?_
          rintro e w3 ⟨rfl, l3, c3⟩
          have H3 := Lib.hid (HU.out _ _ l3 c3 HK.out.2)
          have K3 := Lib.hid (K2.out.trans HK.out.1)
          clear l3 c3 HU HDV HK y0 H2 K2 HI
          go_wp2
          go_roundw
          case rel => exact ⟨k, step1 s2 b, by go_num, H3, K3, HN⟩
          case measure => simp [intOf]
    · go_wp2_with (fail)
      go_loopw [30] (fun i w2 => ∃ (k : Nat) (s2 : Lp), k ≤ 33 ∧ i = .int .i64 k ∧ Hid (Watched w0 w2 p q s2 S) ∧ Hid (Kept s s2) ∧ Hid (In2 (1 ≤ r) D (t + 1) S (33 - k) s2)) (fun i _ => 33 - (intOf i).toNat)
      case atStart => exact ⟨0, s1, by omega, rfl, H1, K1, HI⟩
      case round =>
        clear H1 K1 HI
        obtain ⟨k, s2, hk, rfl, H2, K2, HI⟩ := hrel
        by_cases hlt : k < 33
        · have HSP := Lib.hid (lstep_poll H2.out HI.out.fit (HR.out.room K2.out HI.out.fit.good) hS)
          have HN : Hid (In2 (1 ≤ r) D (t + 1) S (33 - (k + 1)) (pollL s2).2) := Lib.hid (by
            have h1 := HI.out
            rw [show 33 - k = 33 - (k + 1) + 1 from by omega] at h1
            exact h1.step)
          have K3 := Lib.hid (K2.out.trans (kept_poll s2))
          have i1 : (k : Int) < 33 := by omega
          clear HI K2 H2
          go_wp2_with (fail)
          refine HSP.out.mono ?_
          rintro e w3 ⟨rfl, h3⟩
          have H3 := Lib.hid h3
          clear h3 HSP
          go_wp2
          go_roundw
          case rel => exact ⟨k + 1, (pollL s2).2, by omega, by go_num, H3, K3, HN⟩
          case measure => simp [intOf]; omega
        · obtain rfl : k = 33 := by omega
          go_wp2
          go_ret
          exact ⟨rfl, s2, H2.out, outer_next HI.out HD.out, HI.out.now, K2.out⟩
set_option maxHeartbeats 16000000 in
theorem law_LinkLive (a : Int) (token : UInt64) (A : Option Addr) (n c : Nat) (acts : List Act19) (w : World) (ha : -9223372036854775808 ≤ a ∧ a ≤ 9223372036854775807) (hA : Acts19 w A n acts) (hn : n * 64 ≤ 140737488351232) (hup : n ≤ 1048576) :
    Calls Try.prog 6 #[.int .i64 a, .int .u64 (token.toNat : Int), .slice A n c] w fun e w' => e = .returned (.bool true) ∧ Chg Pure' w w' := by
  by_cases hbad : a < 1 ∨ 32 < a
  · go_enter Try.func6, Try.ntmps6
    go_wp2_with (fail)
    refine (lnew_bad a token _ hbad).mono ?_
    rintro e w1 ⟨rfl, rfl⟩
    go_wp2_with (fail)
    refine (alive19 _).mono ?_
    rintro e w2 ⟨rfl, hg⟩
    go_wp2
    go_ret
    exact ⟨rfl, hg⟩
  · obtain ⟨W, rfl⟩ : ∃ W : Nat, a = W := ⟨a.toNat, by omega⟩
    have h1 : 1 ≤ W := by omega
    have h2 : W ≤ 32 := by omega
    have HAT := Lib.hid (at_new W token h1 h2)
    have HUP := Lib.hid hup
    have hzw := zero_watcher
    clear hbad ha
    go_enter Try.func6, Try.ntmps6
    go_wp2_with (fail)
    refine (lnew_ok W token _ h1 h2).mono ?_
    rintro e w1 ⟨p, rfl, g1, c1⟩
    go_wp2_with (fail)
    refine (alive19 _).mono ?_
    rintro e w2 ⟨rfl, c2⟩
    have HWN := Lib.hid (watched_new (g1.pure c2) rfl (c1.pure c2))
    clear g1 c1 c2
    go_wp2_with (fail)
    generalize w2.heap.size = q at *
    go_loopw [33] (fun i wr => ∃ (k : Nat) (s : Lp) (S : List (List UInt8)), k ≤ n ∧ i = .int .i64 k ∧ Hid (At k s S) ∧ Hid (s.W = W) ∧ Hid (Watched w wr p q s S)) (fun i _ => n - (intOf i).toNat)
    case atStart => exact ⟨0, newL W token, [], Nat.zero_le _, rfl, HAT, Lib.hid rfl, HWN⟩
    case round =>
      clear HAT HWN
      obtain ⟨k, s, S, hk, rfl, HT, HW, HG⟩ := hrel
      obtain ⟨-, -, -, -, -, -, -, HC, -, -⟩ := HG.out
      by_cases hlt : k < n
      · obtain ⟨b, off, rfl, hbl, hcell⟩ := hA.cells (by omega)
        have hkx : k < acts.length := by have := hA.len; omega
        have hx := hcell k hkx
        have hx1 := hx.pure HC
        generalize acts[k] = act at hx hx1
        obtain ⟨kind, net, ii, at_, by_, xs⟩ := act
        obtain ⟨-, -, -, -, -, ⟨Aj, nj, cj, e5, hle, hnj, hbj⟩, hat⟩ := hx
        obtain ⟨e0, e1, e2, e3, e4, -, -⟩ := hx1
        have e5 := HC.cell e5 (fun h => h)
        simp only at e0 e1 e2 e3 e4 hbj hat
        have ca : Chg Pure' wr (wr.alloc (.cells (actV kind net ii at_ by_ Aj nj cj) 49)) := (Chg.refl _ wr).alloc _
        have HD := Lib.hid (lstep_at (HG.out.pure ca) HT.out (by omega) kind net ii at_ hat by_ Aj nj cj xs hbj hle hnj HW.out)
        have bxc : ∀ j u, (actV kind net ii at_ by_ Aj nj cj)[j]? = some u → (wr.alloc (.cells (actV kind net ii at_ by_ Aj nj cj) 49)).cell? ⟨wr.heap.size, j, none⟩ = some u := fun j u hu => by rw [cellAt_alloc_lit]; exact hu
        have z0 := bxc 0 (.int .i64 kind) rfl
        have z1 := bxc 1 (.int .i64 net) rfl
        have z2 := bxc 2 (.int .i64 ii) rfl
        have z3 := bxc 3 (.int .i64 at_) rfl
        have z4 := bxc 4 (.int .u32 (by_.toNat : Int)) rfl
        have z5 := bxc 5 (.slice Aj nj cj) rfl
        clear ca HT HW HG HC hcell hbj bxc
        unfold actV at *
        go_wp2_with (fail)
        refine HD.out.mono ?_
        rintro e w3 ⟨rfl, c3, s', S', h3, t3, k3⟩
        have HT3 := Lib.hid t3
        have HK3 := Lib.hid k3
        have HG3 := Lib.hid h3
        clear c3 t3 k3 h3 HD z0 z1 z2 z3 z4 z5 e0 e1 e2 e3 e4 e5
        go_wp2
        go_roundw
        case rel => exact ⟨k + 1, s', S', by omega, by go_num, HT3, HK3, HG3⟩
        case measure => simp [intOf]; omega
      · obtain rfl : k = n := by omega
        have hfit := HT.out.fit (by omega)
        have HO0 : Hid (Outer 0 S s) := Lib.hid ⟨hfit, fun h => by omega, fun h => by omega, fun h => by omega⟩
        have hnow : s.now ≤ k := HT.out.now
        have hR : Room0 s := ⟨by have := HT.out.cnt; omega, by have := HT.out.sent; omega, by have := HT.out.epoch; omega⟩
        have hsl : S.length ≤ k := by have := hfit.good.sent; have := HT.out.sent; omega
        have HRR := Lib.hid hR
        have HNW := Lib.hid hnow
        have HSL := Lib.hid hsl
        clear HT hfit hnow hR hsl HC HW
        go_wp2_with (fail)
        go_loopw [41] (fun i w2 => ∃ (j : Nat) (s2 : Lp), j ≤ 66 ∧ i = .int .i64 j ∧ Hid (Watched w w2 p q s2 S) ∧ Hid (Kept s s2) ∧ Hid (Outer j S s2) ∧ Hid (s2.now = s.now + j)) (fun i _ => 66 - (intOf i).toNat)
        case atStart => exact ⟨0, s, by omega, rfl, HG, Lib.hid (Kept.refl s), HO0, Lib.hid rfl⟩
        case round =>
          clear HG HO0
          obtain ⟨j, s2, hj, rfl, H2, K2, O2, N2⟩ := hrel
          by_cases hjt : j < 66
          · obtain ⟨B2, hL2, y0, -⟩ := H2.out.use
            have HW0 := Lib.hid (lway0 hL2)
            have HW1 := Lib.hid (lway1 hL2)
            have hg := O2.out.fit.good
            have q0 : ((256 : Int) < (s2.G0.length : Int)) = False := eq_false (by have := hg.l0; omega)
            have q1 : ((256 : Int) < (s2.G1.length : Int)) = False := eq_false (by have := hg.l1; omega)
            have HFR := Lib.hid (lfair_any H2.out O2.out (by have := N2.out; have := HNW.out; have := HUP.out; omega) (HRR.out.kept K2.out) (by have := HSL.out; have := HUP.out; omega))
            have i1 : (j : Int) < 66 := by omega
            clear hL2 hg y0
            go_wp2_with (fail)
            refine HW0.out.mono ?_
            rintro e w3 ⟨rfl, rfl⟩
            go_wp2_with (fail)
            refine HW1.out.mono ?_
            rintro e w3 ⟨rfl, rfl⟩
            go_wp2_with (fail)
            refine HFR.out.mono ?_
            rintro e w3 ⟨rfl, s3, h3, o3, n3, k3⟩
            have H3 := Lib.hid h3
            have O3 := Lib.hid o3
            have K3 := Lib.hid (K2.out.trans k3)
            have N3 : Hid (s3.now = s.now + (j + 1)) := Lib.hid (by have := N2.out; omega)
            clear h3 o3 n3 k3 HFR HW0 HW1 H2 O2 K2 N2 q0 q1
            go_wp2
            go_roundw
            case rel => exact ⟨j + 1, s3, by omega, by go_num, H3, K3, O3, N3⟩
            case measure => simp [intOf]; omega
          · obtain rfl : j = 66 := by omega
            obtain ⟨a1, a2, a3⟩ := outer_all O2.out
            obtain ⟨B2, v2, cs2, l2, g2, -, -, C2, -, -⟩ := H2.out
            obtain ⟨V, qv, hv, -, -⟩ := own_slice g2.row
            subst hv
            have y1 := g2.c1
            have y2 := g2.c2
            rw [a1] at y2
            have HW0 := Lib.hid (lway0 l2)
            have HW1 := Lib.hid (lway1 l2)
            rw [a2] at HW0
            rw [a3] at HW1
            have HC2 := Lib.hid C2
            clear a1 a2 a3 l2 g2 C2 H2 O2 K2 N2
            generalize S.length = sl at *
            go_wp2_with (fail)
            refine HW0.out.mono ?_
            rintro e w3 ⟨rfl, rfl⟩
            go_wp2_with (fail)
            refine HW1.out.mono ?_
            rintro e w3 ⟨rfl, rfl⟩
            go_wp2
            go_ret
            exact ⟨rfl, HC2.out⟩
end Go.Proofs.Ytnpkpfcljkekfaa
