/- The laws of layer 19, going on: scripts, and LinkBounds. -/
import Derived.Test.YtnpkpfcljkekfaaKI
import Derived.Test.YtnpkpfcljkekfaaL19
namespace Go.Proofs.Ytnpkpfcljkekfaa
open Go Go.RowKit
set_option linter.unusedVariables false
set_option maxRecDepth 100000
set_option linter.unusedSimpArgs false

/-- One call of a script. -/
structure Act19 where
  kind : Int
  net : Int
  i : Int
  at_ : Int
  b : UInt32
  xs : List UInt8
/-- A call of a script lies in memory. -/
structure ActAt (w : World) (b off : Nat) (x : Act19) : Prop where
  c0 : w.cell? ⟨b, off, none⟩ = some (.int .i64 x.kind)
  c1 : w.cell? ⟨b, off + 1, none⟩ = some (.int .i64 x.net)
  c2 : w.cell? ⟨b, off + 2, none⟩ = some (.int .i64 x.i)
  c3 : w.cell? ⟨b, off + 3, none⟩ = some (.int .i64 x.at_)
  c4 : w.cell? ⟨b, off + 4, none⟩ = some (.int .u32 (x.b.toNat : Int))
  c5 : ∃ A n c, w.cell? ⟨b, off + 5, none⟩ = some (.slice A n c) ∧ n ≤ c ∧ n ≤ 140737488351232 ∧ Bytes w A n x.xs
  at_ : -9223372036854775808 ≤ x.at_ ∧ x.at_ ≤ 9223372036854775807
/-- A script that came in. -/
structure Acts19 (w : World) (A : Option Addr) (n : Nat) (acts : List Act19) : Prop where
  len : acts.length = n
  cells : 0 < n → ∃ b off, A = some ⟨b, off, none⟩ ∧ b < w.heap.size ∧ ∀ j (h : j < acts.length), ActAt w b (off + j * 6) (acts[j]'h)
theorem ActAt.pure {w w' : World} {b off : Nat} {x : Act19} (h : ActAt w b off x) (hc : Chg Pure' w w') : ActAt w' b off x := by
  obtain ⟨A, n, c, h1, h2, h3, h4⟩ := h.c5
  exact ⟨hc.cell h.c0 (fun h => h), hc.cell h.c1 (fun h => h), hc.cell h.c2 (fun h => h), hc.cell h.c3 (fun h => h), hc.cell h.c4 (fun h => h), ⟨A, n, c, hc.cell h1 (fun h => h), h2, h3, h4.pure hc⟩, h.at_⟩
theorem At.room {N : Nat} {s : Lp} {S : List (List UInt8)} (h : At N s S) (hN : N ≤ 4611686018427380000 - 1) : Room s := by
  have h1 := h.sent; have h2 := h.cnt; have h3 := h.epoch; have h4 := h.good.ts; have h5 := h.good.got
  exact ⟨by omega, by omega, by omega, by omega, by omega⟩
theorem up_own {w w1 w2 : World} (h : Chg Pure' w w1) (k : Chg (fun i => (Base.of w.heap.size).ok i) w1 w2) : Chg Pure' w w2 := h.trans k (fun i h1 h2 => by have h3 : w.heap.size ≤ i := h2.1; omega)
set_option maxHeartbeats 8000000 in
theorem law_LinkBounds (a : Int) (token : UInt64) (A : Option Addr) (n c : Nat) (acts : List Act19) (w : World) (ha : -9223372036854775808 ≤ a ∧ a ≤ 9223372036854775807) (hA : Acts19 w A n acts) (hn : n * 64 ≤ 140737488351232) :
    Calls Try.prog 7 #[.int .i64 a, .int .u64 (token.toNat : Int), .slice A n c] w fun e w' => e = .returned (.bool true) ∧ Chg Pure' w w' := by
  by_cases hbad : a < 1 ∨ 32 < a
  · go_enter Try.func7, Try.ntmps7
    go_wp2_with (fail)
    refine (lnew_bad a token _ hbad).mono ?_
    rintro e w1 ⟨rfl, rfl⟩
    go_wp2_with (fail)
    refine (alive19 _).mono ?_
    rintro e w2 ⟨rfl, hg⟩
    go_wp2
    go_ret
    exact ⟨rfl, hg⟩
  · obtain ⟨W, rfl⟩ : ∃ W : Nat, a = W := ⟨a.toNat, by omega⟩
    have h1 : 1 ≤ W := by omega
    have h2 : W ≤ 32 := by omega
    have HAT := Lib.hid (at_new W token h1 h2)
    clear hbad ha
    go_enter Try.func7, Try.ntmps7
    go_wp2_with (fail)
    refine (lnew_ok W token _ h1 h2).mono ?_
    rintro e w1 ⟨p, rfl, g1, c1⟩
    go_wp2_with (fail)
    refine (alive19 _).mono ?_
    rintro e w2 ⟨rfl, c2⟩
    have G2 := Lib.hid (g1.pure c2)
    have C2 := Lib.hid (c1.pure c2)
    clear g1 c1 c2
    go_wp2_with (fail)
    go_loopw [30] (fun i wr => ∃ (k : Nat) (s : Lp) (S : List (List UInt8)), k ≤ n ∧ i = .int .i64 k ∧ Hid (At k s S) ∧ Hid (s.W = W) ∧ Hid (LinkIn wr (.of w.heap.size) p s) ∧ Hid (Chg Pure' w wr)) (fun i _ => n - (intOf i).toNat)
    case atStart => exact ⟨0, newL W token, [], Nat.zero_le _, rfl, HAT, Lib.hid rfl, G2, C2⟩
    case round =>
      clear HAT G2 C2
      obtain ⟨k, s, S, hk, rfl, HT, HW, HG, HC⟩ := hrel
      by_cases hlt : k < n
      · obtain ⟨b, off, rfl, hbl, hcell⟩ := hA.cells (by omega)
        have hkx : k < acts.length := by have := hA.len; omega
        have hx := (hcell k hkx).pure HC.out
        generalize acts[k] = act at hx
        obtain ⟨kind, net, ii, at_, by_, xs⟩ := act
        obtain ⟨e0, e1, e2, e3, e4, ⟨Aj, nj, cj, e5, hle, hnj, hbj⟩, hat⟩ := hx
        simp only at e0 e1 e2 e3 e4 hbj hat
        have ca : Chg Pure' wr (wr.alloc (.cells (actV kind net ii at_ by_ Aj nj cj) 49)) := (Chg.refl _ wr).alloc _
        have hroom := HT.out.room (by omega)
        have hfr := HT.out.framed (by omega)
        have hdid := did_act HT.out (by omega) kind net ii at_ by_ xs
        have HD := Lib.hid (ldoes_any (HG.out.pure ca) hroom kind net ii at_ hat by_ hfr Aj nj cj xs (hbj.pure ca) hle hnj)
        have CA := Lib.hid (HC.out.pure ca)
        obtain ⟨⟨⟨r1, r2, r3⟩, s'⟩, hr⟩ : ∃ r, actL s kind net ii at_ by_ xs = r := ⟨_, rfl⟩
        rw [hr] at hdid HD
        simp only at hdid
        have HS' := Lib.hid hdid.at'
        have HW' := Lib.hid (hdid.W.trans HW.out)
        clear hdid hr hroom hfr ca HT HW HG HC hcell hbj
        unfold actV at HD CA
        go_wp2_with (fail)
        refine HD.out.mono ?_
        rintro e w3 ⟨g3, c3, A3, n3, q3, rfl, -, -, -⟩
        have C3 := Lib.hid (up_own CA.out c3)
        have HQ := Lib.hid (lheld_any g3)
        have HSE := Lib.hid (lsent_any g3)
        have HGO := Lib.hid (lgot_any g3)
        have HW0 := Lib.hid (lway0 g3)
        have HW1 := Lib.hid (lway1 g3)
        have G3 := Lib.hid g3
        have q1 : s'.L.countP (·.isSome) ≤ W := by
          have := List.countP_le_length (p := fun x : Option (List UInt8) => x.isSome) (l := s'.L)
          have := HS'.out.good.len
          have := HW'.out
          omega
        have q2 : s'.got ≤ s'.sent := by have := HS'.out.good.ts; have := HS'.out.good.got; omega
        have q3 : s'.sent ≤ s'.got + W := by have := HS'.out.good.sw; have := HS'.out.good.got; have := HW'.out; omega
        have q4 := HS'.out.good.l0
        have q5 := HS'.out.good.l1
        have q6 : s'.sent ≤ k + 1 := HS'.out.sent
        clear g3 c3 CA HD
        simp only at HQ HSE HGO HW0 HW1 G3
        generalize List.countP (fun x : Option (List UInt8) => x.isSome) s'.L = v1 at *
        generalize s'.sent = v2 at *
        generalize s'.got = v3 at *
        generalize s'.G0.length = v4 at *
        generalize s'.G1.length = v5 at *
        have j1 : ((v1 : Int) < 0) = False := eq_false (by omega)
        have j2 : ((W : Int) < (v1 : Int)) = False := eq_false (by omega)
        have j3 : wrap64 ((v2 : Int) - (v3 : Int)) = (v2 : Int) - (v3 : Int) := by unfold wrap64; omega
        have j4 : ((W : Int) < (v2 : Int) - (v3 : Int)) = False := eq_false (by omega)
        have j5 : ((v2 : Int) < (v3 : Int)) = False := eq_false (by omega)
        have j6 : ((256 : Int) < (v4 : Int)) = False := eq_false (by omega)
        have j7 : ((256 : Int) < (v5 : Int)) = False := eq_false (by omega)
        clear q1 q2 q3 q4 q5 q6
        go_wp2_with (fail)
        refine HQ.out.mono ?_
        rintro e w4 ⟨rfl, rfl⟩
        go_wp2_with (fail)
        refine HQ.out.mono ?_
        rintro e w4 ⟨rfl, rfl⟩
        go_wp2_with (fail)
        refine HSE.out.mono ?_
        rintro e w4 ⟨rfl, rfl⟩
        go_wp2_with (fail)
        refine HGO.out.mono ?_
        rintro e w4 ⟨rfl, rfl⟩
        go_wp2_with (fail)
        refine HSE.out.mono ?_
        rintro e w4 ⟨rfl, rfl⟩
        go_wp2_with (fail)
        refine HGO.out.mono ?_
        rintro e w4 ⟨rfl, rfl⟩
        go_wp2_with (fail)
        refine HW0.out.mono ?_
        rintro e w4 ⟨rfl, rfl⟩
        go_wp2_with (fail)
        refine HW1.out.mono ?_
        rintro e w4 ⟨rfl, rfl⟩
        go_wp2
        go_roundw
        case rel => exact ⟨k + 1, s', _, by omega, by go_num, HS', HW', G3, C3⟩
        case measure => simp [intOf]; omega
      · have hC := HC
        go_wp2
        go_ret
        exact ⟨rfl, HC.out⟩
end Go.Proofs.Ytnpkpfcljkekfaa
