/- The laws of layer 17, going on: scripts, and SendBounds. -/
import Derived.Test.YtlkpnhfdcljbfaaL17B
namespace Go.Proofs.Ytlkpnhfdcljbfaa
open Go Go.RowKit
set_option linter.unusedVariables false
set_option linter.unusedSimpArgs false

/-- One call of a script. -/
structure Act17 where
  kind : Int
  now : Int
  n : Int
  credit : Int
  m : UInt64
  xs : List UInt8
/-- A script that came in. -/
structure Acts17 (w : World) (A : Option Addr) (n : Nat) (acts : List Act17) : Prop where
  len : acts.length = n
  cells : 0 < n → ∃ b off, A = some ⟨b, off, none⟩ ∧ b < w.heap.size ∧ ∀ j (h : j < acts.length), w.cell? ⟨b, off + j * 6, none⟩ = some (.int .i64 (acts[j]'h).kind) ∧ w.cell? ⟨b, off + j * 6 + 1, none⟩ = some (.int .i64 (acts[j]'h).now) ∧
    w.cell? ⟨b, off + j * 6 + 2, none⟩ = some (.int .i64 (acts[j]'h).n) ∧ w.cell? ⟨b, off + j * 6 + 3, none⟩ = some (.int .i64 (acts[j]'h).credit) ∧ w.cell? ⟨b, off + j * 6 + 4, none⟩ = some (.int .u64 ((acts[j]'h).m.toNat : Int)) ∧
    ∃ Aj nj cj, w.cell? ⟨b, off + j * 6 + 5, none⟩ = some (.slice Aj nj cj) ∧ nj ≤ cj ∧ nj ≤ 140737488351232 ∧ Bytes w Aj nj (acts[j]'h).xs

theorem own_out {w0 w : World} {p b W base lim : Nat} {Ls : List Ld} {cnt : Nat} (h : OwnS w0 w p b W base lim Ls cnt) :
    Calls Try.prog 18 #[.pointer (some ⟨p, 0, none⟩)] w fun e w' => e = .returned (.int .i64 (Ls.length : Nat)) ∧ OwnS w0 w' p b W base lim Ls cnt := by
  obtain ⟨adr, D, h1, h2, h3⟩ := h
  refine (sout_any h1).mono ?_
  rintro e w' ⟨he, hc⟩
  exact ⟨he, adr, D, h1.pure hc, h2, h3.pure hc⟩
theorem own_base {w0 w : World} {p b W base lim : Nat} {Ls : List Ld} {cnt : Nat} (h : OwnS w0 w p b W base lim Ls cnt) :
    Calls Try.prog 13 #[.pointer (some ⟨p, 0, none⟩)] w fun e w' => e = .returned (.int .i64 (base : Nat)) ∧ w = w' := by
  obtain ⟨adr, D, h1, h2, h3⟩ := h
  exact sbase_any h1
theorem own_next {w0 w : World} {p b W base lim : Nat} {Ls : List Ld} {cnt : Nat} (h : OwnS w0 w p b W base lim Ls cnt) :
    Calls Try.prog 19 #[.pointer (some ⟨p, 0, none⟩)] w fun e w' => e = .returned (.int .i64 ((base + Ls.length : Nat))) ∧ w = w' := by
  obtain ⟨adr, D, h1, h2, h3⟩ := h
  exact snext_any h1
theorem own_limit {w0 w : World} {p b W base lim : Nat} {Ls : List Ld} {cnt : Nat} (h : OwnS w0 w p b W base lim Ls cnt) :
    Calls Try.prog 17 #[.pointer (some ⟨p, 0, none⟩)] w fun e w' => e = .returned (.int .i64 (lim : Nat)) ∧ w = w' := by
  obtain ⟨adr, D, h1, h2, h3⟩ := h
  exact slimit_any h1
set_option maxRecDepth 100000 in
set_option maxHeartbeats 2000000 in
theorem law_SendBounds (a : Int) (A : Option Addr) (n c : Nat) (acts : List Act17) (w : World) (ha : -9223372036854775808 ≤ a ∧ a ≤ 9223372036854775807) (hA : Acts17 w A n acts) (hn : n ≤ 140737488351232) :
    Calls Try.prog 6 #[.int .i64 a, .slice A n c] w fun e w' => e = .returned (.bool true) ∧ Chg Pure' w w' := by
  by_cases hbad : a < 1 ∨ 32 < a
  · go_enter Try.func6, Try.ntmps6
    go_wp2_with (fail)
    refine (snew_bad _ _ hbad).mono ?_
    rintro e w1 ⟨rfl, rfl⟩
    go_wp2_with (fail)
    refine (alive17 _).mono ?_
    rintro e w2 ⟨rfl, hg⟩
    go_wp2
    go_ret
    exact ⟨rfl, hg⟩
  · obtain ⟨W, rfl⟩ : ∃ W : Nat, a = W := ⟨a.toNat, by omega⟩
    have h1 : 1 ≤ W := by omega
    have h2 : W ≤ 32 := by omega
    clear hbad ha
    go_enter Try.func6, Try.ntmps6
    go_wp2_with (fail)
    refine (own_new W _ h1 h2).mono ?_
    rintro e w1 ⟨rfl, s1⟩
    go_wp2_with (fail)
    refine (alive17 _).mono ?_
    rintro e w2 ⟨rfl, c2⟩
    have s2 := s1.pure c2
    clear s1 c2
    generalize hp : w.heap.size + 1 = p at *
    go_wp2_with (fail)
    go_loopw [28, 7] (fun i x wr => ∃ (k base lim : Nat) (Ls : List Ld), k ≤ n ∧ i = .int .i64 k ∧ x = .int .i64 base ∧ OwnS w wr p w.heap.size W base lim Ls k) (fun i _ _ => n - (intOf i).toNat)
    case atStart => exact ⟨0, 1, 0, [], Nat.zero_le _, rfl, rfl, s2⟩
    case round =>
      obtain ⟨k, base, lim, Ls, hk, rfl, rfl, s⟩ := hrel
      by_cases hlt : k < n
      · obtain ⟨b, off, rfl, hbl, hcell⟩ := hA.cells (by omega)
        have hkx : k < acts.length := by have := hA.len; omega
        have hc : Chg Pure' w wr := by obtain ⟨adr, D, _, _, h3⟩ := s; exact h3
        obtain ⟨q0, q1, q2, q3, q4, Aj, nj, cj, q5, hle, hnj, hbj⟩ := hcell k hkx
        have e0 := hc.cell q0 (fun h => h)
        have e1 := hc.cell q1 (fun h => h)
        have e2 := hc.cell q2 (fun h => h)
        have e3 := hc.cell q3 (fun h => h)
        have e4 := hc.cell q4 (fun h => h)
        have e5 := hc.cell q5 (fun h => h)
        generalize acts[k] = act at e0 e1 e2 e3 e4 hbj
        obtain ⟨kind, now, nn, credit, m, xs⟩ := act
        simp only at e0 e1 e2 e3 e4 hbj
        clear q0 q1 q2 q3 q4 q5 hcell
        have ca : Chg Pure' wr (wr.alloc (.cells #[.int .i64 kind, .int .i64 now, .int .i64 nn, .int .i64 credit, .int .u64 (m.toNat : Int), .slice Aj nj cj] 39)) := (Chg.refl _ wr).alloc _
        have s' := s.pure ca
        have hb' := hbj.pure (hc.pure ca)
        clear s
        go_wp2_with (fail)
        refine (own_plays s' kind now nn credit m Aj nj cj xs hb' hnj (by omega)).mono ?_
        rintro e w3 ⟨rfl, base', lim', Ls', hbb, s3⟩
        obtain ⟨hlW, hnx, hlm⟩ : Ls'.length ≤ W ∧ base' + Ls'.length ≤ lim' + 1 ∧ lim' ≤ 4611686018427387904 := by
          obtain ⟨adr, D, g1, _, _⟩ := s3
          exact ⟨g1.len, g1.nx, g1.lm⟩
        have HO := Lib.hid (fun (w9 : World) (s9 : OwnS w w9 p w.heap.size W base' lim' Ls' (k + 1)) => own_out s9)
        have HN := Lib.hid (fun (w9 : World) (s9 : OwnS w w9 p w.heap.size W base' lim' Ls' (k + 1)) => own_next s9)
        generalize hll : Ls'.length = l' at *
        go_wp2_with (fail)
        refine (HO.out _ s3).mono ?_
        rintro e w4 ⟨rfl, s4⟩
        go_wp2_with (fail)
        refine (HO.out _ s4).mono ?_
        rintro e w5 ⟨rfl, s5⟩
        go_wp2_with (fail)
        refine (HN.out _ s5).mono ?_
        rintro e w6 ⟨rfl, rfl⟩
        go_wp2_with (fail)
        refine (own_base s5).mono ?_
        rintro e w6 ⟨rfl, rfl⟩
        go_wp2_with (fail)
        refine (HO.out _ s5).mono ?_
        rintro e w6 ⟨rfl, s6⟩
        go_wp2_with (fail)
        refine (HN.out _ s6).mono ?_
        rintro e w7 ⟨rfl, rfl⟩
        go_wp2_with (fail)
        refine (own_limit s6).mono ?_
        rintro e w7 ⟨rfl, rfl⟩
        go_wp2_with (fail)
        refine (own_base s6).mono ?_
        rintro e w7 ⟨rfl, rfl⟩
        go_wp2_with (fail)
        refine (own_base s6).mono ?_
        rintro e w7 ⟨rfl, rfl⟩
        go_wp2
        go_roundw
        case rel => exact ⟨k + 1, base', lim', Ls', by omega, by go_num, rfl, s6⟩
        case measure => simp [intOf]; omega
      · go_wp2
        go_ret
        obtain ⟨adr, D, _, _, h3⟩ := s
        exact ⟨rfl, h3⟩
end Go.Proofs.Ytlkpnhfdcljbfaa
