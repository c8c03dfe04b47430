/- Package gantlineref20: what only reads. -/
import Derived.Test.YtpfnphkgmjgmeaaSessL
namespace Go.Proofs.Ytpfnphkgmjgmeaa
open Go Go.RowKit
set_option linter.unusedVariables false
set_option linter.unusedSimpArgs false

theorem rtime_yes (now : Int) (w : World) (h0 : 0 ≤ now) (h1 : now ≤ 1099511627776) : Calls Try.prog 38 #[.int .i64 now] w fun e w' => e = .returned (.bool true) ∧ w = w' := by
  go_enter Try.func38, Try.ntmps38
  go_wp2
  go_ret
  exact ⟨rfl, rfl⟩
theorem rtime_no (now : Int) (w : World) (h : now < 0 ∨ 1099511627776 < now) : Calls Try.prog 38 #[.int .i64 now] w fun e w' => e = .returned (.bool false) ∧ w = w' := by
  rcases h with h | h
  · have h' : ¬ (0 ≤ now) := by omega
    go_enter Try.func38, Try.ntmps38
    go_wp2
    go_ret
    exact ⟨rfl, rfl⟩
  · have h' : 0 ≤ now := by omega
    have h'' : ¬ (now ≤ 1099511627776) := by omega
    go_enter Try.func38, Try.ntmps38
    go_wp2
    go_ret
    exact ⟨rfl, rfl⟩
theorem tok_eq {a b : UInt64} (h : a = b) : ((a.toNat : Int) == (b.toNat : Int)) = true := by rw [h]; simp
theorem tok_ne {a b : UInt64} (h : a ≠ b) : ((a.toNat : Int) == (b.toNat : Int)) = false := by
  rw [beq_eq_false_iff_ne]
  exact fun e => h (UInt64.toNat_inj.1 (by omega))
set_option maxHeartbeats 2000000 in
theorem rplace_any {w : World} {B p : Nat} {T : Tb} {us : List UInt64} {vL vU : Value} (h : RTab w B p T us vL vU) (tk : UInt64) :
    Calls Try.prog 33 #[.pointer (some ⟨p, 0, none⟩), .int .u64 (tk.toNat : Int)] w fun e w' => e = .returned (.int .i64 (place T.L tk)) ∧ w = w' := by
  obtain ⟨A, q, rfl, hq⟩ := h.val
  have h3 := h.c3
  have hl := h.l64
  obtain ⟨N, hN⟩ : ∃ N, T.L.length = N := ⟨_, rfl⟩
  have HN := Lib.hid hN
  have H := Lib.hid h
  rw [hN] at h3 hl hq
  clear hN h
  go_enter Try.func33, Try.ntmps33
  go_wp2_with (fail)
  go_loop [5] (fun i => ∃ k : Nat, k ≤ N ∧ i = .int .i64 k ∧ Hid (∀ j (hj : j < T.L.length), j < k → (T.L[j]'hj).token ≠ tk)) (fun i => N - (intOf i).toNat)
  case atStart => exact ⟨0, Nat.zero_le _, rfl, Lib.hid (fun j _ hj => absurd hj (Nat.not_lt_zero j))⟩
  case round =>
    obtain ⟨k, hk, rfl, HB⟩ := hrel
    by_cases hlt : k < N
    · have hkl : k < T.L.length := by rw [HN.out]; exact hlt
      have H' := H.out
      obtain ⟨g, rfl, -, -, -, x0, -⟩ := H'.at' hkl
      by_cases ht : (T.L[k]'hkl).token = tk
      · have e1 := tok_eq ht
        have hp := place_at hkl ht (fun j hj => HB.out j _ hj)
        have HP := Lib.hid hp
        clear hp H' ht
        generalize (T.L[k]'hkl).token = tt at *
        go_wp2
        go_ret
        exact ⟨by rw [HP.out]; rfl, rfl⟩
      · have e1 := tok_ne ht
        have HB2 : Hid (∀ j (hj : j < T.L.length), j < k + 1 → (T.L[j]'hj).token ≠ tk) := Lib.hid (fun j hj hjk => by
          by_cases hjk' : j < k
          · exact HB.out j hj hjk'
          · obtain rfl : j = k := by omega
            exact ht)
        clear H' ht
        generalize (T.L[k]'hkl).token = tt at *
        go_wp2
        go_round
        case rel => exact ⟨k + 1, by omega, by go_num, HB2⟩
        case measure => simp [intOf]; omega
    · have hkn : ((k : Int) < (N : Int)) = False := eq_false (by omega)
      have hp : place T.L tk = -1 := place_none (fun x hx => by
        obtain ⟨j, hj, rfl⟩ := List.mem_iff_getElem.1 hx
        exact HB.out j hj (by have := HN.out; omega))
      have HP := Lib.hid hp
      clear hp
      go_wp2
      go_ret
      exact ⟨by rw [HP.out]; rfl, rfl⟩
theorem RTab.valU {w : World} {B p : Nat} {T : Tb} {us : List UInt64} {vL vU : Value} (h : RTab w B p T us vL vU) : ∃ A q, vU = .slice A us.length q ∧ us.length ≤ q := by
  obtain ⟨A, q, h1, h2, -⟩ := own_slice h.rowU
  exact ⟨A, q, h1, h2⟩
theorem RTab.useAt {w : World} {B p m q : Nat} {A : Option Addr} {T : Tb} {us : List UInt64} {vL : Value} (h : RTab w B p T us vL (.slice A m q)) {i : Nat} (hi : i < us.length) : ∃ g, A = some ⟨g, 0, none⟩ ∧ w.cell? ⟨g, i, none⟩ = some (.int .u64 ((us[i]'hi).toNat : Int)) := by
  have hr := h.rowU
  rcases hr.2 with ⟨h', h0⟩ | ⟨g, cap, cur, h', hb, hg, hnc, hcm, hcs, htk⟩
  · exfalso; omega
  · cases h'
    have := World.ownsRow.cells hr (g := g) rfl i (u64v (us[i]'hi)) (by simp [hi])
    have e : (⟨g, 0, none⟩ : Addr).add i = ⟨g, i, none⟩ := by unfold Addr.add; split <;> simp_all
    rw [e] at this
    exact ⟨g, rfl, this⟩
set_option maxHeartbeats 2000000 in
theorem rused_any {w : World} {B p : Nat} {T : Tb} {us : List UInt64} {vL vU : Value} (h : RTab w B p T us vL vU) (d : UInt64) :
    Calls Try.prog 41 #[.pointer (some ⟨p, 0, none⟩), .int .u64 (d.toNat : Int)] w fun e w' => e = .returned (.bool (T.U (d.toNat : Int))) ∧ w = w' := by
  obtain ⟨A, q, rfl, hq⟩ := h.valU
  have h3 := h.c4
  have hl := h.ul
  have HU := Lib.hid (h.uu d)
  obtain ⟨N, hN⟩ : ∃ N, us.length = N := ⟨_, rfl⟩
  have HN := Lib.hid hN
  have H := Lib.hid h
  rw [hN] at h3 hl hq
  rw [hN] at H
  clear hN h
  go_enter Try.func41, Try.ntmps41
  go_wp2_with (fail)
  go_loop [5] (fun i => ∃ k : Nat, k ≤ N ∧ i = .int .i64 k ∧ Hid (∀ j (hj : j < us.length), j < k → (us[j]'hj) ≠ d)) (fun i => N - (intOf i).toNat)
  case atStart => exact ⟨0, Nat.zero_le _, rfl, Lib.hid (fun j _ hj => absurd hj (Nat.not_lt_zero j))⟩
  case round =>
    obtain ⟨k, hk, rfl, HB⟩ := hrel
    by_cases hlt : k < N
    · have hkl : k < us.length := by rw [HN.out]; exact hlt
      have H' := H.out
      obtain ⟨g, rfl, x0⟩ := H'.useAt hkl
      by_cases ht : us[k]'hkl = d
      · have e1 := tok_eq ht
        have hp : T.U (d.toNat : Int) = true := by rw [HU.out, decide_eq_true_eq, ← ht]; exact List.getElem_mem hkl
        have HP := Lib.hid hp
        clear hp H' ht
        generalize us[k]'hkl = tt at *
        go_wp2
        go_ret
        exact ⟨by rw [HP.out]; rfl, rfl⟩
      · have e1 := tok_ne ht
        have HB2 : Hid (∀ j (hj : j < us.length), j < k + 1 → (us[j]'hj) ≠ d) := Lib.hid (fun j hj hjk => by
          by_cases hjk' : j < k
          · exact HB.out j hj hjk'
          · obtain rfl : j = k := by omega
            exact ht)
        clear H' ht
        generalize us[k]'hkl = tt at *
        go_wp2
        go_round
        case rel => exact ⟨k + 1, by omega, by go_num, HB2⟩
        case measure => simp [intOf]; omega
    · have hkn : ((k : Int) < (N : Int)) = False := eq_false (by omega)
      have hp : T.U (d.toNat : Int) = false := by
        rw [HU.out, decide_eq_false_iff_not]
        intro hx
        obtain ⟨j, hj, e⟩ := List.mem_iff_getElem.1 hx
        exact HB.out j hj (by have := HN.out; omega) e
      have HP := Lib.hid hp
      clear hp
      go_wp2
      go_ret
      exact ⟨by rw [HP.out]; rfl, rfl⟩
set_option maxHeartbeats 2000000 in
theorem rbegins_any {w : World} {B p : Nat} {T : Tb} {us : List UInt64} {vL vU : Value} (h : RTab w B p T us vL vU) (hlm : T.L.length ≤ T.most) (d : UInt64) :
    Calls Try.prog 32 #[.pointer (some ⟨p, 0, none⟩), .int .u64 (d.toNat : Int)] w fun e w' => e = .returned (.int .i64 (beginE T d)) ∧ Chg Pure' w w' := by
  obtain ⟨A, q, rfl, hq⟩ := h.val
  have h3 := h.c3
  have h0 := h.c0
  have hm := h.m64
  have H := Lib.hid h
  obtain ⟨b, hb⟩ : ∃ b, beginE T d = b := ⟨_, rfl⟩
  have HB := Lib.hid hb
  rw [hb]
  clear hb h
  by_cases hd : d = 0
  · have e1 : ((d.toNat : Int) == 0) = true := by rw [hd]; rfl
    have hb1 : b = 1 := by rw [← HB.out]; unfold beginE; rw [if_pos hd]
    subst hb1
    clear hd
    go_enter Try.func32, Try.ntmps32
    go_wp2
    go_ret
    exact ⟨rfl, Chg.refl _ _⟩
  · have e1 : ((d.toNat : Int) == 0) = false := by
      rw [beq_eq_false_iff_ne]
      exact fun e => hd (UInt64.toNat_inj.1 (by simpa using e))
    cases hu : T.U (d.toNat : Int) with
    | true =>
      have hb1 : b = 9 := by rw [← HB.out]; unfold beginE; rw [if_neg hd, if_pos hu]
      subst hb1
      have hcall := rused_any H.out d
      rw [hu] at hcall
      have HC := Lib.hid hcall
      clear hd hu hcall
      go_enter Try.func32, Try.ntmps32
      go_wp2_with (go_at_call 41; refine HC.out.mono ?_; rintro e w' ⟨rfl, rfl⟩)
      go_ret
      exact ⟨rfl, Chg.refl _ _⟩
    | false =>
      have hcall := rused_any H.out d
      rw [hu] at hcall
      have HC := Lib.hid hcall
      have hb1 : b = if T.L.length = T.most then 14 else 0 := by rw [← HB.out]; unfold beginE; rw [if_neg hd, hu]; rfl
      clear hd hu hcall
      by_cases hf : T.L.length = T.most
      · rw [if_pos hf] at hb1
        subst hb1
        have e2 : decide ((T.most : Int) ≤ (T.L.length : Int)) = true := by rw [decide_eq_true_eq]; omega
        have e3 : (T.most ≤ T.L.length) = True := eq_true (by omega)
        clear hf hlm
        generalize T.L.length = N at *
        go_enter Try.func32, Try.ntmps32
        go_wp2_with (go_at_call 41; refine HC.out.mono ?_; rintro e w' ⟨rfl, rfl⟩)
        go_quiet (fail)
        go_wp2
        go_ret
        exact ⟨rfl, (Chg.refl _ _).drewN _⟩
      · rw [if_neg hf] at hb1
        subst hb1
        have e2 : decide ((T.most : Int) ≤ (T.L.length : Int)) = false := by rw [decide_eq_false_iff_not]; omega
        have e3 : (T.most ≤ T.L.length) = False := eq_false (by omega)
        clear hf hlm
        generalize T.L.length = N at *
        go_enter Try.func32, Try.ntmps32
        go_wp2_with (go_at_call 41; refine HC.out.mono ?_; rintro e w' ⟨rfl, rfl⟩)
        go_quiet (fail)
        go_wp2
        go_ret
        exact ⟨rfl, (Chg.refl _ _).drewN _⟩
set_option maxHeartbeats 2000000 in
theorem rfind_any {w : World} {B p : Nat} {T : Tb} {us : List UInt64} {vL vU : Value} (h : RTab w B p T us vL vU) (tk : UInt64) :
    Calls Try.prog 25 #[.pointer (some ⟨p, 0, none⟩), .int .u64 (tk.toNat : Int)] w fun e w' => e = .returned (.tuple #[.int .i64 (findOf T.L tk).1, .int .i64 (findOf T.L tk).2.1, .bool (findOf T.L tk).2.2]) ∧ Chg Pure' w w' := by
  have hcall := rplace_any h tk
  have hl := h.l64
  rcases place_ge T.L tk with hp | ⟨i, hi, hp, -⟩
  · have HF := Lib.hid (findOf_none hp)
    rw [hp] at hcall
    have HC := Lib.hid hcall
    clear hp hcall h
    go_enter Try.func25, Try.ntmps25
    go_wp2_with (go_at_call 33; refine HC.out.mono ?_; rintro e w' ⟨rfl, rfl⟩)
    go_ret3
    exact ⟨by rw [HF.out]; rfl, Chg.refl _ _⟩
  · have HF := Lib.hid (findOf_at hi hp)
    rw [hp] at hcall
    have HC := Lib.hid hcall
    obtain ⟨A, q, rfl, hq⟩ := h.val
    have h3 := h.c3
    obtain ⟨g, rfl, -, -, -, x0, x1, x2, -⟩ := h.at' hi
    have t1 : (i : Int) < (T.L.length : Int) := by omega
    have t2 : i ≤ 64 := by omega
    clear hp hcall h
    generalize T.L[i] = x at *
    generalize T.L.length = N at *
    go_enter Try.func25, Try.ntmps25
    go_wp2_with (go_at_call 33; refine HC.out.mono ?_; rintro e w' ⟨rfl, rfl⟩)
    go_quiet (fail)
    go_wp2
    go_ret3
    exact ⟨by rw [HF.out]; rfl, (Chg.refl _ _).drewN _⟩
end Go.Proofs.Ytpfnphkgmjgmeaa
