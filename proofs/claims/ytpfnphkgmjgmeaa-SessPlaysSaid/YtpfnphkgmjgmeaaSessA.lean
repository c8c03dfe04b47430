/- Package sess: looking for a token. -/
import Derived.Test.YtpfnphkgmjgmeaaSess
namespace Go.Proofs.Ytpfnphkgmjgmeaa
open Go Go.RowKit
set_option linter.unusedVariables false
set_option linter.unusedSimpArgs false

theorem seFind_any (a tb : Nat) (x : Se) (tk : UInt64) (w : World) (hs : SeAt w a x) (ht : w.cell? ⟨tb, 0, none⟩ = some (.int .u64 (tk.toNat : Int))) :
    Calls Try.prog 40 #[.pointer (some ⟨a, 0, none⟩), .pointer (some ⟨tb, 0, none⟩)] w fun e w' => e = .returned (.bool (decide (x.token = tk))) ∧ Chg Pure' w w' := by
  have h0 := hs.c0
  clear hs
  go_enter Try.func40, Try.ntmps40
  go_wp2_with (fail)
  go_quiet (fail)
  go_wp2
  go_ret
  refine ⟨ret_bool ?_, (Chg.refl _ w).drewN _⟩
  rw [Bool.eq_iff_iff]
  simp only [decide_eq_true_eq, beq_iff_eq]
  exact ⟨fun h => UInt64.toNat_inj.1 (by omega), fun h => by rw [h]⟩
set_option maxHeartbeats 1000000 in
theorem idx_find {w : World} {p ub : Nat} {bs : List Nat} {v : Value} {T : Tb} {cnt : Nat} (h : TabOf w p ub bs v T cnt) (tb : Nat) (tk : UInt64) (ht : w.cell? ⟨tb, 0, none⟩ = some (.int .u64 (tk.toNat : Int))) :
    Calls Try.prog 39 #[v, .func (.func 40) #[] #[.pointer (some ⟨tb, 0, none⟩)]] w fun e w' => e = .returned (.int .i64 (place T.L tk)) ∧ Chg Pure' w w' := by
  obtain ⟨B, q, rfl, -, hB, -⟩ := own_slice h.row
  have hl64 : T.L.length ≤ 64 := Nat.le_trans h.lm h.m64
  have H := Lib.hid h
  have HN := Lib.hid (fun (hh : ∀ x ∈ T.L, x.token ≠ tk) => place_none hh)
  have HP := Lib.hid (fun (i : Nat) (hi : i < T.L.length) (hh : (T.L[i]).token = tk) (hb : ∀ j (hj : j < i), (T.L[j]'(Nat.lt_trans hj hi)).token ≠ tk) => place_at hi hh hb)
  clear h
  go_enter Try.func39, Try.ntmps39
  go_wp2_with (fail)
  go_loopw [8] (fun i wr => ∃ k : Nat, k ≤ T.L.length ∧ i = .int .i64 k ∧ Chg Pure' w wr ∧ Hid (∀ j (hj : j < T.L.length), j < k → (T.L[j]).token ≠ tk)) (fun i _ => T.L.length - (intOf i).toNat)
  case atStart => exact ⟨0, Nat.zero_le _, rfl, Chg.refl _ _, fun j hj h0 => absurd h0 (Nat.not_lt_zero _)⟩
  case round =>
    obtain ⟨k, hk, rfl, hc, hno⟩ := hrel
    by_cases hlt : k < T.L.length
    · obtain ⟨g, rfl, -⟩ := hB (by omega)
      have hkb : k < bs.length := by rw [H.out.len]; exact hlt
      have hcell := hc.cell ((H.out.row.cellAt k (by omega)).trans (show (bs.map ptr)[k]? = some (.pointer (some ⟨bs[k], 0, none⟩)) from by simp [hkb, ptr])) (fun h => h)
      have hse := (H.out.ses k hkb hlt).frame hc (fun h => h)
      have htb := hc.cell ht (fun h => h)
      have hno' := hno.out
      generalize hx : T.L[k] = x at *
      generalize bs[k] = a at *
      have HX := Lib.hid hx
      clear hx hno'
      go_wp2_with (fail)
      refine (seFind_any a tb x tk _ hse htb).mono ?_
      rintro e w2 ⟨rfl, c2⟩
      by_cases he : x.token = tk
      · have hpl : place T.L tk = k := HP.out k hlt (by rw [HX.out]; exact he) (fun j hj => hno.out j (by omega) hj)
        rw [decide_eq_true he]
        have HPL := Lib.hid hpl
        clear he hpl
        go_wp2
        go_ret
        exact ⟨ret_int HPL.out.symm, hc.pure c2⟩
      · rw [decide_eq_false he]
        have hno2 : Hid (∀ j (hj : j < T.L.length), j < k + 1 → (T.L[j]).token ≠ tk) := by
          intro j hj h2
          by_cases hjk : j = k
          · subst hjk; rw [HX.out]; exact he
          · exact hno.out j hj (by omega)
        clear he
        go_wp2
        go_roundw
        case rel => exact ⟨k + 1, by omega, by go_num, hc.pure c2, hno2⟩
        case measure => simp [intOf]; omega
    · have hpl : place T.L tk = -1 := HN.out (fun x hx => by
        obtain ⟨j, hj, rfl⟩ := List.mem_iff_getElem.1 hx
        exact hno.out j hj (by omega))
      have HPL := Lib.hid hpl
      clear hpl
      go_wp2
      go_ret
      exact ⟨ret_int HPL.out.symm, hc⟩
theorem find_any {w : World} {p ub : Nat} {bs : List Nat} {v : Value} {T : Tb} {cnt : Nat} (h : TabOf w p ub bs v T cnt) (tk : UInt64) :
    Calls Try.prog 30 #[.pointer (some ⟨p, 0, none⟩), .int .u64 (tk.toNat : Int)] w fun e w' => e = .returned (.int .i64 (place T.L tk)) ∧ Chg Pure' w w' := by
  have ca : Chg Pure' w (w.alloc (.cells #[.int .u64 (tk.toNat : Int)] 29)) := (Chg.refl _ w).alloc _
  have h1 := h.pure ca
  have ht : (w.alloc (.cells #[.int .u64 (tk.toNat : Int)] 29)).cell? ⟨w.heap.size, 0, none⟩ = some (.int .u64 (tk.toNat : Int)) := by rw [cellAt_alloc_lit]; rfl
  have h3 := h1.c3
  have H := Lib.hid h1
  have hmf : ∀ (fn : Fn) (first cap : Array Value) (w : World), (Instr.makeFunc fn first cap).run Try.prog w = .ok (.func fn first cap) w := fun _ _ _ _ => rfl
  clear h h1
  go_enter Try.func30, Try.ntmps30
  go_wp2_with (fail)
  refine (idx_find H.out w.heap.size tk ht).mono ?_
  rintro e w2 ⟨rfl, c2⟩
  go_wp2
  go_ret
  exact ⟨rfl, ca.pure c2⟩
theorem place_ge (L : List Se) (tk : UInt64) : place L tk = -1 ∨ ∃ i : Nat, ∃ hi : i < L.length, place L tk = i ∧ (L[i]).token = tk ∧ ∀ j (hj : j < i), (L[j]'(Nat.lt_trans hj hi)).token ≠ tk := by
  unfold place
  cases hf : L.findIdx? (fun x => x.token == tk) with
  | none => exact .inl rfl
  | some i =>
    obtain ⟨hi, h1, h2⟩ := List.findIdx?_eq_some_iff_getElem.1 hf
    exact .inr ⟨i, hi, rfl, by simpa using h1, fun j hj => by simpa using h2 j hj⟩
/-- The session of a token: none, or its block. -/
theorem again_any {w : World} {p ub : Nat} {bs : List Nat} {v : Value} {T : Tb} {cnt : Nat} (h : TabOf w p ub bs v T cnt) (tk : UInt64) :
    Calls Try.prog 29 #[.pointer (some ⟨p, 0, none⟩), .int .u64 (tk.toNat : Int)] w fun e w' => Chg Pure' w w' ∧
      ((place T.L tk = -1 ∧ e = .returned (.tuple #[.pointer none, .int .i64 15])) ∨ ∃ i : Nat, ∃ hi : i < bs.length, place T.L tk = i ∧ i < T.L.length ∧ e = .returned (.tuple #[.pointer (some ⟨bs[i], 0, none⟩), .int .i64 0])) := by
  have H := Lib.hid h
  have h3 := h.c3
  have hl64 : T.L.length ≤ 64 := Nat.le_trans h.lm h.m64
  rcases place_ge T.L tk with hp | ⟨i, hi, hp, -, -⟩
  · have HP := Lib.hid hp
    clear h hp
    go_enter Try.func29, Try.ntmps29
    go_wp2_with (fail)
    refine (find_any H.out tk).mono ?_
    rintro e w2 ⟨rfl, c2⟩
    rw [HP.out]
    go_wp2
    go_ret2
    exact ⟨c2, .inl ⟨HP.out, rfl⟩⟩
  · have HP := Lib.hid hp
    obtain ⟨B, q, rfl, -, hB, -⟩ := own_slice h.row
    obtain ⟨g, rfl, -⟩ := hB (by omega)
    have hib : i < bs.length := by rw [h.len]; exact hi
    have hcell := (h.row.cellAt i (by omega)).trans (show (bs.map ptr)[i]? = some (.pointer (some ⟨bs[i], 0, none⟩)) from by simp [hib, ptr])
    clear h hp
    go_enter Try.func29, Try.ntmps29
    go_wp2_with (fail)
    refine (find_any H.out tk).mono ?_
    rintro e w2 ⟨rfl, c2⟩
    rw [HP.out]
    have hcell2 := c2.cell hcell (fun h => h)
    have h32 := c2.cell h3 (fun h => h)
    go_wp2
    go_ret2
    exact ⟨c2, .inr ⟨i, hib, HP.out, hi, rfl⟩⟩
theorem tok_any {w : World} {p ub : Nat} {bs : List Nat} {v : Value} {T : Tb} {cnt : Nat} (h : TabOf w p ub bs v T cnt) :
    Calls Try.prog 27 #[.pointer (some ⟨p, 0, none⟩)] w fun e w' => e = .returned (.bool true) ∧ w = w' := by
  have h4 := h.c4
  have hn := run_neq_map_nil (P := Try.prog) w 28 29 4 (some ub) Try.underlying28
  clear h
  go_enter Try.func27, Try.ntmps27
  go_wp2
  go_ret
  exact ⟨rfl, rfl⟩
theorem tlive_any {w : World} {p ub : Nat} {bs : List Nat} {v : Value} {T : Tb} {cnt : Nat} (h : TabOf w p ub bs v T cnt) :
    Calls Try.prog 13 #[.pointer (some ⟨p, 0, none⟩)] w fun e w' => e = .returned (.int .i64 (T.L.length : Nat)) ∧ w = w' := by
  have H := Lib.hid h
  have h3 := h.c3
  obtain ⟨B, q, rfl, -, -, -⟩ := own_slice h.row
  clear h
  go_enter Try.func13, Try.ntmps13
  go_wp2_with (fail)
  refine (tok_any H.out).mono ?_
  rintro e w2 ⟨rfl, rfl⟩
  go_wp2
  go_ret
  exact ⟨rfl, rfl⟩
/-- What Find tells. -/
def findOf (L : List Se) (tk : UInt64) : Int × Int × Bool := match L.find? (fun x => x.token == tk) with | some x => (x.epoch, x.format, true) | none => (0, 0, false)
theorem findOf_none {L : List Se} {tk : UInt64} (h : place L tk = -1) : findOf L tk = (0, 0, false) := by
  unfold place at h
  unfold findOf
  cases hf : L.findIdx? (fun x => x.token == tk) with
  | some i => rw [hf] at h; simp at h
  | none =>
    rw [List.findIdx?_eq_none_iff] at hf
    rw [List.find?_eq_none.2 (fun x hx => by have := hf x hx; simpa using this)]
theorem findOf_at {L : List Se} {tk : UInt64} {i : Nat} (hi : i < L.length) (h : place L tk = i) : findOf L tk = ((L[i]).epoch, (L[i]).format, true) := by
  rcases place_ge L tk with hp | ⟨j, hj, hp, h1, h2⟩
  · omega
  · obtain rfl : j = i := by omega
    unfold findOf
    have : L.find? (fun x => x.token == tk) = some L[j] := by
      rw [List.find?_eq_some_iff_getElem]
      exact ⟨by simpa using h1, j, hj, rfl, fun k hk => by simpa using h2 k hk⟩
    rw [this]
theorem tfind_any {w : World} {p ub : Nat} {bs : List Nat} {v : Value} {T : Tb} {cnt : Nat} (h : TabOf w p ub bs v T cnt) (tk : UInt64) :
    Calls Try.prog 24 #[.pointer (some ⟨p, 0, none⟩), .int .u64 (tk.toNat : Int)] w fun e w' => e = .returned (.tuple #[.int .i64 (findOf T.L tk).1, .int .i64 (findOf T.L tk).2.1, .bool (findOf T.L tk).2.2]) ∧ Chg Pure' w w' := by
  have H := Lib.hid h
  go_enter Try.func24, Try.ntmps24
  go_wp2_with (fail)
  refine (tok_any H.out).mono ?_
  rintro e w2 ⟨rfl, rfl⟩
  go_wp2_with (fail)
  refine (again_any H.out tk).mono ?_
  rintro e w2 ⟨c2, ⟨hp, rfl⟩ | ⟨i, hib, hp, hi, rfl⟩⟩
  · have HF := Lib.hid (findOf_none hp)
    clear hp h
    go_wp2
    go_ret3
    exact ⟨by rw [HF.out]; rfl, c2⟩
  · have HF := Lib.hid (findOf_at hi hp)
    have hs := (h.ses i hib hi).frame c2 (fun h => h)
    have h1 := hs.c1
    have h2 := hs.c2
    generalize T.L[i] = x at *
    clear hp h hs
    generalize bs[i] = a at *
    go_wp2_with (fail)
    go_quiet (fail)
    go_wp2
    go_ret3
    exact ⟨by rw [HF.out]; rfl, c2.pure ((Chg.refl _ _).drewN _)⟩
end Go.Proofs.Ytpfnphkgmjgmeaa
