/- Package frame: Same over rows of loads. -/
import Derived.Test.YtemofjaonoofhaaFrameG
namespace Go.Proofs.Ytemofjaonoofhaa
open Go Go.RowKit
set_option linter.unusedVariables false
set_option linter.unusedSimpArgs false

theorem Loads.bl {w : World} {B : Nat} {A : Option Addr} {n c : Nat} {ls : List (List UInt8)} (h : Loads w B (.slice A n c) ls) : BytesL w A ls.length ls := by
  obtain ⟨us, ho, hu⟩ := h
  refine ⟨rfl, fun hp => ?_⟩
  rcases ho.2 with ⟨h', h0⟩ | ⟨g, cap, cur, h', hb, hg, hnc, hcm, hcs, htake⟩
  · omega
  · injection h' with h1 h2 h3
    subst h1
    subst h2
    refine ⟨g, 0, rfl, fun j hj => ?_⟩
    obtain ⟨A1, c1, h1, h2, h3⟩ := hu j hj
    have := World.ownsRow.cells ho (g := g) rfl j _ h1
    have e : (⟨g, 0, none⟩ : Addr).add j = ⟨g, 0 + j, none⟩ := by unfold Addr.add; split <;> simp_all
    rw [e] at this
    exact ⟨A1, _, c1, this, h2, h3.bytes⟩
theorem BytesL.pure {w w' : World} {A : Option Addr} {n : Nat} {xss : List (List UInt8)} (h : BytesL w A n xss) (hc : Chg Pure' w w') : BytesL w' A n xss := by
  refine ⟨h.len, fun hp => ?_⟩
  obtain ⟨b, off, e, hj⟩ := h.cells hp
  refine ⟨b, off, e, fun j hjj => ?_⟩
  obtain ⟨A1, n1, c1, h1, h2, h3⟩ := hj j hjj
  exact ⟨A1, n1, c1, hc.cell h1 (fun h => h), h2, h3.pure hc⟩
theorem eq_upto {xss yss : List (List UInt8)} (hl : xss.length = yss.length) : ∀ k (hk : k ≤ xss.length), (∀ i (hi : i < k), xss[i]'(by omega) = yss[i]'(by omega)) → k = xss.length → xss = yss := by
  intro k hk h e
  subst e
  exact List.ext_getElem hl (fun i h1 h2 => h i h1)
set_option maxHeartbeats 4000000 in
theorem sames_any (A : Option Addr) (n c : Nat) (xss : List (List UInt8)) (B : Option Addr) (m d : Nat) (yss : List (List UInt8)) (w : World) (hA : BytesL w A n xss) (hB : BytesL w B m yss) (hn : n ≤ 9223372036854775807) (hm : m ≤ 9223372036854775807) (r : Bool) (hr : decide (xss = yss) = r) :
    Calls Try.prog 17 #[.slice A n c, .slice B m d] w fun e w' => e = .returned (.bool r) ∧ Chg Pure' w w' := by
  by_cases hnm : n = m
  · have hb : (((n : Int)) != (m : Int)) = false := by rw [bne_eq_false_iff_eq]; omega
    have HNM := Lib.hid hnm
    clear hnm
    go_enter Try.func17, Try.ntmps17
    go_wp2_with (fail)
    go_loopw [5] (fun i wr => ∃ k : Nat, k ≤ n ∧ i = .int .i64 k ∧ Hid (Chg Pure' w wr ∧ ∀ i (hi : i < k), xss[i]? = yss[i]?)) (fun i _ => n - (intOf i).toNat)
    case atStart => exact ⟨0, Nat.zero_le _, rfl, Lib.hid ⟨Chg.refl _ _, fun i hi => by omega⟩⟩
    case round =>
      obtain ⟨k, hk, rfl, HS⟩ := hrel
      by_cases hlt : k < n
      · have hlx := hA.len
        have hly := hB.len
        have hnm := HNM.out
        obtain ⟨b, off, rfl, hcx⟩ := hA.cells (by omega)
        obtain ⟨bb, off2, rfl, hcy⟩ := hB.cells (by omega)
        have hkx : k < xss.length := by omega
        have hky : k < yss.length := by omega
        obtain ⟨A1, n1, c1, e1, e2, e3⟩ := hcx k hkx
        obtain ⟨A2, n2, c2, f1, f2, f3⟩ := hcy k hky
        have x1 := HS.out.1.cell e1 (fun h => h)
        have x2 := HS.out.1.cell f1 (fun h => h)
        have b1 := e3.pure HS.out.1
        have b2 := f3.pure HS.out.1
        have hkm : (k : Int) < (m : Int) := by omega
        have hgx : xss[k]? = some xss[k] := List.getElem?_eq_getElem hkx
        have hgy : yss[k]? = some yss[k] := List.getElem?_eq_getElem hky
        generalize xss[k] = x at *
        generalize yss[k] = y at *
        have HG := Lib.hid (And.intro hgx hgy)
        clear hcx hcy e1 e2 e3 f1 f2 f3 hgx hgy hlx hly hnm hkx hky
        by_cases hxy : x = y
        · have hd : decide (x = y) = true := by simpa using hxy
          have HN : ∀ w', Chg Pure' wr w' → Hid (Chg Pure' w w' ∧ ∀ (i : Nat), i < k + 1 → xss[i]? = yss[i]?) := fun w' hc => Lib.hid ⟨HS.out.1.pure hc, fun i hi => by
            by_cases hik : i < k
            · exact HS.out.2 i hik
            · obtain rfl : i = k := by omega
              rw [HG.out.1, HG.out.2, hxy]⟩
          clear hxy HS
          go_wp2_with (fail)
          go_quiet (first | (go_at_call 13; refine Calls.quiet_of_same (v := .bool true) ((same_is true _ _ _ _ _ _ _ _ _ (b1.pure ((Chg.refl _ _).drewN _)) (b2.pure ((Chg.refl _ _).drewN _)) hd).mono ?_); rintro e w2 ⟨rfl, rfl⟩; exact ⟨rfl, rfl⟩))
          have HN2 := HN _ ((Chg.refl _ wr).drewN nq)
          clear HN
          go_wp2
          go_roundw
          case rel => exact ⟨k + 1, by omega, by go_num, HN2⟩
          case measure => simp [intOf]; omega
        · have hd : decide (x = y) = false := by simpa using hxy
          have hrf : r = false := by
            rw [← hr, decide_eq_false_iff_not]
            intro e
            have h1 := HG.out.1
            have h2 := HG.out.2
            rw [e, h2] at h1
            injection h1 with h1
            exact hxy h1.symm
          subst hrf
          have C := fun nq => HS.out.1.drewN nq
          clear hxy HS hr
          go_wp2_with (fail)
          go_quiet (first | (go_at_call 13; refine Calls.quiet_of_same (v := .bool false) ((same_is false _ _ _ _ _ _ _ _ _ (b1.pure ((Chg.refl _ _).drewN _)) (b2.pure ((Chg.refl _ _).drewN _)) hd).mono ?_); rintro e w2 ⟨rfl, rfl⟩; exact ⟨rfl, rfl⟩))
          go_wp2
          go_ret
          exact ⟨rfl, C _⟩
      · have hkn : k = n := by omega
        have hlx := hA.len
        have hly := hB.len
        have hnm := HNM.out
        have hrt : r = true := by
          rw [← hr, decide_eq_true_iff]
          refine List.ext_getElem? (fun i => ?_)
          by_cases hi : i < k
          · exact HS.out.2 i hi
          · rw [List.getElem?_eq_none (by omega), List.getElem?_eq_none (by omega)]
        subst hrt
        have C := HS.out.1
        have hnl : ((k : Int) < (n : Int)) = False := eq_false (by omega)
        clear hkn hlx hly hnm HS hr
        go_wp2
        go_ret
        exact ⟨rfl, C⟩
  · have hb : (((n : Int)) != (m : Int)) = true := by rw [bne_iff_ne]; omega
    have hrf : r = false := by
      rw [← hr, decide_eq_false_iff_not]
      intro e
      have h1 := hA.len
      have h2 := hB.len
      rw [e] at h1
      omega
    subst hrf
    clear hnm hr
    go_enter Try.func17, Try.ntmps17
    go_wp2
    go_ret
    exact ⟨rfl, Chg.refl _ _⟩
theorem Bytes.sliced {w : World} {A : Option Addr} {n c lo hi : Nat} {xs : List UInt8} (h : Bytes w A n xs) (h1 : lo ≤ hi) (h2 : hi ≤ n) (h3 : n ≤ c) (A' : Option Addr) (e : (if c = lo then A else A.map fun x => x.add lo) = A') : Bytes w A' (hi - lo) ((xs.take hi).drop lo) := by
  have hl := h.len
  by_cases hz : lo = hi
  · subst hz
    rw [Nat.sub_self, List.drop_eq_nil_of_le (by simp; omega)]
    exact Bytes.nil _ _
  · obtain ⟨b, off, rfl, -⟩ := h.cells (by omega)
    rw [if_neg (by omega)] at e
    subst e
    have e1 : (⟨b, off, none⟩ : Addr).add lo = ⟨b, off + lo, none⟩ := by unfold Addr.add; split <;> simp_all
    rw [Option.map_some, e1]
    exact h.part lo hi h1 h2
end Go.Proofs.Ytemofjaonoofhaa
