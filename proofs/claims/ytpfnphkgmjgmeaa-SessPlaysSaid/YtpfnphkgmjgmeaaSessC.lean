/- Package sess, going on: slices.IndexFunc and DeleteFunc as the ticks use them. -/
import Derived.Test.YtpfnphkgmjgmeaaSessB
namespace Go.Proofs.Ytpfnphkgmjgmeaa
open Go Go.RowKit
set_option linter.unusedVariables false
set_option linter.unusedSimpArgs false

set_option maxHeartbeats 1000000 in
theorem idx_tick {w : World} {p ub : Nat} {bs : List Nat} {v : Value} {T : Tb} {cnt : Nat} (h : TabOf w p ub bs v T cnt) (tp eb B : Nat) (ht : w.cell? ⟨tp, 0, none⟩ = some (.pointer (some ⟨p, 0, none⟩))) (htB : tp < B)
    (hF : ∀ k, TFoot p ub bs v k → k < B) (he : EndAt w B eb []) (hB : B ≤ w.heap.size) :
    Calls Try.prog 39 #[v, .func (.func 37) #[] #[.pointer (some ⟨tp, 0, none⟩), .pointer (some ⟨eb, 0, none⟩)]] w fun e w' => Chg (fun k => B ≤ k) w w' ∧
      ((e = .returned (.int .i64 (-1)) ∧ (∀ x ∈ T.L, overB T.now T.idle x = false) ∧ EndAt w' B eb []) ∨
       ∃ i : Nat, ∃ hi : i < T.L.length, e = .returned (.int .i64 i) ∧ overB T.now T.idle (T.L[i]) = true ∧ (∀ j (hj : j < T.L.length), j < i → overB T.now T.idle (T.L[j]) = false) ∧ EndAt w' B eb [(T.L[i]).token]) := by
  obtain ⟨Bv, q, rfl, -, hBv, -⟩ := own_slice h.row
  have hl64 : T.L.length ≤ 64 := Nat.le_trans h.lm h.m64
  have H := Lib.hid h
  have HFF := Lib.hid hF
  have HE := Lib.hid he
  have hB2 := Lib.hid hB
  clear h hF he
  go_enter Try.func39, Try.ntmps39
  go_wp2_with (fail)
  go_loopw [8] (fun i wr => ∃ k : Nat, k ≤ T.L.length ∧ i = .int .i64 k ∧ Chg (fun k => B ≤ k) w wr ∧ Hid (EndAt wr B eb []) ∧ Hid (∀ j (hj : j < T.L.length), j < k → overB T.now T.idle (T.L[j]) = false)) (fun i _ => T.L.length - (intOf i).toNat)
  case atStart => exact ⟨0, Nat.zero_le _, rfl, Chg.refl _ _, HE, fun j hj h0 => absurd h0 (Nat.not_lt_zero _)⟩
  case round =>
    obtain ⟨k, hk, rfl, hc, hE, hno⟩ := hrel
    by_cases hlt : k < T.L.length
    · obtain ⟨g, rfl, -⟩ := hBv (by omega)
      have hkb : k < bs.length := by rw [H.out.len]; exact hlt
      have nf : ∀ i, TFoot p ub bs (.slice (some ⟨g, 0, none⟩) T.L.length q) i → ¬ B ≤ i := fun i hi => by have := HFF.out i hi; omega
      have hcell := hc.cell ((H.out.row.cellAt k (by omega)).trans (show (bs.map ptr)[k]? = some (.pointer (some ⟨bs[k], 0, none⟩)) from by simp [hkb, ptr])) (nf _ (.inr (.inr (.inr rfl))))
      have hmem : bs[k] ∈ bs := List.getElem_mem hkb
      have hse := (H.out.ses k hkb hlt).frame hc (nf _ (.inr (.inr (.inl hmem))))
      have hat : bs[k] < B := HFF.out _ (.inr (.inr (.inl hmem)))
      have htp := hc.cell ht (by simp only; omega)
      have g1 := hc.cell H.out.c1 (nf _ (.inl rfl))
      have g2 := hc.cell H.out.c2 (nf _ (.inl rfl))
      have hep := H.out.ep _ (List.getElem_mem hlt)
      have hsz := hc.size
      generalize hx : T.L[k] = x at *
      generalize bs[k] = a at *
      have HX := Lib.hid hx
      clear hx hmem
      go_wp2_with (fail)
      refine (tick1_any a p tp eb B T.idle T.now x [] wr hse htp g1 g2 hE.out (by simp) H.out.n0 hep.2.2 H.out.i2 (by omega) hat).mono ?_
      rintro e w2 ⟨rfl, e2, c2⟩
      cases hov : overB T.now T.idle x with
      | true =>
        rw [hov] at e2
        have HOV := Lib.hid hov
        clear hov
        go_wp2
        go_ret
        refine ⟨hc.trans' c2, .inr ⟨k, hlt, rfl, by rw [HX.out]; exact HOV.out, fun j hj hjk => hno.out j hj hjk, ?_⟩⟩
        rw [HX.out]
        simpa using e2
      | false =>
        rw [hov] at e2
        have hno2 : Hid (∀ j (hj : j < T.L.length), j < k + 1 → overB T.now T.idle (T.L[j]) = false) := by
          intro j hj h2
          by_cases hjk : j = k
          · subst hjk; rw [HX.out]; exact hov
          · exact hno.out j hj (by omega)
        have e3 : Hid (EndAt w2 B eb []) := Lib.hid (by simpa using e2)
        clear hov e2
        go_wp2
        go_roundw
        case rel => exact ⟨k + 1, by omega, by go_num, hc.trans' c2, e3, hno2⟩
        case measure => simp [intOf]; omega
    · go_wp2
      go_ret
      refine ⟨hc, .inl ⟨rfl, fun x hx => ?_, hE.out⟩⟩
      obtain ⟨j, hj, rfl⟩ := List.mem_iff_getElem.1 hx
      exact hno.out j hj (by omega)
/-- The sessions with their blocks. -/
def pairs (bs : List Nat) (L : List Se) : List (Nat × Se) := bs.zip L
def stays (now : Int) (idle : Nat) (z : Nat × Se) : Bool := !overB now idle z.2
def goes (now : Int) (idle : Nat) (z : Nat × Se) : Bool := overB now idle z.2
theorem stays_goes (now : Int) (idle : Nat) (l : List (Nat × Se)) : (l.filter (stays now idle)).length + (l.filter (goes now idle)).length = l.length := by
  induction l with
  | nil => rfl
  | cons z l ih =>
    have e : stays now idle z = !goes now idle z := rfl
    simp only [List.filter_cons, e]
    cases goes now idle z <;> simp <;> omega
theorem filter_snoc {α : Type} (f : α → Bool) (l : List α) (k : Nat) (hk : k < l.length) : (l.take (k + 1)).filter f = (l.take k).filter f ++ (if f (l[k]) then [l[k]] else []) := by
  rw [List.take_succ_eq_append_getElem hk, List.filter_append]
  congr 1
  simp only [List.filter_cons, List.filter_nil]
theorem nilSe (w : World) : (zeroValue 66).run Try.prog w = .ok (.pointer none) w := by kernel_rfl
set_option maxHeartbeats 2000000 in
theorem del_tick {w : World} {p ub : Nat} {bs : List Nat} {v : Value} {T : Tb} {cnt : Nat} (h : TabOf w p ub bs v T cnt) (tp eb B : Nat) (ht : w.cell? ⟨tp, 0, none⟩ = some (.pointer (some ⟨p, 0, none⟩))) (htB : tp < B) (htF : ¬ TFoot p ub bs v tp)
    (hF : ∀ k, TFoot p ub bs v k → k < B) (he : EndAt w B eb []) (hB : B ≤ w.heap.size) :
    Calls Try.prog 36 #[v, .func (.func 37) #[] #[.pointer (some ⟨tp, 0, none⟩), .pointer (some ⟨eb, 0, none⟩)]] w fun e w' => Chg (fun k => B ≤ k ∨ v.ownBlock = some k) w w' ∧
      ∃ v', e = .returned v' ∧ w'.ownsRow 0 66 1 v' ((pairs bs T.L).filter (stays T.now T.idle)).length (((pairs bs T.L).filter (stays T.now T.idle)).map fun z => ptr z.1) ∧
        (∀ k, v'.ownBlock = some k → v.ownBlock = some k) ∧ EndAt w' B eb (((pairs bs T.L).filter (goes T.now T.idle)).map fun z => z.2.token) := by
  have hpl : (pairs bs T.L).length = T.L.length := by unfold pairs; rw [List.length_zip, h.len]; omega
  have hp1 : ∀ j (hj : j < (pairs bs T.L).length) (h1 : j < bs.length) (h2 : j < T.L.length), (pairs bs T.L)[j] = (bs[j], T.L[j]) := fun j hj h1 h2 => by simp [pairs]
  have hpm : (pairs bs T.L).map (fun z => ptr z.1) = bs.map ptr := by
    apply List.ext_getElem
    · simp [hpl, h.len]
    · intro j h1 h2; simp [pairs]
  have hl64 : T.L.length ≤ 64 := Nat.le_trans h.lm h.m64
  have H := Lib.hid h
  have HFF := Lib.hid hF
  have HIX := Lib.hid (idx_tick h tp eb B ht htB hF he hB)
  obtain ⟨Bv, q, rfl, hq, hBv, -⟩ := own_slice h.row
  have hrow := Lib.hid h.row
  have HPM := Lib.hid hpm
  have HPL := Lib.hid hpl
  have HP1 := Lib.hid hp1
  clear h hF he hpm hpl hp1
  go_enter Try.func36, Try.ntmps36
  go_wp2_with (fail)
  refine HIX.out.mono ?_
  rintro e w1 ⟨c1, ⟨rfl, hno, he1⟩ | ⟨i0, hi0, rfl, hov, hno, he1⟩⟩
  · have HNO := Lib.hid hno
    clear hno
    go_wp2
    go_ret
    have f1 : (pairs bs T.L).filter (stays T.now T.idle) = pairs bs T.L := by
      rw [List.filter_eq_self]
      intro z hz
      have := HNO.out z.2 (List.of_mem_zip hz).2
      simp [stays, this]
    have f2 : (pairs bs T.L).filter (goes T.now T.idle) = [] := by
      rw [List.filter_eq_nil_iff]
      intro z hz
      have := HNO.out z.2 (List.of_mem_zip hz).2
      simp [goes, this]
    refine ⟨c1.mono (fun k _ h => .inl h), _, rfl, ?_, fun k hk => hk, ?_⟩
    · rw [f1, HPM.out, HPL.out]
      exact own_keep hrow.out c1 (fun g hg => by have := HFF.out g (.inr (.inr (.inr hg))); omega)
    · rw [f2]; exact he1
  · obtain ⟨g, rfl, -⟩ := hBv (by omega)
    have nf : ∀ i, TFoot p ub bs (.slice (some ⟨g, 0, none⟩) T.L.length q) i → ¬ B ≤ i := fun i hi => by have := HFF.out i hi; omega
    have hgB := HFF.out g (.inr (.inr (.inr rfl)))
    have hrow1 := own_keep hrow.out c1 (fun g' hg => nf g' (.inr (.inr (.inr hg))))
    -- what stands behind the first that goes
    have hst : ((pairs bs T.L).take (i0 + 1)).filter (stays T.now T.idle) = (pairs bs T.L).take i0 := by
      have hi0p : i0 < (pairs bs T.L).length := by rw [HPL.out]; exact hi0
      rw [filter_snoc _ _ _ hi0p]
      have e1 : stays T.now T.idle ((pairs bs T.L)[i0]) = false := by
        rw [HP1.out i0 hi0p (by rw [H.out.len]; exact hi0) hi0]; simp [stays, hov]
      rw [e1]
      simp only [Bool.false_eq_true, if_false, List.append_nil, List.filter_eq_self]
      intro z hz
      obtain ⟨j, hj, rfl⟩ := List.mem_iff_getElem.1 hz
      have hj2 : j < i0 := by simp at hj; omega
      rw [List.getElem_take, HP1.out j (by omega) (by rw [H.out.len]; omega) (by omega)]
      simp [stays, hno j (by omega) hj2]
    have hgo : (((pairs bs T.L).take (i0 + 1)).filter (goes T.now T.idle)).map (fun z => z.2.token) = [(T.L[i0]).token] := by
      have hi0p : i0 < (pairs bs T.L).length := by rw [HPL.out]; exact hi0
      rw [filter_snoc _ _ _ hi0p]
      have e1 : goes T.now T.idle ((pairs bs T.L)[i0]) = true := by
        rw [HP1.out i0 hi0p (by rw [H.out.len]; exact hi0) hi0]; simp [goes, hov]
      have e2 : ((pairs bs T.L).take i0).filter (goes T.now T.idle) = [] := by
        rw [List.filter_eq_nil_iff]
        intro z hz
        obtain ⟨j, hj, rfl⟩ := List.mem_iff_getElem.1 hz
        have hj2 : j < i0 := by simp at hj; omega
        rw [List.getElem_take, HP1.out j (by omega) (by rw [H.out.len]; omega) (by omega)]
        simp [goes, hno j (by omega) hj2]
      rw [e1, e2, HP1.out i0 hi0p (by rw [H.out.len]; exact hi0) hi0]
      rfl
    have HE1 := Lib.hid (hgo ▸ he1)
    have HST := Lib.hid hst
    have HR1 := Lib.hid hrow1
    have HLN := Lib.hid (show (((pairs bs T.L).take (i0 + 1)).filter (stays T.now T.idle)).length = i0 from by rw [hst]; simp [HPL.out]; omega)
    have hm1 : ((i0 : Int) == -1) = false := by simp
    clear hov hno he1 hst hgo hrow1
    go_wp2_with (fail)
    try simp only [hm1]
    clear hm1
    go_loopw [5, 6] (fun i j wr => ∃ (k m : Nat) (row : List Value), i0 + 1 ≤ k ∧ k ≤ T.L.length ∧ m < k ∧ j = .int .i64 k ∧ i = .int .i64 m ∧ Hid (m = (((pairs bs T.L).take k).filter (stays T.now T.idle)).length) ∧
      Hid (wr.ownsRow 0 66 1 (.slice (some ⟨g, 0, none⟩) T.L.length q) T.L.length row) ∧ Hid (row.take m = (((pairs bs T.L).take k).filter (stays T.now T.idle)).map fun z => ptr z.1) ∧ Hid (row.drop k = (bs.map ptr).drop k) ∧
      Hid (EndAt wr B eb ((((pairs bs T.L).take k).filter (goes T.now T.idle)).map fun z => z.2.token)) ∧ Chg (fun k => B ≤ k ∨ k = g) w wr) (fun _ j _ => T.L.length - (intOf j).toNat)
    case atStart =>
      refine ⟨i0 + 1, i0, bs.map ptr, Nat.le_refl _, by omega, by omega, by go_num, rfl, HLN.out.symm, HR1, ?_, rfl, HE1, c1.mono (fun k _ h => .inl h)⟩
      rw [HST.out, ← HPM.out, List.map_take]
      exact rfl
    case round =>
      obtain ⟨k, m, row, hik, hk, hmk, rfl, rfl, hm, hR, htk, hdr, hE, hc⟩ := hrel
      by_cases hlt : k < T.L.length
      · have hkb : k < bs.length := by rw [H.out.len]; exact hlt
        have hkp : k < (pairs bs T.L).length := by rw [HPL.out]; exact hlt
        have hrk : row[k]? = (bs.map ptr)[k]? := by
          have := congrArg (fun l => l[0]?) hdr.out
          simpa [List.getElem?_drop] using this
        have hcell := (hR.out.cellAt k (by omega)).trans (hrk.trans (show (bs.map ptr)[k]? = some (.pointer (some ⟨bs[k], 0, none⟩)) from by simp [hkb, ptr]))
        have hmem : bs[k] ∈ bs := List.getElem_mem hkb
        have hap := H.out.ap _ hmem
        have nf2 : ∀ i, TFoot p ub bs (.slice (some ⟨g, 0, none⟩) T.L.length q) i → i ≠ g → ¬ (B ≤ i ∨ i = g) := fun i hi hg e => e.elim (fun e => nf i hi e) hg
        have hse := (H.out.ses k hkb hlt).frame hc (nf2 _ (.inr (.inr (.inl hmem))) (fun e => hap.2.2 (by rw [e]; rfl)))
        have hat : bs[k] < B := HFF.out _ (.inr (.inr (.inl hmem)))
        have htp := hc.cell ht (fun e => e.elim (fun e => by simp only at e; omega) (fun e => htF (.inr (.inr (.inr (by simp only at e; rw [e]; rfl))))))
        have hpg : p ≠ g := fun e => H.out.vp (by rw [e]; rfl)
        have g1 := hc.cell H.out.c1 (nf2 _ (.inl rfl) hpg)
        have g2 := hc.cell H.out.c2 (nf2 _ (.inl rfl) hpg)
        have hep := H.out.ep _ (List.getElem_mem hlt)
        have hsz := hc.size
        have hf1 := filter_snoc (stays T.now T.idle) (pairs bs T.L) k hkp
        have hf2 := filter_snoc (goes T.now T.idle) (pairs bs T.L) k hkp
        rw [HP1.out k hkp hkb hlt] at hf1 hf2
        have hgl : ((((pairs bs T.L).take k).filter (goes T.now T.idle)).map fun z => z.2.token).length ≤ 64 := by
          have := List.length_filter_le (goes T.now T.idle) ((pairs bs T.L).take k)
          simp only [List.length_map, List.length_take] at this ⊢
          omega
        generalize hx : T.L[k] = x at *
        generalize bs[k] = a at *
        have HF1 := Lib.hid hf1
        have HF2 := Lib.hid hf2
        have HDR := Lib.hid (show ∀ u, (row.set m u).drop (k + 1) = (bs.map ptr).drop (k + 1) from fun u => by
          rw [List.drop_set_of_lt (by omega)]
          have := congrArg (List.drop 1) hdr.out
          simpa [List.drop_drop, Nat.add_comm] using this)
        have HDR0 := Lib.hid (show row.drop (k + 1) = (bs.map ptr).drop (k + 1) from by
          have := congrArg (List.drop 1) hdr.out
          simpa [List.drop_drop, Nat.add_comm] using this)
        clear hx hmem hrk hf1 hf2 hdr
        go_wp2_with (fail)
        refine (tick1_any a p tp eb B T.idle T.now x _ wr hse htp g1 g2 hE.out hgl H.out.n0 hep.2.2 H.out.i2 (by omega) hat).mono ?_
        rintro e w2 ⟨rfl, e2, c2⟩
        have hc2 := hc.trans' (c2.mono (fun k _ h => .inl h))
        have hR2 := own_keep hR.out c2 (fun g' hg e => by cases hg; have e : B ≤ g := e; omega)
        clear hcell hse htp g1 g2 hE hR
        cases hov : overB T.now T.idle x with
        | true =>
          rw [hov] at e2
          have hs1 : stays T.now T.idle (a, x) = false := by simp [stays, hov]
          have hs2 : goes T.now T.idle (a, x) = true := by simp [goes, hov]
          rw [hs1] at HF1
          rw [hs2] at HF2
          simp only [Bool.false_eq_true, if_false, List.append_nil, if_true] at HF1 HF2
          have e3 : Hid (EndAt w2 B eb ((((pairs bs T.L).take (k + 1)).filter (goes T.now T.idle)).map fun z => z.2.token)) := by
            rw [HF2.out, List.map_append]; simpa using Lib.hid e2
          clear hov e2 hs1 hs2
          go_wp2
          go_roundw
          case rel => exact ⟨k + 1, m, row, by omega, by omega, by omega, by go_num, rfl, by rw [HF1.out]; exact hm, hR2, by rw [HF1.out]; exact htk, HDR0, e3, hc2⟩
          case measure => simp [intOf]; omega
        | false =>
          rw [hov] at e2
          have hs1 : stays T.now T.idle (a, x) = true := by simp [stays, hov]
          have hs2 : goes T.now T.idle (a, x) = false := by simp [goes, hov]
          rw [hs1] at HF1
          rw [hs2] at HF2
          simp only [Bool.false_eq_true, if_false, List.append_nil, if_true] at HF1 HF2
          have hfr := hR2.frozenAt m
          have hcm := hR2.cellAt m (by omega)
          have hrl : row.length = T.L.length := by have := hR2.1; omega
          obtain ⟨u, hu⟩ : ∃ u, row[m]? = some u := ⟨_, List.getElem?_eq_getElem (by omega)⟩
          rw [hu] at hcm
          obtain ⟨hR3, -⟩ := hR2.stored m (.pointer (some ⟨a, 0, none⟩))
          have c3 : Chg (fun k => k = g) w2 (w2.setCell ⟨g, m, none⟩ (.pointer (some ⟨a, 0, none⟩))) := Chg.setCell (S := fun k => k = g) (Chg.refl _ w2) (p := ⟨g, m, none⟩) (.inr rfl) _
          have e3 : Hid (EndAt (w2.setCell ⟨g, m, none⟩ (.pointer (some ⟨a, 0, none⟩))) B eb ((((pairs bs T.L).take (k + 1)).filter (goes T.now T.idle)).map fun z => z.2.token)) := by
            rw [HF2.out]
            exact EndAt.frame (by simpa using e2) c3 (fun k hk _ e => by have e : k = g := e; omega)
          have htk2 : Hid ((row.set m (.pointer (some ⟨a, 0, none⟩))).take (m + 1) = (((pairs bs T.L).take (k + 1)).filter (stays T.now T.idle)).map fun z => ptr z.1) := by
            rw [HF1.out, List.map_append, ← htk.out, List.take_succ_eq_append_getElem (by simp; omega), List.getElem_set_self, List.take_set_of_le (Nat.le_refl _)]
            exact rfl
          have hc3 := hc2.trans' (c3.mono (fun k _ e => .inr e))
          have HR3 := Lib.hid hR3
          have i1 : (m : Int) < (T.L.length : Int) := by omega
          clear hov e2 hs1 hs2 hR2 hR3 hrl htk hu
          go_wp2
          go_roundw
          case rel => exact ⟨k + 1, m + 1, _, by omega, by omega, by omega, by go_num, by go_num, by rw [HF1.out]; exact Lib.hid (by simp [← hm.out]), HR3, htk2, HDR.out _, e3, hc3⟩
          case measure => simp [intOf]; omega
      · obtain rfl : k = T.L.length := by omega
        have hrl : row.length = T.L.length := by have := hR.out.1; omega
        have hclr := Lib.run_clear_slice (P := Try.prog) wr 60 66 0 (.pointer none) Try.underlying60 nilSe rfl rfl g m (T.L.length - m) (q - m) (by omega)
          (fun j hj => by rw [hR.out.cellAt (m + j) (by omega), List.getElem?_eq_getElem (by omega)]; rfl) (fun j hj => hR.out.frozenAt _)
        obtain ⟨ys, hR2, hy, c2⟩ := row_setCells (List.replicate (T.L.length - m) (.pointer none)) m wr row hR.out
        generalize wr.setCells g m (List.replicate (T.L.length - m) (.pointer none)) = w2 at *
        have htk2 : (pairs bs T.L).take T.L.length = pairs bs T.L := List.take_of_length_le (by rw [HPL.out]; exact Nat.le_refl _)
        have hm2 := hm.out
        have hE2 := hE.out.frame c2 (fun k hk _ e => by have e : k = g := e; omega)
        have hr2 := htk.out
        rw [htk2] at hm2 hE2 hr2
        have hcut := hR2.cutTo (k := m) (by omega)
        rw [hy, hr2] at hcut
        have hc2 := hc.trans' (c2.mono (fun k _ e => .inr e))
        have HM2 := Lib.hid hm2
        have HCUT := Lib.hid hcut
        have HE2 := Lib.hid hE2
        have i1 : (m : Int) ≤ (T.L.length : Int) := by omega
        clear hrl hy hm2 hE2 hr2 hcut hm htk hdr hE hR hR2 htk2
        go_wp2
        go_ret
        refine ⟨hc2.mono (fun k _ e => e.imp id (fun e => by rw [e]; rfl)), _, rfl, ?_, fun k hk => by simpa [Value.ownBlock] using hk, HE2.out⟩
        rw [← HM2.out]
        exact HCUT.out
end Go.Proofs.Ytpfnphkgmjgmeaa
