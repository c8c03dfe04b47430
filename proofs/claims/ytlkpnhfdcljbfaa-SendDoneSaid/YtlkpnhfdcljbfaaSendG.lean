/- Package send, going on: the walk of Due. -/
import Derived.Test.YtlkpnhfdcljbfaaSendF
namespace Go.Proofs.Ytlkpnhfdcljbfaa
open Go Go.RowKit
set_option linter.unusedVariables false
set_option linter.unusedSimpArgs false

theorem Chg.of_drew {S : Nat → Prop} {a c : World} (h : Chg S a c) : Chg S a.drew c := ⟨h.os, h.tape, h.output, h.size, h.block⟩
theorem zero_msg (w : World) : (zeroValue 41).run Try.prog w = .ok (.agg #[.int .i64 0, .int .u64 0, .int .i64 0, .int .i64 0, .int .i64 0, .int .u64 0, .int .i64 0, .int .i64 0, .slice none 0 0]) w := by kernel_rfl
/-- What Due tells, and what stands behind it. -/
def dueOf (now : Int) (base : Nat) (Ls : List Ld) : List (Nat × List UInt8) × List Ld :=
  if 0 ≤ now ∧ now ≤ 1099511627776 then (dueOut now base Ls, Ls.map (dueLd now)) else ([], Ls)

set_option maxHeartbeats 4000000 in
theorem sdue_any {w : World} {p b : Nat} {adr : Nat → Nat} {D : Nat → Prop} {W base lim : Nat} {Ls : List Ld} {cnt : Nat} (h : SendAt w p b adr D W base lim Ls cnt) (now : Int) :
    Calls Try.prog 12 #[.pointer (some ⟨p, 0, none⟩), .int .i64 now] w fun e w' => ∃ v vs, e = .returned v ∧ MsgsAt w' w.heap.size v (dueOf now base Ls).1 vs ∧ Chg (Lds adr base Ls.length) w w' ∧ SendAt w' p b adr D W base lim (dueOf now base Ls).2 cnt := by
  have HO := Lib.hid (sok_any h)
  by_cases hwhen : 0 ≤ now ∧ now ≤ 1099511627776
  · have HW := Lib.hid (fun w => when_any now w true (decide_eq_true hwhen))
    have hR : dueOf now base Ls = (dueOut now base Ls, Ls.map (dueLd now)) := by unfold dueOf; rw [if_pos hwhen]
    rw [hR]
    have h1 := h.c1
    have hz := fun w => zero_ldp w
    have hzm := zero_msg
    have H := Lib.hid h
    have hlen := h.len
    have hw32 := h.w32
    have hnx := h.nx
    have hlm := h.lm
    clear h hR
    go_enter Try.func12, Try.ntmps12
    go_wp2_with (fail)
    refine HO.out.mono ?_
    rintro e w' ⟨rfl, rfl⟩
    go_wp2_with (fail)
    refine (HW.out _).mono ?_
    rintro e w' ⟨rfl, rfl⟩
    go_wp2_with (fail)
    go_loopw [5, 6] (fun v n wr => ∃ (j : Nat) (vs : List Value), j ≤ Ls.length ∧ n = .int .i64 ((base + j : Nat)) ∧ Hid (MsgsAt wr w.heap.size v (dueOut now base (Ls.take j)) vs) ∧ Hid (SendAt wr p b adr D W base lim (firstN (dueLd now) j Ls) cnt) ∧ Chg (Lds adr base Ls.length) w wr) (fun _ n _ => base + Ls.length - (intOf n).toNat)
    case atStart => exact ⟨0, [], Nat.zero_le _, rfl, MsgsAt.nil _ _, H.out, Chg.refl _ _⟩
    case round =>
      obtain ⟨j, vs, hj, rfl, hV, hS, hc⟩ := hrel
      have hS2 := hS.out
      have c1 := hS2.c1
      have c2 := hS2.c2
      have c4 := hS2.c4
      rw [firstN_length] at c2
      by_cases hlt : j < Ls.length
      · have hjf : j < (firstN (dueLd now) j Ls).length := by rw [firstN_length]; exact hlt
        obtain ⟨fs1, fs2⟩ := firstN_step (dueLd now) j Ls hlt
        have hld := hS2.lds j hjf
        rw [fs2] at hld
        have hM := hS2.map
        have hkey : (Lit.int .i64 ((base + j : Nat) : Int)).wf = true := wf_i64 (by omega)
        have hlook := look_run hM Try.underlying3 Try.underlying48 (hz wr) hkey (by rw [byM_in hjf])
        have e1 := hld.there
        have e2 := hld.time
        have e3 := hld.wait
        have t0 := hld.t0
        have w0 := hld.w0
        obtain ⟨A, n, c, d1, d2, d3, d4, d5⟩ := hld.data
        obtain ⟨cs, b1, b2⟩ := hld.blk
        have fr2 := free_at (i := 2) b1
        have fr3 := free_at (i := 3) b1
        have hilt : ((base + j : Nat) : Int) < ((base + Ls.length : Nat) : Int) := by omega
        have hout := dueOut_snoc now base (Ls.take j) (Ls[j]'hlt)
        rw [← List.take_succ_eq_append_getElem hlt, show (Ls.take j).length = j from by simp; omega] at hout
        have haB : adr (base + j) < w.heap.size := H.out.foot_lt _ (.inr (.inr (.inl ⟨j, hlt, rfl⟩)))
        have hol := dueOut_length now base (Ls.take j)
        have holt : (Ls.take j).length ≤ 64 := by simp; omega
        clear hld hM b1 hS2
        cases hh : dueHit now (Ls[j]'hlt) with
        | false =>
          have hL : firstN (dueLd now) (j + 1) Ls = firstN (dueLd now) j Ls := by
            have e0 : dueLd now (Ls[j]'hlt) = Ls[j]'hlt := by unfold dueLd; rw [if_neg (by rw [hh]; simp)]
            rw [fs1, e0, ← fs2, List.set_getElem_self]
          rw [hh] at hout
          rw [← hL] at hS
          simp only [Bool.false_eq_true, if_false, List.append_nil] at hout
          rw [← hout] at hV
          clear hL hout fs1 fs2
          generalize hx : Ls[j]'hlt = x at *
          have HX := Lib.hid hx
          clear hx
          cases hth : x.there with
          | true =>
            rw [hth] at e1
            clear hh
            generalize hnn : base + j = n1 at *
            have HN := Lib.hid hnn
            clear hnn
            go_wp2
            go_roundw
            case rel => exact ⟨j + 1, vs, by omega, by have := HN.out; go_num, hV, hS, hc⟩
            case measure => simp [intOf]; omega
          | false =>
            rw [hth] at e1
            have hti : now < x.time := by
              unfold dueHit at hh
              rw [hth] at hh
              simp at hh
              exact hh
            clear hh
            generalize hnn : base + j = n1 at *
            have HN := Lib.hid hnn
            clear hnn
            go_wp2
            go_roundw
            case rel => exact ⟨j + 1, vs, by omega, by have := HN.out; go_num, hV, hS, hc⟩
            case measure => simp [intOf]; omega
        | true =>
          have hL : firstN (dueLd now) (j + 1) Ls = (firstN (dueLd now) j Ls).set j { (Ls[j]'hlt) with time := now + (Ls[j]'hlt).wait, wait := if 64 < 2 * (Ls[j]'hlt).wait then 64 else 2 * (Ls[j]'hlt).wait } := by
            rw [fs1]; unfold dueLd; rw [if_pos hh]
          rw [hh, if_pos rfl] at hout
          have hth : (Ls[j]'hlt).there = false ∧ (Ls[j]'hlt).time ≤ now := by
            unfold dueHit at hh
            simpa using hh
          rw [hth.1] at e1
          have hti := hth.2
          have HL := Lib.hid hL
          have HOU := Lib.hid hout
          have HF2 := Lib.hid fs2
          have HBY := Lib.hid d4
          have HD5 := Lib.hid d5
          have hwv := hS.out.lds j hjf
          clear hL hout fs1 fs2 hh hth d4 d5 hwv
          generalize hx : Ls[j]'hlt = x at *
          have HX := Lib.hid hx
          clear hx
          generalize hnn : base + j = n1 at *
          have HN := Lib.hid hnn
          clear hnn
          go_wp2_with (fail)
          refine (clone_own A c n x.data _ HBY.out (by omega)).mono ?_
          rintro e w4 ⟨u, rfl, ho, k4⟩
          obtain ⟨A4, q4, rfl, hq4, -, -⟩ := own_slice ho
          have hs4 := k4.size
          have hsw := hc.size
          have hV4 := hV.out.keep k4 (fun k _ _ h => h)
          obtain ⟨v5, w5, hr5, hV5, k5⟩ := hV4.add (n := n1) (d := x.data) (by rw [HBY.out.len]; exact ho.low hsw) (by omega) (by omega) rfl
          have HV5 := Lib.hid hV5
          clear hV4 hV5
          go_wp2_with (first
            | (at_builtin; refine Lib.wpList_append_run _ rfl _ _ _ _ rfl _ _ rfl rfl _ _ hr5 ?_)
            | fail)
          have kk : Chg (fun k => w.heap.size ≤ k) wr w5 := k4.of_pure.trans k5 (fun i _ h => h)
          have haR : adr n1 < wr.heap.size := Nat.lt_of_lt_of_le haB hsw
          have kna : ¬ w.heap.size ≤ adr n1 := by omega
          have f2 : w5.drew.cell? ⟨adr n1, 2, none⟩ = some (.int .i64 x.time) := kk.cell e2 kna
          have f3 : w5.drew.cell? ⟨adr n1, 3, none⟩ = some (.int .i64 x.wait) := kk.cell e3 kna
          have HS5 := Lib.hid ((hS.out.frame kk (fun k hk e => by have := H.out.foot_lt k (by rw [firstN_length] at hk; exact hk); omega)))
          clear hr5 e1 e2 e3 d1 hlook c1 c2 c4 fr2 fr3 hS hV
          obtain ⟨cs5, g1, g2⟩ := (HS5.out.lds j hjf).blk
          rw [HN.out] at g1
          have hwm : 1 ≤ (if 64 < 2 * x.wait then 64 else 2 * x.wait) ∧ (if 64 < 2 * x.wait then 64 else 2 * x.wait) ≤ 64 := by split <;> omega
          have HT := Lib.hid (HS5.out.told hjf (now + x.wait) (if 64 < 2 * x.wait then 64 else 2 * x.wait) (by omega) hwm)
          clear hwm
          have fr2 := free_at (i := 2) g1
          have fr3 := free_at (i := 3) g1
          clear g1
          have f2' : w5.cell? ⟨adr n1, 2, none⟩ = some (.int .i64 x.time) := f2
          have f3' : w5.cell? ⟨adr n1, 3, none⟩ = some (.int .i64 x.wait) := f3
          have fr2' : w5.frozen? ⟨adr n1, 2, none⟩ = false := fr2
          have fr3' : w5.frozen? ⟨adr n1, 3, none⟩ = false := fr3
          refine reg_begin (fun k => k = adr n1) (by kernel_rfl) ?_
          refine reg_take 0 (v := ?_) rfl (by kernel_rfl) (by kernel_rfl) (by kernel_rfl) (fun _ _ _ h => h) (by kernel_rfl) ?_ ?_
          rotate_left
          · (intro w' hS; go_simp; (try go_bits); (try with_reducible rfl))
          try simp only [Act.put, List.getElem_toArray, List.getElem_cons_zero, List.getElem_cons_succ, List.setIfInBounds_toArray, List.set_cons_zero, List.set_cons_succ]
          refine reg_take 1 (v := ?_) rfl (by kernel_rfl) (by kernel_rfl) (by kernel_rfl) (fun _ _ _ h => h) (by kernel_rfl) ?_ ?_
          rotate_left
          · (intro w' hS; go_simp; (try go_bits); (try with_reducible rfl))
          try simp only [Act.put, List.getElem_toArray, List.getElem_cons_zero, List.getElem_cons_succ, List.setIfInBounds_toArray, List.set_cons_zero, List.set_cons_succ]
          refine reg_take 2 (v := ?_) rfl (by kernel_rfl) (by kernel_rfl) (by kernel_rfl) (fun _ _ _ h => h) (by kernel_rfl) ?_ ?_
          rotate_left
          · (intro w' hS; go_simp; (try go_bits); (try with_reducible rfl))
          try simp only [Act.put, List.getElem_toArray, List.getElem_cons_zero, List.getElem_cons_succ, List.setIfInBounds_toArray, List.set_cons_zero, List.set_cons_succ]
          refine reg_take 3 (v := ?_) rfl (by kernel_rfl) (by kernel_rfl) (by kernel_rfl) (fun _ _ _ h => h) (by kernel_rfl) ?_ ?_
          rotate_left
          · (intro w' hS; go_simp; (try go_bits); (try with_reducible rfl))
          try simp only [Act.put, List.getElem_toArray, List.getElem_cons_zero, List.getElem_cons_succ, List.setIfInBounds_toArray, List.set_cons_zero, List.set_cons_succ]
          refine reg_take 4 (v := ?_) rfl (by kernel_rfl) (by kernel_rfl) (by kernel_rfl) (fun _ _ _ h => h) (by kernel_rfl) ?_ ?_
          rotate_left
          · (intro w' hS; go_simp; (try go_bits); (try with_reducible rfl))
          try simp only [Act.put, List.getElem_toArray, List.getElem_cons_zero, List.getElem_cons_succ, List.setIfInBounds_toArray, List.set_cons_zero, List.set_cons_succ]
          refine reg_take 5 (v := ?_) rfl (by kernel_rfl) (by kernel_rfl) (by kernel_rfl) (fun _ _ _ h => h) (by kernel_rfl) ?_ ?_
          rotate_left
          · (intro w' hS; go_simp; (try go_bits); (try with_reducible rfl))
          try simp only [Act.put, List.getElem_toArray, List.getElem_cons_zero, List.getElem_cons_succ, List.setIfInBounds_toArray, List.set_cons_zero, List.set_cons_succ]
          refine reg_take 8 (v := ?_) rfl (by kernel_rfl) (by kernel_rfl) (by kernel_rfl) (fun _ _ _ h => h) (by kernel_rfl) ?_ ?_
          rotate_left
          · (intro w' hS; go_simp; (try go_bits); (try with_reducible rfl))
          try simp only [Act.put, List.getElem_toArray, List.getElem_cons_zero, List.getElem_cons_succ, List.setIfInBounds_toArray, List.set_cons_zero, List.set_cons_succ]
          refine reg_take 9 (v := ?_) rfl (by kernel_rfl) (by kernel_rfl) (by kernel_rfl) (fun _ _ _ h => h) (by kernel_rfl) ?_ ?_
          rotate_left
          · (intro w' hS; go_simp; (try go_bits); (try with_reducible rfl))
          try simp only [Act.put, List.getElem_toArray, List.getElem_cons_zero, List.getElem_cons_succ, List.setIfInBounds_toArray, List.set_cons_zero, List.set_cons_succ]
          refine reg_take 10 (v := ?_) rfl (by kernel_rfl) (by kernel_rfl) (by kernel_rfl) (fun _ _ _ h => h) (by kernel_rfl) ?_ ?_
          rotate_left
          · (intro w' hS; go_simp; (try go_bits); (try with_reducible rfl))
          try simp only [Act.put, List.getElem_toArray, List.getElem_cons_zero, List.getElem_cons_succ, List.setIfInBounds_toArray, List.set_cons_zero, List.set_cons_succ]
          refine reg_do2 6 11 rfl rfl (by kernel_rfl) (by kernel_rfl) (by kernel_rfl) ?_ ?_
          · intro K hK
            go_simp
            refine hK _ _ (Chg.refl _ _) ?_
            clear hK K
            try simp only [Act.put, List.getElem_toArray, List.getElem_cons_zero, List.getElem_cons_succ, List.setIfInBounds_toArray, List.set_cons_zero, List.set_cons_succ]
            refine reg_take 7 (v := ?_) rfl (by kernel_rfl) (by kernel_rfl) (by kernel_rfl) (fun _ _ _ h => h) (by kernel_rfl) ?_ ?_
            rotate_left
            · (intro w' hS; go_simp; (try go_bits); (try with_reducible rfl))
            try simp only [Act.put, List.getElem_toArray, List.getElem_cons_zero, List.getElem_cons_succ, List.setIfInBounds_toArray, List.set_cons_zero, List.set_cons_succ]
            refine reg_do 11 rfl (by kernel_rfl) (by kernel_rfl) ?_
            intro K hK
            go_simp
            refine hK _ _ (Chg.refl _ _) ?_
            clear hK K
            try simp only [Act.put, List.getElem_toArray, List.getElem_cons_zero, List.getElem_cons_succ, List.setIfInBounds_toArray, List.set_cons_zero, List.set_cons_succ]
            refine reg_take 12 (v := ?_) rfl (by kernel_rfl) (by kernel_rfl) (by kernel_rfl) (fun _ _ _ h => h) (by kernel_rfl) ?_ ?_
            rotate_left
            · (intro w' hS; go_simp; (try go_bits); (try with_reducible rfl))
            try simp only [Act.put, List.getElem_toArray, List.getElem_cons_zero, List.getElem_cons_succ, List.setIfInBounds_toArray, List.set_cons_zero, List.set_cons_succ]
            refine reg_take 13 (v := ?_) rfl (by kernel_rfl) (by kernel_rfl) (by kernel_rfl) (fun _ _ _ h => h) (by kernel_rfl) ?_ ?_
            rotate_left
            · (intro w' hS; go_simp; (try go_bits); (try with_reducible rfl))
            try simp only [Act.put, List.getElem_toArray, List.getElem_cons_zero, List.getElem_cons_succ, List.setIfInBounds_toArray, List.set_cons_zero, List.set_cons_succ]
            refine reg_take 14 (v := ?_) rfl (by kernel_rfl) (by kernel_rfl) (by kernel_rfl) (fun _ _ _ h => h) (by kernel_rfl) ?_ ?_
            rotate_left
            · (intro w' hS; go_simp; (try go_bits); (try with_reducible rfl))
            try simp only [Act.put, List.getElem_toArray, List.getElem_cons_zero, List.getElem_cons_succ, List.setIfInBounds_toArray, List.set_cons_zero, List.set_cons_succ]
            refine reg_take 15 (v := ?_) rfl (by kernel_rfl) (by kernel_rfl) (by kernel_rfl) (fun _ _ _ h => h) (by kernel_rfl) ?_ ?_
            rotate_left
            · (intro w' hS; go_simp; (try go_bits); (try with_reducible rfl))
            try simp only [Act.put, List.getElem_toArray, List.getElem_cons_zero, List.getElem_cons_succ, List.setIfInBounds_toArray, List.set_cons_zero, List.set_cons_succ]
            refine reg_do 16 rfl (by kernel_rfl) (by kernel_rfl) ?_
            intro K hK
            go_simp
            refine hK _ _ (Chg.setCell (S := fun k => k = adr n1) (Chg.refl _ w5.drew) (p := ⟨adr n1, 2, none⟩) (.inr rfl) _) ?_
            clear hK K
            try simp only [Act.put, List.getElem_toArray, List.getElem_cons_zero, List.getElem_cons_succ, List.setIfInBounds_toArray, List.set_cons_zero, List.set_cons_succ]
            refine reg_take 17 (v := ?_) rfl (by kernel_rfl) (by kernel_rfl) (by kernel_rfl) (fun _ _ _ h => h) (by kernel_rfl) ?_ ?_
            rotate_left
            · (intro w' hS; go_simp; (try go_bits); (try with_reducible rfl))
            try simp only [Act.put, List.getElem_toArray, List.getElem_cons_zero, List.getElem_cons_succ, List.setIfInBounds_toArray, List.set_cons_zero, List.set_cons_succ]
            refine reg_take 18 (v := ?_) rfl (by kernel_rfl) (by kernel_rfl) (by kernel_rfl) (fun _ _ _ h => h) (by kernel_rfl) ?_ ?_
            rotate_left
            · (intro w' hS; go_simp; (try go_bits); (try with_reducible rfl))
            try simp only [Act.put, List.getElem_toArray, List.getElem_cons_zero, List.getElem_cons_succ, List.setIfInBounds_toArray, List.set_cons_zero, List.set_cons_succ]
            refine reg_do 19 rfl (by kernel_rfl) (by kernel_rfl) ?_
            intro K hK
            go_simp
            refine hK _ _ (Chg.drew (Chg.of_drew (Chg.setCell (S := fun k => k = adr n1) (Chg.refl _ (w5.setCell ⟨adr n1, 2, none⟩ (.int .i64 (now + x.wait)))) (p := ⟨adr n1, 3, none⟩) (.inr rfl) _))) ?_
            clear hK K
            try simp only [Act.put, List.getElem_toArray, List.getElem_cons_zero, List.getElem_cons_succ, List.setIfInBounds_toArray, List.set_cons_zero, List.set_cons_succ]
            refine wpAnyH_done (by kernel_rfl) ?_ _
            have ht := HT.out
            rw [HN.out, HF2.out, ← HL.out] at ht
            have hnn := HN.out
            go_wp2
            go_roundw
            case rel =>
              refine ⟨j + 1, vs ++ [.slice A4 n q4], by omega, by go_num, ?_, ht.1.pure (Chg.refl _ _).drew, ?_⟩
              · rw [HOU.out]
                exact (HV5.out.keep ht.2 (fun k h1 _ e => by omega)).keep (Chg.refl Pure' _).drew (fun k _ _ h => h)
              · exact ((hc.trans kk (fun i hi h => absurd h (by omega))).trans ht.2 (fun i hi e => ⟨j, hlt, by rw [hnn]; exact e⟩)).drew
            case measure => simp [intOf]; omega
          · intro K hK
            go_simp
            refine hK _ _ (Chg.refl _ _) ?_
            clear hK K
            try simp only [Act.put, List.getElem_toArray, List.getElem_cons_zero, List.getElem_cons_succ, List.setIfInBounds_toArray, List.set_cons_zero, List.set_cons_succ]
            refine reg_take 12 (v := ?_) rfl (by kernel_rfl) (by kernel_rfl) (by kernel_rfl) (fun _ _ _ h => h) (by kernel_rfl) ?_ ?_
            rotate_left
            · (intro w' hS; go_simp; (try go_bits); (try with_reducible rfl))
            try simp only [Act.put, List.getElem_toArray, List.getElem_cons_zero, List.getElem_cons_succ, List.setIfInBounds_toArray, List.set_cons_zero, List.set_cons_succ]
            refine reg_take 13 (v := ?_) rfl (by kernel_rfl) (by kernel_rfl) (by kernel_rfl) (fun _ _ _ h => h) (by kernel_rfl) ?_ ?_
            rotate_left
            · (intro w' hS; go_simp; (try go_bits); (try with_reducible rfl))
            try simp only [Act.put, List.getElem_toArray, List.getElem_cons_zero, List.getElem_cons_succ, List.setIfInBounds_toArray, List.set_cons_zero, List.set_cons_succ]
            refine reg_do 6 rfl (by kernel_rfl) (by kernel_rfl) ?_
            intro K hK
            go_simp
            refine hK _ _ (Chg.refl _ _) ?_
            clear hK K
            try simp only [Act.put, List.getElem_toArray, List.getElem_cons_zero, List.getElem_cons_succ, List.setIfInBounds_toArray, List.set_cons_zero, List.set_cons_succ]
            refine reg_take 7 (v := ?_) rfl (by kernel_rfl) (by kernel_rfl) (by kernel_rfl) (fun _ _ _ h => h) (by kernel_rfl) ?_ ?_
            rotate_left
            · (intro w' hS; go_simp; (try go_bits); (try with_reducible rfl))
            try simp only [Act.put, List.getElem_toArray, List.getElem_cons_zero, List.getElem_cons_succ, List.setIfInBounds_toArray, List.set_cons_zero, List.set_cons_succ]
            refine reg_take 14 (v := ?_) rfl (by kernel_rfl) (by kernel_rfl) (by kernel_rfl) (fun _ _ _ h => h) (by kernel_rfl) ?_ ?_
            rotate_left
            · (intro w' hS; go_simp; (try go_bits); (try with_reducible rfl))
            try simp only [Act.put, List.getElem_toArray, List.getElem_cons_zero, List.getElem_cons_succ, List.setIfInBounds_toArray, List.set_cons_zero, List.set_cons_succ]
            refine reg_take 15 (v := ?_) rfl (by kernel_rfl) (by kernel_rfl) (by kernel_rfl) (fun _ _ _ h => h) (by kernel_rfl) ?_ ?_
            rotate_left
            · (intro w' hS; go_simp; (try go_bits); (try with_reducible rfl))
            try simp only [Act.put, List.getElem_toArray, List.getElem_cons_zero, List.getElem_cons_succ, List.setIfInBounds_toArray, List.set_cons_zero, List.set_cons_succ]
            refine reg_do 16 rfl (by kernel_rfl) (by kernel_rfl) ?_
            intro K hK
            go_simp
            refine hK _ _ (Chg.setCell (S := fun k => k = adr n1) (Chg.refl _ w5.drew) (p := ⟨adr n1, 2, none⟩) (.inr rfl) _) ?_
            clear hK K
            try simp only [Act.put, List.getElem_toArray, List.getElem_cons_zero, List.getElem_cons_succ, List.setIfInBounds_toArray, List.set_cons_zero, List.set_cons_succ]
            refine reg_take 17 (v := ?_) rfl (by kernel_rfl) (by kernel_rfl) (by kernel_rfl) (fun _ _ _ h => h) (by kernel_rfl) ?_ ?_
            rotate_left
            · (intro w' hS; go_simp; (try go_bits); (try with_reducible rfl))
            try simp only [Act.put, List.getElem_toArray, List.getElem_cons_zero, List.getElem_cons_succ, List.setIfInBounds_toArray, List.set_cons_zero, List.set_cons_succ]
            refine reg_take 18 (v := ?_) rfl (by kernel_rfl) (by kernel_rfl) (by kernel_rfl) (fun _ _ _ h => h) (by kernel_rfl) ?_ ?_
            rotate_left
            · (intro w' hS; go_simp; (try go_bits); (try with_reducible rfl))
            try simp only [Act.put, List.getElem_toArray, List.getElem_cons_zero, List.getElem_cons_succ, List.setIfInBounds_toArray, List.set_cons_zero, List.set_cons_succ]
            refine reg_do 19 rfl (by kernel_rfl) (by kernel_rfl) ?_
            intro K hK
            go_simp
            refine hK _ _ (Chg.drew (Chg.of_drew (Chg.setCell (S := fun k => k = adr n1) (Chg.refl _ (w5.setCell ⟨adr n1, 2, none⟩ (.int .i64 (now + x.wait)))) (p := ⟨adr n1, 3, none⟩) (.inr rfl) _))) ?_
            clear hK K
            try simp only [Act.put, List.getElem_toArray, List.getElem_cons_zero, List.getElem_cons_succ, List.setIfInBounds_toArray, List.set_cons_zero, List.set_cons_succ]
            refine wpAnyH_done (by kernel_rfl) ?_ _
            have ht := HT.out
            rw [HN.out, HF2.out, ← HL.out] at ht
            have hnn := HN.out
            go_wp2
            go_roundw
            case rel =>
              refine ⟨j + 1, vs ++ [.slice A4 n q4], by omega, by go_num, ?_, ht.1.pure (Chg.refl _ _).drew, ?_⟩
              · rw [HOU.out]
                exact (HV5.out.keep ht.2 (fun k h1 _ e => by omega)).keep (Chg.refl Pure' _).drew (fun k _ _ h => h)
              · exact ((hc.trans kk (fun i hi h => absurd h (by omega))).trans ht.2 (fun i hi e => ⟨j, hlt, by rw [hnn]; exact e⟩)).drew
            case measure => simp [intOf]; omega
      · obtain rfl : j = Ls.length := by omega
        have hfin : firstN (dueLd now) Ls.length Ls = Ls.map (dueLd now) := by simp [firstN]
        rw [hfin] at hS
        rw [List.take_length] at hV
        clear hfin hS2
        have HC := Lib.hid hc
        generalize base + Ls.length = n1 at *
        go_wp2
        go_ret
        exact ⟨_, vs, rfl, hV.out, HC.out, hS.out⟩
  · have HW := Lib.hid (fun w => when_any now w false (decide_eq_false hwhen))
    have hR : dueOf now base Ls = ([], Ls) := by unfold dueOf; rw [if_neg hwhen]
    rw [hR]
    have H := Lib.hid h
    clear h hR
    go_enter Try.func12, Try.ntmps12
    go_wp2_with (fail)
    refine HO.out.mono ?_
    rintro e w' ⟨rfl, rfl⟩
    go_wp2_with (fail)
    refine (HW.out _).mono ?_
    rintro e w' ⟨rfl, rfl⟩
    go_wp2
    go_ret
    exact ⟨_, [], rfl, MsgsAt.nil _ _, Chg.refl _ _, H.out⟩
end Go.Proofs.Ytlkpnhfdcljbfaa
