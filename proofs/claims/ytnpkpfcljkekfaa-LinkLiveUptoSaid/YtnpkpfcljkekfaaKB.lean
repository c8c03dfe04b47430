/- Package send, going on: what is done is let go. -/
import Derived.Test.YtnpkpfcljkekfaaSend
import Derived.Test.YtnpkpfcljkekfaaReg
namespace Go.Proofs.Ytnpkpfcljkekfaa
open Go Go.RowKit
set_option linter.unusedVariables false
set_option linter.unusedSimpArgs false

theorem zero_ldp (w : World) : (zeroValue 136).run Try.prog w = .ok (.pointer none) w := by kernel_rfl
/-- How many are done in a row. -/
def doneN : List Ld → Nat
  | x :: l => if x.there then doneN l + 1 else 0
  | [] => 0
theorem doneN_le : ∀ l, doneN l ≤ l.length
  | [] => Nat.le_refl _
  | x :: l => by unfold doneN; split <;> simp; have := doneN_le l; omega
/-- The number in a cell. -/
def intAt (w : World) (p i : Nat) : Int := match w.cell? ⟨p, i, none⟩ with | some (.int _ a) => a | _ => 0
theorem intAt_of {w : World} {p i : Nat} {k : IntKind} {a : Int} (h : w.cell? ⟨p, i, none⟩ = some (.int k a)) : intAt w p i = a := by unfold intAt; rw [h]
theorem byM_drop (base n : Nat) (adr : Nat → Nat) : dropAt (byM base (n + 1) adr) base = byM (base + 1) n adr := by
  funext i
  unfold dropAt byM
  by_cases h : i = base
  · rw [if_pos h, if_neg (by omega)]
  · rw [if_neg h]
    by_cases h2 : (base : Int) ≤ i ∧ i < ((base + (n + 1) : Nat) : Int)
    · rw [if_pos h2, if_pos (by omega)]
    · rw [if_neg h2, if_neg (by omega)]
/-- The first one is gone. -/
theorem SendAt.shift {w w' : World} {p b : Nat} {adr : Nat → Nat} {D : Nat → Prop} {W base lim : Nat} {x : Ld} {Ls : List Ld} {cnt : Nat} (h : SendAt w p b adr D W base lim (x :: Ls) cnt)
    (hm : MapAt w' 3 b cnt (dropAt (byM base (Ls.length + 1) adr) base)) (hc : Chg (fun k => k = p ∨ k = b) w w') (hb : ∃ cs, w'.heap[p]? = some (.cells cs 134 (0, 0)) ∧ cs.size = 5)
    (c0 : w'.cell? ⟨p, 0, none⟩ = some (.int .i64 W)) (c1 : w'.cell? ⟨p, 1, none⟩ = some (.int .i64 ((base : Int) + 1))) (c2 : w'.cell? ⟨p, 2, none⟩ = some (.int .i64 ((base + (Ls.length + 1) : Nat)))) (c3 : w'.cell? ⟨p, 3, none⟩ = some (.int .i64 lim)) (c4 : w'.cell? ⟨p, 4, none⟩ = some (.map (some b))) :
    SendAt w' p b adr D W (base + 1) lim Ls cnt := by
  have hl : (x :: Ls).length = Ls.length + 1 := rfl
  have e : ∀ i, adr (base + 1 + i) = adr (base + (i + 1)) := fun i => by rw [show base + 1 + i = base + (i + 1) from by omega]
  refine ⟨hb, h.w1, h.w32, by omega, by have := h.len; omega, by have := h.nx; omega, h.lm, c0, by rw [c1]; rfl, by rw [c2]; congr 2; omega, c3, c4, by rw [byM_drop] at hm; exact hm, fun j hj => ?_, h.pb,
    fun i j hi hj he => ?_, fun i hi => by rw [e]; exact h.ap (i + 1) (by omega), fun d hd => ⟨(h.dd d hd).1, (h.dd d hd).2.1, Nat.lt_of_lt_of_le (h.dd d hd).2.2.1 hc.size, fun i hi => by rw [e]; exact (h.dd d hd).2.2.2 (i + 1) (by omega)⟩⟩
  · rw [e]
    have h1 := h.ap (j + 1) (by omega)
    exact (h.lds (j + 1) (by omega)).frame hc (fun hh => hh.elim (fun e => h1.1 e) (fun e => h1.2 e)) (fun d hd hh => hh.elim (fun e => (h.dd d hd).1 e) (fun e => (h.dd d hd).2.1 e)) (fun d hd => hd)
  · rw [e, e] at he
    have := h.inj (i + 1) (j + 1) (by omega) (by omega) he
    omega
set_option maxHeartbeats 1000000 in
theorem settle_any {w : World} {p b : Nat} {adr : Nat → Nat} {D : Nat → Prop} {W base lim : Nat} {Ls : List Ld} {cnt : Nat} (h : SendAt w p b adr D W base lim Ls cnt) :
    Calls Try.prog 80 #[.pointer (some ⟨p, 0, none⟩)] w fun e w' => e = .returned (.tuple #[]) ∧ Chg (fun k => k = p ∨ k = b) w w' ∧ SendAt w' p b adr D W (base + doneN Ls) lim (Ls.drop (doneN Ls)) cnt := by
  have H := Lib.hid h
  clear h
  go_enter Try.func80, Try.ntmps80
  go_wp2
  go_loopw [] (fun wr => ∃ k : Nat, k ≤ doneN Ls ∧ doneN (Ls.drop k) = doneN Ls - k ∧ SendAt wr p b adr D W (base + k) lim (Ls.drop k) cnt ∧ Chg (fun k => k = p ∨ k = b) w wr) (fun wr => (lim + 2 - intAt wr p 1).toNat)
  case atStart => exact ⟨0, Nat.zero_le _, rfl, H.out, Chg.refl _ _⟩
  case round =>
    obtain ⟨k, hk, hd, hs, hc⟩ := hrel
    have hb1 := hs.b1
    have hlm := hs.lm
    have hnx := hs.nx
    have c1 : wr.drew.cell? ⟨p, 1, none⟩ = some (.int .i64 ((base + k : Nat))) := hs.c1
    have c2 : wr.drew.cell? ⟨p, 2, none⟩ = some (.int .i64 ((base + k + (Ls.drop k).length : Nat))) := hs.c2
    have c4 : wr.drew.cell? ⟨p, 4, none⟩ = some (.map (some b)) := hs.c4
    have HC := Lib.hid hc
    have HD := Lib.hid hd
    clear hc hd
    have hin := intAt_of hs.c1
    cases hL : Ls.drop k with
    | nil =>
      rw [hL] at c2 hs HD
      have hd0 : doneN Ls = k := by have h0 := HD.out; have e0 : doneN [] = 0 := rfl; omega
      have HS := Lib.hid hs
      have H0 := Lib.hid hd0
      have HL := Lib.hid hL
      have e0 : base + k + ([] : List Ld).length = base + k := rfl
      rw [e0] at c2
      clear hs hd0 hL e0
      generalize hbs : base + k = bs at *
      have HBS := Lib.hid hbs
      clear hbs
      go_wp2_with (fail)
      refine reg_begin (Pure') (by kernel_rfl) ?_
      refine reg_take 0 (v := ?_) rfl (by kernel_rfl) (by kernel_rfl) (by kernel_rfl) (fun _ _ _ h => h) (by kernel_rfl) ?_ ?_
      rotate_left
      · (intro w' hS; go_simp; (try go_bits); (try with_reducible rfl))
      try simp only [Act.put, List.getElem_toArray, List.getElem_cons_zero, List.getElem_cons_succ, List.setIfInBounds_toArray, List.set_cons_zero, List.set_cons_succ]
      refine reg_take 1 (v := ?_) rfl (by kernel_rfl) (by kernel_rfl) (by kernel_rfl) (fun _ _ _ h => h) (by kernel_rfl) ?_ ?_
      rotate_left
      · (intro w' hS; go_simp; (try go_bits); (try with_reducible rfl))
      try simp only [Act.put, List.getElem_toArray, List.getElem_cons_zero, List.getElem_cons_succ, List.setIfInBounds_toArray, List.set_cons_zero, List.set_cons_succ]
      refine reg_take 2 (v := ?_) rfl (by kernel_rfl) (by kernel_rfl) (by kernel_rfl) (fun _ _ _ h => h) (by kernel_rfl) ?_ ?_
      rotate_left
      · (intro w' hS; go_simp; (try go_bits); (try with_reducible rfl))
      try simp only [Act.put, List.getElem_toArray, List.getElem_cons_zero, List.getElem_cons_succ, List.setIfInBounds_toArray, List.set_cons_zero, List.set_cons_succ]
      refine reg_take 3 (v := ?_) rfl (by kernel_rfl) (by kernel_rfl) (by kernel_rfl) (fun _ _ _ h => h) (by kernel_rfl) ?_ ?_
      rotate_left
      · (intro w' hS; have hz := hS.cell c1 (fun h => h); go_simp; (try go_bits); (try with_reducible rfl))
      try simp only [Act.put, List.getElem_toArray, List.getElem_cons_zero, List.getElem_cons_succ, List.setIfInBounds_toArray, List.set_cons_zero, List.set_cons_succ]
      refine reg_take 4 (v := ?_) rfl (by kernel_rfl) (by kernel_rfl) (by kernel_rfl) (fun _ _ _ h => h) (by kernel_rfl) ?_ ?_
      rotate_left
      · (intro w' hS; go_simp; (try go_bits); (try with_reducible rfl))
      try simp only [Act.put, List.getElem_toArray, List.getElem_cons_zero, List.getElem_cons_succ, List.setIfInBounds_toArray, List.set_cons_zero, List.set_cons_succ]
      refine reg_take 5 (v := ?_) rfl (by kernel_rfl) (by kernel_rfl) (by kernel_rfl) (fun _ _ _ h => h) (by kernel_rfl) ?_ ?_
      rotate_left
      · (intro w' hS; go_simp; (try go_bits); (try with_reducible rfl))
      try simp only [Act.put, List.getElem_toArray, List.getElem_cons_zero, List.getElem_cons_succ, List.setIfInBounds_toArray, List.set_cons_zero, List.set_cons_succ]
      refine reg_take 6 (v := ?_) rfl (by kernel_rfl) (by kernel_rfl) (by kernel_rfl) (fun _ _ _ h => h) (by kernel_rfl) ?_ ?_
      rotate_left
      · (intro w' hS; go_simp; (try go_bits); (try with_reducible rfl))
      try simp only [Act.put, List.getElem_toArray, List.getElem_cons_zero, List.getElem_cons_succ, List.setIfInBounds_toArray, List.set_cons_zero, List.set_cons_succ]
      refine reg_take 7 (v := ?_) rfl (by kernel_rfl) (by kernel_rfl) (by kernel_rfl) (fun _ _ _ h => h) (by kernel_rfl) ?_ ?_
      rotate_left
      · (intro w' hS; have hz := hS.cell c2 (fun h => h); go_simp; (try go_bits); (try with_reducible rfl))
      try simp only [Act.put, List.getElem_toArray, List.getElem_cons_zero, List.getElem_cons_succ, List.setIfInBounds_toArray, List.set_cons_zero, List.set_cons_succ]
      refine reg_take 8 (v := ?_) rfl (by kernel_rfl) (by kernel_rfl) (by kernel_rfl) (fun _ _ _ h => h) (by kernel_rfl) ?_ ?_
      rotate_left
      · (intro w' hS; go_simp; (try go_bits); (try with_reducible rfl))
      try simp only [Act.put, List.getElem_toArray, List.getElem_cons_zero, List.getElem_cons_succ, List.setIfInBounds_toArray, List.set_cons_zero, List.set_cons_succ]
      refine reg_take 9 (v := ?_) rfl (by kernel_rfl) (by kernel_rfl) (by kernel_rfl) (fun _ _ _ h => h) (by kernel_rfl) ?_ ?_
      rotate_left
      · (intro w' hS; go_simp; (try go_bits); (try with_reducible rfl))
      try simp only [Act.put, List.getElem_toArray, List.getElem_cons_zero, List.getElem_cons_succ, List.setIfInBounds_toArray, List.set_cons_zero, List.set_cons_succ]
      refine reg_off 10 rfl (by kernel_rfl) (by kernel_rfl) (by kernel_rfl) (fun _ _ _ h => h) (by kernel_rfl) ?_
      try simp only [Act.put, List.getElem_toArray, List.getElem_cons_zero, List.getElem_cons_succ, List.setIfInBounds_toArray, List.set_cons_zero, List.set_cons_succ]
      refine reg_off 11 rfl (by kernel_rfl) (by kernel_rfl) (by kernel_rfl) (fun _ _ _ h => h) (by kernel_rfl) ?_
      try simp only [Act.put, List.getElem_toArray, List.getElem_cons_zero, List.getElem_cons_succ, List.setIfInBounds_toArray, List.set_cons_zero, List.set_cons_succ]
      refine reg_off 12 rfl (by kernel_rfl) (by kernel_rfl) (by kernel_rfl) (fun _ _ _ h => h) (by kernel_rfl) ?_
      try simp only [Act.put, List.getElem_toArray, List.getElem_cons_zero, List.getElem_cons_succ, List.setIfInBounds_toArray, List.set_cons_zero, List.set_cons_succ]
      refine reg_off 13 rfl (by kernel_rfl) (by kernel_rfl) (by kernel_rfl) (fun _ _ _ h => h) (by kernel_rfl) ?_
      try simp only [Act.put, List.getElem_toArray, List.getElem_cons_zero, List.getElem_cons_succ, List.setIfInBounds_toArray, List.set_cons_zero, List.set_cons_succ]
      refine reg_off 14 rfl (by kernel_rfl) (by kernel_rfl) (by kernel_rfl) (fun _ _ _ h => h) (by kernel_rfl) ?_
      try simp only [Act.put, List.getElem_toArray, List.getElem_cons_zero, List.getElem_cons_succ, List.setIfInBounds_toArray, List.set_cons_zero, List.set_cons_succ]
      refine reg_off 15 rfl (by kernel_rfl) (by kernel_rfl) (by kernel_rfl) (fun _ _ _ h => h) (by kernel_rfl) ?_
      try simp only [Act.put, List.getElem_toArray, List.getElem_cons_zero, List.getElem_cons_succ, List.setIfInBounds_toArray, List.set_cons_zero, List.set_cons_succ]
      refine reg_off 16 rfl (by kernel_rfl) (by kernel_rfl) (by kernel_rfl) (fun _ _ _ h => h) (by kernel_rfl) ?_
      try simp only [Act.put, List.getElem_toArray, List.getElem_cons_zero, List.getElem_cons_succ, List.setIfInBounds_toArray, List.set_cons_zero, List.set_cons_succ]
      refine reg_off 17 rfl (by kernel_rfl) (by kernel_rfl) (by kernel_rfl) (fun _ _ _ h => h) (by kernel_rfl) ?_
      try simp only [Act.put, List.getElem_toArray, List.getElem_cons_zero, List.getElem_cons_succ, List.setIfInBounds_toArray, List.set_cons_zero, List.set_cons_succ]
      refine reg_off 18 rfl (by kernel_rfl) (by kernel_rfl) (by kernel_rfl) (fun _ _ _ h => h) (by kernel_rfl) ?_
      try simp only [Act.put, List.getElem_toArray, List.getElem_cons_zero, List.getElem_cons_succ, List.setIfInBounds_toArray, List.set_cons_zero, List.set_cons_succ]
      refine reg_off 19 rfl (by kernel_rfl) (by kernel_rfl) (by kernel_rfl) (fun _ _ _ h => h) (by kernel_rfl) ?_
      try simp only [Act.put, List.getElem_toArray, List.getElem_cons_zero, List.getElem_cons_succ, List.setIfInBounds_toArray, List.set_cons_zero, List.set_cons_succ]
      refine reg_off 20 rfl (by kernel_rfl) (by kernel_rfl) (by kernel_rfl) (fun _ _ _ h => h) (by kernel_rfl) ?_
      try simp only [Act.put, List.getElem_toArray, List.getElem_cons_zero, List.getElem_cons_succ, List.setIfInBounds_toArray, List.set_cons_zero, List.set_cons_succ]
      refine reg_off 21 rfl (by kernel_rfl) (by kernel_rfl) (by kernel_rfl) (fun _ _ _ h => h) (by kernel_rfl) ?_
      try simp only [Act.put, List.getElem_toArray, List.getElem_cons_zero, List.getElem_cons_succ, List.setIfInBounds_toArray, List.set_cons_zero, List.set_cons_succ]
      refine reg_take 22 (v := ?_) rfl (by kernel_rfl) (by kernel_rfl) (by kernel_rfl) (fun _ _ _ h => h) (by kernel_rfl) ?_ ?_
      rotate_left
      · (intro w' hS; go_simp; (try go_bits); (try with_reducible rfl))
      try simp only [Act.put, List.getElem_toArray, List.getElem_cons_zero, List.getElem_cons_succ, List.setIfInBounds_toArray, List.set_cons_zero, List.set_cons_succ]
      refine wpAnyH_done (by kernel_rfl) ?_ _
      go_wp2
      refine bodyPost_end (v := .tuple #[]) (by unfold results; go_simp) rfl ⟨rfl, HC.out.drew, ?_⟩
      rw [H0.out, HL.out, HBS.out]
      exact HS.out.pure (Chg.refl _ _).drew
    | cons x rest =>
      rw [hL] at c2 hs HD hnx
      have hx := hs.lds 0 (by simp)
      have hxa := hs.ap 0 (by simp)
      have hM := hs.map
      have hzz := fun w => zero_ldp w
      have hlen : (x :: rest).length = rest.length + 1 := rfl
      rw [hlen] at hM c2 hnx
      have hbyM : byM (base + k) (rest.length + 1) adr ((base + k : Nat) : Int) = some (.pointer (some ⟨adr (base + k), 0, none⟩)) := by
        have := byM_in (base := base + k) (n := rest.length + 1) (adr := adr) (j := 0) (by omega)
        exact this
      have hkey : (Lit.int .i64 ((base + k : Nat) : Int)).wf = true := wf_i64 (by omega)
      have e1 := hx.there
      rw [Nat.add_zero] at e1 hxa
      have ed : wr.drew.cell? ⟨adr (base + k), 1, none⟩ = some (.bool x.there) := e1
      have HS := Lib.hid hs
      have HL := Lib.hid hL
      have ilt : ((base + k : Nat) : Int) < ((base + k + (rest.length + 1) : Nat) : Int) := by omega
      clear hs hL hx
      generalize hbs : base + k = bs at *
      have HBS := Lib.hid hbs
      clear hbs
      generalize hnxx : bs + (rest.length + 1) = nx at *
      have HNX := Lib.hid hnxx
      clear hnxx
      have hMd := hM.chg (Chg.refl Pure' wr).drew (fun h => h)
      cases hth : x.there with
      | false =>
        rw [hth] at ed
        have hd0 : doneN Ls = k := by have h0 := HD.out; rw [doneN, hth] at h0; simp at h0; omega
        have H0 := Lib.hid hd0
        clear hd0 hth
        go_wp2_with (fail)
        refine reg_begin (Pure') (by kernel_rfl) ?_
        refine reg_take 0 (v := ?_) rfl (by kernel_rfl) (by kernel_rfl) (by kernel_rfl) (fun _ _ _ h => h) (by kernel_rfl) ?_ ?_
        rotate_left
        · (intro w' hS; go_simp; (try go_bits); (try with_reducible rfl))
        try simp only [Act.put, List.getElem_toArray, List.getElem_cons_zero, List.getElem_cons_succ, List.setIfInBounds_toArray, List.set_cons_zero, List.set_cons_succ]
        refine reg_take 1 (v := ?_) rfl (by kernel_rfl) (by kernel_rfl) (by kernel_rfl) (fun _ _ _ h => h) (by kernel_rfl) ?_ ?_
        rotate_left
        · (intro w' hS; go_simp; (try go_bits); (try with_reducible rfl))
        try simp only [Act.put, List.getElem_toArray, List.getElem_cons_zero, List.getElem_cons_succ, List.setIfInBounds_toArray, List.set_cons_zero, List.set_cons_succ]
        refine reg_take 2 (v := ?_) rfl (by kernel_rfl) (by kernel_rfl) (by kernel_rfl) (fun _ _ _ h => h) (by kernel_rfl) ?_ ?_
        rotate_left
        · (intro w' hS; go_simp; (try go_bits); (try with_reducible rfl))
        try simp only [Act.put, List.getElem_toArray, List.getElem_cons_zero, List.getElem_cons_succ, List.setIfInBounds_toArray, List.set_cons_zero, List.set_cons_succ]
        refine reg_take 3 (v := ?_) rfl (by kernel_rfl) (by kernel_rfl) (by kernel_rfl) (fun _ _ _ h => h) (by kernel_rfl) ?_ ?_
        rotate_left
        · (intro w' hS; have hz := hS.cell c1 (fun h => h); go_simp; (try go_bits); (try with_reducible rfl))
        try simp only [Act.put, List.getElem_toArray, List.getElem_cons_zero, List.getElem_cons_succ, List.setIfInBounds_toArray, List.set_cons_zero, List.set_cons_succ]
        refine reg_take 4 (v := ?_) rfl (by kernel_rfl) (by kernel_rfl) (by kernel_rfl) (fun _ _ _ h => h) (by kernel_rfl) ?_ ?_
        rotate_left
        · (intro w' hS; go_simp; (try go_bits); (try with_reducible rfl))
        try simp only [Act.put, List.getElem_toArray, List.getElem_cons_zero, List.getElem_cons_succ, List.setIfInBounds_toArray, List.set_cons_zero, List.set_cons_succ]
        refine reg_take 5 (v := ?_) rfl (by kernel_rfl) (by kernel_rfl) (by kernel_rfl) (fun _ _ _ h => h) (by kernel_rfl) ?_ ?_
        rotate_left
        · (intro w' hS; go_simp; (try go_bits); (try with_reducible rfl))
        try simp only [Act.put, List.getElem_toArray, List.getElem_cons_zero, List.getElem_cons_succ, List.setIfInBounds_toArray, List.set_cons_zero, List.set_cons_succ]
        refine reg_take 6 (v := ?_) rfl (by kernel_rfl) (by kernel_rfl) (by kernel_rfl) (fun _ _ _ h => h) (by kernel_rfl) ?_ ?_
        rotate_left
        · (intro w' hS; go_simp; (try go_bits); (try with_reducible rfl))
        try simp only [Act.put, List.getElem_toArray, List.getElem_cons_zero, List.getElem_cons_succ, List.setIfInBounds_toArray, List.set_cons_zero, List.set_cons_succ]
        refine reg_take 7 (v := ?_) rfl (by kernel_rfl) (by kernel_rfl) (by kernel_rfl) (fun _ _ _ h => h) (by kernel_rfl) ?_ ?_
        rotate_left
        · (intro w' hS; have hz := hS.cell c2 (fun h => h); go_simp; (try go_bits); (try with_reducible rfl))
        try simp only [Act.put, List.getElem_toArray, List.getElem_cons_zero, List.getElem_cons_succ, List.setIfInBounds_toArray, List.set_cons_zero, List.set_cons_succ]
        refine reg_take 8 (v := ?_) rfl (by kernel_rfl) (by kernel_rfl) (by kernel_rfl) (fun _ _ _ h => h) (by kernel_rfl) ?_ ?_
        rotate_left
        · (intro w' hS; go_simp; (try go_bits); (try with_reducible rfl))
        try simp only [Act.put, List.getElem_toArray, List.getElem_cons_zero, List.getElem_cons_succ, List.setIfInBounds_toArray, List.set_cons_zero, List.set_cons_succ]
        refine reg_take 9 (v := ?_) rfl (by kernel_rfl) (by kernel_rfl) (by kernel_rfl) (fun _ _ _ h => h) (by kernel_rfl) ?_ ?_
        rotate_left
        · (intro w' hS; go_simp; (try go_bits); (try with_reducible rfl))
        try simp only [Act.put, List.getElem_toArray, List.getElem_cons_zero, List.getElem_cons_succ, List.setIfInBounds_toArray, List.set_cons_zero, List.set_cons_succ]
        refine reg_take 10 (v := ?_) rfl (by kernel_rfl) (by kernel_rfl) (by kernel_rfl) (fun _ _ _ h => h) (by kernel_rfl) ?_ ?_
        rotate_left
        · (intro w' hS; go_simp; (try go_bits); (try with_reducible rfl))
        try simp only [Act.put, List.getElem_toArray, List.getElem_cons_zero, List.getElem_cons_succ, List.setIfInBounds_toArray, List.set_cons_zero, List.set_cons_succ]
        refine reg_take 11 (v := ?_) rfl (by kernel_rfl) (by kernel_rfl) (by kernel_rfl) (fun _ _ _ h => h) (by kernel_rfl) ?_ ?_
        rotate_left
        · (intro w' hS; go_simp; (try go_bits); (try with_reducible rfl))
        try simp only [Act.put, List.getElem_toArray, List.getElem_cons_zero, List.getElem_cons_succ, List.setIfInBounds_toArray, List.set_cons_zero, List.set_cons_succ]
        refine reg_take 12 (v := ?_) rfl (by kernel_rfl) (by kernel_rfl) (by kernel_rfl) (fun _ _ _ h => h) (by kernel_rfl) ?_ ?_
        rotate_left
        · (intro w' hS; go_simp; (try go_bits); (try with_reducible rfl))
        try simp only [Act.put, List.getElem_toArray, List.getElem_cons_zero, List.getElem_cons_succ, List.setIfInBounds_toArray, List.set_cons_zero, List.set_cons_succ]
        refine reg_take 13 (v := ?_) rfl (by kernel_rfl) (by kernel_rfl) (by kernel_rfl) (fun _ _ _ h => h) (by kernel_rfl) ?_ ?_
        rotate_left
        · (intro w' hS; have hz := hS.cell c4 (fun h => h); go_simp; (try go_bits); (try with_reducible rfl))
        try simp only [Act.put, List.getElem_toArray, List.getElem_cons_zero, List.getElem_cons_succ, List.setIfInBounds_toArray, List.set_cons_zero, List.set_cons_succ]
        refine reg_take 14 (v := ?_) rfl (by kernel_rfl) (by kernel_rfl) (by kernel_rfl) (fun _ _ _ h => h) (by kernel_rfl) ?_ ?_
        rotate_left
        · (intro w' hS; go_simp; (try go_bits); (try with_reducible rfl))
        try simp only [Act.put, List.getElem_toArray, List.getElem_cons_zero, List.getElem_cons_succ, List.setIfInBounds_toArray, List.set_cons_zero, List.set_cons_succ]
        refine reg_take 15 (v := ?_) rfl (by kernel_rfl) (by kernel_rfl) (by kernel_rfl) (fun _ _ _ h => h) (by kernel_rfl) ?_ ?_
        rotate_left
        · (intro w' hS; go_simp; (try go_bits); (try with_reducible rfl))
        try simp only [Act.put, List.getElem_toArray, List.getElem_cons_zero, List.getElem_cons_succ, List.setIfInBounds_toArray, List.set_cons_zero, List.set_cons_succ]
        refine reg_take 16 (v := ?_) rfl (by kernel_rfl) (by kernel_rfl) (by kernel_rfl) (fun _ _ _ h => h) (by kernel_rfl) ?_ ?_
        rotate_left
        · (intro w' hS; go_simp; (try go_bits); (try with_reducible rfl))
        try simp only [Act.put, List.getElem_toArray, List.getElem_cons_zero, List.getElem_cons_succ, List.setIfInBounds_toArray, List.set_cons_zero, List.set_cons_succ]
        refine reg_take 17 (v := ?_) rfl (by kernel_rfl) (by kernel_rfl) (by kernel_rfl) (fun _ _ _ h => h) (by kernel_rfl) ?_ ?_
        rotate_left
        · (intro w' hS; have hz := hS.cell c1 (fun h => h); go_simp; (try go_bits); (try with_reducible rfl))
        try simp only [Act.put, List.getElem_toArray, List.getElem_cons_zero, List.getElem_cons_succ, List.setIfInBounds_toArray, List.set_cons_zero, List.set_cons_succ]
        refine reg_take 18 (v := ?_) rfl (by kernel_rfl) (by kernel_rfl) (by kernel_rfl) (fun _ _ _ h => h) (by kernel_rfl) ?_ ?_
        rotate_left
        · (intro w' hS; have hz := look_run (hMd.chg hS (fun h => h)) Try.underlying3 Try.underlying132 (hzz _) hkey (by rw [hbyM]); go_simp; (try go_bits); (try with_reducible rfl))
        try simp only [Act.put, List.getElem_toArray, List.getElem_cons_zero, List.getElem_cons_succ, List.setIfInBounds_toArray, List.set_cons_zero, List.set_cons_succ]
        refine reg_take 19 (v := ?_) rfl (by kernel_rfl) (by kernel_rfl) (by kernel_rfl) (fun _ _ _ h => h) (by kernel_rfl) ?_ ?_
        rotate_left
        · (intro w' hS; go_simp; (try go_bits); (try with_reducible rfl))
        try simp only [Act.put, List.getElem_toArray, List.getElem_cons_zero, List.getElem_cons_succ, List.setIfInBounds_toArray, List.set_cons_zero, List.set_cons_succ]
        refine reg_take 20 (v := ?_) rfl (by kernel_rfl) (by kernel_rfl) (by kernel_rfl) (fun _ _ _ h => h) (by kernel_rfl) ?_ ?_
        rotate_left
        · (intro w' hS; go_simp; (try go_bits); (try with_reducible rfl))
        try simp only [Act.put, List.getElem_toArray, List.getElem_cons_zero, List.getElem_cons_succ, List.setIfInBounds_toArray, List.set_cons_zero, List.set_cons_succ]
        refine reg_take 21 (v := ?_) rfl (by kernel_rfl) (by kernel_rfl) (by kernel_rfl) (fun _ _ _ h => h) (by kernel_rfl) ?_ ?_
        rotate_left
        · (intro w' hS; have hz := hS.cell ed (fun h => h); go_simp; (try go_bits); (try with_reducible rfl))
        try simp only [Act.put, List.getElem_toArray, List.getElem_cons_zero, List.getElem_cons_succ, List.setIfInBounds_toArray, List.set_cons_zero, List.set_cons_succ]
        refine reg_take 22 (v := ?_) rfl (by kernel_rfl) (by kernel_rfl) (by kernel_rfl) (fun _ _ _ h => h) (by kernel_rfl) ?_ ?_
        rotate_left
        · (intro w' hS; go_simp; (try go_bits); (try with_reducible rfl))
        try simp only [Act.put, List.getElem_toArray, List.getElem_cons_zero, List.getElem_cons_succ, List.setIfInBounds_toArray, List.set_cons_zero, List.set_cons_succ]
        refine wpAnyH_done (by kernel_rfl) ?_ _
        go_wp2
        refine bodyPost_end (v := .tuple #[]) (by unfold results; go_simp) rfl ⟨rfl, HC.out.drew, ?_⟩
        rw [H0.out, HL.out, HBS.out]
        exact HS.out.pure (Chg.refl _ _).drew
      | true =>
        rw [hth] at ed
        have hd1 : doneN rest + 1 = doneN Ls - k := by have h0 := HD.out; rw [doneN, hth] at h0; simpa using h0
        have H1 := Lib.hid hd1
        clear hd1 hth
        go_wp2_with (fail)
        refine reg_begin (Pure') (by kernel_rfl) ?_
        refine reg_take 0 (v := ?_) rfl (by kernel_rfl) (by kernel_rfl) (by kernel_rfl) (fun _ _ _ h => h) (by kernel_rfl) ?_ ?_
        rotate_left
        · (intro w' hS; go_simp; (try go_bits); (try with_reducible rfl))
        try simp only [Act.put, List.getElem_toArray, List.getElem_cons_zero, List.getElem_cons_succ, List.setIfInBounds_toArray, List.set_cons_zero, List.set_cons_succ]
        refine reg_take 1 (v := ?_) rfl (by kernel_rfl) (by kernel_rfl) (by kernel_rfl) (fun _ _ _ h => h) (by kernel_rfl) ?_ ?_
        rotate_left
        · (intro w' hS; go_simp; (try go_bits); (try with_reducible rfl))
        try simp only [Act.put, List.getElem_toArray, List.getElem_cons_zero, List.getElem_cons_succ, List.setIfInBounds_toArray, List.set_cons_zero, List.set_cons_succ]
        refine reg_take 2 (v := ?_) rfl (by kernel_rfl) (by kernel_rfl) (by kernel_rfl) (fun _ _ _ h => h) (by kernel_rfl) ?_ ?_
        rotate_left
        · (intro w' hS; go_simp; (try go_bits); (try with_reducible rfl))
        try simp only [Act.put, List.getElem_toArray, List.getElem_cons_zero, List.getElem_cons_succ, List.setIfInBounds_toArray, List.set_cons_zero, List.set_cons_succ]
        refine reg_take 3 (v := ?_) rfl (by kernel_rfl) (by kernel_rfl) (by kernel_rfl) (fun _ _ _ h => h) (by kernel_rfl) ?_ ?_
        rotate_left
        · (intro w' hS; have hz := hS.cell c1 (fun h => h); go_simp; (try go_bits); (try with_reducible rfl))
        try simp only [Act.put, List.getElem_toArray, List.getElem_cons_zero, List.getElem_cons_succ, List.setIfInBounds_toArray, List.set_cons_zero, List.set_cons_succ]
        refine reg_take 4 (v := ?_) rfl (by kernel_rfl) (by kernel_rfl) (by kernel_rfl) (fun _ _ _ h => h) (by kernel_rfl) ?_ ?_
        rotate_left
        · (intro w' hS; go_simp; (try go_bits); (try with_reducible rfl))
        try simp only [Act.put, List.getElem_toArray, List.getElem_cons_zero, List.getElem_cons_succ, List.setIfInBounds_toArray, List.set_cons_zero, List.set_cons_succ]
        refine reg_take 5 (v := ?_) rfl (by kernel_rfl) (by kernel_rfl) (by kernel_rfl) (fun _ _ _ h => h) (by kernel_rfl) ?_ ?_
        rotate_left
        · (intro w' hS; go_simp; (try go_bits); (try with_reducible rfl))
        try simp only [Act.put, List.getElem_toArray, List.getElem_cons_zero, List.getElem_cons_succ, List.setIfInBounds_toArray, List.set_cons_zero, List.set_cons_succ]
        refine reg_take 6 (v := ?_) rfl (by kernel_rfl) (by kernel_rfl) (by kernel_rfl) (fun _ _ _ h => h) (by kernel_rfl) ?_ ?_
        rotate_left
        · (intro w' hS; go_simp; (try go_bits); (try with_reducible rfl))
        try simp only [Act.put, List.getElem_toArray, List.getElem_cons_zero, List.getElem_cons_succ, List.setIfInBounds_toArray, List.set_cons_zero, List.set_cons_succ]
        refine reg_take 7 (v := ?_) rfl (by kernel_rfl) (by kernel_rfl) (by kernel_rfl) (fun _ _ _ h => h) (by kernel_rfl) ?_ ?_
        rotate_left
        · (intro w' hS; have hz := hS.cell c2 (fun h => h); go_simp; (try go_bits); (try with_reducible rfl))
        try simp only [Act.put, List.getElem_toArray, List.getElem_cons_zero, List.getElem_cons_succ, List.setIfInBounds_toArray, List.set_cons_zero, List.set_cons_succ]
        refine reg_take 8 (v := ?_) rfl (by kernel_rfl) (by kernel_rfl) (by kernel_rfl) (fun _ _ _ h => h) (by kernel_rfl) ?_ ?_
        rotate_left
        · (intro w' hS; go_simp; (try go_bits); (try with_reducible rfl))
        try simp only [Act.put, List.getElem_toArray, List.getElem_cons_zero, List.getElem_cons_succ, List.setIfInBounds_toArray, List.set_cons_zero, List.set_cons_succ]
        refine reg_take 9 (v := ?_) rfl (by kernel_rfl) (by kernel_rfl) (by kernel_rfl) (fun _ _ _ h => h) (by kernel_rfl) ?_ ?_
        rotate_left
        · (intro w' hS; go_simp; (try go_bits); (try with_reducible rfl))
        try simp only [Act.put, List.getElem_toArray, List.getElem_cons_zero, List.getElem_cons_succ, List.setIfInBounds_toArray, List.set_cons_zero, List.set_cons_succ]
        refine reg_take 10 (v := ?_) rfl (by kernel_rfl) (by kernel_rfl) (by kernel_rfl) (fun _ _ _ h => h) (by kernel_rfl) ?_ ?_
        rotate_left
        · (intro w' hS; go_simp; (try go_bits); (try with_reducible rfl))
        try simp only [Act.put, List.getElem_toArray, List.getElem_cons_zero, List.getElem_cons_succ, List.setIfInBounds_toArray, List.set_cons_zero, List.set_cons_succ]
        refine reg_take 11 (v := ?_) rfl (by kernel_rfl) (by kernel_rfl) (by kernel_rfl) (fun _ _ _ h => h) (by kernel_rfl) ?_ ?_
        rotate_left
        · (intro w' hS; go_simp; (try go_bits); (try with_reducible rfl))
        try simp only [Act.put, List.getElem_toArray, List.getElem_cons_zero, List.getElem_cons_succ, List.setIfInBounds_toArray, List.set_cons_zero, List.set_cons_succ]
        refine reg_take 12 (v := ?_) rfl (by kernel_rfl) (by kernel_rfl) (by kernel_rfl) (fun _ _ _ h => h) (by kernel_rfl) ?_ ?_
        rotate_left
        · (intro w' hS; go_simp; (try go_bits); (try with_reducible rfl))
        try simp only [Act.put, List.getElem_toArray, List.getElem_cons_zero, List.getElem_cons_succ, List.setIfInBounds_toArray, List.set_cons_zero, List.set_cons_succ]
        refine reg_take 13 (v := ?_) rfl (by kernel_rfl) (by kernel_rfl) (by kernel_rfl) (fun _ _ _ h => h) (by kernel_rfl) ?_ ?_
        rotate_left
        · (intro w' hS; have hz := hS.cell c4 (fun h => h); go_simp; (try go_bits); (try with_reducible rfl))
        try simp only [Act.put, List.getElem_toArray, List.getElem_cons_zero, List.getElem_cons_succ, List.setIfInBounds_toArray, List.set_cons_zero, List.set_cons_succ]
        refine reg_take 14 (v := ?_) rfl (by kernel_rfl) (by kernel_rfl) (by kernel_rfl) (fun _ _ _ h => h) (by kernel_rfl) ?_ ?_
        rotate_left
        · (intro w' hS; go_simp; (try go_bits); (try with_reducible rfl))
        try simp only [Act.put, List.getElem_toArray, List.getElem_cons_zero, List.getElem_cons_succ, List.setIfInBounds_toArray, List.set_cons_zero, List.set_cons_succ]
        refine reg_take 15 (v := ?_) rfl (by kernel_rfl) (by kernel_rfl) (by kernel_rfl) (fun _ _ _ h => h) (by kernel_rfl) ?_ ?_
        rotate_left
        · (intro w' hS; go_simp; (try go_bits); (try with_reducible rfl))
        try simp only [Act.put, List.getElem_toArray, List.getElem_cons_zero, List.getElem_cons_succ, List.setIfInBounds_toArray, List.set_cons_zero, List.set_cons_succ]
        refine reg_take 16 (v := ?_) rfl (by kernel_rfl) (by kernel_rfl) (by kernel_rfl) (fun _ _ _ h => h) (by kernel_rfl) ?_ ?_
        rotate_left
        · (intro w' hS; go_simp; (try go_bits); (try with_reducible rfl))
        try simp only [Act.put, List.getElem_toArray, List.getElem_cons_zero, List.getElem_cons_succ, List.setIfInBounds_toArray, List.set_cons_zero, List.set_cons_succ]
        refine reg_take 17 (v := ?_) rfl (by kernel_rfl) (by kernel_rfl) (by kernel_rfl) (fun _ _ _ h => h) (by kernel_rfl) ?_ ?_
        rotate_left
        · (intro w' hS; have hz := hS.cell c1 (fun h => h); go_simp; (try go_bits); (try with_reducible rfl))
        try simp only [Act.put, List.getElem_toArray, List.getElem_cons_zero, List.getElem_cons_succ, List.setIfInBounds_toArray, List.set_cons_zero, List.set_cons_succ]
        refine reg_take 18 (v := ?_) rfl (by kernel_rfl) (by kernel_rfl) (by kernel_rfl) (fun _ _ _ h => h) (by kernel_rfl) ?_ ?_
        rotate_left
        · (intro w' hS; have hz := look_run (hMd.chg hS (fun h => h)) Try.underlying3 Try.underlying132 (hzz _) hkey (by rw [hbyM]); go_simp; (try go_bits); (try with_reducible rfl))
        try simp only [Act.put, List.getElem_toArray, List.getElem_cons_zero, List.getElem_cons_succ, List.setIfInBounds_toArray, List.set_cons_zero, List.set_cons_succ]
        refine reg_take 19 (v := ?_) rfl (by kernel_rfl) (by kernel_rfl) (by kernel_rfl) (fun _ _ _ h => h) (by kernel_rfl) ?_ ?_
        rotate_left
        · (intro w' hS; go_simp; (try go_bits); (try with_reducible rfl))
        try simp only [Act.put, List.getElem_toArray, List.getElem_cons_zero, List.getElem_cons_succ, List.setIfInBounds_toArray, List.set_cons_zero, List.set_cons_succ]
        refine reg_take 20 (v := ?_) rfl (by kernel_rfl) (by kernel_rfl) (by kernel_rfl) (fun _ _ _ h => h) (by kernel_rfl) ?_ ?_
        rotate_left
        · (intro w' hS; go_simp; (try go_bits); (try with_reducible rfl))
        try simp only [Act.put, List.getElem_toArray, List.getElem_cons_zero, List.getElem_cons_succ, List.setIfInBounds_toArray, List.set_cons_zero, List.set_cons_succ]
        refine reg_take 21 (v := ?_) rfl (by kernel_rfl) (by kernel_rfl) (by kernel_rfl) (fun _ _ _ h => h) (by kernel_rfl) ?_ ?_
        rotate_left
        · (intro w' hS; have hz := hS.cell ed (fun h => h); go_simp; (try go_bits); (try with_reducible rfl))
        try simp only [Act.put, List.getElem_toArray, List.getElem_cons_zero, List.getElem_cons_succ, List.setIfInBounds_toArray, List.set_cons_zero, List.set_cons_succ]
        refine reg_take 22 (v := ?_) rfl (by kernel_rfl) (by kernel_rfl) (by kernel_rfl) (fun _ _ _ h => h) (by kernel_rfl) ?_ ?_
        rotate_left
        · (intro w' hS; go_simp; (try go_bits); (try with_reducible rfl))
        try simp only [Act.put, List.getElem_toArray, List.getElem_cons_zero, List.getElem_cons_succ, List.setIfInBounds_toArray, List.set_cons_zero, List.set_cons_succ]
        refine wpAnyH_done (by kernel_rfl) ?_ _
        go_wp2_with (fail)
        have k2 : Chg Pure' wr wr.drew.drew := (Chg.refl _ wr).drew.drew
        have hM2 := hM.chg k2 (fun h => h)
        obtain ⟨w5, hr5, hM5, k5⟩ := drop_run hM2 Try.underlying3 Try.underlying132 hkey 0
        have c12 : wr.drew.drew.cell? ⟨p, 1, none⟩ = some (.int .i64 (bs : Nat)) := c1
        have c42 : wr.drew.drew.cell? ⟨p, 4, none⟩ = some (.map (some b)) := c4
        have hpb := HS.out.pb
        have c15 : w5.cell? ⟨p, 1, none⟩ = some (.int .i64 (bs : Nat)) := k5.cell c12 (fun e => hpb e)
        obtain ⟨cs5, hbk, hcs5⟩ := HS.out.blk
        have hbk5 := (k5.block p HS.out.plt (fun e => hpb e)).trans hbk
        have fr1 := free_at (i := 1) hbk5
        have HSH := Lib.hid (show SendAt (w5.setCell ⟨p, 1, none⟩ (.int .i64 ((bs : Int) + 1))) p b adr D W (bs + 1) lim rest cnt ∧ Chg (fun k => k = p ∨ k = b) wr (w5.setCell ⟨p, 1, none⟩ (.int .i64 ((bs : Int) + 1))) ∧ intAt (w5.setCell ⟨p, 1, none⟩ (.int .i64 ((bs : Int) + 1))) p 1 = (bs : Int) + 1 from by
          have kk : Chg (fun k => k = p ∨ k = b) wr (w5.setCell ⟨p, 1, none⟩ (.int .i64 ((bs : Int) + 1))) :=
            Chg.setCell (S := fun k => k = p ∨ k = b) (k2.of_pure.trans' (k5.mono (fun _ _ e => .inr e))) (p := ⟨p, 1, none⟩) (.inr (.inl rfl)) _
          have kp : Chg (fun k => k = p) w5 (w5.setCell ⟨p, 1, none⟩ (.int .i64 ((bs : Int) + 1))) := Chg.setCell (S := fun k => k = p) (Chg.refl _ w5) (p := ⟨p, 1, none⟩) (.inr rfl) _
          have hh := HS.out
          refine ⟨hh.shift (hM5.chg kp (fun e => hpb e.symm)) kk ⟨_, heap_setCell_same w5 p 1 cs5 _ _ hbk5, by simpa using hcs5⟩ ?_ (set_at c15) ?_ ?_ ?_, kk, intAt_of (set_at c15)⟩
          · rw [set_far (by omega)]; exact k5.cell hh.c0 (fun e => hpb e)
          · rw [set_far (by omega)]; exact k5.cell hh.c2 (fun e => hpb e)
          · rw [set_far (by omega)]; exact k5.cell hh.c3 (fun e => hpb e)
          · rw [set_far (by omega)]; exact k5.cell hh.c4 (fun e => hpb e))
        clear hM hM2 hM5 hMd c1 c4 c2 hbk hbk5
        refine reg_begin (fun k => k = b) (by kernel_rfl) ?_
        refine reg_take 0 (v := ?_) rfl (by kernel_rfl) (by kernel_rfl) (by kernel_rfl) (fun _ _ _ h => h) (by kernel_rfl) ?_ ?_
        rotate_left
        · (intro w' hS; go_simp; (try go_bits); (try with_reducible rfl))
        try simp only [Act.put, List.getElem_toArray, List.getElem_cons_zero, List.getElem_cons_succ, List.setIfInBounds_toArray, List.set_cons_zero, List.set_cons_succ]
        refine reg_take 1 (v := ?_) rfl (by kernel_rfl) (by kernel_rfl) (by kernel_rfl) (fun _ _ _ h => h) (by kernel_rfl) ?_ ?_
        rotate_left
        · (intro w' hS; go_simp; (try go_bits); (try with_reducible rfl))
        try simp only [Act.put, List.getElem_toArray, List.getElem_cons_zero, List.getElem_cons_succ, List.setIfInBounds_toArray, List.set_cons_zero, List.set_cons_succ]
        refine reg_take 2 (v := ?_) rfl (by kernel_rfl) (by kernel_rfl) (by kernel_rfl) (fun _ _ _ h => h) (by kernel_rfl) ?_ ?_
        rotate_left
        · (intro w' hS; go_simp; (try go_bits); (try with_reducible rfl))
        try simp only [Act.put, List.getElem_toArray, List.getElem_cons_zero, List.getElem_cons_succ, List.setIfInBounds_toArray, List.set_cons_zero, List.set_cons_succ]
        refine reg_take 3 (v := ?_) rfl (by kernel_rfl) (by kernel_rfl) (by kernel_rfl) (fun _ _ _ h => h) (by kernel_rfl) ?_ ?_
        rotate_left
        · (intro w' hS; have hz := hS.cell c42 (fun e => hpb e); go_simp; (try go_bits); (try with_reducible rfl))
        try simp only [Act.put, List.getElem_toArray, List.getElem_cons_zero, List.getElem_cons_succ, List.setIfInBounds_toArray, List.set_cons_zero, List.set_cons_succ]
        refine reg_take 4 (v := ?_) rfl (by kernel_rfl) (by kernel_rfl) (by kernel_rfl) (fun _ _ _ h => h) (by kernel_rfl) ?_ ?_
        rotate_left
        · (intro w' hS; go_simp; (try go_bits); (try with_reducible rfl))
        try simp only [Act.put, List.getElem_toArray, List.getElem_cons_zero, List.getElem_cons_succ, List.setIfInBounds_toArray, List.set_cons_zero, List.set_cons_succ]
        refine reg_take 5 (v := ?_) rfl (by kernel_rfl) (by kernel_rfl) (by kernel_rfl) (fun _ _ _ h => h) (by kernel_rfl) ?_ ?_
        rotate_left
        · (intro w' hS; go_simp; (try go_bits); (try with_reducible rfl))
        try simp only [Act.put, List.getElem_toArray, List.getElem_cons_zero, List.getElem_cons_succ, List.setIfInBounds_toArray, List.set_cons_zero, List.set_cons_succ]
        refine reg_take 6 (v := ?_) rfl (by kernel_rfl) (by kernel_rfl) (by kernel_rfl) (fun _ _ _ h => h) (by kernel_rfl) ?_ ?_
        rotate_left
        · (intro w' hS; go_simp; (try go_bits); (try with_reducible rfl))
        try simp only [Act.put, List.getElem_toArray, List.getElem_cons_zero, List.getElem_cons_succ, List.setIfInBounds_toArray, List.set_cons_zero, List.set_cons_succ]
        refine reg_take 7 (v := ?_) rfl (by kernel_rfl) (by kernel_rfl) (by kernel_rfl) (fun _ _ _ h => h) (by kernel_rfl) ?_ ?_
        rotate_left
        · (intro w' hS; have hz := hS.cell c12 (fun e => hpb e); go_simp; (try go_bits); (try with_reducible rfl))
        try simp only [Act.put, List.getElem_toArray, List.getElem_cons_zero, List.getElem_cons_succ, List.setIfInBounds_toArray, List.set_cons_zero, List.set_cons_succ]
        refine reg_do 8 rfl (by kernel_rfl) (by kernel_rfl) ?_
        intro K hK
        refine wp_del _ _ _ _ rfl rfl rfl hr5 ?_
        refine hK _ _ (k5) ?_
        clear hK K
        try simp only [Act.put, List.getElem_toArray, List.getElem_cons_zero, List.getElem_cons_succ, List.setIfInBounds_toArray, List.set_cons_zero, List.set_cons_succ]
        refine wpAnyH_done (by kernel_rfl) ?_ _
        go_wp2
        go_roundw
        case rel =>
          have hh := HBS.out
          have h1 := H1.out
          have hdr : Ls.drop (k + 1) = rest := by
            have := HL.out
            rw [← List.drop_drop, this]; rfl
          exact ⟨k + 1, by omega, by rw [hdr]; omega, by rw [hdr, ← Nat.add_assoc, hh]; exact HSH.out.1, HC.out.trans' HSH.out.2.1⟩
        case measure => rw [HSH.out.2.2, hin]; omega
end Go.Proofs.Ytnpkpfcljkekfaa
namespace Go.Proofs.Ytnpkpfcljkekfaa
open Go Go.RowKit
set_option linter.unusedVariables false
set_option linter.unusedSimpArgs false

/-- A load whose marks are written. -/
theorem LdAt.write {w w' : World} {D : Nat → Prop} {a : Nat} {x y : Ld} (h : LdAt w D a x) (hc : Chg (fun k => k = a) w w') (hD : ∀ d, D d → d ≠ a) (hb : ∃ cs, w'.heap[a]? = some (.cells cs 138 (0, 0)) ∧ cs.size = 4)
    (h0 : w'.cell? ⟨a, 0, none⟩ = w.cell? ⟨a, 0, none⟩) (e : y.data = x.data) (h1 : w'.cell? ⟨a, 1, none⟩ = some (.bool y.there)) (h2 : w'.cell? ⟨a, 2, none⟩ = some (.int .i64 y.time)) (h3 : w'.cell? ⟨a, 3, none⟩ = some (.int .i64 y.wait))
    (t0 : 0 ≤ y.time ∧ y.time ≤ 1099511627840) (w0 : 1 ≤ y.wait ∧ y.wait ≤ 64) : LdAt w' D a y := by
  obtain ⟨A, n, c, d1, d2, d3, d4, d5⟩ := h.data
  exact ⟨hb, ⟨A, n, c, h0.trans d1, d2, d3, by rw [e]; exact d4.chg hc (fun d hA => hD _ (d5 d hA)), d5⟩, h1, h2, h3, t0, w0⟩
/-- Does an ack tell of number n? -/
def hit (ack : Int) (m : UInt64) (n : Int) : Bool := decide (n - ack - 2 < -1) || (decide (0 ≤ n - ack - 2) && decide (n - ack - 2 < 64) && (bits .and .u64 ((m.toNat : Int) / 2 ^ (n - ack - 2).toNat) 1 != 0))
def ackLd (ack : Int) (m : UInt64) (n : Int) (x : Ld) : Ld := if hit ack m n then { x with there := true } else x
/-- One of them done, as told by the numbers that are still to come. -/
def part (f : Int → Ld → Ld) (left : Int → Bool) (base : Nat) (Ls : List Ld) : List Ld := Ls.mapIdx fun j x => if left ((base + j : Nat) : Int) then x else f ((base + j : Nat) : Int) x
theorem part_length (f : Int → Ld → Ld) (left : Int → Bool) (base : Nat) (Ls : List Ld) : (part f left base Ls).length = Ls.length := by simp [part]
theorem part_all (f : Int → Ld → Ld) (left : Int → Bool) (base : Nat) (Ls : List Ld) (h : ∀ j, j < Ls.length → left ((base + j : Nat) : Int) = true) : part f left base Ls = Ls := by
  apply List.ext_getElem (part_length _ _ _ _)
  intro j h1 h2
  simp only [part, List.getElem_mapIdx]
  rw [if_pos (h j h2)]
theorem part_none (f : Int → Ld → Ld) (left : Int → Bool) (base : Nat) (Ls : List Ld) (h : ∀ i, left i = false) : part f left base Ls = Ls.mapIdx fun j x => f ((base + j : Nat) : Int) x := by
  unfold part
  congr 1
  funext j x
  rw [h, if_neg (by simp)]
theorem part_step (f : Int → Ld → Ld) (left : Int → Bool) (base : Nat) (Ls : List Ld) (j : Nat) (hj : j < Ls.length) (hl : left ((base + j : Nat) : Int) = true) :
    part f (strike left ((base + j : Nat) : Int)) base Ls = (part f left base Ls).set j (f ((base + j : Nat) : Int) (Ls[j]'hj)) ∧ (part f left base Ls)[j]'(by rw [part_length]; exact hj) = Ls[j]'hj := by
  refine ⟨?_, ?_⟩
  · apply List.ext_getElem (by simp [part_length])
    intro i h1 h2
    by_cases hij : i = j
    · subst hij
      rw [List.getElem_set_self]
      simp only [part, List.getElem_mapIdx]
      rw [if_neg (by simp [strike])]
    · rw [List.getElem_set_ne (by omega)]
      simp only [part, List.getElem_mapIdx]
      have hne : ((base + i : Nat) : Int) ≠ ((base + j : Nat) : Int) := by omega
      have hne2 : ¬ (i : Int) = (j : Int) := by omega
      simp [strike, hne2]
  · simp only [part, List.getElem_mapIdx]
    rw [if_pos hl]
/-- The blocks of loads. -/
def Lds (adr : Nat → Nat) (base n : Nat) : Nat → Prop := fun k => ∃ i, i < n ∧ k = adr (base + i)
theorem byM_some {base n : Nat} {adr : Nat → Nat} {x : Int} {c : Value} (h : byM base n adr x = some c) : ∃ j, j < n ∧ x = ((base + j : Nat) : Int) ∧ c = .pointer (some ⟨adr (base + j), 0, none⟩) := by
  unfold byM at h
  split at h
  · rename_i hr
    refine ⟨(x - base).toNat, by omega, by omega, ?_⟩
    have e : x.toNat = base + (x - base).toNat := by omega
    rw [e] at h
    exact (Option.some.inj h).symm
  · cases h

/-- The limit is written. -/
theorem SendAt.limit {w : World} {p b : Nat} {adr : Nat → Nat} {D : Nat → Prop} {W base lim : Nat} {Ls : List Ld} {cnt : Nat} (h : SendAt w p b adr D W base lim Ls cnt) (l2 : Nat) (h1 : base + Ls.length ≤ l2 + 1) (h2 : l2 ≤ 4611686018427387904) {v : Int} (hv : v = (l2 : Int)) :
    SendAt (w.setCell ⟨p, 3, none⟩ (.int .i64 v)) p b adr D W base l2 Ls cnt ∧ Chg (fun k => k = p) w (w.setCell ⟨p, 3, none⟩ (.int .i64 v)) := by
  subst hv
  have kp : Chg (fun k => k = p) w (w.setCell ⟨p, 3, none⟩ (.int .i64 l2)) := Chg.setCell (S := fun k => k = p) (Chg.refl _ w) (p := ⟨p, 3, none⟩) (.inr rfl) _
  obtain ⟨cs, b1, b2⟩ := h.blk
  refine ⟨⟨⟨_, heap_setCell_same w p 3 cs _ _ b1, by simpa using b2⟩, h.w1, h.w32, h.b1, h.len, h1, h2, by rw [set_far (by omega)]; exact h.c0, by rw [set_far (by omega)]; exact h.c1, by rw [set_far (by omega)]; exact h.c2, set_at h.c3, by rw [set_far (by omega)]; exact h.c4,
    h.map.chg kp (fun e => h.pb e.symm), fun j hj => (h.lds j hj).frame kp (fun e => (h.ap j hj).1 e) (fun d hd e => (h.dd d hd).1 e) (fun d hd => hd), h.pb, h.inj, h.ap, fun d hd => ⟨(h.dd d hd).1, (h.dd d hd).2.1, Nat.lt_of_lt_of_le (h.dd d hd).2.2.1 kp.size, (h.dd d hd).2.2.2⟩⟩, kp⟩
theorem Lds.foot {p b : Nat} {adr : Nat → Nat} {D : Nat → Prop} {base n : Nat} {k : Nat} (h : Lds adr base n k) : Foot p b adr D base n k := .inr (.inr (.inl h))
/-- A load is marked as there. -/
theorem SendAt.mark {w : World} {p b : Nat} {adr : Nat → Nat} {D : Nat → Prop} {W base lim : Nat} {Ls : List Ld} {cnt j : Nat} (h : SendAt w p b adr D W base lim Ls cnt) (hj : j < Ls.length) :
    SendAt (w.setCell ⟨adr (base + j), 1, none⟩ (.bool true)) p b adr D W base lim (Ls.set j { (Ls[j]'hj) with there := true }) cnt ∧ Chg (fun k => k = adr (base + j)) w (w.setCell ⟨adr (base + j), 1, none⟩ (.bool true)) := by
  have ka : Chg (fun k => k = adr (base + j)) w (w.setCell ⟨adr (base + j), 1, none⟩ (.bool true)) := Chg.setCell (S := fun k => k = adr (base + j)) (Chg.refl _ w) (p := ⟨adr (base + j), 1, none⟩) (.inr rfl) _
  have hx := h.lds j hj
  obtain ⟨cs, b1, b2⟩ := hx.blk
  exact ⟨h.turn hj (hx.write ka (fun d hd e => (h.dd d hd).2.2.2 j hj e.symm) ⟨_, heap_setCell_same w _ 1 cs _ _ b1, by simpa using b2⟩ (set_far (by omega)) rfl (set_at hx.there) (by rw [set_far (by omega)]; exact hx.time) (by rw [set_far (by omega)]; exact hx.wait) hx.t0 hx.w0) ka, ka⟩

/-- What Ack answers, and what stands behind it. -/
def ackOf (base lim : Nat) (Ls : List Ld) (ack : Int) (m : UInt64) (credit : Int) : Int × Nat × Nat × List Ld :=
  if 0 ≤ ack ∧ ack < ((base + Ls.length : Nat) : Int) ∧ 0 ≤ credit ∧ credit ≤ 4611686018427387904 then
    let Ls1 := Ls.mapIdx fun j x => ackLd ack m ((base + j : Nat) : Int) x
    (0, base + doneN Ls1, max lim credit.toNat, Ls1.drop (doneN Ls1))
  else (1, base, lim, Ls)

set_option maxHeartbeats 2000000 in
theorem sack_any {w : World} {p b : Nat} {adr : Nat → Nat} {D : Nat → Prop} {W base lim : Nat} {Ls : List Ld} {cnt : Nat} (h : SendAt w p b adr D W base lim Ls cnt) (ack : Int) (m : UInt64) (credit : Int) :
    Calls Try.prog 49 #[.pointer (some ⟨p, 0, none⟩), .int .i64 ack, .int .u64 (m.toNat : Int), .int .i64 credit] w fun e w' => e = .returned (.int .i64 (ackOf base lim Ls ack m credit).1) ∧
      Chg (Foot p b adr D base Ls.length) w w' ∧ SendAt w' p b adr D W (ackOf base lim Ls ack m credit).2.1 (ackOf base lim Ls ack m credit).2.2.1 (ackOf base lim Ls ack m credit).2.2.2 cnt := by
  by_cases hmay : 0 ≤ ack ∧ ack < ((base + Ls.length : Nat) : Int) ∧ 0 ≤ credit ∧ credit ≤ 4611686018427387904
  · have hR : ackOf base lim Ls ack m credit = (0, base + doneN (Ls.mapIdx fun j x => ackLd ack m ((base + j : Nat) : Int) x), max lim credit.toNat, (Ls.mapIdx fun j x => ackLd ack m ((base + j : Nat) : Int) x).drop (doneN (Ls.mapIdx fun j x => ackLd ack m ((base + j : Nat) : Int) x))) := by
      unfold ackOf; rw [if_pos hmay]
    rw [hR]
    have HO := Lib.hid (sok_any h)
    have HY := Lib.hid (may_any h ack credit true (by simp; omega))
    have h4 := h.c4
    have hM := h.map
    have hnx := h.nx
    have hlm := h.lm
    have H := Lib.hid h
    clear h hR
    go_enter Try.func49, Try.ntmps49
    go_wp2_with (fail)
    refine HO.out.mono ?_
    rintro e w' ⟨rfl, rfl⟩
    go_wp2_with (fail)
    refine HY.out.mono ?_
    rintro e w' ⟨rfl, rfl⟩
    go_wp2_with (first
      | (at_range; refine wp_range_map _ rfl _ _ rfl 3 136 Try.underlying3 Try.underlying132 b cnt _ rfl hM ?_; intro w1 cn hR1 k1)
      | fail)
    go_frame
    have hS1 := H.out.pure k1
    have hfl : ∀ i, byM base Ls.length adr i ≠ none → True := fun _ _ => trivial
    go_loopw [] (fun wr => ∃ (left : Int → Bool) (cn : Nat), RangeAt wr 3 b w.heap.size cnt (byM base Ls.length adr) left cn ∧ Hid (SendAt wr p b adr D W base lim (part (ackLd ack m) left base Ls) cnt) ∧ Chg (Lds adr base Ls.length) w wr) (fun wr => wr.rangeLeft b w.heap.size)
    case atStart => exact ⟨_, _, hR1, by rw [part_all _ _ _ _ (fun j hj => by rw [byM_in hj]; rfl)]; exact hS1, k1.of_pure⟩
    case round =>
      obtain ⟨left, cn, hR, hS, hc⟩ := hrel
      have hle := hR.left_eq
      go_wp2_with (first
        | (at_next; refine wp_next_map _ rfl _ rfl 3 Try.underlying3 b w.heap.size cnt _ left cn rfl hR ?_ ?_)
        | fail)
      · intro h0 hnone
        rw [part_none _ _ _ _ hnone] at hS
        generalize hL1 : (Ls.mapIdx fun j x => ackLd ack m ((base + j : Nat) : Int) x) = Ls1 at hS ⊢
        have hl1 : Ls1.length = Ls.length := by rw [← hL1]; simp
        have HL1 := Lib.hid hL1
        clear hL1 hR hR1 hS1 hM h4
        have hS2 := hS.out
        have h3 := hS2.c3
        obtain ⟨cs, b1, b2⟩ := hS2.blk
        have fr3 := free_at (i := 3) b1
        have ⟨hm1, hm2, hm3, hm4⟩ := hmay
        clear b1 hS2 hfl
        by_cases hcl : credit ≤ (lim : Int)
        · obtain ⟨g1, g2⟩ := hS.out.limit (max lim credit.toNat) (by omega) (by omega) (v := (lim : Int)) (by omega)
          have HG := Lib.hid (settle_any g1)
          clear g1
          go_wp2_with (fail)
          refine HG.out.mono ?_
          rintro e w4 ⟨rfl, g3, g4⟩
          go_wp2
          go_ret
          exact ⟨rfl, ((hc.mono (fun i _ h => Lds.foot h)).trans g2 (fun i hi e => .inl e)).trans g3 (fun i hi e => e.elim (fun e => .inl e) (fun e => .inr (.inl e))), by rw [HL1.out]; exact g4⟩
        · obtain ⟨g1, g2⟩ := hS.out.limit (max lim credit.toNat) (by omega) (by omega) (v := credit) (by omega)
          have HG := Lib.hid (settle_any g1)
          clear g1
          go_wp2_with (fail)
          refine HG.out.mono ?_
          rintro e w4 ⟨rfl, g3, g4⟩
          go_wp2
          go_ret
          exact ⟨rfl, ((hc.mono (fun i _ h => Lds.foot h)).trans g2 (fun i hi e => .inl e)).trans g3 (fun i hi e => e.elim (fun e => .inl e) (fun e => .inr (.inl e))), by rw [HL1.out]; exact g4⟩
      · intro x c w2 cn2 hwx hlx hmx hR2 hlt k2 hen
        obtain ⟨j, hj, rfl, rfl⟩ := byM_some hmx
        obtain ⟨hps, hpj⟩ := part_step (ackLd ack m) left base Ls j hj hlx
        have hjp : j < (part (ackLd ack m) left base Ls).length := by rw [part_length]; exact hj
        have hS2 := hS.out.frame k2 (fun k hk e => by have := H.out.foot_lt k (by rw [part_length] at hk; exact hk); omega)
        have hlo := hS2.lds j hjp
        have hnb : base + j ≤ 4611686018427387905 := by omega
        have ⟨hm1, hm2, hm3, hm4⟩ := hmay
        obtain ⟨cs, b1, b2⟩ := hlo.blk
        have fr1 := free_at (i := 1) b1
        have e1 := hlo.there
        have haw : adr (base + j) < w.heap.size := H.out.foot_lt _ (.inr (.inr (.inl ⟨j, hj, rfl⟩)))
        have hab : adr (base + j) ≠ b := (H.out.ap j hj).2
        cases hh : hit ack m ((base + j : Nat) : Int) with
        | true =>
          have hM2 := hS2.mark hjp
          rw [hpj] at hM2
          have hps' : part (ackLd ack m) (strike left ((base + j : Nat) : Int)) base Ls = (part (ackLd ack m) left base Ls).set j { (Ls[j]'hj) with there := true } := by
            rw [hps]; unfold ackLd; rw [if_pos hh]
          have HM := Lib.hid (show Hid (SendAt (w2.setCell ⟨adr (base + j), 1, none⟩ (.bool true)) p b adr D W base lim (part (ackLd ack m) (strike left ((base + j : Nat) : Int)) base Ls) cnt) from by rw [hps']; exact hM2.1)
          have k3 := hM2.2
          have hR3 := hR2.chg k3 (fun e => hab e.symm) (fun e => by omega)
          have hc3 : Chg (Lds adr base Ls.length) w (w2.setCell ⟨adr (base + j), 1, none⟩ (.bool true)) :=
            (hc.trans k2 (fun i hi e => by omega)).trans k3 (fun i _ e => ⟨j, hj, e⟩)
          have hle3 := hR3.left_eq
          clear hM2 hps hps' hpj hS2 hlo b1 hR hR2 hS hR1 hS1 hM
          unfold hit at hh
          generalize base + j = n at *
          by_cases d1 : (n : Int) - ack - 2 < -1
          · go_wp2
            go_roundw
            case rel => exact ⟨_, _, hR3, HM.out, hc3⟩
            case measure => rw [hle3, hle]; exact hlt
          · have d2 : (0 ≤ (n : Int) - ack - 2 ∧ (n : Int) - ack - 2 < 64) ∧ (bits .and .u64 ((m.toNat : Int) / 2 ^ ((n : Int) - ack - 2).toNat) 1 != 0) = true := by simpa [d1] using hh
            obtain ⟨⟨d3, d4⟩, d5⟩ := d2
            obtain ⟨q, hq⟩ : ∃ q : Nat, (n : Int) - ack - 2 = q := ⟨((n : Int) - ack - 2).toNat, by omega⟩
            rw [hq, Int.toNat_natCast] at d5
            clear hh
            go_wp2
            go_roundw
            case rel => exact ⟨_, _, hR3, HM.out, hc3⟩
            case measure => rw [hle3, hle]; exact hlt
        | false =>
          have hps' : part (ackLd ack m) (strike left ((base + j : Nat) : Int)) base Ls = part (ackLd ack m) left base Ls := by
            have e0 : ackLd ack m ((base + j : Nat) : Int) (Ls[j]'hj) = Ls[j]'hj := by unfold ackLd; rw [if_neg (by rw [hh]; simp)]
            rw [hps, e0, ← hpj, List.set_getElem_self]
          have HM := Lib.hid (show Hid (SendAt w2 p b adr D W base lim (part (ackLd ack m) (strike left ((base + j : Nat) : Int)) base Ls) cnt) from by rw [hps']; exact hS2)
          have hc3 : Chg (Lds adr base Ls.length) w w2 := hc.trans k2 (fun i hi e => by omega)
          have hle3 := hR2.left_eq
          clear hps hps' hpj hS2 hlo b1 hR hS hR1 hS1 hM
          unfold hit at hh
          generalize base + j = n at *
          have hh' : ¬ ((n : Int) - ack - 2 < -1) ∧ (0 ≤ (n : Int) - ack - 2 → (n : Int) - ack - 2 < 64 → (bits .and .u64 ((m.toNat : Int) / 2 ^ ((n : Int) - ack - 2).toNat) 1 != 0) = false) := by
            rw [Bool.or_eq_false_iff] at hh
            refine ⟨of_decide_eq_false hh.1, fun h1 h2 => ?_⟩
            have := hh.2
            rw [decide_eq_true h1, decide_eq_true h2] at this
            simpa using this
          obtain ⟨d1, d2⟩ := hh'
          clear hh
          by_cases d3 : 0 ≤ (n : Int) - ack - 2
          · obtain ⟨q, hq⟩ : ∃ q : Nat, (n : Int) - ack - 2 = q := ⟨((n : Int) - ack - 2).toNat, by omega⟩
            rw [hq, Int.toNat_natCast] at d2
            by_cases d4 : (q : Int) < 64
            · have d5 := d2 (by omega) d4
              clear d2
              go_wp2
              go_roundw
              case rel => exact ⟨_, _, hR2, HM.out, hc3⟩
              case measure => rw [hle3, hle]; exact hlt
            · clear d2
              go_wp2
              go_roundw
              case rel => exact ⟨_, _, hR2, HM.out, hc3⟩
              case measure => rw [hle3, hle]; exact hlt
          · clear d2
            go_wp2
            go_roundw
            case rel => exact ⟨_, _, hR2, HM.out, hc3⟩
            case measure => rw [hle3, hle]; exact hlt
  · have hR : ackOf base lim Ls ack m credit = (1, base, lim, Ls) := by unfold ackOf; rw [if_neg hmay]
    rw [hR]
    have HO := Lib.hid (sok_any h)
    have HY := Lib.hid (may_any h ack credit false (decide_eq_false hmay))
    have H := Lib.hid h
    clear h hR
    go_enter Try.func49, Try.ntmps49
    go_wp2_with (fail)
    refine HO.out.mono ?_
    rintro e w' ⟨rfl, rfl⟩
    go_wp2_with (fail)
    refine HY.out.mono ?_
    rintro e w' ⟨rfl, rfl⟩
    go_wp2
    go_ret
    exact ⟨rfl, Chg.refl _ _, H.out⟩
/-- What Resume makes of a load. -/
def resLd (ack now : Int) (n : Int) (x : Ld) : Ld := { x with there := decide (n ≤ ack), time := now, wait := 1 }
/-- A load is begun anew. -/
theorem SendAt.anew {w : World} {p b : Nat} {adr : Nat → Nat} {D : Nat → Prop} {W base lim : Nat} {Ls : List Ld} {cnt j : Nat} (h : SendAt w p b adr D W base lim Ls cnt) (hj : j < Ls.length) (t : Bool) (now : Int) (hn : 0 ≤ now ∧ now ≤ 1099511627776) :
    SendAt (((w.setCell ⟨adr (base + j), 1, none⟩ (.bool t)).setCell ⟨adr (base + j), 2, none⟩ (.int .i64 now)).setCell ⟨adr (base + j), 3, none⟩ (.int .i64 1)) p b adr D W base lim (Ls.set j { (Ls[j]'hj) with there := t, time := now, wait := 1 }) cnt ∧
    Chg (fun k => k = adr (base + j)) w (((w.setCell ⟨adr (base + j), 1, none⟩ (.bool t)).setCell ⟨adr (base + j), 2, none⟩ (.int .i64 now)).setCell ⟨adr (base + j), 3, none⟩ (.int .i64 1)) := by
  have hx := h.lds j hj
  generalize ha : adr (base + j) = a at *
  have k1 : Chg (fun k => k = a) w (w.setCell ⟨a, 1, none⟩ (.bool t)) := Chg.setCell (S := fun k => k = a) (Chg.refl _ w) (p := ⟨a, 1, none⟩) (.inr rfl) _
  have k2 := Chg.setCell (S := fun k => k = a) k1 (p := ⟨a, 2, none⟩) (.inr rfl) (.int .i64 now)
  have k3 := Chg.setCell (S := fun k => k = a) k2 (p := ⟨a, 3, none⟩) (.inr rfl) (.int .i64 1)
  obtain ⟨cs, b1, b2⟩ := hx.blk
  have hy : LdAt (((w.setCell ⟨a, 1, none⟩ (.bool t)).setCell ⟨a, 2, none⟩ (.int .i64 now)).setCell ⟨a, 3, none⟩ (.int .i64 1)) D a { (Ls[j]'hj) with there := t, time := now, wait := 1 } :=
    hx.write k3 (fun d hd e => (h.dd d hd).2.2.2 j hj (ha.trans e.symm)) ⟨_, heap_setCell_same _ a 3 _ _ _ (heap_setCell_same _ a 2 _ _ _ (heap_setCell_same w a 1 cs _ _ b1)), by simpa using b2⟩
      (by rw [set_far (by omega), set_far (by omega), set_far (by omega)]) rfl (by rw [set_far (by omega), set_far (by omega)]; exact set_at hx.there) (by rw [set_far (by omega)]; exact set_at (u := .int .i64 (Ls[j]'hj).time) (by rw [set_far (by omega)]; exact hx.time))
      (set_at (u := .int .i64 (Ls[j]'hj).wait) (by rw [set_far (by omega), set_far (by omega)]; exact hx.wait)) ⟨hn.1, by show now ≤ _; omega⟩ ⟨Int.le_refl 1, by show (1 : Int) ≤ 64; decide⟩
  subst ha
  exact ⟨h.turn hj hy k3, k3⟩
/-- What Resume answers, and what stands behind it. -/
def resOf (base lim : Nat) (Ls : List Ld) (ack credit now : Int) : Int × Nat × Nat × List Ld :=
  if (0 ≤ now ∧ now ≤ 1099511627776) ∧ 0 ≤ ack ∧ ack < ((base + Ls.length : Nat) : Int) ∧ 0 ≤ credit ∧ credit ≤ 4611686018427387904 then
    let Ls1 := Ls.mapIdx fun j x => resLd ack now ((base + j : Nat) : Int) x
    (0, base + doneN Ls1, max credit.toNat (base + Ls.length - 1), Ls1.drop (doneN Ls1))
  else (1, base, lim, Ls)

set_option maxHeartbeats 2000000 in
theorem sres_any {w : World} {p b : Nat} {adr : Nat → Nat} {D : Nat → Prop} {W base lim : Nat} {Ls : List Ld} {cnt : Nat} (h : SendAt w p b adr D W base lim Ls cnt) (ack credit now : Int) :
    Calls Try.prog 83 #[.pointer (some ⟨p, 0, none⟩), .int .i64 ack, .int .i64 credit, .int .i64 now] w fun e w' => e = .returned (.int .i64 (resOf base lim Ls ack credit now).1) ∧
      Chg (Foot p b adr D base Ls.length) w w' ∧ SendAt w' p b adr D W (resOf base lim Ls ack credit now).2.1 (resOf base lim Ls ack credit now).2.2.1 (resOf base lim Ls ack credit now).2.2.2 cnt := by
  by_cases hwhen : 0 ≤ now ∧ now ≤ 1099511627776
  · by_cases hmay : 0 ≤ ack ∧ ack < ((base + Ls.length : Nat) : Int) ∧ 0 ≤ credit ∧ credit ≤ 4611686018427387904
    · have hR : resOf base lim Ls ack credit now = (0, base + doneN (Ls.mapIdx fun j x => resLd ack now ((base + j : Nat) : Int) x), max credit.toNat (base + Ls.length - 1), (Ls.mapIdx fun j x => resLd ack now ((base + j : Nat) : Int) x).drop (doneN (Ls.mapIdx fun j x => resLd ack now ((base + j : Nat) : Int) x))) := by
        unfold resOf; rw [if_pos ⟨hwhen, hmay⟩]
      rw [hR]
      obtain ⟨Ls1, hL1⟩ : ∃ l, l = (Ls.mapIdx fun j x => resLd ack now ((base + j : Nat) : Int) x) := ⟨_, rfl⟩
      rw [← hL1]
      have hl1 : Ls1.length = Ls.length := by rw [hL1]; simp
      have HL1 := Lib.hid hL1
      clear hL1
      have HO := Lib.hid (sok_any h)
      have HY := Lib.hid (may_any h ack credit true (by simp; omega))
      have HW := Lib.hid (fun w => when_any now w true (decide_eq_true hwhen))
      have h4 := h.c4
      have hM := h.map
      have hnx := h.nx
      have hlm := h.lm
      have hb1 := h.b1
      have H := Lib.hid h
      clear h hR
      go_enter Try.func83, Try.ntmps83
      go_wp2_with (fail)
      refine HO.out.mono ?_
      rintro e w' ⟨rfl, rfl⟩
      go_wp2_with (fail)
      refine (HW.out _).mono ?_
      rintro e w' ⟨rfl, rfl⟩
      go_wp2_with (fail)
      refine HY.out.mono ?_
      rintro e w' ⟨rfl, rfl⟩
      go_wp2_with (first
        | (at_range; refine wp_range_map _ rfl _ _ rfl 3 136 Try.underlying3 Try.underlying132 b cnt _ rfl hM ?_; intro w1 cn hR1 k1)
        | fail)
      go_frame
      have hS1 := H.out.pure k1
      go_loopw [] (fun wr => ∃ (left : Int → Bool) (cn : Nat), RangeAt wr 3 b w.heap.size cnt (byM base Ls.length adr) left cn ∧ Hid (SendAt wr p b adr D W base lim (part (resLd ack now) left base Ls) cnt) ∧ Chg (Lds adr base Ls.length) w wr) (fun wr => wr.rangeLeft b w.heap.size)
      case atStart => exact ⟨_, _, hR1, by rw [part_all _ _ _ _ (fun j hj => by rw [byM_in hj]; rfl)]; exact hS1, k1.of_pure⟩
      case round =>
        obtain ⟨left, cn, hR, hS, hc⟩ := hrel
        have hle := hR.left_eq
        have ⟨hm1, hm2, hm3, hm4⟩ := hmay
        have ⟨hw1, hw2⟩ := hwhen
        go_wp2_with (first
          | (at_next; refine wp_next_map _ rfl _ rfl 3 Try.underlying3 b w.heap.size cnt _ left cn rfl hR ?_ ?_)
          | fail)
        · intro h0 hnone
          rw [part_none _ _ _ _ hnone, ← HL1.out] at hS
          clear hR hR1 hS1 hM h4
          have HG := Lib.hid (settle_any hS.out)
          go_wp2_with (fail)
          refine HG.out.mono ?_
          rintro e w4 ⟨rfl, g3, g4⟩
          have h2 := g4.c2
          obtain ⟨cs, b1, b2⟩ := g4.blk
          have fr3 := free_at (i := 3) b1
          have hdn := doneN_le Ls1
          have e2 : base + doneN Ls1 + (Ls1.drop (doneN Ls1)).length = base + Ls.length := by rw [List.length_drop]; omega
          rw [e2] at h2
          have h3 := g4.c3
          have hcc := (hc.mono (fun i _ h => Lds.foot (p := p) (b := b) (D := D) h)).trans g3 (fun i hi e => e.elim (fun e => .inl e) (fun e => .inr (.inl e)))
          by_cases hcl : ¬ ((base + Ls.length : Nat) : Int) - 1 ≤ credit
          · obtain ⟨g1, g2⟩ := g4.limit (max credit.toNat (base + Ls.length - 1)) (by rw [e2]; omega) (by omega) (v := ((base + Ls.length : Nat) : Int) - 1) (by omega)
            have HZ := Lib.hid g1
            clear b1 g4 g1 e2
            generalize hnxx : base + Ls.length = nx at *
            have HN := Lib.hid hnxx
            clear hnxx
            go_wp2
            go_ret
            exact ⟨rfl, hcc.trans g2 (fun i hi e => .inl e), by rw [HN.out]; exact HZ.out⟩
          · obtain ⟨g1, g2⟩ := g4.limit (max credit.toNat (base + Ls.length - 1)) (by rw [e2]; omega) (by omega) (v := credit) (by omega)
            have HZ := Lib.hid g1
            clear b1 g4 g1 e2
            generalize hnxx : base + Ls.length = nx at *
            have HN := Lib.hid hnxx
            clear hnxx
            go_wp2
            go_ret
            exact ⟨rfl, hcc.trans g2 (fun i hi e => .inl e), by rw [HN.out]; exact HZ.out⟩
        · intro x c w2 cn2 hwx hlx hmx hR2 hlt k2 hen
          obtain ⟨j, hj, rfl, rfl⟩ := byM_some hmx
          obtain ⟨hps, hpj⟩ := part_step (resLd ack now) left base Ls j hj hlx
          have hjp : j < (part (resLd ack now) left base Ls).length := by rw [part_length]; exact hj
          have hS2 := hS.out.frame k2 (fun k hk e => by have := H.out.foot_lt k (by rw [part_length] at hk; exact hk); omega)
          have hlo := hS2.lds j hjp
          obtain ⟨cs, b1, b2⟩ := hlo.blk
          have frz := fun i => free_at (i := i) b1
          have fr1 := frz 1
          have fr2 := frz 2
          have fr3 := frz 3
          have e1 := hlo.there
          have e2 := hlo.time
          have e3 := hlo.wait
          have haw : adr (base + j) < w.heap.size := H.out.foot_lt _ (.inr (.inr (.inl ⟨j, hj, rfl⟩)))
          have hab : adr (base + j) ≠ b := (H.out.ap j hj).2
          have hM2 := hS2.anew hjp (decide (((base + j : Nat) : Int) ≤ ack)) now hwhen
          rw [hpj] at hM2
          have HM := Lib.hid (show Hid (SendAt (((w2.setCell ⟨adr (base + j), 1, none⟩ (.bool (decide (((base + j : Nat) : Int) ≤ ack)))).setCell ⟨adr (base + j), 2, none⟩ (.int .i64 now)).setCell ⟨adr (base + j), 3, none⟩ (.int .i64 1)) p b adr D W base lim (part (resLd ack now) (strike left ((base + j : Nat) : Int)) base Ls) cnt) from by rw [hps]; exact hM2.1)
          have k3 := hM2.2
          have hR3 := hR2.chg k3 (fun e => hab e.symm) (fun e => by omega)
          have hc3 := (hc.trans k2 (fun i hi e => by omega)).trans k3 (fun i _ e => ⟨j, hj, e⟩)
          have hle3 := hR3.left_eq
          clear hM2 hps hpj hS2 hlo b1 hR hR2 hS hR1 hS1 hM frz
          generalize base + j = n at *
          go_wp2
          go_roundw
          case rel => exact ⟨_, _, hR3, HM.out, hc3⟩
          case measure => rw [hle3, hle]; exact hlt
    · have hR : resOf base lim Ls ack credit now = (1, base, lim, Ls) := by unfold resOf; rw [if_neg (fun hh => hmay hh.2)]
      rw [hR]
      have HO := Lib.hid (sok_any h)
      have HY := Lib.hid (may_any h ack credit false (decide_eq_false hmay))
      have HW := Lib.hid (fun w => when_any now w true (decide_eq_true hwhen))
      have H := Lib.hid h
      clear h hR
      go_enter Try.func83, Try.ntmps83
      go_wp2_with (fail)
      refine HO.out.mono ?_
      rintro e w' ⟨rfl, rfl⟩
      go_wp2_with (fail)
      refine (HW.out _).mono ?_
      rintro e w' ⟨rfl, rfl⟩
      go_wp2_with (fail)
      refine HY.out.mono ?_
      rintro e w' ⟨rfl, rfl⟩
      go_wp2
      go_ret
      exact ⟨rfl, Chg.refl _ _, H.out⟩
  · have hR : resOf base lim Ls ack credit now = (1, base, lim, Ls) := by unfold resOf; rw [if_neg (fun hh => hwhen hh.1)]
    rw [hR]
    have HO := Lib.hid (sok_any h)
    have HW := Lib.hid (fun w => when_any now w false (decide_eq_false hwhen))
    have H := Lib.hid h
    clear h hR
    go_enter Try.func83, Try.ntmps83
    go_wp2_with (fail)
    refine HO.out.mono ?_
    rintro e w' ⟨rfl, rfl⟩
    go_wp2_with (fail)
    refine (HW.out _).mono ?_
    rintro e w' ⟨rfl, rfl⟩
    go_wp2
    go_ret
    exact ⟨rfl, Chg.refl _ _, H.out⟩
end Go.Proofs.Ytnpkpfcljkekfaa
namespace Go.Proofs.Ytnpkpfcljkekfaa
open Go Go.RowKit
set_option linter.unusedVariables false
set_option linter.unusedSimpArgs false

theorem zero_sender (w : World) : (zeroValue 134).run Try.prog w = .ok (.agg #[.int .i64 0, .int .i64 0, .int .i64 0, .int .i64 0, .map none]) w := by kernel_rfl
theorem zero_load (w : World) : (zeroValue 138).run Try.prog w = .ok (.agg #[.slice none 0 0, .bool false, .int .i64 0, .int .i64 0]) w := by kernel_rfl
theorem snew_bad (W : Int) (w : World) (h : W < 1 ∨ 32 < W) :
    Calls Try.prog 48 #[.int .i64 W] w fun e w' => e = .returned (.tuple #[.pointer none, .int .i64 1]) ∧ w = w' := by
  rcases h with h | h
  · go_enter Try.func48, Try.ntmps48
    go_wp2
    go_ret2
    exact ⟨rfl, rfl⟩
  · have h1 : ¬ W < 1 := by omega
    have h2 : decide (W < 1) = false := by simp; omega
    go_enter Try.func48, Try.ntmps48
    go_wp2
    go_ret2
    exact ⟨rfl, rfl⟩
theorem snew_ok (W : Nat) (w : World) (h1 : 1 ≤ W) (h2 : W ≤ 32) :
    Calls Try.prog 48 #[.int .i64 W] w fun e w' => e = .returned (.tuple #[.pointer (some ⟨w.heap.size + 1, 0, none⟩), .int .i64 0]) ∧ Chg Pure' w w' ∧
      SendAt w' (w.heap.size + 1) w.heap.size (fun _ => 0) (fun _ => False) W 1 0 [] 0 := by
  have h3 : decide ((W : Int) < 1) = false := by simp; omega
  have h4 : decide ((32 : Int) < (W : Int)) = false := by simp; omega
  have hz := zero_sender
  have hmm := @run_makeMap Try.prog
  go_enter Try.func48, Try.ntmps48
  go_wp2
  go_ret2
  have hM := MapAt.made w 3
  have e1 : (w.alloc (.map #[] 0)).heap.size = w.heap.size + 1 := by simp
  refine ⟨rfl, ((Chg.refl _ w).alloc _).alloc _, ?_⟩
  have c := fun j => cellAt_alloc_lit (w.alloc (.map #[] 0)) #[.int .i64 W, .int .i64 1, .int .i64 1, .int .i64 0, .map (some w.heap.size)] 134 j
  have hb := heap_alloc_new (w.alloc (.map #[] 0)) (.cells #[.int .i64 W, .int .i64 1, .int .i64 1, .int .i64 0, .map (some w.heap.size)] 134)
  rw [e1] at hb
  simp only [e1] at c
  have ca : Chg Pure' (w.alloc (.map #[] 0)) ((w.alloc (.map #[] 0)).alloc (.cells #[.int .i64 W, .int .i64 1, .int .i64 1, .int .i64 0, .map (some w.heap.size)] 134)) := (Chg.refl _ _).alloc _
  refine ⟨⟨_, hb, rfl⟩, h1, h2, Nat.le_refl _, Nat.zero_le _, by decide, by decide, c 0, c 1, c 2, c 3, c 4, ?_, fun j hj => by simp at hj, by omega, fun i j hi => by simp at hi, fun i hi => by simp at hi, fun d hd => hd.elim⟩
  have e2 : byM 1 ([] : List Ld).length (fun _ => 0) = fun _ => none := by funext i; unfold byM; rw [if_neg (by simp <;> omega)]
  rw [e2]
  exact hM.chg ca (fun h => h)

/-- What Push answers, and what stands behind it. -/
def pushOf (W base lim : Nat) (Ls : List Ld) (xs : List UInt8) (now : Int) : (Int × Int) × List Ld :=
  if ¬ (0 ≤ now ∧ now ≤ 1099511627776) then ((0, 1), Ls) else if 1200 < xs.length then ((0, 8), Ls) else if lim < base + Ls.length ∨ W ≤ Ls.length then ((0, 13), Ls)
  else ((((base + Ls.length : Nat) : Int), 0), Ls ++ [⟨xs, false, now, 1⟩])
theorem byM_push (base n : Nat) (adr : Nat → Nat) (a : Nat) : setAt (byM base n adr) ((base + n : Nat) : Int) (.pointer (some ⟨a, 0, none⟩)) = byM base (n + 1) (fun i => if i = base + n then a else adr i) := by
  funext i
  unfold setAt byM
  by_cases h : i = ((base + n : Nat) : Int)
  · subst h
    rw [if_pos rfl, if_pos (by omega)]
    show some _ = some (Value.pointer (some ⟨if ((base + n : Nat) : Int).toNat = base + n then a else adr ((base + n : Nat) : Int).toNat, 0, none⟩))
    rw [if_pos (by omega)]
  · rw [if_neg h]
    by_cases h2 : (base : Int) ≤ i ∧ i < ((base + n : Nat) : Int)
    · rw [if_pos h2, if_pos (by omega)]
      show some _ = some (Value.pointer (some ⟨if i.toNat = base + n then a else adr i.toNat, 0, none⟩))
      rw [if_neg (by omega)]
    · rw [if_neg h2, if_neg (by omega)]
/-- A load stands behind the others. -/
theorem SendAt.push {w w1 w3 : World} {p b : Nat} {adr : Nat → Nat} {D : Nat → Prop} {W base lim : Nat} {Ls : List Ld} {cnt : Nat} {A : Option Addr} {n c : Nat} {xs : List UInt8} {now : Int} (h : SendAt w p b adr D W base lim Ls cnt)
    (k1 : Chg Pure' w w1) (hB : Bytes w1 A n xs) (hle : n ≤ c) (hn : n ≤ 1200) (hA : ∀ d, A = some d → w.heap.size ≤ d.block ∧ d.block < w1.heap.size) (hnow : 0 ≤ now ∧ now ≤ 1099511627776) (hl : base + Ls.length ≤ lim) (hW : Ls.length < W)
    (hm : MapAt w3 3 b (cnt + 1) (setAt (byM base Ls.length adr) ((base + Ls.length : Nat) : Int) (.pointer (some ⟨w1.heap.size, 0, none⟩))))
    (k3 : Chg (fun k => k = b) (w1.alloc (.cells #[.slice A n c, .bool false, .int .i64 now, .int .i64 1] 138)) w3) {v : Int} (hv : v = ((base + Ls.length + 1 : Nat) : Int)) :
    SendAt (w3.setCell ⟨p, 2, none⟩ (.int .i64 v)) p b (fun i => if i = base + Ls.length then w1.heap.size else adr i) (fun d => D d ∨ (w.heap.size ≤ d ∧ d < w1.heap.size)) W base lim (Ls ++ [⟨xs, false, now, 1⟩]) (cnt + 1) ∧
      Chg (fun k => k = p ∨ k = b) w (w3.setCell ⟨p, 2, none⟩ (.int .i64 v)) := by
  subst hv
  have k2 : Chg Pure' w1 (w1.alloc (.cells #[.slice A n c, .bool false, .int .i64 now, .int .i64 1] 138)) := (Chg.refl _ _).alloc _
  have lit := fun j => cellAt_alloc_lit w1 #[.slice A n c, .bool false, .int .i64 now, .int .i64 1] 138 j
  have hbl := heap_alloc_new w1 (.cells #[.slice A n c, .bool false, .int .i64 now, .int .i64 1] 138)
  have hsz : (w1.alloc (.cells #[.slice A n c, .bool false, .int .i64 now, .int .i64 1] 138)).heap.size = w1.heap.size + 1 := by simp
  generalize w1.alloc (.cells #[.slice A n c, .bool false, .int .i64 now, .int .i64 1] 138) = w2 at *
  have hp := h.plt
  have hb := h.map.lt
  have s1 := k1.size
  have K : Chg (fun k => k = b) w w3 := (k1.of_pure.trans' k2.of_pure).trans' k3
  have kp : Chg (fun k => k = p) w3 (w3.setCell ⟨p, 2, none⟩ (.int .i64 ((base + Ls.length + 1 : Nat) : Int))) := Chg.setCell (S := fun k => k = p) (Chg.refl _ w3) (p := ⟨p, 2, none⟩) (.inr rfl) _
  have KK : Chg (fun k => k = p ∨ k = b) w (w3.setCell ⟨p, 2, none⟩ (.int .i64 ((base + Ls.length + 1 : Nat) : Int))) := (K.mono (fun _ _ e => .inr e)).trans kp (fun i _ e => .inl e)
  obtain ⟨cs, b1, b2⟩ := h.blk
  have hbk := (K.block p hp (fun e => h.pb e)).trans b1
  have ha : w1.heap.size < w2.heap.size := by omega
  have ll : (Ls ++ [(⟨xs, false, now, 1⟩ : Ld)]).length = Ls.length + 1 := by simp
  refine ⟨⟨⟨_, heap_setCell_same w3 p 2 cs _ _ hbk, by simpa using b2⟩, h.w1, h.w32, h.b1, by omega, by omega, h.lm, by rw [set_far (by omega)]; exact K.cell h.c0 (fun e => h.pb e), by rw [set_far (by omega)]; exact K.cell h.c1 (fun e => h.pb e), ?_,
    by rw [set_far (by omega)]; exact K.cell h.c3 (fun e => h.pb e), by rw [set_far (by omega)]; exact K.cell h.c4 (fun e => h.pb e), ?_, fun j hj => ?_, h.pb, fun i j hi hj he => ?_, fun i hi => ?_, fun d hd => ?_⟩, KK⟩
  · rw [set_at (u := .int .i64 ((base + Ls.length : Nat) : Int)) (K.cell h.c2 (fun e => h.pb e)), ll]; rfl
  · rw [byM_push] at hm
    rw [ll]
    exact hm.chg kp (fun e => h.pb e.symm)
  · by_cases hjn : j < Ls.length
    · rw [if_neg (by omega), List.getElem_append_left hjn]
      have hx := h.lds j hjn
      have hxa := h.ap j hjn
      exact (hx.frame K (fun e => hxa.2 e) (fun d hd e => (h.dd d hd).2.1 e) (fun d hd => hd)).frame kp (fun e => hxa.1 e) (fun d hd e => (h.dd d hd).1 e) (fun d hd => .inl hd)
    · obtain rfl : j = Ls.length := by omega
      rw [if_pos rfl, List.getElem_append_right (Nat.le_refl _)]
      simp only [Nat.sub_self, List.getElem_singleton]
      have nb : w1.heap.size ≠ b := by omega
      have np : w1.heap.size ≠ p := by omega
      exact ⟨⟨_, (kp.block _ (Nat.lt_of_lt_of_le ha k3.size) (fun e => np e)).trans ((k3.block _ ha (fun e => nb e)).trans hbl), rfl⟩,
        ⟨A, n, c, kp.cell (k3.cell (lit 0) (fun e => nb e)) (fun e => np e), hle, hn, ((hB.pure k2).chg k3 (fun d hd e => by have := (hA d hd).1; omega)).chg kp (fun d hd e => by have := (hA d hd).1; omega), fun d hd => .inr (hA d hd)⟩,
        kp.cell (k3.cell (lit 1) (fun e => nb e)) (fun e => np e), kp.cell (k3.cell (lit 2) (fun e => nb e)) (fun e => np e), kp.cell (k3.cell (lit 3) (fun e => nb e)) (fun e => np e), ⟨hnow.1, by show now ≤ _; omega⟩, ⟨Int.le_refl 1, by show (1 : Int) ≤ 64; decide⟩⟩
  · rw [ll] at hi hj
    have lt := fun i (hi : i < Ls.length) => (h.lds i hi).lt
    by_cases h1 : i < Ls.length <;> by_cases h2 : j < Ls.length
    · rw [if_neg (by omega), if_neg (by omega)] at he
      exact h.inj i j h1 h2 he
    · rw [if_neg (by omega), if_pos (by omega)] at he
      have := lt i h1; omega
    · rw [if_pos (by omega), if_neg (by omega)] at he
      have := lt j h2; omega
    · omega
  · rw [ll] at hi
    by_cases h1 : i < Ls.length
    · rw [if_neg (by omega)]; exact h.ap i h1
    · rw [if_pos (by omega)]; omega
  · have hk := KK.size
    have hk1 := k3.size
    rcases hd with hd | hd
    · obtain ⟨q1, q2, q3, q4⟩ := h.dd d hd
      refine ⟨q1, q2, by omega, fun i hi => ?_⟩
      rw [ll] at hi
      by_cases h1 : i < Ls.length
      · rw [if_neg (by omega)]; exact q4 i h1
      · rw [if_pos (by omega)]; omega
    · refine ⟨by omega, by omega, by have := kp.size; omega, fun i hi => ?_⟩
      rw [ll] at hi
      by_cases h1 : i < Ls.length
      · rw [if_neg (by omega)]; have := (h.lds i h1).lt; omega
      · rw [if_pos (by omega)]; omega
end Go.Proofs.Ytnpkpfcljkekfaa
namespace Go.Proofs.Ytnpkpfcljkekfaa
open Go Go.RowKit
set_option linter.unusedVariables false
set_option maxRecDepth 100000
set_option linter.unusedSimpArgs false

/-- What Push leaves: the sender, wherever its loads stand. -/
def Pushed (w w' : World) (p b : Nat) (adr : Nat → Nat) (D : Nat → Prop) (W base lim n : Nat) (Ls : List Ld) (cnt : Nat) : Prop :=
  ∃ adr' D', SendAt w' p b adr' D' W base lim Ls cnt ∧ ∀ k, Foot p b adr' D' base Ls.length k → Foot p b adr D base n k ∨ w.heap.size ≤ k

set_option maxHeartbeats 2000000 in
theorem spush_any {w : World} {p b : Nat} {adr : Nat → Nat} {D : Nat → Prop} {W base lim : Nat} {Ls : List Ld} {cnt : Nat} (h : SendAt w p b adr D W base lim Ls cnt) (A : Option Addr) (n c : Nat) (xs : List UInt8) (now : Int)
    (hA : Bytes w A n xs) (hn : n ≤ 140737488351232) (hcnt : cnt ≤ 4611686018427387904) :
    Calls Try.prog 59 #[.pointer (some ⟨p, 0, none⟩), .slice A n c, .int .i64 now] w fun e w' =>
      e = .returned (.tuple #[.int .i64 (pushOf W base lim Ls xs now).1.1, .int .i64 (pushOf W base lim Ls xs now).1.2]) ∧ Chg (fun k => k = p ∨ k = b) w w' ∧ Pushed w w' p b adr D W base lim Ls.length (pushOf W base lim Ls xs now).2 (cnt + 1) := by
  have same : ∀ w', Chg Pure' w w' → Pushed w w' p b adr D W base lim Ls.length Ls (cnt + 1) := fun w' hc =>
    ⟨adr, D, ⟨(h.pure hc).blk, h.w1, h.w32, h.b1, h.len, h.nx, h.lm, (h.pure hc).c0, (h.pure hc).c1, (h.pure hc).c2, (h.pure hc).c3, (h.pure hc).c4, (h.pure hc).map.mono, (h.pure hc).lds, h.pb, h.inj, h.ap, (h.pure hc).dd⟩, fun k hk => .inl hk⟩
  have HSM := Lib.hid same
  clear same
  have HO := Lib.hid (sok_any h)
  have hln := hA.len
  by_cases hwhen : 0 ≤ now ∧ now ≤ 1099511627776
  · have HW := Lib.hid (fun w => when_any now w true (decide_eq_true hwhen))
    by_cases c2 : 1200 < xs.length
    · have hR : pushOf W base lim Ls xs now = ((0, 8), Ls) := by unfold pushOf; rw [if_neg (by simpa using hwhen), if_pos c2]
      rw [hR]
      have c2' : 1200 < (n : Int) := by omega
      clear hR h hln
      go_enter Try.func59, Try.ntmps59
      go_wp2_with (fail)
      refine HO.out.mono ?_
      rintro e w' ⟨rfl, rfl⟩
      go_wp2_with (fail)
      refine (HW.out _).mono ?_
      rintro e w' ⟨rfl, rfl⟩
      go_wp2
      go_ret2
      exact ⟨rfl, Chg.refl _ _, HSM.out _ (Chg.refl _ _)⟩
    · have c2' : (n : Int) ≤ 1200 := by omega
      have h0 : w.drew.cell? ⟨p, 0, none⟩ = some (.int .i64 W) := h.c0
      have h1 : w.drew.cell? ⟨p, 1, none⟩ = some (.int .i64 base) := h.c1
      have h2 : w.drew.cell? ⟨p, 2, none⟩ = some (.int .i64 ((base + Ls.length : Nat))) := h.c2
      have h3 : w.drew.cell? ⟨p, 3, none⟩ = some (.int .i64 lim) := h.c3
      have hnx := h.nx
      have hlm := h.lm
      have hlen := h.len
      have hw32 := h.w32
      by_cases c3 : lim < base + Ls.length
      · have hR : pushOf W base lim Ls xs now = ((0, 13), Ls) := by unfold pushOf; rw [if_neg (by simpa using hwhen), if_neg c2, if_pos (.inl c3)]
        rw [hR]
        have c3' : (lim : Int) < ((base + Ls.length : Nat) : Int) := by omega
        clear hR h hln
        generalize base + Ls.length = nx at *
        go_enter Try.func59, Try.ntmps59
        go_wp2_with (fail)
        refine HO.out.mono ?_
        rintro e w' ⟨rfl, rfl⟩
        go_wp2_with (fail)
        refine (HW.out _).mono ?_
        rintro e w' ⟨rfl, rfl⟩
        go_wp2_with (fail)
        refine reg_begin (Pure') (by kernel_rfl) ?_
        refine reg_take 0 (v := ?_) rfl (by kernel_rfl) (by kernel_rfl) (by kernel_rfl) (fun _ _ _ h => h) (by kernel_rfl) ?_ ?_
        rotate_left
        · (intro w' hS; go_simp; (try go_bits); (try with_reducible rfl))
        try simp only [Act.put, List.getElem_toArray, List.getElem_cons_zero, List.getElem_cons_succ, List.setIfInBounds_toArray, List.set_cons_zero, List.set_cons_succ]
        refine reg_take 1 (v := ?_) rfl (by kernel_rfl) (by kernel_rfl) (by kernel_rfl) (fun _ _ _ h => h) (by kernel_rfl) ?_ ?_
        rotate_left
        · (intro w' hS; go_simp; (try go_bits); (try with_reducible rfl))
        try simp only [Act.put, List.getElem_toArray, List.getElem_cons_zero, List.getElem_cons_succ, List.setIfInBounds_toArray, List.set_cons_zero, List.set_cons_succ]
        refine reg_take 2 (v := ?_) rfl (by kernel_rfl) (by kernel_rfl) (by kernel_rfl) (fun _ _ _ h => h) (by kernel_rfl) ?_ ?_
        rotate_left
        · (intro w' hS; go_simp; (try go_bits); (try with_reducible rfl))
        try simp only [Act.put, List.getElem_toArray, List.getElem_cons_zero, List.getElem_cons_succ, List.setIfInBounds_toArray, List.set_cons_zero, List.set_cons_succ]
        refine reg_take 3 (v := ?_) rfl (by kernel_rfl) (by kernel_rfl) (by kernel_rfl) (fun _ _ _ h => h) (by kernel_rfl) ?_ ?_
        rotate_left
        · (intro w' hS; have hz := hS.cell h2 (fun h => h); go_simp; (try go_bits); (try with_reducible rfl))
        try simp only [Act.put, List.getElem_toArray, List.getElem_cons_zero, List.getElem_cons_succ, List.setIfInBounds_toArray, List.set_cons_zero, List.set_cons_succ]
        refine reg_take 4 (v := ?_) rfl (by kernel_rfl) (by kernel_rfl) (by kernel_rfl) (fun _ _ _ h => h) (by kernel_rfl) ?_ ?_
        rotate_left
        · (intro w' hS; go_simp; (try go_bits); (try with_reducible rfl))
        try simp only [Act.put, List.getElem_toArray, List.getElem_cons_zero, List.getElem_cons_succ, List.setIfInBounds_toArray, List.set_cons_zero, List.set_cons_succ]
        refine reg_take 5 (v := ?_) rfl (by kernel_rfl) (by kernel_rfl) (by kernel_rfl) (fun _ _ _ h => h) (by kernel_rfl) ?_ ?_
        rotate_left
        · (intro w' hS; go_simp; (try go_bits); (try with_reducible rfl))
        try simp only [Act.put, List.getElem_toArray, List.getElem_cons_zero, List.getElem_cons_succ, List.setIfInBounds_toArray, List.set_cons_zero, List.set_cons_succ]
        refine reg_take 6 (v := ?_) rfl (by kernel_rfl) (by kernel_rfl) (by kernel_rfl) (fun _ _ _ h => h) (by kernel_rfl) ?_ ?_
        rotate_left
        · (intro w' hS; go_simp; (try go_bits); (try with_reducible rfl))
        try simp only [Act.put, List.getElem_toArray, List.getElem_cons_zero, List.getElem_cons_succ, List.setIfInBounds_toArray, List.set_cons_zero, List.set_cons_succ]
        refine reg_take 7 (v := ?_) rfl (by kernel_rfl) (by kernel_rfl) (by kernel_rfl) (fun _ _ _ h => h) (by kernel_rfl) ?_ ?_
        rotate_left
        · (intro w' hS; have hz := hS.cell h3 (fun h => h); go_simp; (try go_bits); (try with_reducible rfl))
        try simp only [Act.put, List.getElem_toArray, List.getElem_cons_zero, List.getElem_cons_succ, List.setIfInBounds_toArray, List.set_cons_zero, List.set_cons_succ]
        refine reg_take 8 (v := ?_) rfl (by kernel_rfl) (by kernel_rfl) (by kernel_rfl) (fun _ _ _ h => h) (by kernel_rfl) ?_ ?_
        rotate_left
        · (intro w' hS; go_simp; (try go_bits); (try with_reducible rfl))
        try simp only [Act.put, List.getElem_toArray, List.getElem_cons_zero, List.getElem_cons_succ, List.setIfInBounds_toArray, List.set_cons_zero, List.set_cons_succ]
        refine reg_take 9 (v := ?_) rfl (by kernel_rfl) (by kernel_rfl) (by kernel_rfl) (fun _ _ _ h => h) (by kernel_rfl) ?_ ?_
        rotate_left
        · (intro w' hS; go_simp; (try go_bits); (try with_reducible rfl))
        try simp only [Act.put, List.getElem_toArray, List.getElem_cons_zero, List.getElem_cons_succ, List.setIfInBounds_toArray, List.set_cons_zero, List.set_cons_succ]
        refine reg_off 10 rfl (by kernel_rfl) (by kernel_rfl) (by kernel_rfl) (fun _ _ _ h => h) (by kernel_rfl) ?_
        try simp only [Act.put, List.getElem_toArray, List.getElem_cons_zero, List.getElem_cons_succ, List.setIfInBounds_toArray, List.set_cons_zero, List.set_cons_succ]
        refine reg_off 11 rfl (by kernel_rfl) (by kernel_rfl) (by kernel_rfl) (fun _ _ _ h => h) (by kernel_rfl) ?_
        try simp only [Act.put, List.getElem_toArray, List.getElem_cons_zero, List.getElem_cons_succ, List.setIfInBounds_toArray, List.set_cons_zero, List.set_cons_succ]
        refine reg_off 12 rfl (by kernel_rfl) (by kernel_rfl) (by kernel_rfl) (fun _ _ _ h => h) (by kernel_rfl) ?_
        try simp only [Act.put, List.getElem_toArray, List.getElem_cons_zero, List.getElem_cons_succ, List.setIfInBounds_toArray, List.set_cons_zero, List.set_cons_succ]
        refine reg_off 13 rfl (by kernel_rfl) (by kernel_rfl) (by kernel_rfl) (fun _ _ _ h => h) (by kernel_rfl) ?_
        try simp only [Act.put, List.getElem_toArray, List.getElem_cons_zero, List.getElem_cons_succ, List.setIfInBounds_toArray, List.set_cons_zero, List.set_cons_succ]
        refine reg_off 14 rfl (by kernel_rfl) (by kernel_rfl) (by kernel_rfl) (fun _ _ _ h => h) (by kernel_rfl) ?_
        try simp only [Act.put, List.getElem_toArray, List.getElem_cons_zero, List.getElem_cons_succ, List.setIfInBounds_toArray, List.set_cons_zero, List.set_cons_succ]
        refine reg_off 15 rfl (by kernel_rfl) (by kernel_rfl) (by kernel_rfl) (fun _ _ _ h => h) (by kernel_rfl) ?_
        try simp only [Act.put, List.getElem_toArray, List.getElem_cons_zero, List.getElem_cons_succ, List.setIfInBounds_toArray, List.set_cons_zero, List.set_cons_succ]
        refine reg_off 16 rfl (by kernel_rfl) (by kernel_rfl) (by kernel_rfl) (fun _ _ _ h => h) (by kernel_rfl) ?_
        try simp only [Act.put, List.getElem_toArray, List.getElem_cons_zero, List.getElem_cons_succ, List.setIfInBounds_toArray, List.set_cons_zero, List.set_cons_succ]
        refine reg_off 17 rfl (by kernel_rfl) (by kernel_rfl) (by kernel_rfl) (fun _ _ _ h => h) (by kernel_rfl) ?_
        try simp only [Act.put, List.getElem_toArray, List.getElem_cons_zero, List.getElem_cons_succ, List.setIfInBounds_toArray, List.set_cons_zero, List.set_cons_succ]
        refine reg_off 18 rfl (by kernel_rfl) (by kernel_rfl) (by kernel_rfl) (fun _ _ _ h => h) (by kernel_rfl) ?_
        try simp only [Act.put, List.getElem_toArray, List.getElem_cons_zero, List.getElem_cons_succ, List.setIfInBounds_toArray, List.set_cons_zero, List.set_cons_succ]
        refine reg_off 19 rfl (by kernel_rfl) (by kernel_rfl) (by kernel_rfl) (fun _ _ _ h => h) (by kernel_rfl) ?_
        try simp only [Act.put, List.getElem_toArray, List.getElem_cons_zero, List.getElem_cons_succ, List.setIfInBounds_toArray, List.set_cons_zero, List.set_cons_succ]
        refine reg_off 20 rfl (by kernel_rfl) (by kernel_rfl) (by kernel_rfl) (fun _ _ _ h => h) (by kernel_rfl) ?_
        try simp only [Act.put, List.getElem_toArray, List.getElem_cons_zero, List.getElem_cons_succ, List.setIfInBounds_toArray, List.set_cons_zero, List.set_cons_succ]
        refine reg_off 21 rfl (by kernel_rfl) (by kernel_rfl) (by kernel_rfl) (fun _ _ _ h => h) (by kernel_rfl) ?_
        try simp only [Act.put, List.getElem_toArray, List.getElem_cons_zero, List.getElem_cons_succ, List.setIfInBounds_toArray, List.set_cons_zero, List.set_cons_succ]
        refine reg_off 22 rfl (by kernel_rfl) (by kernel_rfl) (by kernel_rfl) (fun _ _ _ h => h) (by kernel_rfl) ?_
        try simp only [Act.put, List.getElem_toArray, List.getElem_cons_zero, List.getElem_cons_succ, List.setIfInBounds_toArray, List.set_cons_zero, List.set_cons_succ]
        refine reg_off 23 rfl (by kernel_rfl) (by kernel_rfl) (by kernel_rfl) (fun _ _ _ h => h) (by kernel_rfl) ?_
        try simp only [Act.put, List.getElem_toArray, List.getElem_cons_zero, List.getElem_cons_succ, List.setIfInBounds_toArray, List.set_cons_zero, List.set_cons_succ]
        refine reg_take 24 (v := ?_) rfl (by kernel_rfl) (by kernel_rfl) (by kernel_rfl) (fun _ _ _ h => h) (by kernel_rfl) ?_ ?_
        rotate_left
        · (intro w' hS; go_simp; (try go_bits); (try with_reducible rfl))
        try simp only [Act.put, List.getElem_toArray, List.getElem_cons_zero, List.getElem_cons_succ, List.setIfInBounds_toArray, List.set_cons_zero, List.set_cons_succ]
        refine reg_take 25 (v := ?_) rfl (by kernel_rfl) (by kernel_rfl) (by kernel_rfl) (fun _ _ _ h => h) (by kernel_rfl) ?_ ?_
        rotate_left
        · (intro w' hS; go_simp; (try go_bits); (try with_reducible rfl))
        try simp only [Act.put, List.getElem_toArray, List.getElem_cons_zero, List.getElem_cons_succ, List.setIfInBounds_toArray, List.set_cons_zero, List.set_cons_succ]
        refine wpAnyH_done (by kernel_rfl) ?_ _
        go_wp2
        go_ret2
        exact ⟨rfl, (Chg.refl _ _).drew, HSM.out _ (Chg.refl _ _).drew⟩
      · have c3' : ¬ (lim : Int) < ((base + Ls.length : Nat) : Int) := by omega
        have esub : ((base + Ls.length : Nat) : Int) - (base : Int) = ((Ls.length : Nat) : Int) := by omega
        by_cases c4 : W ≤ Ls.length
        · have hR : pushOf W base lim Ls xs now = ((0, 13), Ls) := by unfold pushOf; rw [if_neg (by simpa using hwhen), if_neg c2, if_pos (.inr c4)]
          rw [hR]
          have c4' : (W : Int) ≤ ((Ls.length : Nat) : Int) := by omega
          clear hR h hln
          generalize base + Ls.length = nx at *
          generalize Ls.length = ln at *
          go_enter Try.func59, Try.ntmps59
          go_wp2_with (fail)
          refine HO.out.mono ?_
          rintro e w' ⟨rfl, rfl⟩
          go_wp2_with (fail)
          refine (HW.out _).mono ?_
          rintro e w' ⟨rfl, rfl⟩
          go_wp2_with (fail)
          refine reg_begin (Pure') (by kernel_rfl) ?_
          refine reg_take 0 (v := ?_) rfl (by kernel_rfl) (by kernel_rfl) (by kernel_rfl) (fun _ _ _ h => h) (by kernel_rfl) ?_ ?_
          rotate_left
          · (intro w' hS; go_simp; (try go_bits); (try with_reducible rfl))
          try simp only [Act.put, List.getElem_toArray, List.getElem_cons_zero, List.getElem_cons_succ, List.setIfInBounds_toArray, List.set_cons_zero, List.set_cons_succ]
          refine reg_take 1 (v := ?_) rfl (by kernel_rfl) (by kernel_rfl) (by kernel_rfl) (fun _ _ _ h => h) (by kernel_rfl) ?_ ?_
          rotate_left
          · (intro w' hS; go_simp; (try go_bits); (try with_reducible rfl))
          try simp only [Act.put, List.getElem_toArray, List.getElem_cons_zero, List.getElem_cons_succ, List.setIfInBounds_toArray, List.set_cons_zero, List.set_cons_succ]
          refine reg_take 2 (v := ?_) rfl (by kernel_rfl) (by kernel_rfl) (by kernel_rfl) (fun _ _ _ h => h) (by kernel_rfl) ?_ ?_
          rotate_left
          · (intro w' hS; go_simp; (try go_bits); (try with_reducible rfl))
          try simp only [Act.put, List.getElem_toArray, List.getElem_cons_zero, List.getElem_cons_succ, List.setIfInBounds_toArray, List.set_cons_zero, List.set_cons_succ]
          refine reg_take 3 (v := ?_) rfl (by kernel_rfl) (by kernel_rfl) (by kernel_rfl) (fun _ _ _ h => h) (by kernel_rfl) ?_ ?_
          rotate_left
          · (intro w' hS; have hz := hS.cell h2 (fun h => h); go_simp; (try go_bits); (try with_reducible rfl))
          try simp only [Act.put, List.getElem_toArray, List.getElem_cons_zero, List.getElem_cons_succ, List.setIfInBounds_toArray, List.set_cons_zero, List.set_cons_succ]
          refine reg_take 4 (v := ?_) rfl (by kernel_rfl) (by kernel_rfl) (by kernel_rfl) (fun _ _ _ h => h) (by kernel_rfl) ?_ ?_
          rotate_left
          · (intro w' hS; go_simp; (try go_bits); (try with_reducible rfl))
          try simp only [Act.put, List.getElem_toArray, List.getElem_cons_zero, List.getElem_cons_succ, List.setIfInBounds_toArray, List.set_cons_zero, List.set_cons_succ]
          refine reg_take 5 (v := ?_) rfl (by kernel_rfl) (by kernel_rfl) (by kernel_rfl) (fun _ _ _ h => h) (by kernel_rfl) ?_ ?_
          rotate_left
          · (intro w' hS; go_simp; (try go_bits); (try with_reducible rfl))
          try simp only [Act.put, List.getElem_toArray, List.getElem_cons_zero, List.getElem_cons_succ, List.setIfInBounds_toArray, List.set_cons_zero, List.set_cons_succ]
          refine reg_take 6 (v := ?_) rfl (by kernel_rfl) (by kernel_rfl) (by kernel_rfl) (fun _ _ _ h => h) (by kernel_rfl) ?_ ?_
          rotate_left
          · (intro w' hS; go_simp; (try go_bits); (try with_reducible rfl))
          try simp only [Act.put, List.getElem_toArray, List.getElem_cons_zero, List.getElem_cons_succ, List.setIfInBounds_toArray, List.set_cons_zero, List.set_cons_succ]
          refine reg_take 7 (v := ?_) rfl (by kernel_rfl) (by kernel_rfl) (by kernel_rfl) (fun _ _ _ h => h) (by kernel_rfl) ?_ ?_
          rotate_left
          · (intro w' hS; have hz := hS.cell h3 (fun h => h); go_simp; (try go_bits); (try with_reducible rfl))
          try simp only [Act.put, List.getElem_toArray, List.getElem_cons_zero, List.getElem_cons_succ, List.setIfInBounds_toArray, List.set_cons_zero, List.set_cons_succ]
          refine reg_take 8 (v := ?_) rfl (by kernel_rfl) (by kernel_rfl) (by kernel_rfl) (fun _ _ _ h => h) (by kernel_rfl) ?_ ?_
          rotate_left
          · (intro w' hS; go_simp; (try go_bits); (try with_reducible rfl))
          try simp only [Act.put, List.getElem_toArray, List.getElem_cons_zero, List.getElem_cons_succ, List.setIfInBounds_toArray, List.set_cons_zero, List.set_cons_succ]
          refine reg_take 9 (v := ?_) rfl (by kernel_rfl) (by kernel_rfl) (by kernel_rfl) (fun _ _ _ h => h) (by kernel_rfl) ?_ ?_
          rotate_left
          · (intro w' hS; go_simp; (try go_bits); (try with_reducible rfl))
          try simp only [Act.put, List.getElem_toArray, List.getElem_cons_zero, List.getElem_cons_succ, List.setIfInBounds_toArray, List.set_cons_zero, List.set_cons_succ]
          refine reg_take 10 (v := ?_) rfl (by kernel_rfl) (by kernel_rfl) (by kernel_rfl) (fun _ _ _ h => h) (by kernel_rfl) ?_ ?_
          rotate_left
          · (intro w' hS; go_simp; (try go_bits); (try with_reducible rfl))
          try simp only [Act.put, List.getElem_toArray, List.getElem_cons_zero, List.getElem_cons_succ, List.setIfInBounds_toArray, List.set_cons_zero, List.set_cons_succ]
          refine reg_take 11 (v := ?_) rfl (by kernel_rfl) (by kernel_rfl) (by kernel_rfl) (fun _ _ _ h => h) (by kernel_rfl) ?_ ?_
          rotate_left
          · (intro w' hS; go_simp; (try go_bits); (try with_reducible rfl))
          try simp only [Act.put, List.getElem_toArray, List.getElem_cons_zero, List.getElem_cons_succ, List.setIfInBounds_toArray, List.set_cons_zero, List.set_cons_succ]
          refine reg_take 12 (v := ?_) rfl (by kernel_rfl) (by kernel_rfl) (by kernel_rfl) (fun _ _ _ h => h) (by kernel_rfl) ?_ ?_
          rotate_left
          · (intro w' hS; go_simp; (try go_bits); (try with_reducible rfl))
          try simp only [Act.put, List.getElem_toArray, List.getElem_cons_zero, List.getElem_cons_succ, List.setIfInBounds_toArray, List.set_cons_zero, List.set_cons_succ]
          refine reg_take 13 (v := ?_) rfl (by kernel_rfl) (by kernel_rfl) (by kernel_rfl) (fun _ _ _ h => h) (by kernel_rfl) ?_ ?_
          rotate_left
          · (intro w' hS; have hz := hS.cell h2 (fun h => h); go_simp; (try go_bits); (try with_reducible rfl))
          try simp only [Act.put, List.getElem_toArray, List.getElem_cons_zero, List.getElem_cons_succ, List.setIfInBounds_toArray, List.set_cons_zero, List.set_cons_succ]
          refine reg_take 14 (v := ?_) rfl (by kernel_rfl) (by kernel_rfl) (by kernel_rfl) (fun _ _ _ h => h) (by kernel_rfl) ?_ ?_
          rotate_left
          · (intro w' hS; go_simp; (try go_bits); (try with_reducible rfl))
          try simp only [Act.put, List.getElem_toArray, List.getElem_cons_zero, List.getElem_cons_succ, List.setIfInBounds_toArray, List.set_cons_zero, List.set_cons_succ]
          refine reg_take 15 (v := ?_) rfl (by kernel_rfl) (by kernel_rfl) (by kernel_rfl) (fun _ _ _ h => h) (by kernel_rfl) ?_ ?_
          rotate_left
          · (intro w' hS; go_simp; (try go_bits); (try with_reducible rfl))
          try simp only [Act.put, List.getElem_toArray, List.getElem_cons_zero, List.getElem_cons_succ, List.setIfInBounds_toArray, List.set_cons_zero, List.set_cons_succ]
          refine reg_take 16 (v := ?_) rfl (by kernel_rfl) (by kernel_rfl) (by kernel_rfl) (fun _ _ _ h => h) (by kernel_rfl) ?_ ?_
          rotate_left
          · (intro w' hS; go_simp; (try go_bits); (try with_reducible rfl))
          try simp only [Act.put, List.getElem_toArray, List.getElem_cons_zero, List.getElem_cons_succ, List.setIfInBounds_toArray, List.set_cons_zero, List.set_cons_succ]
          refine reg_take 17 (v := ?_) rfl (by kernel_rfl) (by kernel_rfl) (by kernel_rfl) (fun _ _ _ h => h) (by kernel_rfl) ?_ ?_
          rotate_left
          · (intro w' hS; have hz := hS.cell h1 (fun h => h); go_simp; (try go_bits); (try with_reducible rfl))
          try simp only [Act.put, List.getElem_toArray, List.getElem_cons_zero, List.getElem_cons_succ, List.setIfInBounds_toArray, List.set_cons_zero, List.set_cons_succ]
          refine reg_take 18 (v := ?_) rfl (by kernel_rfl) (by kernel_rfl) (by kernel_rfl) (fun _ _ _ h => h) (by kernel_rfl) ?_ ?_
          rotate_left
          · (intro w' hS; go_simp; (try go_bits); (try with_reducible rfl))
          try simp only [Act.put, List.getElem_toArray, List.getElem_cons_zero, List.getElem_cons_succ, List.setIfInBounds_toArray, List.set_cons_zero, List.set_cons_succ]
          refine reg_take 19 (v := ?_) rfl (by kernel_rfl) (by kernel_rfl) (by kernel_rfl) (fun _ _ _ h => h) (by kernel_rfl) ?_ ?_
          rotate_left
          · (intro w' hS; go_simp; (try go_bits); (try with_reducible rfl))
          try simp only [Act.put, List.getElem_toArray, List.getElem_cons_zero, List.getElem_cons_succ, List.setIfInBounds_toArray, List.set_cons_zero, List.set_cons_succ]
          refine reg_take 20 (v := ?_) rfl (by kernel_rfl) (by kernel_rfl) (by kernel_rfl) (fun _ _ _ h => h) (by kernel_rfl) ?_ ?_
          rotate_left
          · (intro w' hS; go_simp; (try go_bits); (try with_reducible rfl))
          try simp only [Act.put, List.getElem_toArray, List.getElem_cons_zero, List.getElem_cons_succ, List.setIfInBounds_toArray, List.set_cons_zero, List.set_cons_succ]
          refine reg_take 21 (v := ?_) rfl (by kernel_rfl) (by kernel_rfl) (by kernel_rfl) (fun _ _ _ h => h) (by kernel_rfl) ?_ ?_
          rotate_left
          · (intro w' hS; go_simp; (try go_bits); (try with_reducible rfl))
          try simp only [Act.put, List.getElem_toArray, List.getElem_cons_zero, List.getElem_cons_succ, List.setIfInBounds_toArray, List.set_cons_zero, List.set_cons_succ]
          refine reg_take 22 (v := ?_) rfl (by kernel_rfl) (by kernel_rfl) (by kernel_rfl) (fun _ _ _ h => h) (by kernel_rfl) ?_ ?_
          rotate_left
          · (intro w' hS; have hz := hS.cell h0 (fun h => h); go_simp; (try go_bits); (try with_reducible rfl))
          try simp only [Act.put, List.getElem_toArray, List.getElem_cons_zero, List.getElem_cons_succ, List.setIfInBounds_toArray, List.set_cons_zero, List.set_cons_succ]
          refine reg_take 23 (v := ?_) rfl (by kernel_rfl) (by kernel_rfl) (by kernel_rfl) (fun _ _ _ h => h) (by kernel_rfl) ?_ ?_
          rotate_left
          · (intro w' hS; go_simp; (try go_bits); (try with_reducible rfl))
          try simp only [Act.put, List.getElem_toArray, List.getElem_cons_zero, List.getElem_cons_succ, List.setIfInBounds_toArray, List.set_cons_zero, List.set_cons_succ]
          refine reg_take 24 (v := ?_) rfl (by kernel_rfl) (by kernel_rfl) (by kernel_rfl) (fun _ _ _ h => h) (by kernel_rfl) ?_ ?_
          rotate_left
          · (intro w' hS; go_simp; (try go_bits); (try with_reducible rfl))
          try simp only [Act.put, List.getElem_toArray, List.getElem_cons_zero, List.getElem_cons_succ, List.setIfInBounds_toArray, List.set_cons_zero, List.set_cons_succ]
          refine reg_take 25 (v := ?_) rfl (by kernel_rfl) (by kernel_rfl) (by kernel_rfl) (fun _ _ _ h => h) (by kernel_rfl) ?_ ?_
          rotate_left
          · (intro w' hS; go_simp; (try go_bits); (try with_reducible rfl))
          try simp only [Act.put, List.getElem_toArray, List.getElem_cons_zero, List.getElem_cons_succ, List.setIfInBounds_toArray, List.set_cons_zero, List.set_cons_succ]
          refine wpAnyH_done (by kernel_rfl) ?_ _
          go_wp2
          go_ret2
          exact ⟨rfl, (Chg.refl _ _).drew, HSM.out _ (Chg.refl _ _).drew⟩
        · have hR : pushOf W base lim Ls xs now = ((((base + Ls.length : Nat) : Int), 0), Ls ++ [⟨xs, false, now, 1⟩]) := by
            unfold pushOf; rw [if_neg (by simpa using hwhen), if_neg c2, if_neg (by omega)]
          rw [hR]
          have c4' : ¬ (W : Int) ≤ ((Ls.length : Nat) : Int) := by omega
          have hcl : base + Ls.length ≤ lim := by omega
          have hcW : Ls.length < W := by omega
          have hM := h.map
          have hkey : (Lit.int .i64 ((base + Ls.length : Nat) : Int)).wf = true := wf_i64 (by omega)
          have h4 : w.drew.drew.cell? ⟨p, 4, none⟩ = some (.map (some b)) := h.c4
          have hpb := h.pb
          have hz := zero_load
          have H := Lib.hid h
          have HF := Lib.hid h.foot_lt
          clear hR h hln
          generalize hnxx : base + Ls.length = nx at *
          have HNX := Lib.hid hnxx
          generalize hlnn : Ls.length = ln at *
          have HLN := Lib.hid hlnn
          clear hnxx hlnn
          go_enter Try.func59, Try.ntmps59
          go_wp2_with (fail)
          refine HO.out.mono ?_
          rintro e w' ⟨rfl, rfl⟩
          go_wp2_with (fail)
          refine (HW.out _).mono ?_
          rintro e w' ⟨rfl, rfl⟩
          go_wp2_with (fail)
          refine reg_begin (Pure') (by kernel_rfl) ?_
          refine reg_take 0 (v := ?_) rfl (by kernel_rfl) (by kernel_rfl) (by kernel_rfl) (fun _ _ _ h => h) (by kernel_rfl) ?_ ?_
          rotate_left
          · (intro w' hS; go_simp; (try go_bits); (try with_reducible rfl))
          try simp only [Act.put, List.getElem_toArray, List.getElem_cons_zero, List.getElem_cons_succ, List.setIfInBounds_toArray, List.set_cons_zero, List.set_cons_succ]
          refine reg_take 1 (v := ?_) rfl (by kernel_rfl) (by kernel_rfl) (by kernel_rfl) (fun _ _ _ h => h) (by kernel_rfl) ?_ ?_
          rotate_left
          · (intro w' hS; go_simp; (try go_bits); (try with_reducible rfl))
          try simp only [Act.put, List.getElem_toArray, List.getElem_cons_zero, List.getElem_cons_succ, List.setIfInBounds_toArray, List.set_cons_zero, List.set_cons_succ]
          refine reg_take 2 (v := ?_) rfl (by kernel_rfl) (by kernel_rfl) (by kernel_rfl) (fun _ _ _ h => h) (by kernel_rfl) ?_ ?_
          rotate_left
          · (intro w' hS; go_simp; (try go_bits); (try with_reducible rfl))
          try simp only [Act.put, List.getElem_toArray, List.getElem_cons_zero, List.getElem_cons_succ, List.setIfInBounds_toArray, List.set_cons_zero, List.set_cons_succ]
          refine reg_take 3 (v := ?_) rfl (by kernel_rfl) (by kernel_rfl) (by kernel_rfl) (fun _ _ _ h => h) (by kernel_rfl) ?_ ?_
          rotate_left
          · (intro w' hS; have hz := hS.cell h2 (fun h => h); go_simp; (try go_bits); (try with_reducible rfl))
          try simp only [Act.put, List.getElem_toArray, List.getElem_cons_zero, List.getElem_cons_succ, List.setIfInBounds_toArray, List.set_cons_zero, List.set_cons_succ]
          refine reg_take 4 (v := ?_) rfl (by kernel_rfl) (by kernel_rfl) (by kernel_rfl) (fun _ _ _ h => h) (by kernel_rfl) ?_ ?_
          rotate_left
          · (intro w' hS; go_simp; (try go_bits); (try with_reducible rfl))
          try simp only [Act.put, List.getElem_toArray, List.getElem_cons_zero, List.getElem_cons_succ, List.setIfInBounds_toArray, List.set_cons_zero, List.set_cons_succ]
          refine reg_take 5 (v := ?_) rfl (by kernel_rfl) (by kernel_rfl) (by kernel_rfl) (fun _ _ _ h => h) (by kernel_rfl) ?_ ?_
          rotate_left
          · (intro w' hS; go_simp; (try go_bits); (try with_reducible rfl))
          try simp only [Act.put, List.getElem_toArray, List.getElem_cons_zero, List.getElem_cons_succ, List.setIfInBounds_toArray, List.set_cons_zero, List.set_cons_succ]
          refine reg_take 6 (v := ?_) rfl (by kernel_rfl) (by kernel_rfl) (by kernel_rfl) (fun _ _ _ h => h) (by kernel_rfl) ?_ ?_
          rotate_left
          · (intro w' hS; go_simp; (try go_bits); (try with_reducible rfl))
          try simp only [Act.put, List.getElem_toArray, List.getElem_cons_zero, List.getElem_cons_succ, List.setIfInBounds_toArray, List.set_cons_zero, List.set_cons_succ]
          refine reg_take 7 (v := ?_) rfl (by kernel_rfl) (by kernel_rfl) (by kernel_rfl) (fun _ _ _ h => h) (by kernel_rfl) ?_ ?_
          rotate_left
          · (intro w' hS; have hz := hS.cell h3 (fun h => h); go_simp; (try go_bits); (try with_reducible rfl))
          try simp only [Act.put, List.getElem_toArray, List.getElem_cons_zero, List.getElem_cons_succ, List.setIfInBounds_toArray, List.set_cons_zero, List.set_cons_succ]
          refine reg_take 8 (v := ?_) rfl (by kernel_rfl) (by kernel_rfl) (by kernel_rfl) (fun _ _ _ h => h) (by kernel_rfl) ?_ ?_
          rotate_left
          · (intro w' hS; go_simp; (try go_bits); (try with_reducible rfl))
          try simp only [Act.put, List.getElem_toArray, List.getElem_cons_zero, List.getElem_cons_succ, List.setIfInBounds_toArray, List.set_cons_zero, List.set_cons_succ]
          refine reg_take 9 (v := ?_) rfl (by kernel_rfl) (by kernel_rfl) (by kernel_rfl) (fun _ _ _ h => h) (by kernel_rfl) ?_ ?_
          rotate_left
          · (intro w' hS; go_simp; (try go_bits); (try with_reducible rfl))
          try simp only [Act.put, List.getElem_toArray, List.getElem_cons_zero, List.getElem_cons_succ, List.setIfInBounds_toArray, List.set_cons_zero, List.set_cons_succ]
          refine reg_take 10 (v := ?_) rfl (by kernel_rfl) (by kernel_rfl) (by kernel_rfl) (fun _ _ _ h => h) (by kernel_rfl) ?_ ?_
          rotate_left
          · (intro w' hS; go_simp; (try go_bits); (try with_reducible rfl))
          try simp only [Act.put, List.getElem_toArray, List.getElem_cons_zero, List.getElem_cons_succ, List.setIfInBounds_toArray, List.set_cons_zero, List.set_cons_succ]
          refine reg_take 11 (v := ?_) rfl (by kernel_rfl) (by kernel_rfl) (by kernel_rfl) (fun _ _ _ h => h) (by kernel_rfl) ?_ ?_
          rotate_left
          · (intro w' hS; go_simp; (try go_bits); (try with_reducible rfl))
          try simp only [Act.put, List.getElem_toArray, List.getElem_cons_zero, List.getElem_cons_succ, List.setIfInBounds_toArray, List.set_cons_zero, List.set_cons_succ]
          refine reg_take 12 (v := ?_) rfl (by kernel_rfl) (by kernel_rfl) (by kernel_rfl) (fun _ _ _ h => h) (by kernel_rfl) ?_ ?_
          rotate_left
          · (intro w' hS; go_simp; (try go_bits); (try with_reducible rfl))
          try simp only [Act.put, List.getElem_toArray, List.getElem_cons_zero, List.getElem_cons_succ, List.setIfInBounds_toArray, List.set_cons_zero, List.set_cons_succ]
          refine reg_take 13 (v := ?_) rfl (by kernel_rfl) (by kernel_rfl) (by kernel_rfl) (fun _ _ _ h => h) (by kernel_rfl) ?_ ?_
          rotate_left
          · (intro w' hS; have hz := hS.cell h2 (fun h => h); go_simp; (try go_bits); (try with_reducible rfl))
          try simp only [Act.put, List.getElem_toArray, List.getElem_cons_zero, List.getElem_cons_succ, List.setIfInBounds_toArray, List.set_cons_zero, List.set_cons_succ]
          refine reg_take 14 (v := ?_) rfl (by kernel_rfl) (by kernel_rfl) (by kernel_rfl) (fun _ _ _ h => h) (by kernel_rfl) ?_ ?_
          rotate_left
          · (intro w' hS; go_simp; (try go_bits); (try with_reducible rfl))
          try simp only [Act.put, List.getElem_toArray, List.getElem_cons_zero, List.getElem_cons_succ, List.setIfInBounds_toArray, List.set_cons_zero, List.set_cons_succ]
          refine reg_take 15 (v := ?_) rfl (by kernel_rfl) (by kernel_rfl) (by kernel_rfl) (fun _ _ _ h => h) (by kernel_rfl) ?_ ?_
          rotate_left
          · (intro w' hS; go_simp; (try go_bits); (try with_reducible rfl))
          try simp only [Act.put, List.getElem_toArray, List.getElem_cons_zero, List.getElem_cons_succ, List.setIfInBounds_toArray, List.set_cons_zero, List.set_cons_succ]
          refine reg_take 16 (v := ?_) rfl (by kernel_rfl) (by kernel_rfl) (by kernel_rfl) (fun _ _ _ h => h) (by kernel_rfl) ?_ ?_
          rotate_left
          · (intro w' hS; go_simp; (try go_bits); (try with_reducible rfl))
          try simp only [Act.put, List.getElem_toArray, List.getElem_cons_zero, List.getElem_cons_succ, List.setIfInBounds_toArray, List.set_cons_zero, List.set_cons_succ]
          refine reg_take 17 (v := ?_) rfl (by kernel_rfl) (by kernel_rfl) (by kernel_rfl) (fun _ _ _ h => h) (by kernel_rfl) ?_ ?_
          rotate_left
          · (intro w' hS; have hz := hS.cell h1 (fun h => h); go_simp; (try go_bits); (try with_reducible rfl))
          try simp only [Act.put, List.getElem_toArray, List.getElem_cons_zero, List.getElem_cons_succ, List.setIfInBounds_toArray, List.set_cons_zero, List.set_cons_succ]
          refine reg_take 18 (v := ?_) rfl (by kernel_rfl) (by kernel_rfl) (by kernel_rfl) (fun _ _ _ h => h) (by kernel_rfl) ?_ ?_
          rotate_left
          · (intro w' hS; go_simp; (try go_bits); (try with_reducible rfl))
          try simp only [Act.put, List.getElem_toArray, List.getElem_cons_zero, List.getElem_cons_succ, List.setIfInBounds_toArray, List.set_cons_zero, List.set_cons_succ]
          refine reg_take 19 (v := ?_) rfl (by kernel_rfl) (by kernel_rfl) (by kernel_rfl) (fun _ _ _ h => h) (by kernel_rfl) ?_ ?_
          rotate_left
          · (intro w' hS; go_simp; (try go_bits); (try with_reducible rfl))
          try simp only [Act.put, List.getElem_toArray, List.getElem_cons_zero, List.getElem_cons_succ, List.setIfInBounds_toArray, List.set_cons_zero, List.set_cons_succ]
          refine reg_take 20 (v := ?_) rfl (by kernel_rfl) (by kernel_rfl) (by kernel_rfl) (fun _ _ _ h => h) (by kernel_rfl) ?_ ?_
          rotate_left
          · (intro w' hS; go_simp; (try go_bits); (try with_reducible rfl))
          try simp only [Act.put, List.getElem_toArray, List.getElem_cons_zero, List.getElem_cons_succ, List.setIfInBounds_toArray, List.set_cons_zero, List.set_cons_succ]
          refine reg_take 21 (v := ?_) rfl (by kernel_rfl) (by kernel_rfl) (by kernel_rfl) (fun _ _ _ h => h) (by kernel_rfl) ?_ ?_
          rotate_left
          · (intro w' hS; go_simp; (try go_bits); (try with_reducible rfl))
          try simp only [Act.put, List.getElem_toArray, List.getElem_cons_zero, List.getElem_cons_succ, List.setIfInBounds_toArray, List.set_cons_zero, List.set_cons_succ]
          refine reg_take 22 (v := ?_) rfl (by kernel_rfl) (by kernel_rfl) (by kernel_rfl) (fun _ _ _ h => h) (by kernel_rfl) ?_ ?_
          rotate_left
          · (intro w' hS; have hz := hS.cell h0 (fun h => h); go_simp; (try go_bits); (try with_reducible rfl))
          try simp only [Act.put, List.getElem_toArray, List.getElem_cons_zero, List.getElem_cons_succ, List.setIfInBounds_toArray, List.set_cons_zero, List.set_cons_succ]
          refine reg_take 23 (v := ?_) rfl (by kernel_rfl) (by kernel_rfl) (by kernel_rfl) (fun _ _ _ h => h) (by kernel_rfl) ?_ ?_
          rotate_left
          · (intro w' hS; go_simp; (try go_bits); (try with_reducible rfl))
          try simp only [Act.put, List.getElem_toArray, List.getElem_cons_zero, List.getElem_cons_succ, List.setIfInBounds_toArray, List.set_cons_zero, List.set_cons_succ]
          refine reg_take 24 (v := ?_) rfl (by kernel_rfl) (by kernel_rfl) (by kernel_rfl) (fun _ _ _ h => h) (by kernel_rfl) ?_ ?_
          rotate_left
          · (intro w' hS; go_simp; (try go_bits); (try with_reducible rfl))
          try simp only [Act.put, List.getElem_toArray, List.getElem_cons_zero, List.getElem_cons_succ, List.setIfInBounds_toArray, List.set_cons_zero, List.set_cons_succ]
          refine reg_take 25 (v := ?_) rfl (by kernel_rfl) (by kernel_rfl) (by kernel_rfl) (fun _ _ _ h => h) (by kernel_rfl) ?_ ?_
          rotate_left
          · (intro w' hS; go_simp; (try go_bits); (try with_reducible rfl))
          try simp only [Act.put, List.getElem_toArray, List.getElem_cons_zero, List.getElem_cons_succ, List.setIfInBounds_toArray, List.set_cons_zero, List.set_cons_succ]
          refine wpAnyH_done (by kernel_rfl) ?_ _
          go_wp2_with (fail)
          have k0 : Chg Pure' w w.drew.drew := (Chg.refl _ w).drew.drew
          refine reg_begin (fun k => k = b) (by kernel_rfl) ?_
          refine reg_take 0 (v := ?_) rfl (by kernel_rfl) (by kernel_rfl) (by kernel_rfl) (fun _ _ _ h => h) (by kernel_rfl) ?_ ?_
          rotate_left
          · (intro w' hS; go_simp; (try go_bits); (try with_reducible rfl))
          try simp only [Act.put, List.getElem_toArray, List.getElem_cons_zero, List.getElem_cons_succ, List.setIfInBounds_toArray, List.set_cons_zero, List.set_cons_succ]
          refine reg_take 1 (v := ?_) rfl (by kernel_rfl) (by kernel_rfl) (by kernel_rfl) (fun _ _ _ h => h) (by kernel_rfl) ?_ ?_
          rotate_left
          · (intro w' hS; go_simp; (try go_bits); (try with_reducible rfl))
          try simp only [Act.put, List.getElem_toArray, List.getElem_cons_zero, List.getElem_cons_succ, List.setIfInBounds_toArray, List.set_cons_zero, List.set_cons_succ]
          refine reg_take 2 (v := ?_) rfl (by kernel_rfl) (by kernel_rfl) (by kernel_rfl) (fun _ _ _ h => h) (by kernel_rfl) ?_ ?_
          rotate_left
          · (intro w' hS; go_simp; (try go_bits); (try with_reducible rfl))
          try simp only [Act.put, List.getElem_toArray, List.getElem_cons_zero, List.getElem_cons_succ, List.setIfInBounds_toArray, List.set_cons_zero, List.set_cons_succ]
          refine reg_take 3 (v := ?_) rfl (by kernel_rfl) (by kernel_rfl) (by kernel_rfl) (fun _ _ _ h => h) (by kernel_rfl) ?_ ?_
          rotate_left
          · (intro w' hS; have hz := hS.cell h4 (fun e => hpb e); go_simp; (try go_bits); (try with_reducible rfl))
          try simp only [Act.put, List.getElem_toArray, List.getElem_cons_zero, List.getElem_cons_succ, List.setIfInBounds_toArray, List.set_cons_zero, List.set_cons_succ]
          refine reg_take 4 (v := ?_) rfl (by kernel_rfl) (by kernel_rfl) (by kernel_rfl) (fun _ _ _ h => h) (by kernel_rfl) ?_ ?_
          rotate_left
          · (intro w' hS; go_simp; (try go_bits); (try with_reducible rfl))
          try simp only [Act.put, List.getElem_toArray, List.getElem_cons_zero, List.getElem_cons_succ, List.setIfInBounds_toArray, List.set_cons_zero, List.set_cons_succ]
          refine reg_take 5 (v := ?_) rfl (by kernel_rfl) (by kernel_rfl) (by kernel_rfl) (fun _ _ _ h => h) (by kernel_rfl) ?_ ?_
          rotate_left
          · (intro w' hS; go_simp; (try go_bits); (try with_reducible rfl))
          try simp only [Act.put, List.getElem_toArray, List.getElem_cons_zero, List.getElem_cons_succ, List.setIfInBounds_toArray, List.set_cons_zero, List.set_cons_succ]
          refine reg_take 7 (v := ?_) rfl (by kernel_rfl) (by kernel_rfl) (by kernel_rfl) (fun _ _ _ h => h) (by kernel_rfl) ?_ ?_
          rotate_left
          · (intro w' hS; go_simp; (try go_bits); (try with_reducible rfl))
          try simp only [Act.put, List.getElem_toArray, List.getElem_cons_zero, List.getElem_cons_succ, List.setIfInBounds_toArray, List.set_cons_zero, List.set_cons_succ]
          refine reg_do 6 rfl (by kernel_rfl) (by kernel_rfl) ?_
          intro K hK
          go_simp
          refine (clone_own A c n xs _ (hA.pure k0) (by omega)).mono ?_
          rintro e w1 ⟨v1, rfl, ho1, k1⟩
          have hlt1 := ho1.lt
          obtain ⟨A1, q1, rfl, hq1, hb1, -⟩ := Bytes.of_own ho1
          have hA1 : ∀ d, A1 = some d → w.heap.size ≤ d.block ∧ d.block < w1.heap.size := fun d hd => by subst hd; exact hlt1 d.block rfl
          have kw1 := k0.pure k1
          clear hlt1 ho1
          refine hK _ _ (k1.of_pure) ?_
          clear hK K
          try simp only [Act.put, List.getElem_toArray, List.getElem_cons_zero, List.getElem_cons_succ, List.setIfInBounds_toArray, List.set_cons_zero, List.set_cons_succ]
          refine reg_take 8 (v := ?_) rfl (by kernel_rfl) (by kernel_rfl) (by kernel_rfl) (fun _ _ _ h => h) (by kernel_rfl) ?_ ?_
          rotate_left
          · (intro w' hS; go_simp; (try go_bits); (try with_reducible rfl))
          try simp only [Act.put, List.getElem_toArray, List.getElem_cons_zero, List.getElem_cons_succ, List.setIfInBounds_toArray, List.set_cons_zero, List.set_cons_succ]
          refine reg_do 9 rfl (by kernel_rfl) (by kernel_rfl) ?_
          intro K hK
          go_simp
          refine hK _ _ ((Chg.refl _ w1).alloc _) ?_
          clear hK K
          try simp only [Act.put, List.getElem_toArray, List.getElem_cons_zero, List.getElem_cons_succ, List.setIfInBounds_toArray, List.set_cons_zero, List.set_cons_succ]
          have hM2 := (hM.chg kw1 (fun h => h)).chg ((Chg.refl Pure' w1).alloc (.cells #[.slice A1 n q1, .bool false, .int .i64 now, .int .i64 1] 138)) (fun h => h)
          obtain ⟨w3, hr3, hM3, k3⟩ := put_run hM2 Try.underlying3 Try.underlying132 (by unfold maxLen; omega) hkey (.pointer (some ⟨w1.heap.size, 0, none⟩))
          refine reg_do 10 rfl (by kernel_rfl) (by kernel_rfl) ?_
          intro K hK
          refine wp_upd _ _ _ _ rfl rfl rfl rfl hr3 ?_
          refine hK _ _ (k3) ?_
          clear hK K
          try simp only [Act.put, List.getElem_toArray, List.getElem_cons_zero, List.getElem_cons_succ, List.setIfInBounds_toArray, List.set_cons_zero, List.set_cons_succ]
          refine wpAnyH_done (by kernel_rfl) ?_ _
          have e1 := HLN.out
          have e2 := HNX.out
          have ka : Chg Pure' w (w1.alloc (.cells #[.slice A1 n q1, .bool false, .int .i64 now, .int .i64 1] 138)) := kw1.alloc _
          have K3 : Chg (fun k => k = b) w w3 := ka.of_pure.trans' k3
          have h2' : w3.cell? ⟨p, 2, none⟩ = some (.int .i64 (nx : Nat)) := K3.cell h2 (fun e => hpb e)
          obtain ⟨cs, b1, b2⟩ := H.out.blk
          have fr2 := free_at (i := 2) ((K3.block p H.out.plt (fun e => hpb e)).trans b1)
          have HP := Lib.hid (show SendAt (w3.setCell ⟨p, 2, none⟩ (.int .i64 ((nx : Int) + 1))) p b (fun i => if i = base + Ls.length then w1.heap.size else adr i) (fun d => D d ∨ (w.heap.size ≤ d ∧ d < w1.heap.size)) W base lim (Ls ++ [⟨xs, false, now, 1⟩]) (cnt + 1) ∧ Chg (fun k => k = p ∨ k = b) w (w3.setCell ⟨p, 2, none⟩ (.int .i64 ((nx : Int) + 1))) from by
            subst e1
            subst e2
            exact H.out.push kw1 hb1 hq1 (by omega) hA1 hwhen hcl hcW hM3 k3 (by omega))
          clear b1 hM hM2 hM3 hb1 hA1
          go_wp2
          go_ret2
          refine ⟨rfl, HP.out.2, _, _, HP.out.1, ?_⟩
          have hs1 := kw1.size
          rintro k (h | h | ⟨i, hi, rfl⟩ | h | h)
          · exact .inl (.inl h)
          · exact .inl (.inr (.inl h))
          · by_cases hin : i < Ls.length
            · have e : (fun i => if i = base + Ls.length then w1.heap.size else adr i) (base + i) = adr (base + i) := if_neg (by omega)
              rw [e]
              exact .inl (.inr (.inr (.inl ⟨i, by omega, rfl⟩)))
            · have e : (fun i => if i = base + Ls.length then w1.heap.size else adr i) (base + i) = w1.heap.size := if_pos (by simp at hi; omega)
              rw [e]
              exact .inr hs1
          · exact .inl (.inr (.inr (.inr h)))
          · exact .inr h.1
  · have hR : pushOf W base lim Ls xs now = ((0, 1), Ls) := by unfold pushOf; rw [if_pos hwhen]
    rw [hR]
    have HW := Lib.hid (fun w => when_any now w false (decide_eq_false hwhen))
    clear hR h hln
    go_enter Try.func59, Try.ntmps59
    go_wp2_with (fail)
    refine HO.out.mono ?_
    rintro e w' ⟨rfl, rfl⟩
    go_wp2_with (fail)
    refine (HW.out _).mono ?_
    rintro e w' ⟨rfl, rfl⟩
    go_wp2
    go_ret2
    exact ⟨rfl, Chg.refl _ _, HSM.out _ (Chg.refl _ _)⟩
end Go.Proofs.Ytnpkpfcljkekfaa
namespace Go.Proofs.Ytnpkpfcljkekfaa
open Go Go.RowKit
set_option linter.unusedVariables false
set_option maxRecDepth 100000
set_option linter.unusedSimpArgs false

theorem infoMsg : (Try.prog.info? 25).map (fun i => (i.zero, i.size, i.bytes)) = some (some (.agg #[.int .i64 0, .int .u64 0, .int .i64 0, .int .i64 0, .int .i64 0, .int .u64 0, .int .i64 0, .int .i64 0, .slice none 0 0]), 9, 88) := by kernel_rfl
/-- Is a load told? -/
def dueHit (now : Int) (x : Ld) : Bool := !x.there && decide (x.time ≤ now)
def dueLd (now : Int) (x : Ld) : Ld := if dueHit now x then { x with time := now + x.wait, wait := if 64 < 2 * x.wait then 64 else 2 * x.wait } else x
/-- What is told: numbers and loads. -/
def dueOut (now : Int) : Nat → List Ld → List (Nat × List UInt8)
  | _, [] => []
  | n, x :: l => if dueHit now x then (n, x.data) :: dueOut now (n + 1) l else dueOut now (n + 1) l
theorem dueOut_snoc (now : Int) : ∀ (n : Nat) (l : List Ld) (x : Ld), dueOut now n (l ++ [x]) = dueOut now n l ++ (if dueHit now x then [(n + l.length, x.data)] else [])
  | n, [], x => by simp only [List.nil_append, dueOut]; split <;> simp
  | n, y :: l, x => by
    simp only [List.cons_append, dueOut, List.length_cons]
    rw [dueOut_snoc now (n + 1) l x, show n + 1 + l.length = n + (l.length + 1) from by omega]
    split <;> simp
theorem dueOut_length (now : Int) : ∀ (n : Nat) (l : List Ld), (dueOut now n l).length ≤ l.length
  | _, [] => Nat.le_refl _
  | n, x :: l => by have := dueOut_length now (n + 1) l; simp only [dueOut]; split <;> simp <;> omega
/-- The cells of a message that is told. -/
def msgCells (n : Nat) (v : Value) : List Value := [.int .i64 1, .int .u64 0, .int .i64 0, .int .i64 n, .int .i64 0, .int .u64 0, .int .i64 0, .int .i64 0, v]
/-- The cells of what is told; the loads' own slices are vs. -/
def rowCells : List (Nat × List UInt8) → List Value → List Value
  | (n, _) :: out, v :: vs => msgCells n v ++ rowCells out vs
  | _, _ => []
theorem rowCells_length : ∀ (out : List (Nat × List UInt8)) (vs : List Value), vs.length = out.length → (rowCells out vs).length = out.length * 9
  | [], _, _ => by simp [rowCells]
  | (n, d) :: out, [], h => by simp at h
  | (n, d) :: out, v :: vs, h => by
    have := rowCells_length out vs (by simpa using h)
    simp [rowCells, msgCells, this]; omega
theorem rowCells_snoc : ∀ (out : List (Nat × List UInt8)) (vs : List Value) (n : Nat) (d : List UInt8) (v : Value), vs.length = out.length → rowCells (out ++ [(n, d)]) (vs ++ [v]) = rowCells out vs ++ msgCells n v
  | [], vs, n, d, v, h => by
    have : vs = [] := List.eq_nil_of_length_eq_zero h
    subst this
    simp [rowCells]
  | (m, e) :: out, [], n, d, v, h => by simp at h
  | (m, e) :: out, u :: vs, n, d, v, h => by
    simp only [List.cons_append, rowCells]
    rw [rowCells_snoc out vs n d v (by simpa using h), List.append_assoc]
/-- What was told, in memory from block B on. -/
structure MsgsAt (w : World) (B : Nat) (v : Value) (out : List (Nat × List UInt8)) (vs : List Value) : Prop where
  len : vs.length = out.length
  row : w.ownsRow B 25 9 v out.length (rowCells out vs)
  loads : ∀ i (h : i < out.length) (h2 : i < vs.length), w.ownsRow B 5 1 (vs[i]'h2) (out[i]'h).2.length (enc (out[i]'h).2)
theorem own_apart {w : World} {B B' e e' s s' n n' : Nat} {v v' : Value} {xs xs' : List Value} (h : w.ownsRow B e s v n xs) (h' : w.ownsRow B' e' s' v' n' xs') (he : e ≠ e') {g : Nat} (hg : v.ownBlock = some g) : v'.ownBlock ≠ some g := by
  intro hg'
  rcases h.2 with ⟨rfl, _⟩ | ⟨a, cap, cur, rfl, _, hh, _⟩
  · cases hg
  rcases h'.2 with ⟨rfl, _⟩ | ⟨a', cap', cur', rfl, _, hh', _⟩
  · cases hg'
  simp only [Value.ownBlock, Option.some.injEq] at hg hg'
  subst hg
  subst hg'
  rw [hh] at hh'
  cases hh'
  exact he rfl
theorem MsgsAt.keep {w w' : World} {S : Nat → Prop} {B : Nat} {v : Value} {out : List (Nat × List UInt8)} {vs : List Value} (h : MsgsAt w B v out vs) (hc : Chg S w w') (hS : ∀ k, B ≤ k → k < w.heap.size → ¬ S k) : MsgsAt w' B v out vs :=
  ⟨h.len, own_keep h.row hc (fun g hg => hS g (h.row.lt g hg).1 (h.row.lt g hg).2), fun i h1 h2 => own_keep (h.loads i h1 h2) hc (fun g hg => hS g ((h.loads i h1 h2).lt g hg).1 ((h.loads i h1 h2).lt g hg).2)⟩
theorem MsgsAt.nil (w : World) (B : Nat) : MsgsAt w B (.slice none 0 0) [] [] := ⟨rfl, World.ownsRow_nil _ _ _ _, fun i h => by simp at h⟩
/-- One more is told. -/
theorem MsgsAt.add {w : World} {B : Nat} {v u : Value} {out : List (Nat × List UInt8)} {vs : List Value} {n : Nat} {d : List UInt8} (h : MsgsAt w B v out vs) (hl : w.ownsRow B 5 1 u d.length (enc d)) (hB : B ≤ w.heap.size) (hlen : out.length ≤ 64)
    (hu : u.oneCell' = true) : ∃ v' w', (Builtin.append_ #[101, 101] 101 #[v, .slice (some ⟨w.heap.size, 0, none⟩) 1 1]).run Try.prog (w.alloc (.cells #[.int .i64 1, .int .u64 0, .int .i64 0, .int .i64 n, .int .i64 0, .int .u64 0, .int .i64 0, .int .i64 0, u] 25)) = .ok v' w' ∧
      MsgsAt w' B v' (out ++ [(n, d)]) (vs ++ [u]) ∧ Chg (fun k => B ≤ k) w w' := by
  have ca : Chg Pure' w (w.alloc (.cells #[.int .i64 1, .int .u64 0, .int .i64 0, .int .i64 n, .int .i64 0, .int .u64 0, .int .i64 0, .int .i64 0, u] 25)) := (Chg.refl _ w).alloc _
  have hrow : Row (w.alloc (.cells #[.int .i64 1, .int .u64 0, .int .i64 0, .int .i64 n, .int .i64 0, .int .u64 0, .int .i64 0, .int .i64 0, u] 25)) (some ⟨w.heap.size, 0, none⟩) (msgCells n u) := by
    refine ⟨fun _ => ⟨w.heap.size, 0, rfl, fun j x hx => ?_⟩⟩
    rw [Nat.zero_add, cellAt_alloc_lit, ← hx]
    simp [msgCells]
  have hone : ∀ x ∈ msgCells n u, x.oneCell' = true := by
    intro x hx
    simp only [msgCells, List.mem_cons, List.not_mem_nil, or_false] at hx
    rcases hx with rfl | rfl | rfl | rfl | rfl | rfl | rfl | rfl | rfl <;> first | rfl | exact hu
  have k1 := own_keep h.row ca (fun _ _ h => h)
  obtain ⟨v', w', hr, ho, hg, -⟩ := app_own (P := Try.prog) _ B 101 101 25 Try.underlying101 infoMsg rfl (by decide) _ _ _ k1 _ 1 1 _ hrow rfl hone (by decide) (by omega) (by have := ca.size; omega)
  refine ⟨v', w', hr, ⟨by simp [h.len], ?_, fun i h1 h2 => ?_⟩, (ca.of_pure).trans' ((Chg.refl _ _).grown hg (fun k hk => .inr (k1.lt k hk).1))⟩
  · rw [rowCells_snoc _ _ _ _ _ h.len, List.length_append, List.length_singleton]
    exact ho
  · have kg : Chg (fun k => v.ownBlock = some k) (w.alloc (.cells #[.int .i64 1, .int .u64 0, .int .i64 0, .int .i64 n, .int .i64 0, .int .u64 0, .int .i64 0, .int .i64 0, u] 25)) w' := (Chg.refl _ _).grown hg (fun k hk => .inr hk)
    by_cases hi : i < out.length
    · have h3 : i < vs.length := by rw [h.len]; exact hi
      rw [List.getElem_append_left h3, List.getElem_append_left hi]
      have k2 := own_keep (h.loads i hi h3) ca (fun _ _ h => h)
      exact own_keep k2 kg (fun g hg2 e => own_apart k2 k1 (by decide) hg2 e)
    · have hie : i = out.length := by simp at h1; omega
      subst hie
      have hv : vs.length = out.length := h.len
      have e1 : (vs ++ [u])[out.length]'h2 = u := by rw [List.getElem_append_right (by omega)]; simp
      have e2 : (out ++ [(n, d)])[out.length]'h1 = (n, d) := by rw [List.getElem_append_right (by omega)]; simp
      rw [e1, e2]
      have k2 := own_keep hl ca (fun _ _ h => h)
      exact own_keep k2 kg (fun g hg2 e => own_apart k2 k1 (by decide) hg2 e)
/-- The first j are done. -/
def firstN (f : Ld → Ld) (j : Nat) (Ls : List Ld) : List Ld := (Ls.take j).map f ++ Ls.drop j
theorem firstN_length (f : Ld → Ld) (j : Nat) (Ls : List Ld) : (firstN f j Ls).length = Ls.length := by
  simp [firstN]; omega
theorem firstN_step (f : Ld → Ld) (j : Nat) (Ls : List Ld) (h : j < Ls.length) : firstN f (j + 1) Ls = (firstN f j Ls).set j (f (Ls[j]'h)) ∧ (firstN f j Ls)[j]'(by rw [firstN_length]; exact h) = Ls[j]'h := by
  have hl : ((Ls.take j).map f).length = j := by simp; omega
  refine ⟨?_, ?_⟩
  · unfold firstN
    rw [List.set_append_right _ _ (by omega), hl, Nat.sub_self, List.drop_eq_getElem_cons h, List.set_cons_zero, List.take_succ_eq_append_getElem h, List.map_append]
    simp
  · unfold firstN
    rw [List.getElem_append_right (by omega)]
    simp only [List.getElem_drop, hl, Nat.sub_self, Nat.add_zero]
/-- A load is told once more. -/
theorem SendAt.told {w : World} {p b : Nat} {adr : Nat → Nat} {D : Nat → Prop} {W base lim : Nat} {Ls : List Ld} {cnt j : Nat} (h : SendAt w p b adr D W base lim Ls cnt) (hj : j < Ls.length) (t v : Int) (ht : 0 ≤ t ∧ t ≤ 1099511627840) (hv : 1 ≤ v ∧ v ≤ 64) :
    SendAt ((w.setCell ⟨adr (base + j), 2, none⟩ (.int .i64 t)).setCell ⟨adr (base + j), 3, none⟩ (.int .i64 v)) p b adr D W base lim (Ls.set j { (Ls[j]'hj) with time := t, wait := v }) cnt ∧
    Chg (fun k => k = adr (base + j)) w ((w.setCell ⟨adr (base + j), 2, none⟩ (.int .i64 t)).setCell ⟨adr (base + j), 3, none⟩ (.int .i64 v)) := by
  have hx := h.lds j hj
  generalize ha : adr (base + j) = a at *
  have k1 : Chg (fun k => k = a) w (w.setCell ⟨a, 2, none⟩ (.int .i64 t)) := Chg.setCell (S := fun k => k = a) (Chg.refl _ w) (p := ⟨a, 2, none⟩) (.inr rfl) _
  have k2 := Chg.setCell (S := fun k => k = a) k1 (p := ⟨a, 3, none⟩) (.inr rfl) (.int .i64 v)
  obtain ⟨cs, b1, b2⟩ := hx.blk
  have hy : LdAt ((w.setCell ⟨a, 2, none⟩ (.int .i64 t)).setCell ⟨a, 3, none⟩ (.int .i64 v)) D a { (Ls[j]'hj) with time := t, wait := v } :=
    hx.write k2 (fun d hd e => (h.dd d hd).2.2.2 j hj (ha.trans e.symm)) ⟨_, heap_setCell_same _ a 3 _ _ _ (heap_setCell_same w a 2 cs _ _ b1), by simpa using b2⟩
      (by rw [set_far (by omega), set_far (by omega)]) rfl (by rw [set_far (by omega), set_far (by omega)]; exact hx.there) (by rw [set_far (by omega)]; exact set_at hx.time)
      (set_at (u := .int .i64 (Ls[j]'hj).wait) (by rw [set_far (by omega)]; exact hx.wait)) ht hv
  subst ha
  exact ⟨h.turn hj hy k2, k2⟩
end Go.Proofs.Ytnpkpfcljkekfaa
namespace Go.Proofs.Ytnpkpfcljkekfaa
open Go Go.RowKit
set_option linter.unusedVariables false
set_option maxRecDepth 100000
set_option linter.unusedSimpArgs false

theorem Chg.of_drew {S : Nat → Prop} {a c : World} (h : Chg S a c) : Chg S a.drew c := ⟨h.os, h.tape, h.output, h.size, h.block⟩
theorem zero_msg (w : World) : (zeroValue 25).run Try.prog w = .ok (.agg #[.int .i64 0, .int .u64 0, .int .i64 0, .int .i64 0, .int .i64 0, .int .u64 0, .int .i64 0, .int .i64 0, .slice none 0 0]) w := by kernel_rfl
/-- What Due tells, and what stands behind it. -/
def dueOf (now : Int) (base : Nat) (Ls : List Ld) : List (Nat × List UInt8) × List Ld :=
  if 0 ≤ now ∧ now ≤ 1099511627776 then (dueOut now base Ls, Ls.map (dueLd now)) else ([], Ls)

set_option maxHeartbeats 4000000 in
theorem sdue_any {w : World} {p b : Nat} {adr : Nat → Nat} {D : Nat → Prop} {W base lim : Nat} {Ls : List Ld} {cnt : Nat} (h : SendAt w p b adr D W base lim Ls cnt) (now : Int) :
    Calls Try.prog 60 #[.pointer (some ⟨p, 0, none⟩), .int .i64 now] w fun e w' => ∃ v vs, e = .returned v ∧ MsgsAt w' w.heap.size v (dueOf now base Ls).1 vs ∧ Chg (Lds adr base Ls.length) w w' ∧ SendAt w' p b adr D W base lim (dueOf now base Ls).2 cnt := by
  have HO := Lib.hid (sok_any h)
  by_cases hwhen : 0 ≤ now ∧ now ≤ 1099511627776
  · have HW := Lib.hid (fun w => when_any now w true (decide_eq_true hwhen))
    have hR : dueOf now base Ls = (dueOut now base Ls, Ls.map (dueLd now)) := by unfold dueOf; rw [if_pos hwhen]
    rw [hR]
    have h1 := h.c1
    have hz := fun w => zero_ldp w
    have hzm := zero_msg
    have H := Lib.hid h
    have hlen := h.len
    have hw32 := h.w32
    have hnx := h.nx
    have hlm := h.lm
    clear h hR
    go_enter Try.func60, Try.ntmps60
    go_wp2_with (fail)
    refine HO.out.mono ?_
    rintro e w' ⟨rfl, rfl⟩
    go_wp2_with (fail)
    refine (HW.out _).mono ?_
    rintro e w' ⟨rfl, rfl⟩
    go_wp2_with (fail)
    go_loopw [5, 6] (fun v n wr => ∃ (j : Nat) (vs : List Value), j ≤ Ls.length ∧ n = .int .i64 ((base + j : Nat)) ∧ Hid (MsgsAt wr w.heap.size v (dueOut now base (Ls.take j)) vs) ∧ Hid (SendAt wr p b adr D W base lim (firstN (dueLd now) j Ls) cnt) ∧ Chg (Lds adr base Ls.length) w wr) (fun _ n _ => base + Ls.length - (intOf n).toNat)
    case atStart => exact ⟨0, [], Nat.zero_le _, rfl, MsgsAt.nil _ _, H.out, Chg.refl _ _⟩
    case round =>
      obtain ⟨j, vs, hj, rfl, hV, hS, hc⟩ := hrel
      have hS2 := hS.out
      have c1 := hS2.c1
      have c2 := hS2.c2
      have c4 := hS2.c4
      rw [firstN_length] at c2
      by_cases hlt : j < Ls.length
      · have hjf : j < (firstN (dueLd now) j Ls).length := by rw [firstN_length]; exact hlt
        obtain ⟨fs1, fs2⟩ := firstN_step (dueLd now) j Ls hlt
        have hld := hS2.lds j hjf
        rw [fs2] at hld
        have hM := hS2.map
        have hkey : (Lit.int .i64 ((base + j : Nat) : Int)).wf = true := wf_i64 (by omega)
        have hlook := look_run hM Try.underlying3 Try.underlying132 (hz wr) hkey (by rw [byM_in hjf])
        have e1 := hld.there
        have e2 := hld.time
        have e3 := hld.wait
        have t0 := hld.t0
        have w0 := hld.w0
        obtain ⟨A, n, c, d1, d2, d3, d4, d5⟩ := hld.data
        obtain ⟨cs, b1, b2⟩ := hld.blk
        have fr2 := free_at (i := 2) b1
        have fr3 := free_at (i := 3) b1
        have hilt : ((base + j : Nat) : Int) < ((base + Ls.length : Nat) : Int) := by omega
        have hout := dueOut_snoc now base (Ls.take j) (Ls[j]'hlt)
        rw [← List.take_succ_eq_append_getElem hlt, show (Ls.take j).length = j from by simp; omega] at hout
        have haB : adr (base + j) < w.heap.size := H.out.foot_lt _ (.inr (.inr (.inl ⟨j, hlt, rfl⟩)))
        have hol := dueOut_length now base (Ls.take j)
        have holt : (Ls.take j).length ≤ 64 := by simp; omega
        clear hld hM b1 hS2
        cases hh : dueHit now (Ls[j]'hlt) with
        | false =>
          have hL : firstN (dueLd now) (j + 1) Ls = firstN (dueLd now) j Ls := by
            have e0 : dueLd now (Ls[j]'hlt) = Ls[j]'hlt := by unfold dueLd; rw [if_neg (by rw [hh]; simp)]
            rw [fs1, e0, ← fs2, List.set_getElem_self]
          rw [hh] at hout
          rw [← hL] at hS
          simp only [Bool.false_eq_true, if_false, List.append_nil] at hout
          rw [← hout] at hV
          clear hL hout fs1 fs2
          generalize hx : Ls[j]'hlt = x at *
          have HX := Lib.hid hx
          clear hx
          cases hth : x.there with
          | true =>
            rw [hth] at e1
            clear hh
            generalize hnn : base + j = n1 at *
            have HN := Lib.hid hnn
            clear hnn
            go_wp2
            go_roundw
            case rel => exact ⟨j + 1, vs, by omega, by have := HN.out; go_num, hV, hS, hc⟩
            case measure => simp [intOf]; omega
          | false =>
            rw [hth] at e1
            have hti : now < x.time := by
              unfold dueHit at hh
              rw [hth] at hh
              simp at hh
              exact hh
            clear hh
            generalize hnn : base + j = n1 at *
            have HN := Lib.hid hnn
            clear hnn
            go_wp2
            go_roundw
            case rel => exact ⟨j + 1, vs, by omega, by have := HN.out; go_num, hV, hS, hc⟩
            case measure => simp [intOf]; omega
        | true =>
          have hL : firstN (dueLd now) (j + 1) Ls = (firstN (dueLd now) j Ls).set j { (Ls[j]'hlt) with time := now + (Ls[j]'hlt).wait, wait := if 64 < 2 * (Ls[j]'hlt).wait then 64 else 2 * (Ls[j]'hlt).wait } := by
            rw [fs1]; unfold dueLd; rw [if_pos hh]
          rw [hh, if_pos rfl] at hout
          have hth : (Ls[j]'hlt).there = false ∧ (Ls[j]'hlt).time ≤ now := by
            unfold dueHit at hh
            simpa using hh
          rw [hth.1] at e1
          have hti := hth.2
          have HL := Lib.hid hL
          have HOU := Lib.hid hout
          have HF2 := Lib.hid fs2
          have HBY := Lib.hid d4
          have HD5 := Lib.hid d5
          have hwv := hS.out.lds j hjf
          clear hL hout fs1 fs2 hh hth d4 d5 hwv
          generalize hx : Ls[j]'hlt = x at *
          have HX := Lib.hid hx
          clear hx
          generalize hnn : base + j = n1 at *
          have HN := Lib.hid hnn
          clear hnn
          go_wp2_with (fail)
          refine (clone_own A c n x.data _ HBY.out (by omega)).mono ?_
          rintro e w4 ⟨u, rfl, ho, k4⟩
          obtain ⟨A4, q4, rfl, hq4, -, -⟩ := own_slice ho
          have hs4 := k4.size
          have hsw := hc.size
          have hV4 := hV.out.keep k4 (fun k _ _ h => h)
          obtain ⟨v5, w5, hr5, hV5, k5⟩ := hV4.add (n := n1) (d := x.data) (by rw [HBY.out.len]; exact ho.low hsw) (by omega) (by omega) rfl
          have HV5 := Lib.hid hV5
          clear hV4 hV5
          go_wp2_with (first
            | (at_builtin; refine Lib.wpList_append_run _ rfl _ _ _ _ rfl _ _ rfl rfl _ _ hr5 ?_)
            | fail)
          have kk : Chg (fun k => w.heap.size ≤ k) wr w5 := k4.of_pure.trans k5 (fun i _ h => h)
          have haR : adr n1 < wr.heap.size := Nat.lt_of_lt_of_le haB hsw
          have kna : ¬ w.heap.size ≤ adr n1 := by omega
          have f2 : w5.drew.cell? ⟨adr n1, 2, none⟩ = some (.int .i64 x.time) := kk.cell e2 kna
          have f3 : w5.drew.cell? ⟨adr n1, 3, none⟩ = some (.int .i64 x.wait) := kk.cell e3 kna
          have HS5 := Lib.hid ((hS.out.frame kk (fun k hk e => by have := H.out.foot_lt k (by rw [firstN_length] at hk; exact hk); omega)))
          clear hr5 e1 e2 e3 d1 hlook c1 c2 c4 fr2 fr3 hS hV
          obtain ⟨cs5, g1, g2⟩ := (HS5.out.lds j hjf).blk
          rw [HN.out] at g1
          have hwm : 1 ≤ (if 64 < 2 * x.wait then 64 else 2 * x.wait) ∧ (if 64 < 2 * x.wait then 64 else 2 * x.wait) ≤ 64 := by split <;> omega
          have HT := Lib.hid (HS5.out.told hjf (now + x.wait) (if 64 < 2 * x.wait then 64 else 2 * x.wait) (by omega) hwm)
          clear hwm
          have fr2 := free_at (i := 2) g1
          have fr3 := free_at (i := 3) g1
          clear g1
          have f2' : w5.cell? ⟨adr n1, 2, none⟩ = some (.int .i64 x.time) := f2
          have f3' : w5.cell? ⟨adr n1, 3, none⟩ = some (.int .i64 x.wait) := f3
          have fr2' : w5.frozen? ⟨adr n1, 2, none⟩ = false := fr2
          have fr3' : w5.frozen? ⟨adr n1, 3, none⟩ = false := fr3
          refine reg_begin (fun k => k = adr n1) (by kernel_rfl) ?_
          refine reg_take 0 (v := ?_) rfl (by kernel_rfl) (by kernel_rfl) (by kernel_rfl) (fun _ _ _ h => h) (by kernel_rfl) ?_ ?_
          rotate_left
          · (intro w' hS; go_simp; (try go_bits); (try with_reducible rfl))
          try simp only [Act.put, List.getElem_toArray, List.getElem_cons_zero, List.getElem_cons_succ, List.setIfInBounds_toArray, List.set_cons_zero, List.set_cons_succ]
          refine reg_take 1 (v := ?_) rfl (by kernel_rfl) (by kernel_rfl) (by kernel_rfl) (fun _ _ _ h => h) (by kernel_rfl) ?_ ?_
          rotate_left
          · (intro w' hS; go_simp; (try go_bits); (try with_reducible rfl))
          try simp only [Act.put, List.getElem_toArray, List.getElem_cons_zero, List.getElem_cons_succ, List.setIfInBounds_toArray, List.set_cons_zero, List.set_cons_succ]
          refine reg_take 2 (v := ?_) rfl (by kernel_rfl) (by kernel_rfl) (by kernel_rfl) (fun _ _ _ h => h) (by kernel_rfl) ?_ ?_
          rotate_left
          · (intro w' hS; go_simp; (try go_bits); (try with_reducible rfl))
          try simp only [Act.put, List.getElem_toArray, List.getElem_cons_zero, List.getElem_cons_succ, List.setIfInBounds_toArray, List.set_cons_zero, List.set_cons_succ]
          refine reg_take 3 (v := ?_) rfl (by kernel_rfl) (by kernel_rfl) (by kernel_rfl) (fun _ _ _ h => h) (by kernel_rfl) ?_ ?_
          rotate_left
          · (intro w' hS; go_simp; (try go_bits); (try with_reducible rfl))
          try simp only [Act.put, List.getElem_toArray, List.getElem_cons_zero, List.getElem_cons_succ, List.setIfInBounds_toArray, List.set_cons_zero, List.set_cons_succ]
          refine reg_take 4 (v := ?_) rfl (by kernel_rfl) (by kernel_rfl) (by kernel_rfl) (fun _ _ _ h => h) (by kernel_rfl) ?_ ?_
          rotate_left
          · (intro w' hS; go_simp; (try go_bits); (try with_reducible rfl))
          try simp only [Act.put, List.getElem_toArray, List.getElem_cons_zero, List.getElem_cons_succ, List.setIfInBounds_toArray, List.set_cons_zero, List.set_cons_succ]
          refine reg_take 5 (v := ?_) rfl (by kernel_rfl) (by kernel_rfl) (by kernel_rfl) (fun _ _ _ h => h) (by kernel_rfl) ?_ ?_
          rotate_left
          · (intro w' hS; go_simp; (try go_bits); (try with_reducible rfl))
          try simp only [Act.put, List.getElem_toArray, List.getElem_cons_zero, List.getElem_cons_succ, List.setIfInBounds_toArray, List.set_cons_zero, List.set_cons_succ]
          refine reg_take 8 (v := ?_) rfl (by kernel_rfl) (by kernel_rfl) (by kernel_rfl) (fun _ _ _ h => h) (by kernel_rfl) ?_ ?_
          rotate_left
          · (intro w' hS; go_simp; (try go_bits); (try with_reducible rfl))
          try simp only [Act.put, List.getElem_toArray, List.getElem_cons_zero, List.getElem_cons_succ, List.setIfInBounds_toArray, List.set_cons_zero, List.set_cons_succ]
          refine reg_take 9 (v := ?_) rfl (by kernel_rfl) (by kernel_rfl) (by kernel_rfl) (fun _ _ _ h => h) (by kernel_rfl) ?_ ?_
          rotate_left
          · (intro w' hS; go_simp; (try go_bits); (try with_reducible rfl))
          try simp only [Act.put, List.getElem_toArray, List.getElem_cons_zero, List.getElem_cons_succ, List.setIfInBounds_toArray, List.set_cons_zero, List.set_cons_succ]
          refine reg_take 10 (v := ?_) rfl (by kernel_rfl) (by kernel_rfl) (by kernel_rfl) (fun _ _ _ h => h) (by kernel_rfl) ?_ ?_
          rotate_left
          · (intro w' hS; go_simp; (try go_bits); (try with_reducible rfl))
          try simp only [Act.put, List.getElem_toArray, List.getElem_cons_zero, List.getElem_cons_succ, List.setIfInBounds_toArray, List.set_cons_zero, List.set_cons_succ]
          refine reg_do2 6 11 rfl rfl (by kernel_rfl) (by kernel_rfl) (by kernel_rfl) ?_ ?_
          · intro K hK
            go_simp
            refine hK _ _ (Chg.refl _ _) ?_
            clear hK K
            try simp only [Act.put, List.getElem_toArray, List.getElem_cons_zero, List.getElem_cons_succ, List.setIfInBounds_toArray, List.set_cons_zero, List.set_cons_succ]
            refine reg_take 7 (v := ?_) rfl (by kernel_rfl) (by kernel_rfl) (by kernel_rfl) (fun _ _ _ h => h) (by kernel_rfl) ?_ ?_
            rotate_left
            · (intro w' hS; go_simp; (try go_bits); (try with_reducible rfl))
            try simp only [Act.put, List.getElem_toArray, List.getElem_cons_zero, List.getElem_cons_succ, List.setIfInBounds_toArray, List.set_cons_zero, List.set_cons_succ]
            refine reg_do 11 rfl (by kernel_rfl) (by kernel_rfl) ?_
            intro K hK
            go_simp
            refine hK _ _ (Chg.refl _ _) ?_
            clear hK K
            try simp only [Act.put, List.getElem_toArray, List.getElem_cons_zero, List.getElem_cons_succ, List.setIfInBounds_toArray, List.set_cons_zero, List.set_cons_succ]
            refine reg_take 12 (v := ?_) rfl (by kernel_rfl) (by kernel_rfl) (by kernel_rfl) (fun _ _ _ h => h) (by kernel_rfl) ?_ ?_
            rotate_left
            · (intro w' hS; go_simp; (try go_bits); (try with_reducible rfl))
            try simp only [Act.put, List.getElem_toArray, List.getElem_cons_zero, List.getElem_cons_succ, List.setIfInBounds_toArray, List.set_cons_zero, List.set_cons_succ]
            refine reg_take 13 (v := ?_) rfl (by kernel_rfl) (by kernel_rfl) (by kernel_rfl) (fun _ _ _ h => h) (by kernel_rfl) ?_ ?_
            rotate_left
            · (intro w' hS; go_simp; (try go_bits); (try with_reducible rfl))
            try simp only [Act.put, List.getElem_toArray, List.getElem_cons_zero, List.getElem_cons_succ, List.setIfInBounds_toArray, List.set_cons_zero, List.set_cons_succ]
            refine reg_take 14 (v := ?_) rfl (by kernel_rfl) (by kernel_rfl) (by kernel_rfl) (fun _ _ _ h => h) (by kernel_rfl) ?_ ?_
            rotate_left
            · (intro w' hS; go_simp; (try go_bits); (try with_reducible rfl))
            try simp only [Act.put, List.getElem_toArray, List.getElem_cons_zero, List.getElem_cons_succ, List.setIfInBounds_toArray, List.set_cons_zero, List.set_cons_succ]
            refine reg_take 15 (v := ?_) rfl (by kernel_rfl) (by kernel_rfl) (by kernel_rfl) (fun _ _ _ h => h) (by kernel_rfl) ?_ ?_
            rotate_left
            · (intro w' hS; go_simp; (try go_bits); (try with_reducible rfl))
            try simp only [Act.put, List.getElem_toArray, List.getElem_cons_zero, List.getElem_cons_succ, List.setIfInBounds_toArray, List.set_cons_zero, List.set_cons_succ]
            refine reg_do 16 rfl (by kernel_rfl) (by kernel_rfl) ?_
            intro K hK
            go_simp
            refine hK _ _ (Chg.setCell (S := fun k => k = adr n1) (Chg.refl _ w5.drew) (p := ⟨adr n1, 2, none⟩) (.inr rfl) _) ?_
            clear hK K
            try simp only [Act.put, List.getElem_toArray, List.getElem_cons_zero, List.getElem_cons_succ, List.setIfInBounds_toArray, List.set_cons_zero, List.set_cons_succ]
            refine reg_take 17 (v := ?_) rfl (by kernel_rfl) (by kernel_rfl) (by kernel_rfl) (fun _ _ _ h => h) (by kernel_rfl) ?_ ?_
            rotate_left
            · (intro w' hS; go_simp; (try go_bits); (try with_reducible rfl))
            try simp only [Act.put, List.getElem_toArray, List.getElem_cons_zero, List.getElem_cons_succ, List.setIfInBounds_toArray, List.set_cons_zero, List.set_cons_succ]
            refine reg_take 18 (v := ?_) rfl (by kernel_rfl) (by kernel_rfl) (by kernel_rfl) (fun _ _ _ h => h) (by kernel_rfl) ?_ ?_
            rotate_left
            · (intro w' hS; go_simp; (try go_bits); (try with_reducible rfl))
            try simp only [Act.put, List.getElem_toArray, List.getElem_cons_zero, List.getElem_cons_succ, List.setIfInBounds_toArray, List.set_cons_zero, List.set_cons_succ]
            refine reg_do 19 rfl (by kernel_rfl) (by kernel_rfl) ?_
            intro K hK
            go_simp
            refine hK _ _ (Chg.drew (Chg.of_drew (Chg.setCell (S := fun k => k = adr n1) (Chg.refl _ (w5.setCell ⟨adr n1, 2, none⟩ (.int .i64 (now + x.wait)))) (p := ⟨adr n1, 3, none⟩) (.inr rfl) _))) ?_
            clear hK K
            try simp only [Act.put, List.getElem_toArray, List.getElem_cons_zero, List.getElem_cons_succ, List.setIfInBounds_toArray, List.set_cons_zero, List.set_cons_succ]
            refine wpAnyH_done (by kernel_rfl) ?_ _
            have ht := HT.out
            rw [HN.out, HF2.out, ← HL.out] at ht
            have hnn := HN.out
            go_wp2
            go_roundw
            case rel =>
              refine ⟨j + 1, vs ++ [.slice A4 n q4], by omega, by go_num, ?_, ht.1.pure (Chg.refl _ _).drew, ?_⟩
              · rw [HOU.out]
                exact (HV5.out.keep ht.2 (fun k h1 _ e => by omega)).keep (Chg.refl Pure' _).drew (fun k _ _ h => h)
              · exact ((hc.trans kk (fun i hi h => absurd h (by omega))).trans ht.2 (fun i hi e => ⟨j, hlt, by rw [hnn]; exact e⟩)).drew
            case measure => simp [intOf]; omega
          · intro K hK
            go_simp
            refine hK _ _ (Chg.refl _ _) ?_
            clear hK K
            try simp only [Act.put, List.getElem_toArray, List.getElem_cons_zero, List.getElem_cons_succ, List.setIfInBounds_toArray, List.set_cons_zero, List.set_cons_succ]
            refine reg_take 12 (v := ?_) rfl (by kernel_rfl) (by kernel_rfl) (by kernel_rfl) (fun _ _ _ h => h) (by kernel_rfl) ?_ ?_
            rotate_left
            · (intro w' hS; go_simp; (try go_bits); (try with_reducible rfl))
            try simp only [Act.put, List.getElem_toArray, List.getElem_cons_zero, List.getElem_cons_succ, List.setIfInBounds_toArray, List.set_cons_zero, List.set_cons_succ]
            refine reg_take 13 (v := ?_) rfl (by kernel_rfl) (by kernel_rfl) (by kernel_rfl) (fun _ _ _ h => h) (by kernel_rfl) ?_ ?_
            rotate_left
            · (intro w' hS; go_simp; (try go_bits); (try with_reducible rfl))
            try simp only [Act.put, List.getElem_toArray, List.getElem_cons_zero, List.getElem_cons_succ, List.setIfInBounds_toArray, List.set_cons_zero, List.set_cons_succ]
            refine reg_do 6 rfl (by kernel_rfl) (by kernel_rfl) ?_
            intro K hK
            go_simp
            refine hK _ _ (Chg.refl _ _) ?_
            clear hK K
            try simp only [Act.put, List.getElem_toArray, List.getElem_cons_zero, List.getElem_cons_succ, List.setIfInBounds_toArray, List.set_cons_zero, List.set_cons_succ]
            refine reg_take 7 (v := ?_) rfl (by kernel_rfl) (by kernel_rfl) (by kernel_rfl) (fun _ _ _ h => h) (by kernel_rfl) ?_ ?_
            rotate_left
            · (intro w' hS; go_simp; (try go_bits); (try with_reducible rfl))
            try simp only [Act.put, List.getElem_toArray, List.getElem_cons_zero, List.getElem_cons_succ, List.setIfInBounds_toArray, List.set_cons_zero, List.set_cons_succ]
            refine reg_take 14 (v := ?_) rfl (by kernel_rfl) (by kernel_rfl) (by kernel_rfl) (fun _ _ _ h => h) (by kernel_rfl) ?_ ?_
            rotate_left
            · (intro w' hS; go_simp; (try go_bits); (try with_reducible rfl))
            try simp only [Act.put, List.getElem_toArray, List.getElem_cons_zero, List.getElem_cons_succ, List.setIfInBounds_toArray, List.set_cons_zero, List.set_cons_succ]
            refine reg_take 15 (v := ?_) rfl (by kernel_rfl) (by kernel_rfl) (by kernel_rfl) (fun _ _ _ h => h) (by kernel_rfl) ?_ ?_
            rotate_left
            · (intro w' hS; go_simp; (try go_bits); (try with_reducible rfl))
            try simp only [Act.put, List.getElem_toArray, List.getElem_cons_zero, List.getElem_cons_succ, List.setIfInBounds_toArray, List.set_cons_zero, List.set_cons_succ]
            refine reg_do 16 rfl (by kernel_rfl) (by kernel_rfl) ?_
            intro K hK
            go_simp
            refine hK _ _ (Chg.setCell (S := fun k => k = adr n1) (Chg.refl _ w5.drew) (p := ⟨adr n1, 2, none⟩) (.inr rfl) _) ?_
            clear hK K
            try simp only [Act.put, List.getElem_toArray, List.getElem_cons_zero, List.getElem_cons_succ, List.setIfInBounds_toArray, List.set_cons_zero, List.set_cons_succ]
            refine reg_take 17 (v := ?_) rfl (by kernel_rfl) (by kernel_rfl) (by kernel_rfl) (fun _ _ _ h => h) (by kernel_rfl) ?_ ?_
            rotate_left
            · (intro w' hS; go_simp; (try go_bits); (try with_reducible rfl))
            try simp only [Act.put, List.getElem_toArray, List.getElem_cons_zero, List.getElem_cons_succ, List.setIfInBounds_toArray, List.set_cons_zero, List.set_cons_succ]
            refine reg_take 18 (v := ?_) rfl (by kernel_rfl) (by kernel_rfl) (by kernel_rfl) (fun _ _ _ h => h) (by kernel_rfl) ?_ ?_
            rotate_left
            · (intro w' hS; go_simp; (try go_bits); (try with_reducible rfl))
            try simp only [Act.put, List.getElem_toArray, List.getElem_cons_zero, List.getElem_cons_succ, List.setIfInBounds_toArray, List.set_cons_zero, List.set_cons_succ]
            refine reg_do 19 rfl (by kernel_rfl) (by kernel_rfl) ?_
            intro K hK
            go_simp
            refine hK _ _ (Chg.drew (Chg.of_drew (Chg.setCell (S := fun k => k = adr n1) (Chg.refl _ (w5.setCell ⟨adr n1, 2, none⟩ (.int .i64 (now + x.wait)))) (p := ⟨adr n1, 3, none⟩) (.inr rfl) _))) ?_
            clear hK K
            try simp only [Act.put, List.getElem_toArray, List.getElem_cons_zero, List.getElem_cons_succ, List.setIfInBounds_toArray, List.set_cons_zero, List.set_cons_succ]
            refine wpAnyH_done (by kernel_rfl) ?_ _
            have ht := HT.out
            rw [HN.out, HF2.out, ← HL.out] at ht
            have hnn := HN.out
            go_wp2
            go_roundw
            case rel =>
              refine ⟨j + 1, vs ++ [.slice A4 n q4], by omega, by go_num, ?_, ht.1.pure (Chg.refl _ _).drew, ?_⟩
              · rw [HOU.out]
                exact (HV5.out.keep ht.2 (fun k h1 _ e => by omega)).keep (Chg.refl Pure' _).drew (fun k _ _ h => h)
              · exact ((hc.trans kk (fun i hi h => absurd h (by omega))).trans ht.2 (fun i hi e => ⟨j, hlt, by rw [hnn]; exact e⟩)).drew
            case measure => simp [intOf]; omega
      · obtain rfl : j = Ls.length := by omega
        have hfin : firstN (dueLd now) Ls.length Ls = Ls.map (dueLd now) := by simp [firstN]
        rw [hfin] at hS
        rw [List.take_length] at hV
        clear hfin hS2
        have HC := Lib.hid hc
        generalize base + Ls.length = n1 at *
        go_wp2
        go_ret
        exact ⟨_, vs, rfl, hV.out, HC.out, hS.out⟩
  · have HW := Lib.hid (fun w => when_any now w false (decide_eq_false hwhen))
    have hR : dueOf now base Ls = ([], Ls) := by unfold dueOf; rw [if_neg hwhen]
    rw [hR]
    have H := Lib.hid h
    clear h hR
    go_enter Try.func60, Try.ntmps60
    go_wp2_with (fail)
    refine HO.out.mono ?_
    rintro e w' ⟨rfl, rfl⟩
    go_wp2_with (fail)
    refine (HW.out _).mono ?_
    rintro e w' ⟨rfl, rfl⟩
    go_wp2
    go_ret
    exact ⟨_, [], rfl, MsgsAt.nil _ _, Chg.refl _ _, H.out⟩
end Go.Proofs.Ytnpkpfcljkekfaa
namespace Go.Proofs.Ytnpkpfcljkekfaa
open Go Go.RowKit
set_option linter.unusedVariables false
set_option maxRecDepth 100000
set_option linter.unusedSimpArgs false

/-- A sender made since w0; nothing that was there in w0 has turned. -/
def OwnS (w0 w : World) (p b W base lim : Nat) (Ls : List Ld) (cnt : Nat) : Prop :=
  ∃ adr D, SendAt w p b adr D W base lim Ls cnt ∧ (∀ k, Foot p b adr D base Ls.length k → w0.heap.size ≤ k) ∧ Chg Pure' w0 w
theorem Foot.drop {p b : Nat} {adr : Nat → Nat} {D : Nat → Prop} {base n k : Nat} {i : Nat} (h : Foot p b adr D (base + k) (n - k) i) : Foot p b adr D base n i := by
  rcases h with h | h | ⟨j, hj, h⟩ | h
  · exact .inl h
  · exact .inr (.inl h)
  · exact .inr (.inr (.inl ⟨k + j, by omega, by rw [h, Nat.add_assoc]⟩))
  · exact .inr (.inr (.inr h))
theorem OwnS.pure {w0 w w' : World} {p b W base lim : Nat} {Ls : List Ld} {cnt : Nat} (h : OwnS w0 w p b W base lim Ls cnt) (hc : Chg Pure' w w') : OwnS w0 w' p b W base lim Ls cnt := by
  obtain ⟨adr, D, h1, h2, h3⟩ := h
  exact ⟨adr, D, h1.pure hc, h2, h3.pure hc⟩
theorem own_new (W : Nat) (w : World) (h1 : 1 ≤ W) (h2 : W ≤ 32) :
    Calls Try.prog 48 #[.int .i64 W] w fun e w' => e = .returned (.tuple #[.pointer (some ⟨w.heap.size + 1, 0, none⟩), .int .i64 0]) ∧ OwnS w w' (w.heap.size + 1) w.heap.size W 1 0 [] 0 := by
  refine (snew_ok W w h1 h2).mono ?_
  rintro e w' ⟨rfl, hc, hs⟩
  refine ⟨rfl, _, _, hs, ?_, hc⟩
  rintro k (rfl | rfl | ⟨i, hi, _⟩ | h)
  · omega
  · exact Nat.le_refl _
  · simp at hi
  · exact h.elim
theorem own_push {w0 w : World} {p b W base lim : Nat} {Ls : List Ld} {cnt : Nat} (h : OwnS w0 w p b W base lim Ls cnt) (A : Option Addr) (n c : Nat) (xs : List UInt8) (now : Int) (hA : Bytes w A n xs) (hn : n ≤ 140737488351232) (hcnt : cnt ≤ 4611686018427387904) :
    Calls Try.prog 59 #[.pointer (some ⟨p, 0, none⟩), .slice A n c, .int .i64 now] w fun e w' =>
      e = .returned (.tuple #[.int .i64 (pushOf W base lim Ls xs now).1.1, .int .i64 (pushOf W base lim Ls xs now).1.2]) ∧ OwnS w0 w' p b W base lim (pushOf W base lim Ls xs now).2 (cnt + 1) := by
  obtain ⟨adr, D, h1, h2, h3⟩ := h
  refine (spush_any h1 A n c xs now hA hn hcnt).mono ?_
  rintro e w' ⟨he, hc, adr', D', g1, g2⟩
  have hs := h3.size
  exact ⟨he, adr', D', g1, fun k hk => (g2 k hk).elim (fun h => h2 k h) (fun h => by omega), h3.trans hc (fun i hi e => by
    have := h2 i (e.elim (fun e => .inl e) (fun e => .inr (.inl e)))
    omega)⟩
theorem own_due {w0 w : World} {p b W base lim : Nat} {Ls : List Ld} {cnt : Nat} (h : OwnS w0 w p b W base lim Ls cnt) (now : Int) :
    Calls Try.prog 60 #[.pointer (some ⟨p, 0, none⟩), .int .i64 now] w fun e w' => ∃ v vs, e = .returned v ∧ MsgsAt w' w.heap.size v (dueOf now base Ls).1 vs ∧ OwnS w0 w' p b W base lim (dueOf now base Ls).2 cnt ∧ Chg (fun k => w0.heap.size ≤ k) w w' := by
  obtain ⟨adr, D, h1, h2, h3⟩ := h
  refine (sdue_any h1 now).mono ?_
  rintro e w' ⟨v, vs, he, hm, hc, hs⟩
  have hl : (dueOf now base Ls).2.length = Ls.length := by unfold dueOf; split <;> simp
  exact ⟨v, vs, he, hm, ⟨adr, D, hs, by rw [hl]; exact h2, h3.trans hc (fun i hi e => by have := h2 i (Lds.foot e); omega)⟩, hc.mono (fun i _ e => h2 i (Lds.foot e))⟩
theorem own_ack {w0 w : World} {p b W base lim : Nat} {Ls : List Ld} {cnt : Nat} (h : OwnS w0 w p b W base lim Ls cnt) (ack : Int) (m : UInt64) (credit : Int) :
    Calls Try.prog 49 #[.pointer (some ⟨p, 0, none⟩), .int .i64 ack, .int .u64 (m.toNat : Int), .int .i64 credit] w fun e w' => e = .returned (.int .i64 (ackOf base lim Ls ack m credit).1) ∧
      OwnS w0 w' p b W (ackOf base lim Ls ack m credit).2.1 (ackOf base lim Ls ack m credit).2.2.1 (ackOf base lim Ls ack m credit).2.2.2 cnt := by
  obtain ⟨adr, D, h1, h2, h3⟩ := h
  refine (sack_any h1 ack m credit).mono ?_
  rintro e w' ⟨he, hc, hs⟩
  refine ⟨he, adr, D, hs, fun k hk => h2 k ?_, h3.trans hc (fun i hi e => by have := h2 i e; omega)⟩
  unfold ackOf at hk
  split at hk
  · exact Foot.drop (by simpa using hk)
  · exact hk
theorem own_res {w0 w : World} {p b W base lim : Nat} {Ls : List Ld} {cnt : Nat} (h : OwnS w0 w p b W base lim Ls cnt) (ack credit now : Int) :
    Calls Try.prog 83 #[.pointer (some ⟨p, 0, none⟩), .int .i64 ack, .int .i64 credit, .int .i64 now] w fun e w' => e = .returned (.int .i64 (resOf base lim Ls ack credit now).1) ∧
      OwnS w0 w' p b W (resOf base lim Ls ack credit now).2.1 (resOf base lim Ls ack credit now).2.2.1 (resOf base lim Ls ack credit now).2.2.2 cnt := by
  obtain ⟨adr, D, h1, h2, h3⟩ := h
  refine (sres_any h1 ack credit now).mono ?_
  rintro e w' ⟨he, hc, hs⟩
  refine ⟨he, adr, D, hs, fun k hk => h2 k ?_, h3.trans hc (fun i hi e => by have := h2 i e; omega)⟩
  unfold resOf at hk
  split at hk
  · exact Foot.drop (by simpa using hk)
  · exact hk
end Go.Proofs.Ytnpkpfcljkekfaa
