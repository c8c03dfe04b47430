/- Package recv: what a receiver in memory reads as, and the contracts of its methods. -/
import Derived.Test.YtnpkpfcljkekfaaProg
import Derived.Test.YtnpkpfcljkekfaaBase
import Derived.Test.YtnpkpfcljkekfaaSl
namespace Go.Proofs.Ytnpkpfcljkekfaa
open Go Go.RowKit
set_option linter.unusedVariables false
set_option maxRecDepth 100000
set_option linter.unusedSimpArgs false

/-- A place of a ring (two cells, from offset o of block p on): empty, or these bytes, in a block of F, not p. -/
def Place (w : World) (F : Nat → Prop) (p o : Nat) : Option (List UInt8) → Prop
  | none => w.cell? ⟨p, o, none⟩ = some (.bool false) ∧ w.cell? ⟨p, o + 1, none⟩ = some (.slice none 0 0)
  | some xs => w.cell? ⟨p, o, none⟩ = some (.bool true) ∧ ∃ A n c, w.cell? ⟨p, o + 1, none⟩ = some (.slice A n c) ∧ n ≤ c ∧ n ≤ 1200 ∧ Bytes w A n xs ∧ ∀ a, A = some a → F a.block ∧ a.block ≠ p

/-- A receiver: T loads were taken; of the next ones L[k] is number T + 1 + k. -/
structure RecvAt (w : World) (F : Nat → Prop) (p W T : Nat) (L : List (Option (List UInt8))) : Prop where
  own : F p
  lt : ∀ k, F k → k < w.heap.size
  blk : ∃ c, w.heap[p]? = some (.cells c 131 (0, 0)) ∧ c.size = 67
  w1 : 1 ≤ W
  w32 : W ≤ 32
  len : L.length = W
  cw : w.cell? ⟨p, 0, none⟩ = some (.int .i64 W)
  ct : w.cell? ⟨p, 1, none⟩ = some (.int .i64 T)
  ch : w.cell? ⟨p, 2, none⟩ = some (.int .i64 (L.countP (·.isSome) : Nat))
  ring : ∀ k, k < 32 → Place w F p (3 + (T + 1 + k) % 32 * 2) (L.getD k none)

theorem ok_any (F : Nat → Prop) (p W T : Nat) (L : List (Option (List UInt8))) (w : World) (h : RecvAt w F p W T L) :
    Calls Try.prog 84 #[.pointer (some ⟨p, 0, none⟩)] w fun e w' => e = .returned (.bool true) ∧ w = w' := by
  have h1 := h.cw
  have h2 : decide (0 < W) = true := by have := h.w1; simp; omega
  clear h
  go_enter Try.func84, Try.ntmps84
  go_wp2
  go_ret
  exact ⟨rfl, rfl⟩
theorem at_any (p s : Nat) (v : Int) (hv : v = (s : Int)) (w : World) :
    Calls Try.prog 87 #[.pointer (some ⟨p, 0, none⟩), .int .i64 v] w fun e w' => e = .returned (.pointer (some ⟨p, 3 + s % 32 * 2, none⟩)) ∧ w = w' := by
  subst hv
  have h0 : (0 : Int) ≤ (s : Int) % 32 := by omega
  have h1 : (s : Int) % 32 < 32 := by omega
  go_enter Try.func87, Try.ntmps87
  go_wp2
  go_ret
  exact ⟨rfl, rfl⟩

/-- How many of the first ones have come. -/
def lead : List (Option (List UInt8)) → Nat
  | some _ :: l => lead l + 1
  | _ => 0
theorem lead_is : ∀ (L : List (Option (List UInt8))) (k : Nat), k ≤ L.length → (∀ j, j < k → (L.getD j none).isSome = true) → (k < L.length → L.getD k none = none) → lead L = k
  | [], k, hk, _, _ => by simp at hk; subst hk; rfl
  | none :: L, k, hk, h, _ => by
    cases k with
    | zero => rfl
    | succ k => have := h 0 (by omega); simp at this
  | some x :: L, k, hk, h, hn => by
    cases k with
    | zero => have := hn (by simp); simp at this
    | succ k =>
      show lead L + 1 = k + 1
      rw [lead_is L k (by simp at hk; omega) (fun j hj => by have := h (j + 1) (by omega); simpa using this) (fun hh => by have := hn (by simp; omega); simpa using this)]
theorem lead_le : ∀ (L : List (Option (List UInt8))), lead L ≤ L.length
  | [] => Nat.le_refl _
  | none :: _ => Nat.zero_le _
  | some _ :: L => by have := lead_le L; simp [lead]; omega

theorem ready_any (F : Nat → Prop) (p W T : Nat) (L : List (Option (List UInt8))) (w : World) (h : RecvAt w F p W T L) (hT : T ≤ 4611686018427387904) :
    Calls Try.prog 86 #[.pointer (some ⟨p, 0, none⟩)] w fun e w' => e = .returned (.int .i64 (lead L : Nat)) ∧ w = w' := by
  have hcw := h.cw
  have hct := h.ct
  have h32 := h.w32
  have H := Lib.hid h
  clear h
  go_enter Try.func86, Try.ntmps86
  go_wp2_with (go_at_call 84; refine (ok_any F p W T L _ H.out).mono ?_; rintro e w' ⟨rfl, rfl⟩)
  go_loop [3] (fun i => ∃ k : Nat, k ≤ W ∧ i = .int .i64 k ∧ Hid (∀ j, j < k → (L.getD j none).isSome = true)) (fun i => W - (intOf i).toNat)
  case atStart => exact ⟨0, Nat.zero_le _, rfl, fun j hj => by omega⟩
  case round =>
    obtain ⟨k, hk, rfl, hall⟩ := hrel
    by_cases hlt : k < W
    · have hpl := H.out.ring k (by omega)
      have hsn : ∀ o, L.getD k none = o → (o.isSome = true → Hid (∀ j, j < k + 1 → (L.getD j none).isSome = true)) := fun o ho hs j hj => by
        by_cases hjk : j = k
        · subst hjk; rw [ho]; exact hs
        · exact hall.out j (by omega)
      cases hL : L.getD k none with
      | none =>
        rw [hL] at hpl
        have hb := hpl.1
        have hl : lead L = k := lead_is L k (by rw [H.out.len]; exact hk) hall.out (fun _ => hL)
        have HL := Lib.hid hl
        clear hpl hL hl hsn
        go_wp2_with (go_at_call 87; refine (at_any p (T + 1 + k) _ (by omega) _).mono ?_; rintro e w' ⟨rfl, rfl⟩)
        go_ret
        exact ⟨by rw [HL.out]; rfl, rfl⟩
      | some xs =>
        have hh := hsn _ hL rfl
        rw [hL] at hpl
        have hb := hpl.1
        clear hpl hL hsn
        go_wp2_with (go_at_call 87; refine (at_any p (T + 1 + k) _ (by omega) _).mono ?_; rintro e w' ⟨rfl, rfl⟩)
        go_round
        case rel => exact ⟨k + 1, by omega, by go_num, hh⟩
        case measure => simp [intOf]; omega
    · obtain rfl : k = W := by omega
      have hl : lead L = k := lead_is L k (by rw [H.out.len]; exact hk) hall.out (fun hh => by rw [H.out.len] at hh; omega)
      have HL := Lib.hid hl
      clear hl
      go_wp2
      go_ret
      exact ⟨by rw [HL.out]; rfl, rfl⟩

theorem held_any (F : Nat → Prop) (p W T : Nat) (L : List (Option (List UInt8))) (w : World) (h : RecvAt w F p W T L) :
    Calls Try.prog 58 #[.pointer (some ⟨p, 0, none⟩)] w fun e w' => e = .returned (.int .i64 (L.countP (·.isSome) : Nat)) ∧ w = w' := by
  have hct := h.ch
  have H := Lib.hid h
  clear h
  go_enter Try.func58, Try.ntmps58
  go_wp2_with (go_at_call 84; refine (ok_any F p W T L _ H.out).mono ?_; rintro e w' ⟨rfl, rfl⟩)
  go_ret
  exact ⟨rfl, rfl⟩

/-- What is F's, and what has come since. -/
def Ext (F : Nat → Prop) (w w' : World) : Nat → Prop := fun k => F k ∨ (w.heap.size ≤ k ∧ k < w'.heap.size)
theorem Place.keep {w w' : World} {F F' : Nat → Prop} {p o : Nat} {x : Option (List UInt8)} (h : Place w F p o x) (h0 : w'.cell? ⟨p, o, none⟩ = w.cell? ⟨p, o, none⟩) (h1 : w'.cell? ⟨p, o + 1, none⟩ = w.cell? ⟨p, o + 1, none⟩)
    (hc : Chg (fun k => k = p) w w') (hF : ∀ k, F k → F' k) : Place w' F' p o x := by
  cases x with
  | none => exact ⟨h0.trans h.1, h1.trans h.2⟩
  | some xs =>
    obtain ⟨a, A, n, c, b, hn, hm, hB, hA⟩ := h
    exact ⟨h0.trans a, A, n, c, h1.trans b, hn, hm, hB.chg hc (fun a ha => (hA a ha).2), fun a ha => ⟨hF _ (hA a ha).1, (hA a ha).2⟩⟩
theorem Place.frame {w w' : World} {F G : Nat → Prop} {p o : Nat} {x : Option (List UInt8)} (h : Place w F p o x) (hp : F p) (hc : Chg G w w') (hd : ∀ k, F k → ¬ G k) : Place w' F p o x := by
  cases x with
  | none => exact ⟨hc.cell h.1 (hd p hp), hc.cell h.2 (hd p hp)⟩
  | some xs =>
    obtain ⟨a, A, n, c, b, hn, hm, hB, hA⟩ := h
    exact ⟨hc.cell a (hd p hp), A, n, c, hc.cell b (hd p hp), hn, hm, hB.chg hc (fun a ha => hd _ (hA a ha).1), hA⟩
theorem RecvAt.frame {w w' : World} {F G : Nat → Prop} {p W T : Nat} {L : List (Option (List UInt8))} (h : RecvAt w F p W T L) (hc : Chg G w w') (hd : ∀ k, F k → ¬ G k) : RecvAt w' F p W T L := by
  obtain ⟨c, hb, hs⟩ := h.blk
  exact ⟨h.own, fun k hk => Nat.lt_of_lt_of_le (h.lt k hk) hc.size, ⟨c, (hc.block p (h.lt p h.own) (hd p h.own)).trans hb, hs⟩, h.w1, h.w32, h.len, hc.cell h.cw (hd p h.own), hc.cell h.ct (hd p h.own), hc.cell h.ch (hd p h.own), fun k hk => (h.ring k hk).frame h.own hc hd⟩
theorem RecvAt.mono {w : World} {F F' : Nat → Prop} {p W T : Nat} {L : List (Option (List UInt8))} (h : RecvAt w F p W T L) (hF : ∀ k, F k → F' k) (hl : ∀ k, F' k → k < w.heap.size) : RecvAt w F' p W T L :=
  ⟨hF p h.own, hl, h.blk, h.w1, h.w32, h.len, h.cw, h.ct, h.ch, fun k hk => (h.ring k hk).keep rfl rfl (Chg.refl _ w) hF⟩
theorem RecvAt.pure {w w' : World} {F : Nat → Prop} {p W T : Nat} {L : List (Option (List UInt8))} (h : RecvAt w F p W T L) (hc : Chg Pure' w w') : RecvAt w' F p W T L := h.frame hc (fun _ _ h => h)
theorem RecvAt.ext {w' : World} {F : Nat → Prop} {p W T : Nat} {L : List (Option (List UInt8))} (h : RecvAt w' F p W T L) (w0 : World) : RecvAt w' (Ext F w0 w') p W T L :=
  h.mono (fun _ h => .inl h) (fun k hk => hk.elim (h.lt k) (fun h => h.2))

/-- What Data answers, and what stands behind it. -/
def dataR (W T : Nat) (L : List (Option (List UInt8))) (s : Int) (xs : List UInt8) : Int × List (Option (List UInt8)) :=
  if s < 1 then (1, L) else if 1200 < xs.length then (8, L) else if s ≤ T then (17, L) else if (W : Int) < s - T then (13, L)
  else if (L.getD (s.toNat - T - 1) none).isSome then (17, L) else (0, L.set (s.toNat - T - 1) (some xs))

theorem cell_isSome_block {w : World} {p i : Nat} {c : Array Value} {T : TypeId} {fr : Nat × Nat} (h : w.heap[p]? = some (.cells c T fr)) (hi : i < c.size) : (w.cell? ⟨p, i, none⟩).isSome = true := by
  rw [cell_of_row w p i c T fr h]
  simp [hi]
theorem free_block {w : World} {p i : Nat} {c : Array Value} {T : TypeId} (h : w.heap[p]? = some (.cells c T (0, 0))) : w.frozen? ⟨p, i, none⟩ = false := by
  simp [World.frozen?, h]

theorem count_set : ∀ (L : List (Option (List UInt8))) (k : Nat) (xs : List UInt8), k < L.length → L.getD k none = none → (L.set k (some xs)).countP (·.isSome) = L.countP (·.isSome) + 1
  | [], k, _, h, _ => by simp at h
  | x :: L, 0, xs, _, hn => by
    have : x = none := by simpa using hn
    subst this
    simp
  | x :: L, k + 1, xs, h, hn => by
    have := count_set L k xs (by simp at h; omega) (by simpa using hn)
    simp only [List.set_cons_succ, List.countP_cons, this]
    omega
theorem mod32_inj {a j k : Nat} (hj : j < 32) (hk : k < 32) (h : (a + j) % 32 = (a + k) % 32) : j = k := by omega

theorem recv_stored {F : Nat → Prop} {p W T k n c : Nat} {L : List (Option (List UInt8))} {w w1 : World} {A : Option Addr} {xs : List UInt8} (h : RecvAt w F p W T L) (hk : k < W) (hL : L.getD k none = none)
    (hc : Chg Pure' w w1) (hB : Bytes w1 A n xs) (hle : n ≤ c) (hn : n ≤ 1200) (hA : ∀ a, A = some a → w.heap.size ≤ a.block ∧ a.block < w1.heap.size) :
    Chg (fun k => k = p) w (((w1.setCell ⟨p, 3 + (T + 1 + k) % 32 * 2, none⟩ (.bool true)).setCell ⟨p, 3 + (T + 1 + k) % 32 * 2 + 1, none⟩ (.slice A n c)).setCell ⟨p, 2, none⟩ (.int .i64 ((L.countP (·.isSome) : Nat) + 1))) ∧
    RecvAt (((w1.setCell ⟨p, 3 + (T + 1 + k) % 32 * 2, none⟩ (.bool true)).setCell ⟨p, 3 + (T + 1 + k) % 32 * 2 + 1, none⟩ (.slice A n c)).setCell ⟨p, 2, none⟩ (.int .i64 ((L.countP (·.isSome) : Nat) + 1)))
      (Ext F w (((w1.setCell ⟨p, 3 + (T + 1 + k) % 32 * 2, none⟩ (.bool true)).setCell ⟨p, 3 + (T + 1 + k) % 32 * 2 + 1, none⟩ (.slice A n c)).setCell ⟨p, 2, none⟩ (.int .i64 ((L.countP (·.isSome) : Nat) + 1)))) p W T (L.set k (some xs)) := by
  have h1 := h.pure hc
  have hp := h.lt p h.own
  have h32 := h.w32
  generalize ho : 3 + (T + 1 + k) % 32 * 2 = o
  generalize hH : (Value.int .i64 ((L.countP (·.isSome) : Nat) + 1)) = H
  obtain ⟨cs, hcs, hsz⟩ := h1.blk
  have x0 := h1.ring k (by omega)
  rw [hL, ho] at x0
  have c1 : Chg (fun k => k = p) w1 (w1.setCell ⟨p, o, none⟩ (.bool true)) := Chg.setCell (S := fun k => k = p) (Chg.refl _ w1) (p := ⟨p, o, none⟩) (.inr rfl) _
  have c2 := Chg.setCell (S := fun k => k = p) c1 (p := ⟨p, o + 1, none⟩) (.inr rfl) (.slice A n c)
  have c3 := Chg.setCell (S := fun k => k = p) c2 (p := ⟨p, 2, none⟩) (.inr rfl) H
  generalize hw3 : ((w1.setCell ⟨p, o, none⟩ (.bool true)).setCell ⟨p, o + 1, none⟩ (.slice A n c)).setCell ⟨p, 2, none⟩ H = w3 at c3
  have far : ∀ i, i ≠ o → i ≠ o + 1 → i ≠ 2 → w3.cell? ⟨p, i, none⟩ = w1.cell? ⟨p, i, none⟩ := fun i a b d => by
    rw [← hw3, set_far (by omega), set_far (by omega), set_far (by omega)]
  have at0 : w3.cell? ⟨p, o, none⟩ = some (.bool true) := by
    rw [← hw3, set_far (by omega), set_far (by omega), set_at x0.1]
  have at1 : w3.cell? ⟨p, o + 1, none⟩ = some (.slice A n c) := by
    rw [← hw3, set_far (by omega), set_at (u := .slice none 0 0) (by rw [set_far (by omega)]; exact x0.2)]
  have at2 : w3.cell? ⟨p, 2, none⟩ = some H := by
    rw [← hw3, set_at (u := .int .i64 (L.countP (·.isSome) : Nat)) (by rw [set_far (by omega), set_far (by omega)]; exact h1.ch)]
  have hb3 : ∃ cs, w3.heap[p]? = some (.cells cs 131 (0, 0)) ∧ cs.size = 67 := by
    rw [← hw3]
    exact ⟨_, heap_setCell_same _ p 2 _ _ _ (heap_setCell_same _ p (o + 1) _ _ _ (heap_setCell_same w1 p o cs _ _ hcs)), by simpa using hsz⟩
  have hB3 : Bytes w3 A n xs := hB.chg c3 (fun a ha e => by have := (hA a ha).1; omega)
  have hcc : Chg (fun k => k = p) w w3 := (hc.of_pure).trans' c3
  refine ⟨hcc, ?_⟩
  refine ⟨.inl h.own, fun i hi => hi.elim (fun f => Nat.lt_of_lt_of_le (h.lt i f) hcc.size) (fun f => f.2), hb3, h.w1, h.w32, by simpa using h.len, ?_, ?_, ?_, fun j hj => ?_⟩
  · rw [far 0 (by omega) (by omega) (by omega)]; exact h1.cw
  · rw [far 1 (by omega) (by omega) (by omega)]; exact h1.ct
  · rw [at2, ← hH, count_set L k xs (by rw [h.len]; exact hk) hL]; rfl
  · by_cases hjk : j = k
    · subst hjk
      rw [ho, List.getD_eq_getElem?_getD, List.getElem?_set_self (by rw [h.len]; exact hk)]
      exact ⟨at0, A, n, c, at1, hle, hn, hB3, fun a ha => ⟨.inr ⟨(hA a ha).1, Nat.lt_of_lt_of_le (hA a ha).2 c3.size⟩, fun e => by have := (hA a ha).1; omega⟩⟩
    · have hne : (T + 1 + j) % 32 ≠ (T + 1 + k) % 32 := fun e => hjk (mod32_inj hj (by omega) e)
      rw [List.getD_eq_getElem?_getD, List.getElem?_set_ne (by omega), ← List.getD_eq_getElem?_getD]
      exact (h1.ring j hj).keep (far _ (by omega) (by omega) (by omega)) (far _ (by omega) (by omega) (by omega)) c3 (fun _ f => .inl f)

set_option maxHeartbeats 1000000 in
theorem data_any (F : Nat → Prop) (p W T : Nat) (L : List (Option (List UInt8))) (s : Int) (A : Option Addr) (n c : Nat) (xs : List UInt8) (w : World) (h : RecvAt w F p W T L) (hT : T ≤ 4611686018427387904)
    (hs : -9223372036854775808 ≤ s ∧ s ≤ 9223372036854775807) (hA : Bytes w A n xs) (hn : n ≤ 140737488351232) :
    Calls Try.prog 81 #[.pointer (some ⟨p, 0, none⟩), .int .i64 s, .slice A n c] w fun e w' =>
      e = .returned (.int .i64 (dataR W T L s xs).1) ∧ Chg (fun k => k = p) w w' ∧ RecvAt w' (Ext F w w') p W T (dataR W T L s xs).2 := by
  have hcw := h.cw
  have hct := h.ct
  have h32 := h.w32
  have hln := hA.len
  have H := Lib.hid h
  clear h
  by_cases c1 : s < 1
  · have hR : dataR W T L s xs = (1, L) := by unfold dataR; rw [if_pos c1]
    rw [hR]; clear hR
    go_enter Try.func81, Try.ntmps81
    go_wp2_with (go_at_call 84; refine (ok_any F p W T L _ H.out).mono ?_; rintro e w' ⟨rfl, rfl⟩)
    go_ret
    exact ⟨rfl, Chg.refl _ _, H.out.ext _⟩
  by_cases c2 : 1200 < xs.length
  · have hR : dataR W T L s xs = (8, L) := by unfold dataR; rw [if_neg c1, if_pos c2]
    rw [hR]; clear hR
    have c2' : 1200 < (n : Int) := by omega
    clear hln
    go_enter Try.func81, Try.ntmps81
    go_wp2_with (go_at_call 84; refine (ok_any F p W T L _ H.out).mono ?_; rintro e w' ⟨rfl, rfl⟩)
    go_ret
    exact ⟨rfl, Chg.refl _ _, H.out.ext _⟩
  by_cases c3 : s ≤ T
  · have hR : dataR W T L s xs = (17, L) := by unfold dataR; rw [if_neg c1, if_neg c2, if_pos c3]
    rw [hR]; clear hR
    have c2' : (n : Int) ≤ 1200 := by omega
    clear hln c2
    go_enter Try.func81, Try.ntmps81
    go_wp2_with (go_at_call 84; refine (ok_any F p W T L _ H.out).mono ?_; rintro e w' ⟨rfl, rfl⟩)
    go_ret
    exact ⟨rfl, Chg.refl _ _, H.out.ext _⟩
  have e1 : IntKind.i64.wrap (s - (T : Int)) = s - (T : Int) := by rw [IntKind.wrap_i64]; omega
  by_cases c4 : (W : Int) < s - T
  · have hR : dataR W T L s xs = (13, L) := by unfold dataR; rw [if_neg c1, if_neg c2, if_neg c3, if_pos c4]
    rw [hR]; clear hR
    have c2' : (n : Int) ≤ 1200 := by omega
    clear hln c2
    go_enter Try.func81, Try.ntmps81
    go_wp2_with (go_at_call 84; refine (ok_any F p W T L _ H.out).mono ?_; rintro e w' ⟨rfl, rfl⟩)
    go_quiet (fail)
    go_wp2
    go_ret
    exact ⟨rfl, (Chg.refl _ _).drewN _, (H.out.pure ((Chg.refl _ _).drewN _)).ext _⟩
  obtain ⟨k, rfl⟩ : ∃ k : Nat, s = ((T + 1 + k : Nat) : Int) := ⟨(s - T - 1).toNat, by omega⟩
  have hk : k < W := by omega
  have hk32 : k < 32 := by omega
  have hR : dataR W T L ((T + 1 + k : Nat) : Int) xs = if (L.getD k none).isSome then (17, L) else (0, L.set k (some xs)) := by
    unfold dataR
    rw [if_neg c1, if_neg c2, if_neg c3, if_neg c4, show ((T + 1 + k : Nat) : Int).toNat - T - 1 = k from by omega]
  have hpl := H.out.ring k hk32
  have e2 : ((T + 1 + k : Nat) : Int) - (T : Int) = ((1 + k : Nat) : Int) := by omega
  have c3' : ¬ (((T + 1 + k : Nat) : Int) ≤ (T : Int)) := c3
  have c4' : ((1 + k : Nat) : Int) ≤ (W : Int) := by omega
  have c2' : (n : Int) ≤ 1200 := by omega
  generalize hs' : ((T + 1 + k : Nat) : Int) = s at hR c1 c3 c4 c3' hs e1 e2
  cases hL : L.getD k none with
  | some ys =>
    rw [hL] at hpl hR
    have hb := hpl.1
    rw [hR, Option.isSome_some, if_pos rfl]
    clear hR hpl hL hln c2
    have hs'' : s = ((T + 1 + k : Nat) : Int) := hs'.symm
    have HS := Lib.hid hs''
    clear hs' hs''
    go_enter Try.func81, Try.ntmps81
    go_wp2_with (go_at_call 84; refine (ok_any F p W T L _ H.out).mono ?_; rintro e w' ⟨rfl, rfl⟩)
    go_quiet (fail)
    go_wp2_with (go_at_call 87; refine (at_any p (T + 1 + k) _ HS.out _).mono ?_; rintro e w' ⟨rfl, rfl⟩)
    go_ret
    exact ⟨rfl, (Chg.refl _ _).drewN _, (H.out.pure ((Chg.refl _ _).drewN _)).ext _⟩
  | none =>
    rw [hL] at hpl hR
    have hb := hpl.1
    have hb1 := hpl.2
    rw [hR, if_neg (by simp)]
    have hs'' : s = ((T + 1 + k : Nat) : Int) := hs'.symm
    have HS := Lib.hid hs''
    have HLN := Lib.hid hln
    have HLK := Lib.hid hL
    clear hs' hs'' hln hR hpl hL c2
    go_enter Try.func81, Try.ntmps81
    go_wp2_with (go_at_call 84; refine (ok_any F p W T L _ H.out).mono ?_; rintro e w' ⟨rfl, rfl⟩)
    go_quiet (fail)
    go_wp2_with (first
      | (go_at_call 87; refine (at_any p (T + 1 + k) _ HS.out _).mono ?_; rintro e w' ⟨rfl, rfl⟩)
      | fail)
    have C1 : Chg Pure' w (w.drewN nq) := (Chg.refl _ w).drewN _
    refine (clone_own _ _ _ _ _ (hA.pure C1) (by omega)).mono ?_
    rintro e w1 ⟨v1, rfl, ho1, hc1⟩
    have hlt1 := ho1.lt
    obtain ⟨A', c', rfl, hle, hbb, -⟩ := Bytes.of_own ho1
    have hA' : ∀ a, A' = some a → w.heap.size ≤ a.block ∧ a.block < w1.heap.size := fun a ha => by subst ha; exact hlt1 a.block rfl
    have HA' := Lib.hid hA'
    clear hA' hlt1 ho1
    have C2 : Chg Pure' w w1 := C1.pure hc1
    have H1 := H.out.pure C2
    obtain ⟨cs, hcs, hsz⟩ := H1.blk
    have hcell0 := C2.cell hb (fun h => h)
    have hcell1 := C2.cell hb1 (fun h => h)
    have hcell2 := H1.ch
    have fr := fun i => free_block (i := i) hcs
    have fr0 := fr (3 + (T + 1 + k) % 32 * 2)
    have fr1 := fr (3 + (T + 1 + k) % 32 * 2 + 1)
    have fr2 := fr 2
    have hcb : ((L.countP (·.isSome) : Nat) : Int) ≤ 32 := by have := List.countP_le_length (p := fun x : Option (List UInt8) => x.isSome) (l := L); have := H1.len; omega
    clear fr hcs
    go_wp2
    go_ret
    obtain ⟨g1, g2⟩ := recv_stored H.out hk HLK.out C2 hbb hle (by omega) HA'.out
    exact ⟨rfl, g1, g2⟩

theorem recv_took {F : Nat → Prop} {p W T : Nat} {L : List (Option (List UInt8))} {xs : List UInt8} {w : World} (h : RecvAt w F p W T (some xs :: L)) :
    Chg (fun k => k = p) w ((((w.setCell ⟨p, 1, none⟩ (.int .i64 ((T : Int) + 1))).setCell ⟨p, 2, none⟩ (.int .i64 (((some xs :: L).countP (·.isSome) : Nat) - 1))).setCell ⟨p, 3 + (T + 1) % 32 * 2, none⟩ (.bool false)).setCell ⟨p, 3 + (T + 1) % 32 * 2 + 1, none⟩ (.slice none 0 0)) ∧
    RecvAt ((((w.setCell ⟨p, 1, none⟩ (.int .i64 ((T : Int) + 1))).setCell ⟨p, 2, none⟩ (.int .i64 (((some xs :: L).countP (·.isSome) : Nat) - 1))).setCell ⟨p, 3 + (T + 1) % 32 * 2, none⟩ (.bool false)).setCell ⟨p, 3 + (T + 1) % 32 * 2 + 1, none⟩ (.slice none 0 0)) F p W (T + 1) (L ++ [none]) := by
  have h32 := h.w32
  have hlen := h.len
  have x0 := h.ring 0 (by omega)
  generalize ho : 3 + (T + 1) % 32 * 2 = o
  rw [Nat.add_zero, ho] at x0
  obtain ⟨x00, A, n, c, x01, -, -, hB, hA⟩ := x0
  obtain ⟨cs, hcs, hsz⟩ := h.blk
  have c1 : Chg (fun k => k = p) w (w.setCell ⟨p, 1, none⟩ (.int .i64 ((T : Int) + 1))) := Chg.setCell (S := fun k => k = p) (Chg.refl _ w) (p := ⟨p, 1, none⟩) (.inr rfl) _
  have c2 := Chg.setCell (S := fun k => k = p) c1 (p := ⟨p, 2, none⟩) (.inr rfl) (.int .i64 (((some xs :: L).countP (·.isSome) : Nat) - 1))
  have c3 := Chg.setCell (S := fun k => k = p) c2 (p := ⟨p, o, none⟩) (.inr rfl) (.bool false)
  have c4 := Chg.setCell (S := fun k => k = p) c3 (p := ⟨p, o + 1, none⟩) (.inr rfl) (.slice none 0 0)
  generalize hw4 : (((w.setCell ⟨p, 1, none⟩ (.int .i64 ((T : Int) + 1))).setCell ⟨p, 2, none⟩ (.int .i64 (((some xs :: L).countP (·.isSome) : Nat) - 1))).setCell ⟨p, o, none⟩ (.bool false)).setCell ⟨p, o + 1, none⟩ (.slice none 0 0) = w4 at c4
  have far : ∀ i, i ≠ o → i ≠ o + 1 → i ≠ 2 → i ≠ 1 → w4.cell? ⟨p, i, none⟩ = w.cell? ⟨p, i, none⟩ := fun i a b d e => by
    rw [← hw4, set_far (by omega), set_far (by omega), set_far (by omega), set_far (by omega)]
  have at0 : w4.cell? ⟨p, o, none⟩ = some (.bool false) := by
    rw [← hw4, set_far (by omega), set_at (u := .bool true) (by rw [set_far (by omega), set_far (by omega)]; exact x00)]
  have at1 : w4.cell? ⟨p, o + 1, none⟩ = some (.slice none 0 0) := by
    rw [← hw4, set_at (u := .slice A n c) (by rw [set_far (by omega), set_far (by omega), set_far (by omega)]; exact x01)]
  have att : w4.cell? ⟨p, 1, none⟩ = some (.int .i64 ((T : Int) + 1)) := by
    rw [← hw4, set_far (by omega), set_far (by omega), set_far (by omega), set_at h.ct]
  have ath : w4.cell? ⟨p, 2, none⟩ = some (.int .i64 (((some xs :: L).countP (·.isSome) : Nat) - 1)) := by
    rw [← hw4, set_far (by omega), set_far (by omega), set_at (u := .int .i64 ((some xs :: L).countP (·.isSome) : Nat)) (by rw [set_far (by omega)]; exact h.ch)]
  have hb4 : ∃ cs, w4.heap[p]? = some (.cells cs 131 (0, 0)) ∧ cs.size = 67 := by
    rw [← hw4]
    exact ⟨_, heap_setCell_same _ p (o + 1) _ _ _ (heap_setCell_same _ p o _ _ _ (heap_setCell_same _ p 2 _ _ _ (heap_setCell_same w p 1 cs _ _ hcs))), by simpa using hsz⟩
  refine ⟨c4, ?_⟩
  simp only [List.length_cons] at hlen
  refine ⟨h.own, fun i hi => Nat.lt_of_lt_of_le (h.lt i hi) c4.size, hb4, h.w1, h.w32, by simp; omega, ?_, ?_, ?_, fun j hj => ?_⟩
  · rw [far 0 (by omega) (by omega) (by omega) (by omega)]; exact h.cw
  · rw [att]; rfl
  · rw [ath]
    congr 2
    simp [List.countP_append]
  · by_cases hj31 : j = 31
    · subst hj31
      have e : (T + 1 + 1 + 31) % 32 = (T + 1) % 32 := by omega
      have e2 : (L ++ [none]).getD 31 none = none := by
        rw [List.getD_eq_getElem?_getD, List.getElem?_append]
        split
        · omega
        · rcases Nat.eq_zero_or_pos (31 - L.length) with h0 | h0
          · rw [h0]; rfl
          · rw [List.getElem?_eq_none (by simp; omega)]; rfl
      rw [e, ho, e2]
      exact ⟨at0, at1⟩
    · have e : (T + 1 + 1 + j) % 32 = (T + 1 + (j + 1)) % 32 := by rw [show T + 1 + 1 + j = T + 1 + (j + 1) from by omega]
      have e2 : (L ++ [none]).getD j none = (some xs :: L).getD (j + 1) none := by
        rw [List.getD_eq_getElem?_getD, List.getD_eq_getElem?_getD, List.getElem?_cons_succ, List.getElem?_append]
        split
        · rfl
        · rename_i hge
          rw [List.getElem?_eq_none (show L.length ≤ j by omega)]
          rcases Nat.eq_zero_or_pos (j - L.length) with h0 | h0
          · rw [h0]; rfl
          · rw [List.getElem?_eq_none (by simp; omega)]
      have hne : (T + 1 + (j + 1)) % 32 ≠ (T + 1) % 32 := by omega
      rw [e, e2]
      exact (h.ring (j + 1) (by omega)).keep (far _ (by omega) (by omega) (by omega) (by omega)) (far _ (by omega) (by omega) (by omega) (by omega)) c4 (fun _ f => f)

theorem take_none (F : Nat → Prop) (p W T : Nat) (L : List (Option (List UInt8))) (w : World) (h : RecvAt w F p W T (none :: L)) (hT : T ≤ 4611686018427387904) :
    Calls Try.prog 65 #[.pointer (some ⟨p, 0, none⟩)] w fun e w' => e = .returned (.tuple #[.slice none 0 0, .bool false]) ∧ w = w' := by
  go_enter Try.func65, Try.ntmps65
  go_wp2_with (go_at_call 86; refine (ready_any F p W T _ _ h hT).mono ?_; rintro e w' ⟨rfl, rfl⟩; simp only [lead])
  go_ret2
  exact ⟨rfl, rfl⟩

set_option maxHeartbeats 1000000 in
theorem take_some (F : Nat → Prop) (p W T : Nat) (xs : List UInt8) (L : List (Option (List UInt8))) (w : World) (h : RecvAt w F p W T (some xs :: L)) (hT : T ≤ 4611686018427387904) :
    Calls Try.prog 65 #[.pointer (some ⟨p, 0, none⟩)] w fun e w' => ∃ A n c, e = .returned (.tuple #[.slice A n c, .bool true]) ∧ n ≤ c ∧ n ≤ 1200 ∧ Bytes w' A n xs ∧ (∀ a, A = some a → F a.block ∧ a.block ≠ p) ∧
      Chg (fun k => k = p) w w' ∧ RecvAt w' F p W (T + 1) (L ++ [none]) := by
  have h32 := h.w32
  have x0 := h.ring 0 (by omega)
  rw [Nat.add_zero] at x0
  obtain ⟨x00, A, n, c, x01, hle, hn, hB, hA⟩ := x0
  obtain ⟨cs, hcs, hsz⟩ := h.blk
  have hct := h.ct
  have hch := h.ch
  have fr := fun i => free_block (i := i) hcs
  have fr0 := fr (3 + (T + 1) % 32 * 2)
  have fr1 := fr (3 + (T + 1) % 32 * 2 + 1)
  have fr2 := fr 2
  have fr3 := fr 1
  have hcb : (((some xs :: L).countP (·.isSome) : Nat) : Int) ≤ 32 := by have := List.countP_le_length (p := fun x : Option (List UInt8) => x.isSome) (l := some xs :: L); have := h.len; omega
  have hl0 : (((lead (some xs :: L) : Nat) : Int) == 0) = false := by rw [beq_eq_false_iff_ne]; simp only [lead]; omega
  have hne1 : 3 + (T + 1) % 32 * 2 ≠ 1 := by omega
  have hne2 : 3 + (T + 1) % 32 * 2 ≠ 2 := by omega
  have HR := Lib.hid (recv_took h)
  have H := Lib.hid h
  have HA := Lib.hid hA
  clear h hA fr hcs
  generalize hcnt : (some xs :: L).countP (fun x => x.isSome) = cnt at hch hcb HR
  generalize hlead : lead (some xs :: L) = ld at hl0
  go_enter Try.func65, Try.ntmps65
  go_wp2_with (first
    | (go_at_call 86; refine (ready_any F p W T _ _ H.out hT).mono ?_; rintro e w' ⟨rfl, rfl⟩; simp only [hlead])
    | (go_at_call 87; refine (at_any p (T + 1) _ (by omega) _).mono ?_; rintro e w' ⟨rfl, rfl⟩))
  go_ret2
  obtain ⟨g1, g2⟩ := HR.out
  exact ⟨A, n, c, rfl, hle, hn, hB.chg g1 (fun a ha => (HA.out a ha).2), HA.out, g1, g2⟩

end Go.Proofs.Ytnpkpfcljkekfaa
