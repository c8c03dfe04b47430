/- The laws of layer 20, in plain Lean: what a table's calls leave. -/
import Derived.Test.YtpfnphkgmjgmeaaSessK
namespace Go.Proofs.Ytpfnphkgmjgmeaa
open Go Go.RowKit
set_option linter.unusedVariables false
set_option linter.unusedSimpArgs false

/-- Tokens are met once, and all of them are used. -/
structure Good (T : Tb) : Prop where
  nd : (T.L.map (·.token)).Nodup
  us : ∀ x ∈ T.L, T.U (x.token.toNat : Int) = true
/-- What is there was there, with this epoch. -/
def Of (L' L : List Se) : Prop := ∀ y ∈ L', ∃ x ∈ L, x.token = y.token ∧ x.epoch = y.epoch
theorem Of.refl (L : List Se) : Of L L := fun y hy => ⟨y, hy, rfl, rfl⟩
theorem Of.trans {a b c : List Se} (h : Of a b) (k : Of b c) : Of a c := fun y hy => by
  obtain ⟨x, hx, e1, e2⟩ := h y hy
  obtain ⟨z, hz, e3, e4⟩ := k x hx
  exact ⟨z, hz, e3.trans e1, e4.trans e2⟩
theorem Of.sub {a b : List Se} (h : ∀ x ∈ a, x ∈ b) : Of a b := fun y hy => ⟨y, h y hy, rfl, rfl⟩
theorem nd_uniq {L : List Se} (h : (L.map (·.token)).Nodup) : ∀ {x y : Se}, x ∈ L → y ∈ L → x.token = y.token → x = y := by
  induction L with
  | nil => intro x y hx; simp at hx
  | cons z L ih =>
    intro x y hx hy e
    rw [List.map_cons, List.nodup_cons] at h
    rcases List.mem_cons.1 hx with rfl | hx'
    · rcases List.mem_cons.1 hy with rfl | hy'
      · rfl
      · exact absurd (List.mem_map.2 ⟨y, hy', e.symm⟩) h.1
    · rcases List.mem_cons.1 hy with rfl | hy'
      · exact absurd (List.mem_map.2 ⟨x, hx', e⟩) h.1
      · exact ih h.2 hx' hy' e
theorem findOf_some {L : List Se} {tk : UInt64} (h : (findOf L tk).2.2 = true) : ∃ x ∈ L, x.token = tk ∧ findOf L tk = (x.epoch, x.format, true) := by
  unfold findOf at h ⊢
  cases hf : L.find? (fun x => x.token == tk) with
  | none => rw [hf] at h; simp at h
  | some x => exact ⟨x, List.mem_of_find?_eq_some hf, by have := List.find?_some hf; simpa using this, rfl⟩
theorem findOf_mem {L : List Se} (hn : (L.map (·.token)).Nodup) {x : Se} (hx : x ∈ L) : findOf L x.token = (x.epoch, x.format, true) := by
  unfold findOf
  cases hf : L.find? (fun y => y.token == x.token) with
  | none =>
    rw [List.find?_eq_none] at hf
    have := hf x hx
    simp at this
  | some y =>
    have h1 := List.mem_of_find?_eq_some hf
    have h2 : y.token = x.token := by have := List.find?_some hf; simpa using this
    rw [nd_uniq hn h1 hx h2]
theorem Of.find {L' L : List Se} (h : Of L' L) (hn : (L.map (·.token)).Nodup) {tk : UInt64} (hf : (findOf L' tk).2.2 = true) : (findOf L tk).2.2 = true ∧ (findOf L' tk).1 = (findOf L tk).1 := by
  obtain ⟨y, hy, rfl, e1⟩ := findOf_some hf
  obtain ⟨x, hx, e2, e3⟩ := h y hy
  have := findOf_mem hn hx
  rw [e2] at this
  rw [this, e1]
  exact ⟨rfl, e3.symm⟩
theorem tick_of_sub (T : Tb) (now : Int) : Of (tickT T now).L T.L := Of.sub (fun x hx => (List.mem_filter.1 hx).1)
theorem Good.tick {T : Tb} (h : Good T) (now : Int) : Good (tickT T now) :=
  ⟨List.Nodup.sublist (List.Sublist.map _ List.filter_sublist) h.nd, fun x hx => h.us x (List.mem_filter.1 hx).1⟩
theorem set_tokens (L : List Se) (i : Nat) (y : Se) (h : ∀ x, L[i]? = some x → x.token = y.token) : (L.set i y).map (·.token) = L.map (·.token) := by
  apply List.ext_getElem (by simp)
  intro j h1 h2
  simp only [List.getElem_map]
  by_cases hj : i = j
  · subst hj
    rw [List.getElem_set_self]
    exact (h _ (List.getElem?_eq_getElem (by simpa using h2))).symm
  · rw [List.getElem_set_ne hj]
theorem Good.set {T : Tb} (h : Good T) (i : Nat) (y : Se) (hy : ∀ x, T.L[i]? = some x → x.token = y.token) : Good { T with L := T.L.set i y } := by
  refine ⟨by simp only [set_tokens T.L i y hy]; exact h.nd, fun x hx => ?_⟩
  by_cases hi : i < T.L.length
  · rcases List.mem_or_eq_of_mem_set hx with hx | rfl
    · exact h.us x hx
    · have := hy _ (List.getElem?_eq_getElem hi)
      rw [← this]
      exact h.us _ (List.getElem_mem hi)
  · simp only [List.set_eq_of_length_le (Nat.le_of_not_lt hi)] at hx
    exact h.us x hx
theorem Good.begun {T : Tb} (h : Good T) (d : UInt64) (hd : T.U (d.toNat : Int) = false) : Good (beginT T d) := by
  refine ⟨?_, fun x hx => ?_⟩
  · simp only [beginT, List.map_append, List.map_cons, List.map_nil]
    rw [List.nodup_append]
    refine ⟨h.nd, by simp, fun a ha b hb e => ?_⟩
    simp at hb
    subst hb
    obtain ⟨x, hx, rfl⟩ := List.mem_map.1 ha
    have := h.us x hx
    rw [e, hd] at this
    cases this
  · simp only [beginT] at hx ⊢
    rcases List.mem_append.1 hx with hx | hx
    · rw [h.us x hx]; rfl
    · simp at hx; subst hx; simp
theorem place_get {L : List Se} {tk : UInt64} (h : place L tk ≠ -1) : ∃ i : Nat, ∃ hi : i < L.length, place L tk = i ∧ (L[i]).token = tk ∧ ∀ z, L.getD (place L tk).toNat z = L[i] := by
  rcases place_ge L tk with hp | ⟨i, hi, hp, h1, -⟩
  · exact absurd hp h
  · exact ⟨i, hi, hp, h1, fun z => by rw [hp, Int.toNat_natCast, List.getD_eq_getElem?_getD, List.getElem?_eq_getElem hi]; rfl⟩
theorem Good.hello {T : Tb} (h : Good T) (m : Mg) (d : UInt64) (now : Int) : Good (helloOf T m d now).2 := by
  have ht := h.tick now
  unfold helloOf
  split
  · exact ht
  · split
    · split
      · exact ht
      · rename_i hb
        have hb : beginE (tickT T now) d = 0 := by omega
        have hU : (tickT T now).U (d.toNat : Int) = false := by
          unfold beginE at hb
          split at hb
          · omega
          · split at hb
            · omega
            · rename_i hu; simpa using hu
        refine (ht.begun d hU).set _ _ fun x hx => ?_
        simp only [beginT] at hx
        rw [List.getElem?_append_right (Nat.le_refl _)] at hx
        simp at hx
        rw [← hx]
    · split
      · exact ht
      · rename_i hp
        obtain ⟨i, hi, e1, e2, e3⟩ := place_get hp
        refine ht.set _ _ fun x hx => ?_
        rw [e1, Int.toNat_natCast, List.getElem?_eq_getElem hi] at hx
        rw [← Option.some.inj hx]
        exact e2
theorem Good.close {T : Tb} (h : Good T) (tk : UInt64) (now : Int) : Good (closeOf T tk now).2 := by
  have ht := h.tick now
  unfold closeOf
  split
  · exact ht
  · exact ⟨List.Nodup.sublist (List.Sublist.map _ (List.eraseIdx_sublist _ _)) ht.nd, fun x hx => ht.us x (List.mem_of_mem_eraseIdx hx)⟩
theorem close_sub (T : Tb) (tk : UInt64) (now : Int) : Of (closeOf T tk now).2.L T.L := by
  unfold closeOf
  split
  · exact tick_of_sub T now
  · exact Of.trans (Of.sub (fun x hx => List.mem_of_mem_eraseIdx hx)) (tick_of_sub T now)
theorem set_of (L : List Se) (i : Nat) (y : Se) (h : ∀ x, L[i]? = some x → x.token = y.token ∧ x.epoch = y.epoch) : Of (L.set i y) L := by
  intro x hx
  by_cases hi : i < L.length
  · rcases List.mem_or_eq_of_mem_set hx with hx | rfl
    · exact ⟨x, hx, rfl, rfl⟩
    · have := h _ (List.getElem?_eq_getElem hi)
      exact ⟨_, List.getElem_mem hi, this.1, this.2⟩
  · rw [List.set_eq_of_length_le (Nat.le_of_not_lt hi)] at hx
    exact ⟨x, hx, rfl, rfl⟩
theorem hear_sub (T : Tb) (m : Mg) (now : Int) : Of (hearOf T m now).2.L T.L := by
  have ht := tick_of_sub T now
  unfold hearOf
  split
  · exact ht
  · rename_i hp
    obtain ⟨i, hi, e1, e2, e3⟩ := place_get hp
    have hs : Of ((tickT T now).L.set (place (tickT T now).L m.token).toNat { (tickT T now).L.getD (place (tickT T now).L m.token).toNat ⟨0, 0, 0, 0⟩ with last := (tickT T now).now }) (tickT T now).L := by
      refine set_of _ _ _ fun x hx => ?_
      rw [e1, Int.toNat_natCast, List.getElem?_eq_getElem hi] at hx
      rw [e3, ← Option.some.inj hx]
      exact ⟨rfl, rfl⟩
    split
    · exact ht
    · split
      · exact ht
      · split
        · exact Of.trans (close_sub _ _ _) (Of.trans hs ht)
        · exact Of.trans hs ht
theorem Good.hear {T : Tb} (h : Good T) (m : Mg) (now : Int) : Good (hearOf T m now).2 := by
  have ht := h.tick now
  unfold hearOf
  split
  · exact ht
  · rename_i hp
    obtain ⟨i, hi, e1, e2, e3⟩ := place_get hp
    have hs : Good { tickT T now with L := (tickT T now).L.set (place (tickT T now).L m.token).toNat { (tickT T now).L.getD (place (tickT T now).L m.token).toNat ⟨0, 0, 0, 0⟩ with last := (tickT T now).now } } := by
      refine ht.set _ _ fun x hx => ?_
      rw [e1, Int.toNat_natCast, List.getElem?_eq_getElem hi] at hx
      rw [e3, ← Option.some.inj hx]
    split
    · exact ht
    · split
      · exact ht
      · split
        · exact hs.close _ _
        · exact hs
/-- What Hello says. -/
theorem hello_says {T : Tb} (h : Good T) (m : Mg) (d : UInt64) (now : Int) :
    ((helloOf T m d now).1.2 = 0 → (helloOf T m d now).1.1.kind = 4 ∧ (m.token ≠ 0 → (helloOf T m d now).1.1.epoch = (findOf T.L m.token).1 + 1) ∧ (m.token = 0 → (helloOf T m d now).1.1.epoch = 1)) ∧
    ((helloOf T m d now).1.2 ≠ 0 → (helloOf T m d now).1.1.kind = 5) := by
  unfold helloOf
  split
  · exact ⟨fun e => by simp at e, fun _ => rfl⟩
  · split
    · rename_i h0
      split
      · rename_i hb
        exact ⟨fun e => absurd e hb, fun _ => rfl⟩
      · exact ⟨fun _ => ⟨rfl, fun e => absurd h0 e, fun _ => rfl⟩, fun e => absurd rfl e⟩
    · rename_i h0
      split
      · exact ⟨fun e => by simp at e, fun _ => rfl⟩
      · rename_i hp
        obtain ⟨i, hi, e1, e2, e3⟩ := place_get hp
        refine ⟨fun _ => ⟨rfl, fun _ => ?_, fun e => absurd e h0⟩, fun e => absurd rfl e⟩
        have hm := List.getElem_mem hi
        have hf := findOf_mem (h.tick now).nd hm
        rw [e2] at hf
        have := (tick_of_sub T now).find h.nd (tk := m.token) (by rw [hf])
        rw [hf] at this
        simp only [e3]
        simp only [welcomeM]
        rw [← this.2]
theorem Good.new (m i : Nat) : Good (newT m i) := ⟨by simp [newT], fun x hx => by simp [newT] at hx⟩
theorem findOf_le {T : Tb} {cnt : Nat} (h : ∀ x ∈ T.L, 0 ≤ x.epoch ∧ x.epoch ≤ (cnt : Int) ∧ 0 ≤ x.last ∧ x.last ≤ 1099511627776) (tk : UInt64) : 0 ≤ (findOf T.L tk).1 ∧ (findOf T.L tk).1 ≤ (cnt : Int) := by
  cases hb : (findOf T.L tk).2.2 with
  | true =>
    obtain ⟨x, hx, -, e⟩ := findOf_some hb
    rw [e]
    have := h x hx
    exact ⟨this.1, this.2.1⟩
  | false =>
    have e : (findOf T.L tk).1 = 0 := by
      unfold findOf at hb ⊢
      cases hf : T.L.find? (fun x => x.token == tk) with
      | none => rfl
      | some x => rw [hf] at hb; simp at hb
    rw [e]; omega
end Go.Proofs.Ytpfnphkgmjgmeaa
