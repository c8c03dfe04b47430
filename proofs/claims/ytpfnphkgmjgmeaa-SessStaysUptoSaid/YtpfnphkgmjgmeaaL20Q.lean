/- The laws of layer 20, in plain Lean: whoever is heard of stays. -/
import Derived.Test.YtpfnphkgmjgmeaaL20C
namespace Go.Proofs.Ytpfnphkgmjgmeaa
open Go Go.RowKit
set_option linter.unusedVariables false
set_option linter.unusedSimpArgs false

def tkS : UInt64 := 9223372036854775809
def hearS : Mg := ⟨0, tkS, 1, 0, 0, 0, 0, 0, none, 0, 0⟩
/-- The session is there, heard of at 'old'; nobody was heard of behind 'hi'. -/
structure Stay (T : Tb) (old hi : Int) : Prop where
  good : Good T
  x : ∃ x ∈ T.L, x.token = tkS ∧ x.epoch = 1 ∧ x.last = old
  all : ∀ x ∈ T.L, x.last ≤ hi
  now : T.now ≤ hi
  most : T.most = 64
theorem Stay.up {T : Tb} {old hi hi' : Int} (h : Stay T old hi) (hh : hi ≤ hi') : Stay T old hi' :=
  ⟨h.good, h.x, fun x hx => by have := h.all x hx; omega, by have := h.now; omega, h.most⟩
theorem Stay.tick {T : Tb} {old hi : Int} (h : Stay T old hi) (h1 : hi ≤ 1099511627776) (h2 : hi ≤ old + T.idle) : Stay (tickT T hi) old hi ∧ (tickT T hi).now = hi ∧ (tickT T hi).idle = T.idle := by
  have e : tickNow T hi = hi := by unfold tickNow; rw [if_pos h1]; have := h.now; omega
  refine ⟨⟨h.good.tick hi, ?_, fun x hx => h.all x (List.mem_filter.1 hx).1, by show tickNow T hi ≤ hi; rw [e]; exact Int.le_refl _, h.most⟩, e, rfl⟩
  obtain ⟨x, hx, x1, x2, x3⟩ := h.x
  refine ⟨x, List.mem_filter.2 ⟨hx, ?_⟩, x1, x2, x3⟩
  rw [e]
  unfold overB
  simp only [Bool.not_eq_true', decide_eq_false_iff_not]
  omega
theorem Stay.hello {T : Tb} {old hi : Int} (h : Stay T old hi) (h1 : hi ≤ 1099511627776) (h2 : hi ≤ old + T.idle) (o : UInt64) (ho : o ≠ tkS) : Stay (helloOf T (helloM 0) o hi).2 old hi ∧ (helloOf T (helloM 0) o hi).2.idle = T.idle := by
  have hg := h.good.hello (helloM 0) o hi
  have hm := (most_hello T (helloM 0) o hi).trans h.most
  obtain ⟨h3, h4, h5⟩ := h.tick h1 h2
  have e : helloOf T (helloM 0) o hi = if beginE (tickT T hi) o ≠ 0 then ((resetM 0, beginE (tickT T hi) o), tickT T hi) else ((welcomeM o 1 1, 0), { beginT (tickT T hi) o with L := (beginT (tickT T hi) o).L.set (tickT T hi).L.length ⟨o, 1, 1, (tickT T hi).now⟩ }) := by
    unfold helloOf
    rw [if_neg (by simp [helloM]), if_pos (show (helloM 0).token = 0 from rfl)]
    rfl
  rw [e] at hg hm ⊢
  split
  · exact ⟨h3, h5⟩
  · rename_i hb
    rw [if_neg hb] at hg hm
    have eL : (beginT (tickT T hi) o).L.set (tickT T hi).L.length ⟨o, 1, 1, (tickT T hi).now⟩ = (tickT T hi).L ++ [⟨o, 1, 1, (tickT T hi).now⟩] := by
      simp only [beginT]
      rw [List.set_append_right _ _ (Nat.le_refl _)]
      simp
    refine ⟨⟨hg, ?_, ?_, by show (tickT T hi).now ≤ hi; omega, hm⟩, h5⟩
    · obtain ⟨x, hx, x1, x2, x3⟩ := h3.x
      refine ⟨x, ?_, x1, x2, x3⟩
      show x ∈ (beginT (tickT T hi) o).L.set (tickT T hi).L.length ⟨o, 1, 1, (tickT T hi).now⟩
      rw [eL]
      exact List.mem_append_left _ hx
    · intro x hx
      have hx : x ∈ (beginT (tickT T hi) o).L.set (tickT T hi).L.length ⟨o, 1, 1, (tickT T hi).now⟩ := hx
      rw [eL] at hx
      rcases List.mem_append.1 hx with hx | hx
      · exact h3.all x hx
      · rw [List.mem_singleton.1 hx]
        show (tickT T hi).now ≤ hi
        omega
theorem Stay.hear {T : Tb} {old hi : Int} (h : Stay T old hi) (h1 : hi ≤ 1099511627776) (h2 : hi ≤ old + T.idle) : (hearOf T hearS hi).1 = 0 ∧ Stay (hearOf T hearS hi).2 hi hi ∧ (hearOf T hearS hi).2.idle = T.idle := by
  have hg := h.good.hear hearS hi
  have hm := (most_hear T hearS hi).trans h.most
  obtain ⟨h3, h4, h5⟩ := h.tick h1 h2
  obtain ⟨x, hx, x1, x2, x3⟩ := h3.x
  have hp : place (tickT T hi).L tkS ≠ -1 := place_mem hx x1
  obtain ⟨i, hi', e1, e2, e3⟩ := place_get hp
  have ex : (tickT T hi).L[i] = x := nd_uniq h3.good.nd (List.getElem_mem hi') hx (e2.trans x1.symm)
  have e : hearOf T hearS hi = (0, { tickT T hi with L := (tickT T hi).L.set (place (tickT T hi).L tkS).toNat { (tickT T hi).L.getD (place (tickT T hi).L tkS).toNat ⟨0, 0, 0, 0⟩ with last := (tickT T hi).now } }) := by
    unfold hearOf
    rw [show hearS.token = tkS from rfl, if_neg hp, e3, ex, x2, show hearS.epoch = 1 from rfl, if_neg (by omega), if_neg (by omega), if_neg (by simp [hearS])]
  rw [e] at hg hm ⊢
  refine ⟨rfl, ⟨hg, ?_, ?_, by show (tickT T hi).now ≤ hi; omega, hm⟩, h5⟩
  · refine ⟨{ (tickT T hi).L.getD (place (tickT T hi).L tkS).toNat ⟨0, 0, 0, 0⟩ with last := (tickT T hi).now }, List.mem_iff_getElem.2 ⟨i, by simpa using hi', ?_⟩, ?_, ?_, h4⟩
    · simp only [e1, Int.toNat_natCast, List.getElem_set_self]
    · show ((tickT T hi).L.getD (place (tickT T hi).L tkS).toNat ⟨0, 0, 0, 0⟩).token = tkS
      rw [e3, ex]; exact x1
    · show ((tickT T hi).L.getD (place (tickT T hi).L tkS).toNat ⟨0, 0, 0, 0⟩).epoch = 1
      rw [e3, ex]; exact x2
  · intro y hy
    rcases List.mem_or_eq_of_mem_set hy with hy | rfl
    · exact h3.all y hy
    · show (tickT T hi).now ≤ hi
      omega
theorem stay_new (id : Nat) : (helloOf (newT 64 id) (helloM 0) tkS 0).1.2 = 0 ∧ Stay (helloOf (newT 64 id) (helloM 0) tkS 0).2 0 0 ∧ (helloOf (newT 64 id) (helloM 0) tkS 0).2.idle = id := by
  have e : helloOf (newT 64 id) (helloM 0) tkS 0 = ((welcomeM tkS 1 1, 0), { beginT (tickT (newT 64 id) 0) tkS with L := [⟨tkS, 1, 1, 0⟩] }) := rfl
  have hg := (Good.new 64 id).hello (helloM 0) tkS 0
  rw [e] at hg ⊢
  refine ⟨rfl, ⟨hg, ⟨_, List.mem_singleton.2 rfl, rfl, rfl, rfl⟩, fun x hx => ?_, Int.le_refl _, rfl⟩, rfl⟩
  rw [List.mem_singleton.1 hx]
  exact Int.le_refl _
/-- It is there at last. -/
theorem Stay.there {T : Tb} {t : Int} (h : Stay T t t) (h1 : t + T.idle ≤ 1099511627776) (hi : 0 ≤ t) : (findOf (tickT T (t + T.idle)).L tkS).2.2 = true := by
  have h2 := (h.up (hi' := t + T.idle) (by omega)).tick h1 (by omega)
  obtain ⟨x, hx, x1, x2, x3⟩ := h2.1.x
  have := findOf_mem h2.1.good.nd hx
  rw [x1] at this
  rw [this]
/-- And all are gone. -/
theorem Stay.gone {T : Tb} {t : Int} (h : Stay T t t) (h1 : t + T.idle + 1 ≤ 1099511627776) : (tickT (tickT T (t + T.idle)) (t + T.idle + 1)).L = [] := by
  have e1 : tickNow (tickT T (t + T.idle)) (t + T.idle + 1) = t + T.idle + 1 := by
    have e0 : tickNow T (t + T.idle) ≤ t + T.idle := by
      unfold tickNow; rw [if_pos (by omega)]; have := h.now; omega
    unfold tickNow
    rw [if_pos h1]
    show max (tickNow T (t + T.idle)) (t + T.idle + 1) = _
    omega
  rw [List.eq_nil_iff_forall_not_mem]
  intro x hx
  obtain ⟨h3, h4⟩ := List.mem_filter.1 hx
  have h5 := h.all x (List.mem_filter.1 h3).1
  rw [e1] at h4
  unfold overB at h4
  simp only [Bool.not_eq_true', decide_eq_false_iff_not] at h4
  have : (tickT T (t + T.idle)).idle = T.idle := rfl
  rw [this] at h4
  omega
end Go.Proofs.Ytpfnphkgmjgmeaa
