/- The laws of layer 17, going on: SendDone. -/
import Derived.Test.YtlkpnhfdcljbfaaL17P
namespace Go.Proofs.Ytlkpnhfdcljbfaa
open Go Go.RowKit
set_option linter.unusedVariables false
set_option linter.unusedSimpArgs false

theorem dueOut_hit (now : Int) : ∀ (n : Nat) (l : List Ld) (i : Nat) (h : i < (dueOut now n l).length), ∃ x, l[((dueOut now n l)[i]).1 - n]? = some x ∧ dueHit now x = true ∧ n ≤ ((dueOut now n l)[i]).1
  | n, [], i, h => by simp [dueOut] at h
  | n, x :: l, i, h => by
    cases hh : dueHit now x with
    | false =>
      have e : dueOut now n (x :: l) = dueOut now (n + 1) l := by simp only [dueOut, hh]; rfl
      simp only [e] at h ⊢
      obtain ⟨y, h1, h2, h3⟩ := dueOut_hit now (n + 1) l i h
      refine ⟨y, ?_, h2, by omega⟩
      rw [show ((dueOut now (n + 1) l)[i]).1 - n = (((dueOut now (n + 1) l)[i]).1 - (n + 1)) + 1 from by omega]
      simpa using h1
    | true =>
      have e : dueOut now n (x :: l) = (n, x.data) :: dueOut now (n + 1) l := by simp only [dueOut, hh]; rfl
      simp only [e] at h ⊢
      cases i with
      | zero => exact ⟨x, by simp, hh, Nat.le_refl _⟩
      | succ i =>
        have h' : i < (dueOut now (n + 1) l).length := by simpa using h
        obtain ⟨y, h1, h2, h3⟩ := dueOut_hit now (n + 1) l i h'
        simp only [List.getElem_cons_succ]
        refine ⟨y, ?_, h2, by omega⟩
        rw [show ((dueOut now (n + 1) l)[i]).1 - n = (((dueOut now (n + 1) l)[i]).1 - (n + 1)) + 1 from by omega]
        simpa using h1
theorem dueOut_all (now : Int) : ∀ (n : Nat) (l : List Ld), (∀ x ∈ l, dueHit now x = true) → (dueOut now n l).length = l.length
  | _, [], _ => rfl
  | n, x :: l, h => by
    simp only [dueOut, h x (by simp), if_true, List.length_cons]
    rw [dueOut_all now (n + 1) l (fun y hy => h y (by simp [hy]))]
/-- Loads that were pushed at 0 and are as they came. -/
def Fresh (Ls : List Ld) : Prop := ∀ x ∈ Ls, x.there = false ∧ x.time = 0 ∧ x.wait = 1
theorem ack_fresh (Ls : List Ld) (hf : Fresh Ls) (k : Nat) (m : UInt64) (hk : k ≤ Ls.length) : ∃ d Ls', ackOf 1 100 Ls k m 0 = (0, 1 + d, 100, Ls') ∧ d ≤ Ls.length ∧ Ls'.length = Ls.length - d ∧
    ∀ j x, Ls'[j]? = some x → x.there = hit k m ((1 + d + j : Nat) : Int) ∧ x.time = 0 := by
  have hl := doneN_le (Ls.mapIdx fun j x => ackLd k m ((1 + j : Nat) : Int) x)
  simp only [List.length_mapIdx] at hl
  refine ⟨doneN (Ls.mapIdx fun j x => ackLd k m ((1 + j : Nat) : Int) x), (Ls.mapIdx fun j x => ackLd k m ((1 + j : Nat) : Int) x).drop (doneN (Ls.mapIdx fun j x => ackLd k m ((1 + j : Nat) : Int) x)), ?_, hl, by simp, ?_⟩
  · unfold ackOf
    rw [if_pos (by omega)]
    rfl
  · generalize doneN (Ls.mapIdx fun j x => ackLd k m ((1 + j : Nat) : Int) x) = d
    intro j x hx
    rw [List.getElem?_drop] at hx
    simp only [List.getElem?_mapIdx, Option.map_eq_some_iff] at hx
    obtain ⟨y, hy, rfl⟩ := hx
    obtain ⟨f1, f2, f3⟩ := hf y (List.mem_of_getElem? hy)
    unfold ackLd
    rw [show 1 + (d + j) = 1 + d + j from by omega]
    split
    · rename_i h; rw [h]; exact ⟨rfl, f2⟩
    · rename_i h; rw [f1]; exact ⟨by simpa using h, f2⟩
theorem res_fresh (d : Nat) (Ls : List Ld) (hd : d ≤ 4611686018427387904) : ∃ Ls', resOf (1 + d) 100 Ls d 0 60 = (0, 1 + d, d + Ls.length, Ls') ∧ Ls'.length = Ls.length ∧ ∀ x ∈ Ls', dueHit 60 x = true := by
  have h0 : doneN (Ls.mapIdx fun j x => resLd (d : Int) 60 ((1 + d + j : Nat) : Int) x) = 0 := by
    cases Ls with
    | nil => rfl
    | cons x l =>
      simp only [List.mapIdx_cons, doneN, resLd]
      rw [if_neg]
      simp; omega
  refine ⟨Ls.mapIdx fun j x => resLd (d : Int) 60 ((1 + d + j : Nat) : Int) x, ?_, by simp, ?_⟩
  · unfold resOf
    rw [if_pos (by omega)]
    simp only [h0, List.drop_zero, Nat.add_zero]
    refine Prod.ext rfl (Prod.ext rfl (Prod.ext ?_ rfl))
    simp only
    omega
  · intro x hx
    obtain ⟨j, hj, rfl⟩ := List.mem_mapIdx.1 hx
    unfold dueHit resLd
    simp
    omega
theorem due_hits (now : Int) (base : Nat) (Ls : List Ld) (hn : 0 ≤ now ∧ now ≤ 1099511627776) : (dueOf now base Ls).1 = dueOut now base Ls ∧ (dueOf now base Ls).2.length = Ls.length := by
  unfold dueOf
  rw [if_pos hn]
  exact ⟨rfl, by simp⟩
theorem hit_not (k : Nat) (m : UInt64) (N : Nat) (h : hit k m N = false) : k < N ∧ ∀ q : Nat, N = k + 2 + q → q < 64 → bits .and .u64 ((m.toNat : Int) / 2 ^ q) 1 = 0 := by
  unfold hit at h
  rw [Bool.or_eq_false_iff] at h
  have h1 := of_decide_eq_false h.1
  refine ⟨by omega, fun q hq hq64 => ?_⟩
  have h2 := h.2
  have e : ((N : Nat) : Int) - (k : Nat) - 2 = (q : Nat) := by omega
  rw [e, decide_eq_true (by omega), decide_eq_true (by omega), Int.toNat_natCast] at h2
  simpa using h2
end Go.Proofs.Ytlkpnhfdcljbfaa
