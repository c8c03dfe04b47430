/- Package sess, going on: Tick. -/
import Derived.Test.YtpfnphkgmjgmeaaSessC
namespace Go.Proofs.Ytpfnphkgmjgmeaa
open Go Go.RowKit
set_option linter.unusedVariables false
set_option linter.unusedSimpArgs false

def tickNow (T : Tb) (now : Int) : Int := if now ≤ 1099511627776 then max T.now now else T.now
def tickT (T : Tb) (now : Int) : Tb := { T with now := tickNow T now, L := T.L.filter fun x => !overB (tickNow T now) T.idle x }
def tickE (T : Tb) (now : Int) : List UInt64 := (T.L.filter fun x => overB (tickNow T now) T.idle x).map (·.token)
theorem pairs_stays (bs : List Nat) (L : List Se) (h : bs.length = L.length) (now : Int) (idle : Nat) : ((pairs bs L).filter (stays now idle)).map (·.2) = L.filter fun x => !overB now idle x := by
  unfold pairs
  induction bs generalizing L with
  | nil => cases L with
    | nil => rfl
    | cons x L => simp at h
  | cons a bs ih =>
    cases L with
    | nil => simp at h
    | cons x L =>
      have := ih L (by simpa using h)
      rcases Bool.eq_false_or_eq_true (overB now idle x) with e | e
      · simp [List.filter_cons, stays, e] at this ⊢
        exact this
      · simp [List.filter_cons, stays, e] at this ⊢
        exact this
theorem pairs_goes (bs : List Nat) (L : List Se) (h : bs.length = L.length) (now : Int) (idle : Nat) : ((pairs bs L).filter (goes now idle)).map (fun z => z.2.token) = (L.filter fun x => overB now idle x).map (·.token) := by
  unfold pairs
  induction bs generalizing L with
  | nil => cases L with
    | nil => rfl
    | cons x L => simp at h
  | cons a bs ih =>
    cases L with
    | nil => simp at h
    | cons x L =>
      have := ih L (by simpa using h)
      rcases Bool.eq_false_or_eq_true (overB now idle x) with e | e
      · simp [List.filter_cons, goes, e] at this ⊢
        exact this
      · simp [List.filter_cons, goes, e] at this ⊢
        exact this
/-- The table behind the ticks. -/
theorem TabOf.ticked {w w2 w3 : World} {p ub : Nat} {bs : List Nat} {v v' : Value} {T : Tb} {cnt : Nat} (h : TabOf w p ub bs v T cnt) {S : Nat → Prop} (hc : Chg S w w2) (hS : ∀ k, TFoot p ub bs v k → v.ownBlock ≠ some k → ¬ S k)
    (hr : w2.ownsRow 0 66 1 v' ((pairs bs T.L).filter (stays T.now T.idle)).length (((pairs bs T.L).filter (stays T.now T.idle)).map fun z => ptr z.1)) (hv : ∀ k, v'.ownBlock = some k → v.ownBlock = some k) (e : w3 = w2.setCell ⟨p, 3, none⟩ v') :
    TabOf w3 p ub (((pairs bs T.L).filter (stays T.now T.idle)).map (·.1)) v' { T with L := T.L.filter fun x => !overB T.now T.idle x } cnt ∧ Chg (fun k => k = p) w2 w3 := by
  have c3 : Chg (fun k => k = p) w2 w3 := by rw [e]; exact Chg.setCell (S := fun k => k = p) (Chg.refl _ w2) (p := ⟨p, 3, none⟩) (.inr rfl) v'
  have hL : (T.L.filter fun x => !overB T.now T.idle x) = ((pairs bs T.L).filter (stays T.now T.idle)).map (·.2) := (pairs_stays bs T.L h.len T.now T.idle).symm
  have hp : ¬ S p := hS p (.inl rfl) h.vp
  obtain ⟨cs, b1, b2⟩ := h.blk
  have b3 := (hc.block p h.plt hp).trans b1
  have hsub : ∀ z ∈ (pairs bs T.L).filter (stays T.now T.idle), z.1 ∈ bs ∧ z.2 ∈ T.L := fun z hz => List.of_mem_zip (List.mem_filter.1 hz).1
  have hsl := List.Sublist.map (fun z : Nat × Se => z.1) (List.filter_sublist (p := stays T.now T.idle) (l := pairs bs T.L))
  have hfst : (pairs bs T.L).map (·.1) = bs := by unfold pairs; rw [List.map_fst_zip]; rw [h.len]; exact Nat.le_refl _
  refine ⟨⟨⟨_, by rw [e]; exact heap_setCell_same w2 p 3 _ _ _ b3, by simpa using b2⟩, ?_, ?_, ?_, ?_, ?_, ?_, ?_, ?_, ?_, ?_, ?_, h.pb, fun e => h.vp (hv _ e), fun e => h.vu (hv _ e), h.m1, h.m64, h.i1, h.i2, h.n0, ?_, ?_⟩, c3⟩
  · rw [e, set_far (by omega)]; exact hc.cell h.c0 hp
  · rw [e, set_far (by omega)]; exact hc.cell h.c1 hp
  · rw [e, set_far (by omega)]; exact hc.cell h.c2 hp
  · rw [e]; exact set_at (hc.cell h.c3 hp)
  · rw [e, set_far (by omega)]; exact hc.cell h.c4 hp
  · have := own_keep hr c3 (fun g hg e => h.vp (by rw [← e]; exact hv g hg))
    simp only [hL, List.length_map, List.map_map]
    exact this
  · exact (h.map.chg hc (hS ub (.inr (.inl rfl)) h.vu)).chg c3 (fun e => h.pb e.symm)
  · simp only [hL, List.length_map]
  · intro j h1 h2
    have hj : j < ((pairs bs T.L).filter (stays T.now T.idle)).length := by simpa using h1
    have hm := List.getElem_mem hj
    have hm1 := (List.mem_filter.1 hm).1
    obtain ⟨i, hi, he⟩ := List.mem_iff_getElem.1 hm1
    have hib : i < bs.length := by unfold pairs at hi; simp at hi; omega
    have hil : i < T.L.length := by rw [← h.len]; exact hib
    have e1 : (((pairs bs T.L).filter (stays T.now T.idle)).map (·.1))[j] = bs[i] := by
      rw [List.getElem_map, ← he]; simp [pairs]
    have e2 : ((({ T with L := T.L.filter fun x => !overB T.now T.idle x } : Tb)).L)[j] = T.L[i] := by
      simp only [hL]
      rw [List.getElem_map, ← he]; simp [pairs]
    rw [e1, e2]
    have hmem : bs[i] ∈ bs := List.getElem_mem hib
    exact ((h.ses i hib hil).frame hc (hS _ (.inr (.inr (.inl hmem))) (h.ap _ hmem).2.2)).frame c3 (fun e => (h.ap _ hmem).1 e)
  · exact List.Nodup.sublist (by rw [hfst] at hsl; exact hsl) h.inj
  · intro a ha
    obtain ⟨z, hz, rfl⟩ := List.mem_map.1 ha
    have := h.ap _ (hsub z hz).1
    exact ⟨this.1, this.2.1, fun e => this.2.2 (hv _ e)⟩
  · exact Nat.le_trans (List.length_filter_le _ _) h.lm
  · intro x hx
    exact h.ep x (List.mem_filter.1 hx).1
theorem TabOf.now {w w' : World} {p ub : Nat} {bs : List Nat} {v : Value} {T : Tb} {cnt : Nat} (h : TabOf w p ub bs v T cnt) (n : Int) (hn : 0 ≤ n ∧ n ≤ 1099511627776) (e : w' = w.setCell ⟨p, 2, none⟩ (.int .i64 n)) :
    TabOf w' p ub bs v { T with now := n } cnt ∧ Chg (fun k => k = p) w w' := by
  have c3 : Chg (fun k => k = p) w w' := by rw [e]; exact Chg.setCell (S := fun k => k = p) (Chg.refl _ w) (p := ⟨p, 2, none⟩) (.inr rfl) _
  obtain ⟨cs, b1, b2⟩ := h.blk
  refine ⟨⟨⟨_, by rw [e]; exact heap_setCell_same w p 2 _ _ _ b1, by simpa using b2⟩, ?_, ?_, ?_, ?_, ?_, own_keep h.row c3 (fun g hg e => h.vp (by rw [← e]; exact hg)), h.map.chg c3 (fun e => h.pb e.symm), h.len,
    fun j h1 h2 => (h.ses j h1 h2).frame c3 (fun e => (h.ap _ (List.getElem_mem h1)).1 e), h.inj, h.ap, h.pb, h.vp, h.vu, h.m1, h.m64, h.i1, h.i2, hn, h.lm, h.ep⟩, c3⟩
  · rw [e, set_far (by omega)]; exact h.c0
  · rw [e, set_far (by omega)]; exact h.c1
  · rw [e]; exact set_at h.c2
  · rw [e, set_far (by omega)]; exact h.c3
  · rw [e, set_far (by omega)]; exact h.c4
end Go.Proofs.Ytpfnphkgmjgmeaa
