/- A map whose keys are numbers, told by a function from numbers to what stands there. -/
import Derived.Test.YtnpkpfcljkekfaaProg
import Derived.Test.YtnpkpfcljkekfaaBase
import Derived.Maps.Own
import Derived.Maps.OwnOps
import Derived.Maps.OwnSet
import Derived.Maps.Views
namespace Go.Proofs.Ytnpkpfcljkekfaa
open Go Go.RowKit Go.Maps
set_option linter.unusedVariables false
set_option linter.unusedSimpArgs false

/-- An element, read as itself. -/
def asIs (v : Value) : Option (DataW Value × List MemPlace) := some (.held v, [])
/-- What stands there behind a store. -/
def setAt (m : Int → Option Value) (key : Int) (val : Value) : Int → Option Value := fun i => if i = key then some val else m i
theorem setAt_same (m : Int → Option Value) (key : Int) (val : Value) : setAt m key val key = some val := if_pos rfl
theorem setAt_other (m : Int → Option Value) (val : Value) {key i : Int} (h : i ≠ key) : setAt m key val i = m i := if_neg h
/-- Block b is a map with at most n entries, keyed by numbers of type K; m tells what stands there. -/
def MapAt (w : World) (K : TypeId) (b n : Nat) (m : Int → Option Value) : Prop :=
  ∃ D : DataW Value, w.ownsMap Try.prog K asIs b n D ∧ ∀ a : Int, match m a with | none => Maps.has D (.int .i64 a) = false | some v => Maps.has D (.int .i64 a) = true ∧ ∀ z, D.atKey (.int .i64 a) z = .held v
theorem MapAt.made (w : World) (K : TypeId) : MapAt (w.alloc (.map #[] 0)) K w.heap.size 0 (fun _ => none) :=
  ⟨_, World.ownsMap_made w _ K asIs, fun _ => rfl⟩
theorem MapAt.lt {w : World} {K : TypeId} {b n : Nat} {m : Int → Option Value} (h : MapAt w K b n m) : b < w.heap.size := by
  obtain ⟨D, h, _⟩ := h
  exact h.lt
theorem MapAt.chg {S : Nat → Prop} {w w' : World} {K : TypeId} {b n : Nat} {m : Int → Option Value} (h : MapAt w K b n m) (hc : Chg S w w') (hb : ¬ S b) : MapAt w' K b n m := by
  have hlt := h.lt
  obtain ⟨D, ⟨es, clock, h1, h2, h3⟩, hm⟩ := h
  exact ⟨D, ⟨es, clock, (hc.block b hlt hb).trans h1, h2, h3⟩, hm⟩
theorem MapAt.mono {w : World} {K : TypeId} {b n : Nat} {m : Int → Option Value} (h : MapAt w K b n m) : MapAt w K b (n + 1) m := by
  obtain ⟨D, h, hm⟩ := h
  exact ⟨D, h.mono (Nat.le_succ n), hm⟩
theorem int_key_ne {a b : Int} (h : a ≠ b) : (Lit.int .i64 a) ≠ .int .i64 b := fun e => h (by cases e; rfl)
theorem wp_look_map (w : World) {ops : Array Oper} {rest : List Oper} {o : Oper} {a : Act} {Q : Exit → Act → World → Prop} (hg : o.guard = none) (mo x : Operand) (t : TypeId) (hop : o.op = Op.lookup t mo x true)
    (K e : TypeId) (hK : Try.prog.underlying K = some (.int .i64)) (ht : Try.prog.underlying t = some (.map K e)) {z : Value} (hz : (zeroValue e).run Try.prog w = .ok z w) (b n : Nat) (m : Int → Option Value)
    (hm : a.eval mo = .map (some b)) (h : MapAt w K b n m) (key : Int) (hx : a.eval x = .int .i64 key) (hw : (Lit.int .i64 key).wf = true) (hk : wpList Try.prog ops Q rest (a.put o.dst (.tuple #[(m key).getD z, .bool (m key).isSome])) w) :
    wpList Try.prog ops Q (o :: rest) a w := by
  obtain ⟨D, h1, h2⟩ := h
  refine wpList_lookup_own_ok w hg mo x t hop K e (int_keyed hK) ht asIs hz (.held z) [] rfl b n D hm h1 _ _ hx (keyOf_int_mk hK hw) fun v ps hv => ?_
  have h3 := h2 key
  have hv' := congrArg Prod.fst (Option.some.inj hv)
  simp only at hv'
  cases hmk : m key with
  | none =>
    rw [hmk] at h3 hk
    simp only at h3
    rw [Maps.atKey_of_not_has h3] at hv'
    cases hv'
    rw [h3]; exact hk
  | some u =>
    rw [hmk] at h3 hk
    simp only at h3
    rw [h3.2] at hv'
    cases hv'
    rw [h3.1]; exact hk
theorem wp_put_map (w : World) {ops : Array Oper} {rest : List Oper} {o : Oper} {a : Act} {Q : Exit → Act → World → Prop} (hg : o.guard = none) (mo x v : Operand) (t : TypeId) (hop : o.op = Op.mapUpdate t mo x v)
    (K e : TypeId) (hK : Try.prog.underlying K = some (.int .i64)) (ht : Try.prog.underlying t = some (.map K e)) (b n : Nat) (m : Int → Option Value)
    (hm : a.eval mo = .map (some b)) (h : MapAt w K b n m) (hn : n < maxLen) (key : Int) (val : Value) (hx : a.eval x = .int .i64 key) (hv : a.eval v = val) (hw : (Lit.int .i64 key).wf = true)
    (hk : ∀ w', MapAt w' K b (n + 1) (setAt m key val) → Chg (fun k => k = b) w w' → wpList Try.prog ops Q rest (a.put o.dst undef) w') :
    wpList Try.prog ops Q (o :: rest) a w := by
  obtain ⟨D, h1, h2⟩ := h
  refine wpList_mapUpdate_own w hg mo x v t hop K e (int_keyed hK) ht asIs b n D hm h1 hn _ val _ hx hv (keyOf_int_mk hK hw) _ [] rfl fun w' h3 h4 => ?_
  refine hk w' ⟨_, h3, fun i => ?_⟩ ((Chg.refl _ w).grown h4 (fun k hk => .inr (by cases hk; rfl)))
  by_cases hi : i = key
  · subst hi
    rw [setAt_same]
    exact ⟨Maps.has_put_same h1.isMap (show WideAt.IsKeyLit (.int .i64 i) from trivial) _, fun z => Maps.atKey_put_same h1.isMap (show WideAt.IsKeyLit (.int .i64 i) from trivial) _ z⟩
  · rw [setAt_other _ _ hi]
    have h5 := h2 i
    cases hmk : m i with
    | none =>
      rw [hmk] at h5
      simp only at h5 ⊢
      rw [Maps.has_put_other (int_key_ne hi)]; exact h5
    | some u =>
      rw [hmk] at h5
      simp only at h5 ⊢
      rw [Maps.has_put_other (int_key_ne hi)]
      exact ⟨h5.1, fun z => by rw [Maps.atKey_put_other (int_key_ne hi)]; exact h5.2 z⟩
end Go.Proofs.Ytnpkpfcljkekfaa
