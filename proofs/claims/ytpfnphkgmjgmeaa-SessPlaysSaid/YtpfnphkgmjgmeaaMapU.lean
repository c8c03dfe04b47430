/- A map whose keys are numbers without a sign, told by a function from numbers to what stands there. -/
import Derived.Test.YtpfnphkgmjgmeaaMapW
namespace Go.Proofs.Ytpfnphkgmjgmeaa
open Go Go.RowKit Go.Maps
set_option linter.unusedVariables false
set_option linter.unusedSimpArgs false

theorem wf_u64 {a : Int} (h : 0 ≤ a ∧ a ≤ 18446744073709551615) : (Lit.int .u64 a).wf = true := by
  simp [Lit.wf, IntKind.min, IntKind.max, IntKind.signed, IntKind.bits]; omega
/-- Block b is a map with at most n entries, keyed by numbers of type K; m tells what stands there. -/
def MapU (w : World) (K : TypeId) (b n : Nat) (m : Int → Option Value) : Prop :=
  ∃ D : DataW Value, w.ownsMap Try.prog K asIs b n D ∧ ∀ a : Int, match m a with | none => Maps.has D (.int .u64 a) = false | some v => Maps.has D (.int .u64 a) = true ∧ ∀ z, D.atKey (.int .u64 a) z = .held v
theorem MapU.made (w : World) (K : TypeId) : MapU (w.alloc (.map #[] 0)) K w.heap.size 0 (fun _ => none) :=
  ⟨_, World.ownsMap_made w _ K asIs, fun _ => rfl⟩
theorem MapU.lt {w : World} {K : TypeId} {b n : Nat} {m : Int → Option Value} (h : MapU w K b n m) : b < w.heap.size := by
  obtain ⟨D, h, _⟩ := h
  exact h.lt
theorem MapU.chg {S : Nat → Prop} {w w' : World} {K : TypeId} {b n : Nat} {m : Int → Option Value} (h : MapU w K b n m) (hc : Chg S w w') (hb : ¬ S b) : MapU w' K b n m := by
  have hlt := h.lt
  obtain ⟨D, ⟨es, clock, h1, h2, h3⟩, hm⟩ := h
  exact ⟨D, ⟨es, clock, (hc.block b hlt hb).trans h1, h2, h3⟩, hm⟩
theorem MapU.mono {w : World} {K : TypeId} {b n : Nat} {m : Int → Option Value} (h : MapU w K b n m) : MapU w K b (n + 1) m := by
  obtain ⟨D, h, hm⟩ := h
  exact ⟨D, h.mono (Nat.le_succ n), hm⟩
theorem u64_key_ne {a b : Int} (h : a ≠ b) : (Lit.int .u64 a) ≠ .int .u64 b := fun e => h (by cases e; rfl)
theorem wp_put_mapU (w : World) {ops : Array Oper} {rest : List Oper} {o : Oper} {a : Act} {Q : Exit → Act → World → Prop} (hg : o.guard = none) (mo x v : Operand) (t : TypeId) (hop : o.op = Op.mapUpdate t mo x v)
    (K e : TypeId) (hK : Try.prog.underlying K = some (.int .u64)) (ht : Try.prog.underlying t = some (.map K e)) (b n : Nat) (m : Int → Option Value)
    (hm : a.eval mo = .map (some b)) (h : MapU w K b n m) (hn : n < maxLen) (key : Int) (val : Value) (hx : a.eval x = .int .u64 key) (hv : a.eval v = val) (hw : (Lit.int .u64 key).wf = true)
    (hk : ∀ w', MapU w' K b (n + 1) (setAt m key val) → Chg (fun k => k = b) w w' → wpList Try.prog ops Q rest (a.put o.dst undef) w') :
    wpList Try.prog ops Q (o :: rest) a w := by
  obtain ⟨D, h1, h2⟩ := h
  refine wpList_mapUpdate_own w hg mo x v t hop K e (int_keyed hK) ht asIs b n D hm h1 hn _ val _ hx hv (keyOf_int_mk hK hw) _ [] rfl fun w' h3 h4 => ?_
  refine hk w' ⟨_, h3, fun i => ?_⟩ ((Chg.refl _ w).grown h4 (fun k hk => .inr (by cases hk; rfl)))
  by_cases hi : i = key
  · subst hi
    rw [setAt_same]
    exact ⟨Maps.has_put_same h1.isMap (show WideAt.IsKeyLit (.int .u64 i) from trivial) _, fun z => Maps.atKey_put_same h1.isMap (show WideAt.IsKeyLit (.int .u64 i) from trivial) _ z⟩
  · rw [setAt_other _ _ hi]
    have h5 := h2 i
    cases hmk : m i with
    | none =>
      rw [hmk] at h5
      simp only at h5 ⊢
      rw [Maps.has_put_other (u64_key_ne hi)]; exact h5
    | some u =>
      rw [hmk] at h5
      simp only at h5 ⊢
      rw [Maps.has_put_other (u64_key_ne hi)]
      exact ⟨h5.1, fun z => by rw [Maps.atKey_put_other (u64_key_ne hi)]; exact h5.2 z⟩
theorem look_runU {w : World} {K t e : TypeId} {b n : Nat} {m : Int → Option Value} (h : MapU w K b n m) (hK : Try.prog.underlying K = some (.int .u64)) (ht : Try.prog.underlying t = some (.map K e)) {z : Value} (hz : (zeroValue e).run Try.prog w = .ok z w)
    {key : Int} (hw : (Lit.int .u64 key).wf = true) {v : Value} (hv : (m key).getD z = v) : (Instr.lookup t (.map (some b)) (.int .u64 key) false).run Try.prog w = .ok v w := by
  subst hv
  obtain ⟨D, h1, h2⟩ := h
  obtain ⟨u, ps, hr, hu⟩ := h1.lookup (int_keyed hK) ht hz (zd := .held z) (zp := []) rfl (keyOf_int_mk hK hw)
  have h3 := h2 key
  have hu' := congrArg Prod.fst (Option.some.inj hu)
  simp only at hu'
  cases hmk : m key with
  | none =>
    rw [hmk] at h3
    simp only at h3
    rw [Maps.atKey_of_not_has h3] at hu'
    cases hu'
    exact hr
  | some x =>
    rw [hmk] at h3
    simp only at h3
    rw [h3.2] at hu'
    cases hu'
    exact hr
theorem put_runU {w : World} {K t e : TypeId} {b n : Nat} {m : Int → Option Value} (h : MapU w K b n m) (hK : Try.prog.underlying K = some (.int .u64)) (ht : Try.prog.underlying t = some (.map K e)) (hn : n < maxLen)
    {key : Int} (hw : (Lit.int .u64 key).wf = true) (val : Value) : ∃ w', (Instr.mapUpdate t (.map (some b)) (.int .u64 key) val).run Try.prog w = .ok () w' ∧ MapU w' K b (n + 1) (setAt m key val) ∧ Chg (fun k => k = b) w w' := by
  obtain ⟨D, h1, h2⟩ := h
  obtain ⟨w', hr, h3, h4⟩ := h1.update (int_keyed hK) ht hn (keyOf_int_mk hK hw) (val := val) (d := .held val) (ps := []) rfl
  refine ⟨w', hr, ⟨_, h3, fun i => ?_⟩, (Chg.refl _ w).grown h4 (fun k hk => .inr (by cases hk; rfl))⟩
  by_cases hi : i = key
  · subst hi
    rw [setAt_same]
    exact ⟨Maps.has_put_same h1.isMap (show WideAt.IsKeyLit (.int .u64 i) from trivial) _, fun z => Maps.atKey_put_same h1.isMap (show WideAt.IsKeyLit (.int .u64 i) from trivial) _ z⟩
  · rw [setAt_other _ _ hi]
    have h5 := h2 i
    cases hmk : m i with
    | none =>
      rw [hmk] at h5
      simp only at h5 ⊢
      rw [Maps.has_put_other (u64_key_ne hi)]; exact h5
    | some u =>
      rw [hmk] at h5
      simp only at h5 ⊢
      rw [Maps.has_put_other (u64_key_ne hi)]
      exact ⟨h5.1, fun z => by rw [Maps.atKey_put_other (u64_key_ne hi)]; exact h5.2 z⟩
end Go.Proofs.Ytpfnphkgmjgmeaa
