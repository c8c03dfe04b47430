/- A map keyed by numbers, going on: look-ups without 'ok', deletes, ranges. -/
import Derived.Test.YtnpkpfcljkekfaaMapV
import Derived.Maps.RangeWalk
namespace Go.Proofs.Ytnpkpfcljkekfaa
open Go Go.RowKit Go.Maps
set_option linter.unusedVariables false
set_option linter.unusedSimpArgs false

theorem wf_i64 {a : Int} (h : -9223372036854775808 ≤ a ∧ a ≤ 9223372036854775807) : (Lit.int .i64 a).wf = true := by
  simp [Lit.wf, IntKind.min, IntKind.max, IntKind.signed, IntKind.bits]; omega
theorem look_run {w : World} {K t e : TypeId} {b n : Nat} {m : Int → Option Value} (h : MapAt w K b n m) (hK : Try.prog.underlying K = some (.int .i64)) (ht : Try.prog.underlying t = some (.map K e)) {z : Value} (hz : (zeroValue e).run Try.prog w = .ok z w)
    {key : Int} (hw : (Lit.int .i64 key).wf = true) {v : Value} (hv : (m key).getD z = v) : (Instr.lookup t (.map (some b)) (.int .i64 key) false).run Try.prog w = .ok v w := by
  subst hv
  obtain ⟨D, h1, h2⟩ := h
  obtain ⟨u, ps, hr, hu⟩ := h1.lookup (int_keyed hK) ht hz (zd := .held z) (zp := []) rfl (keyOf_int_mk hK hw)
  have h3 := h2 key
  have hu' := congrArg Prod.fst (Option.some.inj hu)
  simp only at hu'
  cases hmk : m key with
  | none =>
    rw [hmk] at h3
    simp only at h3
    rw [Maps.atKey_of_not_has h3] at hu'
    cases hu'
    exact hr
  | some x =>
    rw [hmk] at h3
    simp only at h3
    rw [h3.2] at hu'
    cases hu'
    exact hr
/-- What stands there behind a delete. -/
def dropAt (m : Int → Option Value) (key : Int) : Int → Option Value := fun i => if i = key then none else m i
theorem drop_run {w : World} {K t e : TypeId} {b n : Nat} {m : Int → Option Value} (h : MapAt w K b n m) (hK : Try.prog.underlying K = some (.int .i64)) (ht : Try.prog.underlying t = some (.map K e))
    {key : Int} (hw : (Lit.int .i64 key).wf = true) (ty : TypeId) : ∃ w', (Builtin.delete_ #[t, K] ty #[.map (some b), .int .i64 key]).run Try.prog w = .ok (.tuple #[]) w' ∧ MapAt w' K b n (dropAt m key) ∧ Chg (fun k => k = b) w w' := by
  obtain ⟨D, h1, h2⟩ := h
  obtain ⟨w', hr, h3, h4⟩ := h1.drop (int_keyed hK) ht (keyOf_int_mk hK hw) ty
  refine ⟨w', hr, ⟨_, h3, fun i => ?_⟩, (Chg.refl _ w).grown h4.grown (fun k hk => .inr (by cases hk; rfl))⟩
  unfold dropAt
  by_cases hi : i = key
  · subst hi
    simp only [if_pos]
    exact Maps.has_del_same
  · simp only [if_neg hi]
    have h5 := h2 i
    cases hmk : m i with
    | none =>
      rw [hmk] at h5
      simp only at h5 ⊢
      rw [Maps.has_del_other (int_key_ne hi)]; exact h5
    | some u =>
      rw [hmk] at h5
      simp only at h5 ⊢
      rw [Maps.has_del_other (int_key_ne hi)]
      exact ⟨h5.1, fun z => by rw [Maps.atKey_del_other (int_key_ne hi)]; exact h5.2 z⟩
theorem wp_del {P : Program} {o : Oper} {a : Act} {w w' : World} {K : Act → World → Prop} {Q : Exit → Act → World → Prop} (m x : Operand) (t k : TypeId)
    (hop : o.op = Op.call { callee := Callee.builtin Builtin.delete, args := #[m, x], argTypes := #[t, k] }) {vm vx : Value} (hm : a.eval m = vm) (hx : a.eval x = vx)
    (hr : (Builtin.delete_ #[t, k] o.type #[vm, vx]).run P w = .ok (.tuple #[]) w') (hk : K (a.put o.dst (.tuple #[])) w') : o.wp P a w K Q := by
  unfold Oper.wp
  simp [execOp, hop, resolve, invoke, builtin, hm, hx, hr, Result.andThen]
  exact hk
theorem put_run {w : World} {K t e : TypeId} {b n : Nat} {m : Int → Option Value} (h : MapAt w K b n m) (hK : Try.prog.underlying K = some (.int .i64)) (ht : Try.prog.underlying t = some (.map K e)) (hn : n < maxLen)
    {key : Int} (hw : (Lit.int .i64 key).wf = true) (val : Value) : ∃ w', (Instr.mapUpdate t (.map (some b)) (.int .i64 key) val).run Try.prog w = .ok () w' ∧ MapAt w' K b (n + 1) (setAt m key val) ∧ Chg (fun k => k = b) w w' := by
  obtain ⟨D, h1, h2⟩ := h
  obtain ⟨w', hr, h3, h4⟩ := h1.update (int_keyed hK) ht hn (keyOf_int_mk hK hw) (val := val) (d := .held val) (ps := []) rfl
  refine ⟨w', hr, ⟨_, h3, fun i => ?_⟩, (Chg.refl _ w).grown h4 (fun k hk => .inr (by cases hk; rfl))⟩
  by_cases hi : i = key
  · subst hi
    rw [setAt_same]
    exact ⟨Maps.has_put_same h1.isMap (show WideAt.IsKeyLit (.int .i64 i) from trivial) _, fun z => Maps.atKey_put_same h1.isMap (show WideAt.IsKeyLit (.int .i64 i) from trivial) _ z⟩
  · rw [setAt_other _ _ hi]
    have h5 := h2 i
    cases hmk : m i with
    | none =>
      rw [hmk] at h5
      simp only at h5 ⊢
      rw [Maps.has_put_other (int_key_ne hi)]; exact h5
    | some u =>
      rw [hmk] at h5
      simp only at h5 ⊢
      rw [Maps.has_put_other (int_key_ne hi)]
      exact ⟨h5.1, fun z => by rw [Maps.atKey_put_other (int_key_ne hi)]; exact h5.2 z⟩
theorem wp_upd {P : Program} {o : Oper} {a : Act} {w w' : World} {K : Act → World → Prop} {Q : Exit → Act → World → Prop} (m x v : Operand) (t : TypeId) (hop : o.op = Op.mapUpdate t m x v) {vm vx vv : Value} (hm : a.eval m = vm) (hx : a.eval x = vx) (hv : a.eval v = vv)
    (hr : (Instr.mapUpdate t vm vx vv).run P w = .ok () w') (hk : K (a.put o.dst undef) w') : o.wp P a w K Q := by
  unfold Oper.wp
  simp [execOp, hop, hm, hx, hv, hr, Result.andThen]
  exact hk
/-- What is to come when x has come. -/
def strike (left : Int → Bool) (x : Int) : Int → Bool := fun i => left i && decide (i ≠ x)
/-- A range over a map under way: 'left' tells what is still to come. -/
def RangeAt (w : World) (K : TypeId) (b r n : Nat) (m : Int → Option Value) (left : Int → Bool) (cnt : Nat) : Prop :=
  ∃ (D : DataW Value) (lf : Lit → Bool), w.ranges Try.prog K asIs b r n D lf cnt ∧ (∀ a, lf (.int .i64 a) = left a) ∧ ∀ a : Int, match m a with | none => Maps.has D (.int .i64 a) = false | some v => Maps.has D (.int .i64 a) = true ∧ ∀ z, D.atKey (.int .i64 a) z = .held v
theorem RangeAt.map {w : World} {K : TypeId} {b r n : Nat} {m : Int → Option Value} {left : Int → Bool} {cnt : Nat} (h : RangeAt w K b r n m left cnt) : MapAt w K b n m := by
  obtain ⟨D, lf, h1, _, h3⟩ := h
  exact ⟨D, h1.owns, h3⟩
theorem RangeAt.left_eq {w : World} {K : TypeId} {b r n : Nat} {m : Int → Option Value} {left : Int → Bool} {cnt : Nat} (h : RangeAt w K b r n m left cnt) : w.rangeLeft b r = cnt := by
  obtain ⟨D, lf, h1, _, _⟩ := h
  exact h1.left_eq
theorem RangeAt.lt {w : World} {K : TypeId} {b r n : Nat} {m : Int → Option Value} {left : Int → Bool} {cnt : Nat} (h : RangeAt w K b r n m left cnt) : r < w.heap.size := by
  obtain ⟨D, lf, h1, _, _⟩ := h
  exact h1.lt
theorem RangeAt.chg {S : Nat → Prop} {w w' : World} {K : TypeId} {b r n : Nat} {m : Int → Option Value} {left : Int → Bool} {cnt : Nat} (h : RangeAt w K b r n m left cnt) (hc : Chg S w w') (hb : ¬ S b) (hr : ¬ S r) : RangeAt w' K b r n m left cnt := by
  have h1 := h.map.lt
  have h2 := h.lt
  obtain ⟨D, lf, ⟨es, clock, since, seen, c0, a1, a2, a3, a4, a5, a6⟩, hl, hm⟩ := h
  exact ⟨D, lf, ⟨es, clock, since, seen, c0, (hc.block b h1 hb).trans a1, a2, a3, a4, (hc.block r h2 hr).trans a5, a6⟩, hl, hm⟩
theorem wp_range_map (w : World) {ops : Array Oper} {rest : List Oper} {o : Oper} {a : Act} {Q : Exit → Act → World → Prop} (hg : o.guard = none) (mo : Operand) (t : TypeId) (hop : o.op = Op.range t mo)
    (K e : TypeId) (hK : Try.prog.underlying K = some (.int .i64)) (ht : Try.prog.underlying t = some (.map K e)) (b n : Nat) (m : Int → Option Value) (hm : a.eval mo = .map (some b)) (h : MapAt w K b n m)
    (hk : ∀ w' cnt, RangeAt w' K b w.heap.size n m (fun i => (m i).isSome) cnt → Chg Pure' w w' → wpList Try.prog ops Q rest (a.put o.dst (.pointer (some ⟨w.heap.size, 0, none⟩))) w') :
    wpList Try.prog ops Q (o :: rest) a w := by
  obtain ⟨D, h1, h2⟩ := h
  refine wpList_range_own w hg mo t hop K e (int_keyed hK) ht asIs b n D hm h1 fun w' h3 h4 _ => ?_
  refine hk w' _ ⟨D, _, h3, fun i => ?_, h2⟩ ((Chg.refl _ w).grown h4 (fun k hk => by cases hk))
  have h5 := h2 i
  show Maps.has D (.int .i64 i) = (m i).isSome
  cases hmk : m i with
  | none => rw [hmk] at h5; exact h5
  | some u => rw [hmk] at h5; exact h5.1
theorem wp_next_map (w : World) {ops : Array Oper} {rest : List Oper} {o : Oper} {a : Act} {Q : Exit → Act → World → Prop} (hg : o.guard = none) (it : Operand) (hop : o.op = Op.next it false)
    (K : TypeId) (hK : Try.prog.underlying K = some (.int .i64)) (b r n : Nat) (m : Int → Option Value) (left : Int → Bool) (cnt : Nat) (hit : a.eval it = .pointer (some ⟨r, 0, none⟩)) (h : RangeAt w K b r n m left cnt)
    (hDone : cnt = 0 → (∀ i, left i = false) → wpList Try.prog ops Q rest (a.put o.dst (.tuple #[.bool false])) w)
    (hMore : ∀ (x : Int) (c : Value) (w' : World) (cnt' : Nat), (Lit.int .i64 x).wf = true → left x = true → m x = some c → RangeAt w' K b r n m (strike left x) cnt' → cnt' < cnt → Chg (fun k => k = r) w w' →
      (Instr.entry (.pointer (some ⟨r, 0, none⟩))).run Try.prog w' = .ok (.tuple #[.int .i64 x, c]) w' → wpList Try.prog ops Q rest (a.put o.dst (.tuple #[.bool true, .int .i64 x, c])) w') :
    wpList Try.prog ops Q (o :: rest) a w := by
  obtain ⟨D, lf, h1, hl, h2⟩ := h
  refine wpList_next_ranges w hg it hop K (int_keyed hK) asIs (fun x : Int => .int .i64 x) (fun c : Value => c) (fun key kl hkey => by obtain ⟨x, hx, _⟩ := keyOf_int_inv hK hkey; exact ⟨x, hx⟩) (fun v y _ => ⟨v, rfl⟩) b r n D lf cnt hit h1
    (fun h0 hd => hDone h0 (fun i => by rw [← hl]; exact hd _)) ?_
  intro x c kl y w' cnt' hkey hlk hv hat hrg hlt hgr hsz hen
  obtain ⟨x', e1, rfl, hw⟩ := keyOf_int_inv hK hkey
  cases e1
  have h3 := h2 x
  have hy : y.1 = .held c := by
    have := congrArg Prod.fst (Option.some.inj hv)
    exact this.symm
  refine hMore x c w' cnt' hw (by rw [← hl]; exact hlk) ?_ ⟨D, _, hrg, fun i => ?_, h2⟩ hlt ((Chg.refl _ w).grown hgr (fun k hk => .inr (by cases hk; rfl))) hen
  · cases hmk : m x with
    | none =>
      rw [hmk] at h3
      simp only at h3
      have := hat .nil
      rw [Maps.atKey_of_not_has h3, hy] at this
      cases this
    | some u =>
      rw [hmk] at h3
      simp only at h3
      have := hat .nil
      rw [h3.2, hy] at this
      cases this
      rfl
  · show (lf (.int .i64 i) && !(Lit.int .i64 i).sameKey (.int .i64 x)) = strike left x i
    unfold strike
    rw [hl]
    by_cases hi : i = x
    · subst hi; simp [Lit.sameKey]
    · simp [Lit.sameKey, hi]
end Go.Proofs.Ytnpkpfcljkekfaa
