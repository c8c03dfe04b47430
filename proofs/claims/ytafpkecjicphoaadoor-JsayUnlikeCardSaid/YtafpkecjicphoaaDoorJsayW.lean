/- jsay's writer: what it is in memory; put, list. -/
import Derived.Test.YtafpkecjicphoaaDoorJsayT
import Derived.Test.YtafpkecjicphoaaDoorSame
import Derived.Lib.AppendStr
namespace Go.Proofs.YtafpkecjicphoaaDoor
open Go Go.RowKit
set_option linter.unusedVariables false
set_option linter.unusedSimpArgs false
set_option maxRecDepth 100000

theorem strCells_enc (l : List UInt8) : Lib.strCells ⟨l.toArray⟩ = enc l := by simp [Lib.strCells, enc]
/-- append(v, s...), s a string: what comes, and where. -/
theorem app_str {P : Program} (w : World) (base : Nat) (t u ty e : TypeId) (ht : P.underlying t = some (.slice e)) (hu : P.underlying u = some .string)
    (hinfo : (P.info? e).map (fun i => (i.zero, i.size, i.bytes)) = some (some (.int .u8 0), 1, 1)) (v : Value) (n : Nat) (xs : List Value) (hown : w.ownsRow base e 1 v n xs) (l : List UInt8)
    (hb : n + l.length ≤ 140737488355328) (hbase : base ≤ w.heap.size) :
    ∃ v' w', (Builtin.append_ #[t, u] ty #[v, .string ⟨l.toArray⟩]).run P w = .ok v' w' ∧ w'.ownsRow base e 1 v' (n + l.length) (xs ++ enc l) ∧ w.grownBy w' v.ownBlock ∧
      (∀ k, v'.ownBlock = some k → v.ownBlock = some k ∨ w.heap.size ≤ k) := by
  obtain ⟨i, hi, hz, hs, hby⟩ := info_parts hinfo
  have hsz : (⟨l.toArray⟩ : ByteArray).size = l.length := by simp [ByteArray.size]
  obtain ⟨v', w', hr, ho, hg, hiff⟩ := Lib.run_append_own_string (P := P) w base t u ty e i ht hu hi hz hs hby v n xs hown ⟨l.toArray⟩ (by rw [hsz]; simp only [maxLen]; omega) (by rw [hsz]; exact hb) hbase
  rw [hsz, strCells_enc] at ho
  refine ⟨v', w', hr, ho, hg, ?_⟩
  rcases hown.2 with ⟨rfl, rfl⟩ | ⟨g, cap, cur, rfl, hbg, hgg, hnc, hcm, hcs, htake⟩
  · have hn : w.ownsRow w.heap.size e 1 (.slice none 0 0) 0 [] := World.ownsRow_nil w w.heap.size e 1
    obtain ⟨v2, w2, hr2, ho2, -, -⟩ := Lib.run_append_own_string (P := P) w w.heap.size t u ty e i ht hu hi hz hs hby _ 0 [] hn ⟨l.toArray⟩ (by rw [hsz]; simp only [maxLen]; omega) (by rw [hsz]; exact hb) (Nat.le_refl _)
    rw [hr] at hr2
    injection hr2 with e1 e2
    subst e1
    subst e2
    intro k hk
    rcases ho2.2 with ⟨rfl, _⟩ | ⟨g', cap', cur', rfl, hbg', _⟩
    · simp [Value.ownBlock] at hk
    · simp [Value.ownBlock] at hk
      exact .inr (by omega)
  · by_cases hroom : n + l.length ≤ cap
    · have hr2 := Lib.run_append_room_string (P := P) w t u ty e i ht hu hi hs g n cap cur hgg ⟨l.toArray⟩ (by rw [hsz]; exact hroom) (by rw [hsz]; omega)
      rw [hr] at hr2
      injection hr2 with e1 e2
      subst e1
      intro k hk
      simp [Value.ownBlock] at hk ⊢
      exact .inl hk
    · have holds : ∀ j u, xs[j]? = some u → w.cell? ((⟨g, 0, none⟩ : Addr).add j) = some u := hown.cells (g := g) rfl
      have hr2 := Lib.run_append_grow_string (P := P) w t u ty e i (.int .u8 0) ht hu hi hz ⟨g, 0, none⟩ n cap xs (by rw [hs]; exact hown.1) holds ⟨l.toArray⟩ (by rw [hsz]; omega) (by rw [hsz]; omega) (by rw [hby, hsz]; exact growslice_fits (by omega) (by omega))
      rw [hr] at hr2
      injection hr2 with e1 e2
      subst e1
      intro k hk
      simp [Value.ownBlock] at hk
      exact .inr (by omega)

/-- The writer at a block: its bytes in a row of the call's own, and whether it is well. -/
structure WrAt (base wb : Nat) (v : Value) (acc : List UInt8) (ok : Bool) (w : World) : Prop where
  blk : w.heap[wb]? = some (.cells #[v, .bool ok] 44 (0, 0))
  own : w.ownsRow base 5 1 v acc.length (enc acc)
  le : base ≤ wb
  ne : v.ownBlock ≠ some wb
theorem WrAt.lt {base wb : Nat} {v : Value} {acc : List UInt8} {ok : Bool} {w : World} (h : WrAt base wb v acc ok w) : wb < w.heap.size := (Array.getElem?_eq_some_iff.1 h.blk).1
theorem WrAt.c0 {base wb : Nat} {v : Value} {acc : List UInt8} {ok : Bool} {w : World} (h : WrAt base wb v acc ok w) : w.cell? ⟨wb, 0, none⟩ = some v := by simp [World.cell?, h.blk]
theorem WrAt.c1 {base wb : Nat} {v : Value} {acc : List UInt8} {ok : Bool} {w : World} (h : WrAt base wb v acc ok w) : w.cell? ⟨wb, 1, none⟩ = some (.bool ok) := by simp [World.cell?, h.blk]
theorem WrAt.free {base wb : Nat} {v : Value} {acc : List UInt8} {ok : Bool} {w : World} (h : WrAt base wb v acc ok w) (i : Nat) : w.frozen? ⟨wb, i, none⟩ = false := free_at h.blk
theorem WrAt.ownLt {base wb : Nat} {v : Value} {acc : List UInt8} {ok : Bool} {w : World} (h : WrAt base wb v acc ok w) {k : Nat} (hk : v.ownBlock = some k) : base ≤ k ∧ k < w.heap.size := by
  rcases h.own.2 with ⟨rfl, _⟩ | ⟨g, cap, cur, rfl, hbg, hg, _⟩
  · simp [Value.ownBlock] at hk
  · simp [Value.ownBlock] at hk
    subst hk
    exact ⟨hbg, (Array.getElem?_eq_some_iff.1 hg).1⟩
/-- What a step of the writer's may turn. -/
def WrS (wb : Nat) (v : Value) : Nat → Prop := fun k => k = wb ∨ v.ownBlock = some k
structure WrStep (wb : Nat) (v v' : Value) (w w' : World) : Prop where
  chg : Chg (WrS wb v) w w'
  new : ∀ k, v'.ownBlock = some k → v.ownBlock = some k ∨ w.heap.size ≤ k
theorem WrStep.refl (wb : Nat) (v : Value) (w : World) : WrStep wb v v w w := ⟨Chg.refl _ _, fun k h => .inl h⟩
theorem WrStep.pure {wb : Nat} {v v' : Value} {w w1 w2 : World} (h : WrStep wb v v' w w1) (hc : Chg Pure' w1 w2) : WrStep wb v v' w w2 := ⟨h.chg.pure hc, h.new⟩
theorem WrStep.of_pure {wb : Nat} {v v' : Value} {w w1 w2 : World} (hc : Chg Pure' w w1) (h : WrStep wb v v' w1 w2) : WrStep wb v v' w w2 :=
  ⟨(Chg.of_pure hc).trans h.chg (fun _ _ h => h), fun k hk => (h.new k hk).imp id (fun h2 => Nat.le_trans hc.size h2)⟩
theorem WrStep.trans {wb : Nat} {v v1 v2 : Value} {w w1 w2 : World} (h : WrStep wb v v1 w w1) (k : WrStep wb v1 v2 w1 w2) : WrStep wb v v2 w w2 :=
  ⟨h.chg.trans k.chg (fun i hi hs => by
      rcases hs with rfl | hs
      · exact .inl rfl
      · rcases h.new i hs with h | h
        · exact .inr h
        · omega), fun i hi => by
      rcases k.new i hi with h2 | h2
      · exact h.new i h2
      · have := h.chg.size; exact .inr (by omega)⟩
theorem WrAt.pure {base wb : Nat} {v : Value} {acc : List UInt8} {ok : Bool} {w w' : World} (h : WrAt base wb v acc ok w) (hc : Chg Pure' w w') : WrAt base wb v acc ok w' :=
  ⟨(hc.block wb h.lt (fun h => h)).trans h.blk, own_keep h.own hc (fun _ _ h => h), h.le, h.ne⟩
/-- What a writing call ends in. -/
def WrPost (base wb : Nat) (v : Value) (acc : List UInt8) (ok : Bool) (w : World) : Ending → World → Prop :=
  fun e w' => e = .returned (.tuple #[]) ∧ ∃ v', WrAt base wb v' acc ok w' ∧ WrStep wb v v' w w'

theorem WrAt.app {base wb : Nat} {v v' : Value} {acc l : List UInt8} {ok : Bool} {w w' : World} (h : WrAt base wb v acc ok w) (ho : w'.ownsRow base 5 1 v' (acc.length + l.length) (enc acc ++ enc l)) (hg : w.grownBy w' v.ownBlock)
    (hn : ∀ k, v'.ownBlock = some k → v.ownBlock = some k ∨ w.heap.size ≤ k) : WrAt base wb v' (acc ++ l) ok (w'.setCell ⟨wb, 0, none⟩ v') ∧ WrStep wb v v' w (w'.setCell ⟨wb, 0, none⟩ v') := by
  have hb : w'.heap[wb]? = some (.cells #[v, .bool ok] 44 (0, 0)) := (hg.block wb h.lt h.ne.symm).trans h.blk
  have hne : v'.ownBlock ≠ some wb := fun e => by
    rcases hn wb e with h1 | h1
    · exact h.ne h1
    · have := h.lt; omega
  have hc : Chg (WrS wb v) w w' := ⟨hg.os, hg.tape, hg.output, hg.size, fun k hk hs => hg.block k hk (fun e => hs (.inr e.symm))⟩
  refine ⟨⟨heap_setCell_same w' wb 0 _ _ _ hb, ?_, h.le, hne⟩, hc.setCell (.inr (.inl rfl)) _, hn⟩
  rw [List.length_append, enc_append]
  exact own_keep ho (S := fun k => k = wb) (Chg.setCell (S := fun k => k = wb) (Chg.refl _ _) (p := ⟨wb, 0, none⟩) (.inr rfl) _) (fun g hg' e => hne (by rw [hg', e]))
theorem drop_cons_get {α : Type} {l : List α} {k : Nat} (h : k < l.length) : l.drop k = l[k] :: l.drop (k + 1) := List.drop_eq_getElem_cons h
set_option maxHeartbeats 1000000 in
/-- put: parts behind one another. -/
theorem put_of {base wb : Nat} {v : Value} {acc : List UInt8} {ok : Bool} {w : World} (hW : WrAt base wb v acc ok w) (A : Option Addr) (n c : Nat) (ps : List (List UInt8)) (hA : Row w A (ps.map sv)) (hn : ps.length = n)
    (ho : ∀ a, A = some a → a.block ≠ wb ∧ v.ownBlock ≠ some a.block) (hl : acc.length + ps.flatten.length ≤ 1099511627776) (hn2 : n ≤ 1099511627776) :
    Calls Tryd.prog 29 #[.pointer (some ⟨wb, 0, none⟩), .slice A n c] w (WrPost base wb v (acc ++ ps.flatten) ok w) := by
  obtain ⟨T, hT⟩ : ∃ T, acc ++ ps.flatten = T := ⟨_, rfl⟩
  have hTl : T.length ≤ 1099511627776 := by rw [← hT, List.length_append]; exact hl
  rw [hT]
  have HT := Lib.hid hT
  have HA := Lib.hid hA
  have HN := Lib.hid hn
  have HO := Lib.hid ho
  have HB := Lib.hid (show base ≤ w.heap.size from by have := hW.le; have := hW.lt; omega)
  have HW := Lib.hid hW
  clear hT hA hn ho hl hW
  go_enter Tryd.func29, Tryd.ntmps29
  go_wp2
  go_loopw [8] (fun i wr => ∃ (k : Nat) (v' : Value) (acc' : List UInt8), k ≤ n ∧ i = .int .i64 k ∧ Hid (WrAt base wb v' acc' ok wr) ∧ Hid (WrStep wb v v' w wr) ∧ Hid (acc' ++ (ps.drop k).flatten = T)) (fun i _ => n - (intOf i).toNat)
  case atStart => exact ⟨0, v, acc, Nat.zero_le _, rfl, HW, Lib.hid (WrStep.refl _ _ _), HT⟩
  case round =>
    obtain ⟨k, v', acc', hk, rfl, hWr, hSt, hTk⟩ := hrel
    by_cases hlt : k < n
    · have hk1 : k < ps.length := by rw [HN.out]; exact hlt
      obtain ⟨b, off, rfl, hcell⟩ := HA.out.cells (by rw [List.length_map]; omega)
      have hc1 := hcell k (sv ps[k]) (by simp [hk1])
      have ht := hTk.out
      rw [drop_cons_get hk1, List.flatten_cons] at ht
      generalize ps[k] = p at *
      have hoo := HO.out _ rfl
      have hc2 := hSt.out.chg.cell hc1 (fun h => by
        rcases h with h | h
        · exact hoo.1 h
        · exact hoo.2 h)
      have hpl : acc'.length + p.length ≤ 1099511627776 := by rw [← ht] at hTl; simp at hTl; omega
      obtain ⟨v2, w2, hr, ho2, hg2, hn2'⟩ := app_str (P := Tryd.prog) wr base 23 9 23 5 Tryd.underlying23 Tryd.underlying9 infoU8 v' acc'.length (enc acc') hWr.out.own p (by omega) (by have := hSt.out.chg.size; have := HB.out; omega)
      obtain ⟨B2, q2, rfl, -⟩ := own_slice ho2
      have c0 := hWr.out.c0
      have hf : w2.cell? ⟨wb, 0, none⟩ = some v' := by
        have : w2.heap[wb]? = wr.heap[wb]? := hg2.block wb hWr.out.lt hWr.out.ne.symm
        exact (World.cell?_of_block (w := wr) (a := ⟨wb, 0, none⟩) this).trans c0
      have hfr : w2.frozen? ⟨wb, 0, none⟩ = false := by
        have : w2.heap[wb]? = wr.heap[wb]? := hg2.block wb hWr.out.lt hWr.out.ne.symm
        exact free_at (this.trans hWr.out.blk)
      have HP := Lib.hid (hWr.out.app ho2 hg2 hn2')
      have HTK := Lib.hid (show acc' ++ p ++ (ps.drop (k + 1)).flatten = T from by rw [← ht]; simp)
      have HHR := Lib.hid hr
      clear ho2 hg2 hn2' ht hoo hcell hk1 hc1 hr
      have hr := HHR.out
      unfold sv at *
      go_wp2_with (at_builtin; refine Lib.wpList_append_run _ rfl _ _ _ _ rfl _ _ rfl rfl _ _ hr ?_; clear hr)
      go_roundw
      case rel => exact ⟨k + 1, _, acc' ++ p, by omega, by go_num, Lib.hid HP.out.1, Lib.hid (hSt.out.trans HP.out.2), HTK⟩
      case measure => simp [intOf]; omega
    · obtain rfl : k = n := by omega
      have ht := hTk.out
      rw [List.drop_eq_nil_of_le (by rw [HN.out]; omega), List.flatten_nil, List.append_nil] at ht
      have HE := Lib.hid ht
      clear ht hTk
      go_wp2
      first | go_end0 | (refine bodyPost_ret (results_none rfl _ _ _) rfl ?_)
      exact ⟨rfl, v', by rw [← HE.out]; exact hWr.out, hSt.out⟩
end Go.Proofs.YtafpkecjicphoaaDoor
