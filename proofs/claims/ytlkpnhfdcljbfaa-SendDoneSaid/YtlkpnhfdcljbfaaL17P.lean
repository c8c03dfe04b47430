/- The laws of layer 17, going on: what a sender holds are the last of what was pushed. -/
import Derived.Test.YtlkpnhfdcljbfaaL17C
namespace Go.Proofs.Ytlkpnhfdcljbfaa
open Go Go.RowKit
set_option linter.unusedVariables false
set_option linter.unusedSimpArgs false

theorem pushOf_ways (W base lim : Nat) (Ls : List Ld) (xs : List UInt8) (now : Int) :
    pushOf W base lim Ls xs now = ((((base + Ls.length : Nat) : Int), 0), Ls ++ [⟨xs, false, now, 1⟩]) ∨ ∃ e : Int, 0 < e ∧ pushOf W base lim Ls xs now = ((0, e), Ls) := by
  unfold pushOf
  split
  · exact .inr ⟨1, by omega, rfl⟩
  · split
    · exact .inr ⟨8, by omega, rfl⟩
    · split
      · exact .inr ⟨13, by omega, rfl⟩
      · exact .inl rfl
theorem ackLd_data (ack : Int) (m : UInt64) (n : Int) (x : Ld) : (ackLd ack m n x).data = x.data := by unfold ackLd; split <;> rfl
theorem dueLd_data (now : Int) (x : Ld) : (dueLd now x).data = x.data := by unfold dueLd; split <;> rfl
theorem mapIdx_data (f : Int → Ld → Ld) (base : Nat) (Ls : List Ld) (hf : ∀ n x, (f n x).data = x.data) : (Ls.mapIdx fun j x => f ((base + j : Nat) : Int) x).map (·.data) = Ls.map (·.data) := by
  apply List.ext_getElem (by simp)
  intro j h1 h2
  simp [hf]
theorem ackOf_data (base lim : Nat) (Ls : List Ld) (ack : Int) (m : UInt64) (credit : Int) : ∃ d, d ≤ Ls.length ∧ (ackOf base lim Ls ack m credit).2.1 = base + d ∧ (ackOf base lim Ls ack m credit).2.2.2.map (·.data) = (Ls.map (·.data)).drop d := by
  unfold ackOf
  split
  · refine ⟨_, ?_, rfl, ?_⟩
    · have := doneN_le (Ls.mapIdx fun j x => ackLd ack m ((base + j : Nat) : Int) x); simpa using this
    · rw [List.map_drop, mapIdx_data (fun n x => ackLd ack m n x) base Ls (fun n x => ackLd_data ack m n x)]
  · exact ⟨0, Nat.zero_le _, rfl, by simp⟩
theorem resOf_data (base lim : Nat) (Ls : List Ld) (ack credit now : Int) : ∃ d, d ≤ Ls.length ∧ (resOf base lim Ls ack credit now).2.1 = base + d ∧ (resOf base lim Ls ack credit now).2.2.2.map (·.data) = (Ls.map (·.data)).drop d := by
  unfold resOf
  split
  · refine ⟨_, ?_, rfl, ?_⟩
    · have := doneN_le (Ls.mapIdx fun j x => resLd ack now ((base + j : Nat) : Int) x); simpa using this
    · rw [List.map_drop, mapIdx_data (fun n x => resLd ack now n x) base Ls (fun n x => rfl)]
  · exact ⟨0, Nat.zero_le _, rfl, by simp⟩
theorem dueOf_data (now : Int) (base : Nat) (Ls : List Ld) : (dueOf now base Ls).2.map (·.data) = Ls.map (·.data) := by
  unfold dueOf
  split
  · simp only [List.map_map]
    apply List.map_congr_left
    intro x _
    exact dueLd_data now x
  · rfl
/-- The number that was told last. -/
def lastOf (out : List (Nat × List UInt8)) : Nat → Nat
  | 0 => 0
  | j + 1 => (out.getD j (0, [])).1
theorem dueOut_at (now : Int) : ∀ (n : Nat) (l : List Ld) (i : Nat) (h : i < (dueOut now n l).length), n ≤ ((dueOut now n l)[i]).1 ∧ ((dueOut now n l)[i]).1 < n + l.length ∧ (l.map (·.data))[((dueOut now n l)[i]).1 - n]? = some ((dueOut now n l)[i]).2 ∧
    ∀ j, j < i → ∀ hj : j < (dueOut now n l).length, ((dueOut now n l)[j]).1 < ((dueOut now n l)[i]).1
  | n, [], i, h => by simp [dueOut] at h
  | n, x :: l, i, h => by
    cases hh : dueHit now x with
    | false =>
      have e : dueOut now n (x :: l) = dueOut now (n + 1) l := by simp only [dueOut, hh]; rfl
      simp only [e] at h ⊢
      obtain ⟨h1, h2, h3, h4⟩ := dueOut_at now (n + 1) l i h
      refine ⟨by omega, by simp; omega, ?_, h4⟩
      rw [show ((dueOut now (n + 1) l)[i]).1 - n = (((dueOut now (n + 1) l)[i]).1 - (n + 1)) + 1 from by omega]
      simpa using h3
    | true =>
      have e : dueOut now n (x :: l) = (n, x.data) :: dueOut now (n + 1) l := by simp only [dueOut, hh]; rfl
      simp only [e] at h ⊢
      cases i with
      | zero => exact ⟨Nat.le_refl _, by simp, by simp, fun j hj => by omega⟩
      | succ i =>
        have h' : i < (dueOut now (n + 1) l).length := by simpa using h
        obtain ⟨h1, h2, h3, h4⟩ := dueOut_at now (n + 1) l i h'
        simp only [List.getElem_cons_succ]
        refine ⟨by omega, by simp; omega, ?_, ?_⟩
        · rw [show ((dueOut now (n + 1) l)[i]).1 - n = (((dueOut now (n + 1) l)[i]).1 - (n + 1)) + 1 from by omega]
          simpa using h3
        · intro j hj hjl
          cases j with
          | zero => simp only [List.getElem_cons_zero]; omega
          | succ j => simp only [List.getElem_cons_succ]; exact h4 j (by omega) (by simpa using hjl)
theorem lastOf_lt (now : Int) (n : Nat) (l : List Ld) (i : Nat) (h : i < (dueOut now n l).length) (hn : 1 ≤ n) : lastOf (dueOut now n l) i < ((dueOut now n l)[i]).1 := by
  obtain ⟨h1, h2, h3, h4⟩ := dueOut_at now n l i h
  cases i with
  | zero => simp only [lastOf]; omega
  | succ i =>
    have := h4 i (by omega) (by omega)
    simp only [lastOf]
    rw [List.getD_eq_getElem?_getD, List.getElem?_eq_getElem (by omega)]
    exact this
theorem lastOf_succ (out : List (Nat × List UInt8)) (i : Nat) (h : i < out.length) : lastOf out (i + 1) = (out[i]).1 := by
  simp only [lastOf]
  rw [List.getD_eq_getElem?_getD, List.getElem?_eq_getElem h]
  rfl
theorem rowCells_at : ∀ (out : List (Nat × List UInt8)) (vs : List Value) (i : Nat) (h : i < out.length) (h2 : i < vs.length) (c : Nat), c < 9 → (rowCells out vs)[i * 9 + c]? = (msgCells (out[i]).1 (vs[i]))[c]?
  | [], _, i, h, _, _, _ => by simp at h
  | _ :: _, [], i, _, h2, _, _ => by simp at h2
  | (n, d) :: out, v :: vs, i, h, h2, c, hc => by
    cases i with
    | zero =>
      simp only [rowCells, List.getElem_cons_zero]
      rw [List.getElem?_append_left (by simp [msgCells]; omega)]
      simp
    | succ i =>
      simp only [rowCells, List.getElem_cons_succ]
      rw [List.getElem?_append_right (by simp [msgCells]; omega), show (i + 1) * 9 + c - (msgCells n v).length = i * 9 + c from by simp [msgCells]; omega]
      exact rowCells_at out vs i (by simpa using h) (by simpa using h2) c hc

theorem infoBs : (Try.prog.info? 22).map (fun i => (i.zero, i.size, i.bytes)) = some (some (.slice none 0 0), 1, 24) := by kernel_rfl
/-- A sender, and the loads that were pushed, as they came. -/
structure Held17 (w0 w : World) (vP : Value) (cs : List Value) (ps : List (List UInt8)) (p b W : Nat) (adr : Nat → Nat) (D : Nat → Prop) (base lim : Nat) (Ls : List Ld) (cnt : Nat) : Prop where
  snd : SendAt w p b adr D W base lim Ls cnt
  foot : ∀ k, Foot p b adr D base Ls.length k → w0.heap.size ≤ k ∧ vP.ownBlock ≠ some k
  chg : Chg Pure' w0 w
  row : w.ownsRow w0.heap.size 22 1 vP ps.length cs
  cells : ∀ i (h : i < ps.length), ∃ Ai ni ci, cs[i]? = some (.slice Ai ni ci) ∧ Bytes w0 Ai ni (ps[i]'h)
  len : ps.length + 1 = base + Ls.length
  data : ps.drop (base - 1) = Ls.map (·.data)
theorem Held17.pure {w0 w w' : World} {vP : Value} {cs : List Value} {ps : List (List UInt8)} {p b W : Nat} {adr : Nat → Nat} {D : Nat → Prop} {base lim : Nat} {Ls : List Ld} {cnt : Nat} (h : Held17 w0 w vP cs ps p b W adr D base lim Ls cnt) (hc : Chg Pure' w w') :
    Held17 w0 w' vP cs ps p b W adr D base lim Ls cnt :=
  ⟨h.snd.pure hc, h.foot, h.chg.pure hc, own_keep h.row hc (fun _ _ h => h), h.cells, h.len, h.data⟩
theorem Held17.more {w0 w : World} {vP : Value} {cs : List Value} {ps : List (List UInt8)} {p b W : Nat} {adr : Nat → Nat} {D : Nat → Prop} {base lim : Nat} {Ls : List Ld} {cnt : Nat} (h : Held17 w0 w vP cs ps p b W adr D base lim Ls cnt) :
    Held17 w0 w vP cs ps p b W adr D base lim Ls (cnt + 1) :=
  ⟨⟨h.snd.blk, h.snd.w1, h.snd.w32, h.snd.b1, h.snd.len, h.snd.nx, h.snd.lm, h.snd.c0, h.snd.c1, h.snd.c2, h.snd.c3, h.snd.c4, h.snd.map.mono, h.snd.lds, h.snd.pb, h.snd.inj, h.snd.ap, h.snd.dd⟩, h.foot, h.chg, h.row, h.cells, h.len, h.data⟩
/-- A call of the sender's that leaves its loads' bytes, but may let go the first. -/
theorem Held17.turn {w0 w w' : World} {vP : Value} {cs : List Value} {ps : List (List UInt8)} {p b W : Nat} {adr : Nat → Nat} {D : Nat → Prop} {base lim base' lim' : Nat} {Ls Ls' : List Ld} {cnt cnt' : Nat} (h : Held17 w0 w vP cs ps p b W adr D base lim Ls cnt)
    (hc : Chg (Foot p b adr D base Ls.length) w w') (hs : SendAt w' p b adr D W base' lim' Ls' cnt') (hd : ∃ d, d ≤ Ls.length ∧ base' = base + d ∧ Ls'.map (·.data) = (Ls.map (·.data)).drop d) :
    Held17 w0 w' vP cs ps p b W adr D base' lim' Ls' cnt' := by
  obtain ⟨d, hd0, rfl, hd2⟩ := hd
  have hll := congrArg List.length hd2
  simp at hll
  have hb := h.snd.b1
  refine ⟨hs, fun k hk => h.foot k ?_, h.chg.trans hc (fun i hi e => by have := (h.foot i e).1; omega), own_keep h.row hc (fun g hg e => (h.foot g e).2 hg), h.cells, by have := h.len; omega, ?_⟩
  · rw [hll] at hk
    exact Foot.drop hk
  · rw [hd2, ← h.data, List.drop_drop, show base + d - 1 = base - 1 + d from by omega]
theorem dueOf_at (now : Int) (base : Nat) (Ls : List Ld) (hb : 1 ≤ base) (i : Nat) (h : i < (dueOf now base Ls).1.length) : base ≤ ((dueOf now base Ls).1[i]).1 ∧ ((dueOf now base Ls).1[i]).1 < base + Ls.length ∧
    (Ls.map (·.data))[((dueOf now base Ls).1[i]).1 - base]? = some ((dueOf now base Ls).1[i]).2 ∧ lastOf (dueOf now base Ls).1 i < ((dueOf now base Ls).1[i]).1 := by
  by_cases hw : 0 ≤ now ∧ now ≤ 1099511627776
  · have e : (dueOf now base Ls).1 = dueOut now base Ls := by unfold dueOf; rw [if_pos hw]
    simp only [e] at h ⊢
    obtain ⟨h1, h2, h3, -⟩ := dueOut_at now base Ls i h
    exact ⟨h1, h2, h3, lastOf_lt now base Ls i h hb⟩
  · have e : (dueOf now base Ls).1 = [] := by unfold dueOf; rw [if_neg hw]
    simp [e] at h
theorem held_plays {w0 w : World} {vP : Value} {cs : List Value} {ps : List (List UInt8)} {p b W : Nat} {adr : Nat → Nat} {D : Nat → Prop} {base lim : Nat} {Ls : List Ld} {cnt : Nat} (h : Held17 w0 w vP cs ps p b W adr D base lim Ls cnt)
    (kind now n credit : Int) (m : UInt64) (A : Option Addr) (l c : Nat) (hk : bits .and .i64 kind 3 = 2 ∨ bits .and .i64 kind 3 = 3) :
    Calls Try.prog 15 #[.pointer (some ⟨p, 0, none⟩), .agg #[.int .i64 kind, .int .i64 now, .int .i64 n, .int .i64 credit, .int .u64 (m.toNat : Int), .slice A l c]] w fun e w' => e = .returned (.tuple #[]) ∧
      ∃ base' lim' Ls', Held17 w0 w' vP cs ps p b W adr D base' lim' Ls' cnt := by
  have ca : Chg Pure' w (w.alloc (.cells #[.int .i64 kind, .int .i64 now, .int .i64 n, .int .i64 credit, .int .u64 (m.toNat : Int), .slice A l c] 39)) := (Chg.refl _ w).alloc _
  have s1 := h.pure ca
  rcases hk with hk | hk
  · go_enter Try.func15, Try.ntmps15
    go_wp2_with (fail)
    refine (sack_any s1.snd n m credit).mono ?_
    rintro e w2 ⟨rfl, c2, s2⟩
    go_wp2
    refine bodyPost_end (v := .tuple #[]) (by unfold results; go_simp) rfl ⟨rfl, _, _, _, s1.turn c2 s2 (ackOf_data _ _ _ _ _ _)⟩
  · go_enter Try.func15, Try.ntmps15
    go_wp2_with (fail)
    refine (sres_any s1.snd n credit now).mono ?_
    rintro e w2 ⟨rfl, c2, s2⟩
    go_wp2
    refine bodyPost_end (v := .tuple #[]) (by unfold results; go_simp) rfl ⟨rfl, _, _, _, s1.turn c2 s2 (resOf_data _ _ _ _ _ _)⟩
end Go.Proofs.Ytlkpnhfdcljbfaa
