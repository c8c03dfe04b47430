/- A link that stands well: what was taken comes in order, in plain Lean. -/
import Derived.Test.YtnpkpfcljkekfaaLinkU
import Derived.Test.YtnpkpfcljkekfaaLinkS
import Derived.Test.YtnpkpfcljkekfaaTurned
namespace Go.Proofs.Ytnpkpfcljkekfaa
open Go Go.RowKit
set_option linter.unusedVariables false
set_option linter.unusedSimpArgs false
set_option maxRecDepth 100000

/-- A load came: it was polled, or is held. -/
def Rcv (T : Nat) (L : List (Option (List UInt8))) (n : Nat) : Prop := n ≤ T ∨ ∃ x, L[n - 1 - T]? = some (some x)
theorem lead_some : ∀ (L : List (Option (List UInt8))) (j : Nat), j < lead L → ∃ x, L[j]? = some (some x)
  | [], j, h => by simp [lead] at h
  | none :: L, j, h => by simp [lead] at h
  | some x :: L, 0, h => ⟨x, rfl⟩
  | some x :: L, j + 1, h => by
    rw [List.getElem?_cons_succ]
    exact lead_some L j (by rw [lead] at h; omega)
theorem lead_none : ∀ (L : List (Option (List UInt8))) (x : List UInt8), L[lead L]? ≠ some (some x)
  | [], x => by simp
  | none :: L, x => by simp [lead]
  | some y :: L, x => by
    rw [lead, List.getElem?_cons_succ]
    exact lead_none L x
theorem lead_len (L : List (Option (List UInt8))) : lead L ≤ L.length := by
  apply Classical.byContradiction
  intro h
  obtain ⟨x, hx⟩ := lead_some L L.length (by omega)
  simp at hx
theorem Rcv.low {T : Nat} {L : List (Option (List UInt8))} {n : Nat} (h : n ≤ T + lead L) : Rcv T L n := by
  by_cases h1 : n ≤ T
  · exact .inl h1
  · exact .inr (lead_some L _ (by omega))
/-- What came behind all that came is the next. -/
theorem Rcv.next {T : Nat} {L : List (Option (List UInt8))} {n : Nat} (h1 : n ≤ T + lead L) (h : Rcv T L (n + 1)) : n + 1 ≤ T + lead L := by
  apply Classical.byContradiction
  intro hh
  rcases h with h | ⟨x, h⟩
  · omega
  · exact lead_none L x (by rwa [show n + 1 - 1 - T = lead L from by omega] at h)
theorem bits_or_u64P (a b : Nat) (ha : a < 2 ^ 64) (hb : b < 2 ^ 64) : bits .or .u64 (a : Int) (b : Int) = ((a ||| b : Nat) : Int) := by
  have e : bits .or .u64 (a : Int) (b : Int) = IntKind.u64.wrap ((BitVec.ofInt 64 (a : Int) ||| BitVec.ofInt 64 (b : Int)).toNat : Int) := rfl
  rw [e, BitVec.toNat_or, BitVec.ofInt_natCast, BitVec.ofInt_natCast, BitVec.toNat_ofNat, BitVec.toNat_ofNat, Nat.mod_eq_of_lt ha, Nat.mod_eq_of_lt hb, IntKind.wrap_u64]
  have := Nat.or_lt_two_pow ha hb
  omega
theorem bits_and1P (a : Nat) (ha : a < 2 ^ 64) : bits .and .u64 (a : Int) 1 = ((a % 2 : Nat) : Int) := by
  have e : bits .and .u64 (a : Int) 1 = IntKind.u64.wrap ((BitVec.ofInt 64 (a : Int) &&& BitVec.ofInt 64 ((1 : Nat) : Int)).toNat : Int) := rfl
  rw [e, BitVec.toNat_and, BitVec.ofInt_natCast, BitVec.ofInt_natCast, BitVec.toNat_ofNat, BitVec.toNat_ofNat, Nat.mod_eq_of_lt ha, Nat.mod_eq_of_lt (by decide : 1 < 2 ^ 64), Nat.and_one_is_mod, IntKind.wrap_u64]
  omega
/-- The bits of an ack tell just what came. -/
theorem ackTo_nat (L : List (Option (List UInt8))) (n : Nat) : ∀ j, j ≤ 64 → ∃ a : Nat, ackTo L n j = (a : Int) ∧ a < 2 ^ 64 ∧ ∀ k, a.testBit k = (decide (n + 1 + k < j) && (L.getD (n + 1 + k) none).isSome)
  | 0, _ => ⟨0, rfl, by decide, fun k => by simp⟩
  | j + 1, hj => by
    obtain ⟨a, h1, h2, h3⟩ := ackTo_nat L n j (by omega)
    rw [ackTo, h1]
    by_cases hc : n < j ∧ (L.getD j none).isSome = true
    · rw [if_pos hc]
      have hb : 2 ^ (j - n - 1) < 2 ^ 64 := Nat.pow_lt_pow_right (by decide) (by omega)
      refine ⟨a ||| 2 ^ (j - n - 1), ?_, Nat.or_lt_two_pow h2 hb, fun k => ?_⟩
      · rw [← bits_or_u64P a _ h2 hb]; norm_cast
      · rw [Nat.testBit_or, h3, Nat.testBit_two_pow]
        by_cases hk : j - n - 1 = k
        · have e : n + 1 + k = j := by omega
          rw [e]
          simp [hk]
          simpa using hc.2
        · have e : (n + 1 + k < j + 1) = (n + 1 + k < j) := by apply propext; omega
          simp only [e, hk, decide_false, Bool.or_false]
    · rw [if_neg hc]
      refine ⟨a, rfl, h2, fun k => ?_⟩
      rw [h3]
      by_cases hk : n + 1 + k = j
      · have : ¬ (L.getD j none).isSome = true := fun h => hc ⟨by omega, h⟩
        rw [hk]
        simp [this]
        simpa using this
      · have e : (n + 1 + k < j + 1) = (n + 1 + k < j) := by apply propext; omega
        simp only [e]
theorem hit_came (T W : Nat) (L : List (Option (List UInt8))) (hW : W ≤ 64) (n : Nat) (hn : 1 ≤ n) (h : hit ((T + lead L : Nat) : Int) (UInt64.ofNat (ackTo L (lead L) W).toNat) (n : Int) = true) : Rcv T L n := by
  obtain ⟨a, h1, h2, h3⟩ := ackTo_nat L (lead L) W hW
  rw [h1] at h
  have ea : (UInt64.ofNat ((a : Int).toNat)).toNat = a := by rw [Int.toNat_natCast, UInt64.toNat_ofNat', Nat.mod_eq_of_lt h2]
  unfold hit at h
  rw [ea] at h
  rw [Bool.or_eq_true, Bool.and_eq_true, Bool.and_eq_true, decide_eq_true_eq, decide_eq_true_eq, decide_eq_true_eq] at h
  rcases h with h | ⟨⟨k1, k2⟩, h⟩
  · exact Rcv.low (by omega)
  · obtain ⟨k, hk⟩ : ∃ k : Nat, (n : Int) - ((T + lead L : Nat) : Int) - 2 = (k : Int) := ⟨_, (Int.toNat_of_nonneg k1).symm⟩
    rw [hk, Int.toNat_natCast] at h
    have e2 : ((a : Int) / 2 ^ k) = ((a / 2 ^ k : Nat) : Int) := by norm_cast
    rw [e2, bits_and1P _ (Nat.lt_of_le_of_lt (Nat.div_le_self _ _) h2)] at h
    have hb : a.testBit k = true := by
      rw [Nat.testBit_eq_decide_div_mod_eq, decide_eq_true_eq]
      have h4 := bne_iff_ne.1 h
      omega
    rw [h3, Bool.and_eq_true, decide_eq_true_eq] at hb
    right
    have e3 : n - 1 - T = lead L + 1 + k := by omega
    rw [e3]
    have h5 := hb.2
    rw [List.getD_eq_getElem?_getD] at h5
    cases hx : L[lead L + 1 + k]? with
    | none => rw [hx] at h5; cases h5
    | some y =>
      cases y with
      | none => rw [hx] at h5; cases h5
      | some z => exact ⟨z, rfl⟩
/-- Bytes that no link of this token takes. -/
def Bad (token : UInt64) (b : List UInt8) : Prop := (unpR b).2 ≠ 0 ∨ (unpR b).1.token ≠ token
/-- What may be on the way to the receiver. -/
def Gr0 (token : UInt64) (epoch : Nat) (S : List (List UInt8)) (g : List UInt8 × Bool) : Prop :=
  (g.2 = true ∧ Bad token g.1) ∨ (g.2 = false ∧ ∃ n ep, 1 ≤ n ∧ n ≤ S.length ∧ ep ≤ epoch ∧ g.1 = packB ((dueM n (S.getD (n - 1) [])).sealed token ep))
/-- What may be on the way to the sender. -/
def Gr1 (token : UInt64) (epoch W T : Nat) (L : List (Option (List UInt8))) (g : List UInt8 × Bool) : Prop :=
  (g.2 = true ∧ Bad token g.1) ∨ (g.2 = false ∧ ∃ T0 L0 ep, T0 ≤ T ∧ L0.length = W ∧ T0 + lead L0 ≤ T + lead L ∧ (∀ n : Nat, 1 ≤ n → hit ((T0 + lead L0 : Nat) : Int) (UInt64.ofNat (ackTo L0 (lead L0) W).toNat) (n : Int) = true → Rcv T L n) ∧ ep ≤ epoch ∧ g.1 = packB ((ackM T0 W L0).sealed token ep))
/-- A link stands so that S are the loads that it took. -/
structure Good (s : Lp) (S : List (List UInt8)) : Prop where
  sent : S.length = s.sent
  w1 : 1 ≤ s.W
  w2 : s.W ≤ 32
  got : s.got = s.T
  len : s.L.length = s.W
  all : s.base + s.Ls.length = s.sent + 1
  b1 : 1 ≤ s.base
  data : ∀ j x, s.Ls[j]? = some x → x.data = S.getD (s.base - 1 + j) []
  small : ∀ x, x ∈ S → x.length ≤ 1100
  held : ∀ k x, s.L[k]? = some (some x) → s.T + k < s.sent ∧ x = S.getD (s.T + k) []
  ts : s.T ≤ s.sent
  sw : s.sent ≤ s.T + s.W
  low : s.base ≤ s.T + lead s.L + 1
  lim : s.lim ≤ s.T + s.W
  there : ∀ j x, s.Ls[j]? = some x → x.there = true → Rcv s.T s.L (s.base + j)
  g0 : ∀ g, g ∈ s.G0 → Gr0 s.token s.epoch S g
  g1 : ∀ g, g ∈ s.G1 → Gr1 s.token s.epoch s.W s.T s.L g
  l0 : s.G0.length ≤ 256
  l1 : s.G1.length ≤ 256
theorem good_new (W : Nat) (token : UInt64) (h1 : 1 ≤ W) (h2 : W ≤ 32) : Good (newL W token) [] := by
  have hn : ∀ (k : Nat) (x : List UInt8), (List.replicate W (none : Option (List UInt8)))[k]? ≠ some (some x) := by
    intro k x h
    rw [List.getElem?_replicate] at h
    split at h <;> simp at h
  unfold newL
  refine ⟨rfl, h1, h2, rfl, by simp, rfl, Nat.le_refl _, ?_, ?_, ?_, Nat.le_refl _, by simp, by simp, by simp, ?_, ?_, ?_, by simp, by simp⟩
  · intro j x h; simp at h
  · intro x h; simp at h
  · intro k x h; exact absurd h (hn k x)
  · intro j x h; simp at h
  · intro g h; simp at h
  · intro g h; simp at h
theorem getD_app (S x : List (List UInt8)) (k : Nat) (h : k < S.length) : (S ++ x).getD k [] = S.getD k [] := by
  rw [List.getD_eq_getElem?_getD, List.getD_eq_getElem?_getD, List.getElem?_append_left h]
theorem Gr0.more {token : UInt64} {epoch : Nat} {S : List (List UInt8)} {g : List UInt8 × Bool} (h : Gr0 token epoch S g) (e' : Nat) (he : epoch ≤ e') (x : List (List UInt8)) : Gr0 token e' (S ++ x) g := by
  rcases h with h | ⟨h1, n, ep, h2, h3, h4, h5⟩
  · exact .inl h
  · refine .inr ⟨h1, n, ep, h2, by simp; omega, by omega, ?_⟩
    rw [h5, getD_app _ _ _ (by omega)]
theorem good_send {s : Lp} {S : List (List UInt8)} (h : Good s S) (xs : List UInt8) : Good (sendL s xs).2 (if (sendL s xs).1 = 0 then S ++ [xs] else S) := by
  unfold sendL
  split
  · simpa using h
  rename_i hbig
  unfold pushOf
  split
  · exact ⟨h.sent, h.w1, h.w2, h.got, h.len, h.all, h.b1, h.data, h.small, h.held, h.ts, h.sw, h.low, h.lim, h.there, h.g0, h.g1, h.l0, h.l1⟩
  split
  · exact ⟨h.sent, h.w1, h.w2, h.got, h.len, h.all, h.b1, h.data, h.small, h.held, h.ts, h.sw, h.low, h.lim, h.there, h.g0, h.g1, h.l0, h.l1⟩
  split
  · exact ⟨h.sent, h.w1, h.w2, h.got, h.len, h.all, h.b1, h.data, h.small, h.held, h.ts, h.sw, h.low, h.lim, h.there, h.g0, h.g1, h.l0, h.l1⟩
  rename_i hroom
  have a := h.all; have b := h.lim; have c := h.b1; have se := h.sent
  have hS : ∀ k, k < s.sent → (S ++ [xs]).getD k [] = S.getD k [] := fun k hk => getD_app _ _ _ (by omega)
  simp only [if_true]
  refine ⟨by simp [h.sent], h.w1, h.w2, h.got, h.len, by simp; omega, h.b1, ?_, ?_, ?_, Nat.le_succ_of_le h.ts, by show s.sent + 1 ≤ s.T + s.W; omega, h.low, h.lim, ?_, ?_, h.g1, h.l0, h.l1⟩
  · intro j x hx
    simp only at hx ⊢
    by_cases hj : j < s.Ls.length
    · rw [List.getElem?_append_left hj] at hx
      rw [hS _ (by omega)]
      exact h.data j x hx
    · rw [List.getElem?_append_right (by omega)] at hx
      have hj2 : j = s.Ls.length := by
        have := (List.getElem?_eq_some_iff.1 hx).1
        simp at this
        omega
      subst hj2
      simp at hx
      subst hx
      simp only
      rw [show s.base - 1 + s.Ls.length = S.length from by omega]
      simp
  · intro x hx
    rcases List.mem_append.1 hx with hx | hx
    · exact h.small x hx
    · simp at hx; subst hx; omega
  · intro k x hx
    obtain ⟨h1, h2⟩ := h.held k x hx
    exact ⟨Nat.lt_succ_of_lt h1, by rw [hS _ h1]; exact h2⟩
  · intro j x hx hth
    simp only at hx ⊢
    by_cases hj : j < s.Ls.length
    · rw [List.getElem?_append_left hj] at hx
      exact h.there j x hx hth
    · rw [List.getElem?_append_right (by omega)] at hx
      have hj2 : j = s.Ls.length := by
        have := (List.getElem?_eq_some_iff.1 hx).1
        simp at this
        omega
      subst hj2
      simp at hx
      subst hx
      cases hth
  · intro g hg
    exact (h.g0 g hg).more _ (Nat.le_refl _) _
theorem Rcv.shift {T : Nat} {x : Option (List UInt8)} {L : List (Option (List UInt8))} {n : Nat} (h : Rcv T (x :: L) n) : Rcv (T + 1) (L ++ [none]) n := by
  by_cases h1 : n ≤ T + 1
  · exact .inl h1
  · rcases h with h | ⟨y, h⟩
    · omega
    · refine .inr ⟨y, ?_⟩
      rw [show n - 1 - T = (n - 1 - (T + 1)) + 1 from by omega, List.getElem?_cons_succ] at h
      rw [List.getElem?_append_left (List.getElem?_eq_some_iff.1 h).1]
      exact h
theorem lead_app : ∀ (L : List (Option (List UInt8))), lead (L ++ [none]) = lead L
  | [] => rfl
  | none :: _ => rfl
  | some _ :: L => by simp only [List.cons_append, lead]; rw [lead_app L]
theorem Gr1.same {token : UInt64} {epoch W T T' : Nat} {L L' : List (Option (List UInt8))} {g : List UInt8 × Bool} (h : Gr1 token epoch W T L g) (e' : Nat) (he : epoch ≤ e') (hT : T ≤ T') (hl : T + lead L ≤ T' + lead L') (hr : ∀ n, Rcv T L n → Rcv T' L' n) : Gr1 token e' W T' L' g := by
  rcases h with h | ⟨h1, T0, L0, ep, h2, h3, h4, h5, h6, h7⟩
  · exact .inl h
  · exact .inr ⟨h1, T0, L0, ep, by omega, h3, by omega, fun n hn hh => hr n (h5 n hn hh), by omega, h7⟩
theorem good_poll {s : Lp} {S : List (List UInt8)} (h : Good s S) : Good (pollL s).2 S ∧ ∀ x, (pollL s).1 = some x → s.T < S.length ∧ x = S.getD s.T [] ∧ (pollL s).2.got = s.got + 1 := by
  unfold pollL
  split
  · rename_i xs L hL
    have hx := h.held 0 xs (by rw [hL]; rfl)
    rw [Nat.add_zero] at hx
    have hlen := h.len
    rw [hL] at hlen
    have a := h.low
    rw [hL, lead] at a
    refine ⟨⟨h.sent, h.w1, h.w2, by show s.got + 1 = s.T + 1; rw [h.got], by simp at hlen ⊢; omega, h.all, h.b1, h.data, h.small, ?_, hx.1, by have := h.sw; show s.sent ≤ s.T + 1 + s.W; omega, ?_, by have := h.lim; show s.lim ≤ s.T + 1 + s.W; omega, ?_, h.g0, ?_, h.l0, h.l1⟩, ?_⟩
    · intro k x hk
      simp only at hk ⊢
      have hk2 : k < L.length := by
        apply Classical.byContradiction
        intro hh
        rw [List.getElem?_append_right (by omega)] at hk
        rcases (by omega : k - L.length = 0 ∨ 0 < k - L.length) with e | e
        · rw [e] at hk; simp at hk
        · rw [List.getElem?_eq_none (by simp; omega)] at hk; cases hk
      rw [List.getElem?_append_left hk2] at hk
      have := h.held (k + 1) x (by rw [hL, List.getElem?_cons_succ]; exact hk)
      rw [show s.T + (k + 1) = s.T + 1 + k from by omega] at this
      exact this
    · show s.base ≤ s.T + 1 + lead (L ++ [none]) + 1
      rw [lead_app]
      omega
    · intro j x hx hth
      have := h.there j x hx hth
      rw [hL] at this
      exact this.shift
    · intro g hg
      have := h.g1 g hg
      rw [hL] at this
      exact this.same _ (Nat.le_refl _) (Nat.le_succ _) (by show s.T + lead (some xs :: L) ≤ s.T + 1 + lead (L ++ [none]); rw [lead_app, lead]; omega) (fun n hn => hn.shift)
    · intro x hx'
      cases hx'
      exact ⟨by have := h.sent; omega, hx.2, rfl⟩
  · exact ⟨h, fun x hx => by cases hx⟩
/-- Other datagrams on the ways. -/
theorem Good.ways {s : Lp} {S : List (List UInt8)} (h : Good s S) (G0 G1 : List (List UInt8 × Bool)) (h0 : ∀ g, g ∈ G0 → Gr0 s.token s.epoch S g) (h1 : ∀ g, g ∈ G1 → Gr1 s.token s.epoch s.W s.T s.L g) (l0 : G0.length ≤ 256) (l1 : G1.length ≤ 256) : Good { s with G0 := G0, G1 := G1 } S :=
  ⟨h.sent, h.w1, h.w2, h.got, h.len, h.all, h.b1, h.data, h.small, h.held, h.ts, h.sw, h.low, h.lim, h.there, h0, h1, l0, l1⟩
theorem putG_lenG {α : Type} {G : List α} {d : α} (h : G.length ≤ 256) : (putG G d).length ≤ 256 := by
  unfold putG
  split
  · simp; omega
  · exact h
theorem dueOut_data (now : Int) (S : List (List UInt8)) : ∀ (n : Nat) (l : List Ld), (∀ j x, l[j]? = some x → x.data = S.getD (n - 1 + j) []) → 1 ≤ n → ∀ e, e ∈ dueOut now n l → n ≤ e.1 ∧ e.1 < n + l.length ∧ e.2 = S.getD (e.1 - 1) []
  | n, [], h, hn, e, he => by cases he
  | n, x :: l, h, hn, e, he => by
    have ih := dueOut_data now S (n + 1) l (fun j y hy => by
      have := h (j + 1) y (by rw [List.getElem?_cons_succ]; exact hy)
      rw [this]; congr 1; omega) (by omega) e
    have key : e ∈ dueOut now (n + 1) l → n ≤ e.1 ∧ e.1 < n + (x :: l).length ∧ e.2 = S.getD (e.1 - 1) [] := by
      intro hm
      obtain ⟨i1, i2, i3⟩ := ih hm
      exact ⟨by omega, by rw [List.length_cons]; omega, i3⟩
    rw [dueOut] at he
    split at he
    · rcases List.mem_cons.1 he with rfl | he
      · refine ⟨Nat.le_refl _, by simp, ?_⟩
        have := h 0 x rfl
        simpa using this
      · exact key he
    · exact key he
theorem told_fold (token : UInt64) (epoch : Nat) (S : List (List UInt8)) : ∀ (l : List (Nat × List UInt8)) (G : List (List UInt8 × Bool)), (∀ e, e ∈ l → 1 ≤ e.1 ∧ e.1 ≤ S.length ∧ e.2 = S.getD (e.1 - 1) []) → (∀ g, g ∈ G → Gr0 token epoch S g) → G.length ≤ 256 →
    (∀ g, g ∈ l.foldl (toldG token epoch) G → Gr0 token epoch S g) ∧ (l.foldl (toldG token epoch) G).length ≤ 256
  | [], G, _, h, hl => ⟨h, hl⟩
  | e :: l, G, he, h, hl => by
    rw [List.foldl_cons]
    obtain ⟨e1, e2, e3⟩ := he e (by simp)
    refine told_fold token epoch S l _ (fun x hx => he x (by simp [hx])) ?_ (putG_lenG hl)
    intro g hg
    rcases putG_mem hg with hg | rfl
    · exact h g hg
    · exact .inr ⟨rfl, e.1, epoch, e1, e2, Nat.le_refl _, by rw [e3]⟩
theorem dueLd_data (now : Int) (x : Ld) : (dueLd now x).data = x.data ∧ (dueLd now x).there = x.there := by
  unfold dueLd
  split <;> exact ⟨rfl, rfl⟩
theorem good_ticked {s : Lp} {S : List (List UInt8)} (h : Good s S) (now : Nat) (Ls : List Ld) (G0 G1 : List (List UInt8 × Bool)) (hl : Ls.length = s.Ls.length) (hd : ∀ (j : Nat) (x : Ld), Ls[j]? = some x → ∃ y : Ld, s.Ls[j]? = some y ∧ x.data = y.data ∧ x.there = y.there)
    (t0 : ∀ g, g ∈ G0 → Gr0 s.token s.epoch S g) (t1 : ∀ g, g ∈ G1 → Gr1 s.token s.epoch s.W s.T s.L g) (l0 : G0.length ≤ 256) (l1 : G1.length ≤ 256) : Good { s with now := now, Ls := Ls, G0 := G0, G1 := G1 } S := by
  refine ⟨h.sent, h.w1, h.w2, h.got, h.len, by show s.base + Ls.length = s.sent + 1; rw [hl]; exact h.all, h.b1, ?_, h.small, h.held, h.ts, h.sw, h.low, h.lim, ?_, t0, t1, l0, l1⟩
  · intro j x hx
    obtain ⟨y, h1, h2, h3⟩ := hd j x hx
    rw [h2]
    exact h.data j y h1
  · intro j x hx hth
    obtain ⟨y, h1, h2, h3⟩ := hd j x hx
    exact h.there j y h1 (h3 ▸ hth)
theorem good_tick {s : Lp} {S : List (List UInt8)} (h : Good s S) : Good (tickL s) S := by
  have a := h.all; have b := h.b1; have se := h.sent
  have hw2 := h.w2
  have H1 : ∀ e, e ∈ (dueOf ((s.now : Int) + 1) s.base s.Ls).1 → 1 ≤ e.1 ∧ e.1 ≤ S.length ∧ e.2 = S.getD (e.1 - 1) [] := by
    unfold dueOf
    split
    · intro e he
      obtain ⟨h1, h2, h3⟩ := dueOut_data _ S s.base s.Ls h.data b e he
      exact ⟨by omega, by omega, h3⟩
    · intro e he; cases he
  have H2 : (dueOf ((s.now : Int) + 1) s.base s.Ls).2.length = s.Ls.length ∧ ∀ (j : Nat) (x : Ld), (dueOf ((s.now : Int) + 1) s.base s.Ls).2[j]? = some x → ∃ y : Ld, s.Ls[j]? = some y ∧ x.data = y.data ∧ x.there = y.there := by
    unfold dueOf
    split
    · refine ⟨by simp, ?_⟩
      intro j x hx
      simp only at hx
      rw [List.getElem?_map] at hx
      cases hy : s.Ls[j]? with
      | none => rw [hy] at hx; cases hx
      | some y =>
        rw [hy] at hx
        simp at hx
        subst hx
        exact ⟨y, rfl, (dueLd_data _ _).1, (dueLd_data _ _).2⟩
    · exact ⟨rfl, fun j x hx => ⟨x, hx, rfl, rfl⟩⟩
  obtain ⟨t1, t2⟩ := told_fold s.token s.epoch S _ s.G0 H1 h.g0 h.l0
  have t3 : ∀ g, g ∈ putG s.G1 (packB ((ackM s.T s.W s.L).sealed s.token s.epoch), false) → Gr1 s.token s.epoch s.W s.T s.L g := by
    intro g hg
    rcases putG_mem hg with hg | rfl
    · exact h.g1 g hg
    · exact .inr ⟨rfl, s.T, s.L, s.epoch, Nat.le_refl _, h.len, Nat.le_refl _, fun n hn hh => hit_came s.T s.W s.L (by omega) n hn hh, Nat.le_refl _, rfl⟩
  have key := good_ticked h (s.now + 1) _ _ _ H2.1 H2.2 t1 t3 t2 (putG_lenG h.l1)
  unfold tickL
  by_cases hm : s.now = 1099511627776
  · rw [if_pos hm]; exact h
  · rw [if_neg hm]; exact key
end Go.Proofs.Ytnpkpfcljkekfaa
namespace Go.Proofs.Ytnpkpfcljkekfaa
open Go Go.RowKit
set_option linter.unusedVariables false
set_option linter.unusedSimpArgs false
set_option maxRecDepth 100000

theorem lead_grows : ∀ (L : List (Option (List UInt8))) (k : Nat) (xs : List UInt8), lead L ≤ lead (L.set k (some xs))
  | [], _, _ => Nat.le_refl _
  | none :: _, _, _ => Nat.zero_le _
  | some _ :: L, 0, xs => by simp only [List.set_cons_zero, lead]; omega
  | some _ :: L, k + 1, xs => by have := lead_grows L k xs; simp only [List.set_cons_succ, lead]; omega
theorem Rcv.put {T : Nat} {L : List (Option (List UInt8))} {n : Nat} (h : Rcv T L n) (k : Nat) (xs : List UInt8) : Rcv T (L.set k (some xs)) n := by
  rcases h with h | ⟨x, h⟩
  · exact .inl h
  · right
    rw [List.getElem?_set]
    split
    · rename_i e
      rw [if_pos (by have := (List.getElem?_eq_some_iff.1 h).1; omega)]
      exact ⟨xs, rfl⟩
    · exact ⟨x, h⟩
/-- A load came. -/
theorem good_data {s : Lp} {S : List (List UInt8)} (h : Good s S) (n : Nat) (hn : 1 ≤ n) (hS : n ≤ S.length) : Good { s with L := (dataR s.W s.T s.L (n : Int) (S.getD (n - 1) [])).2 } S := by
  have hsame : Good { s with L := s.L } S := h
  unfold dataR
  split
  · exact h
  split
  · exact h
  split
  · exact h
  split
  · exact h
  split
  · exact h
  rename_i h1 h2 h3 h4 h5
  have se := h.sent
  rw [Int.toNat_natCast]
  refine ⟨h.sent, h.w1, h.w2, h.got, by show (s.L.set _ _).length = s.W; rw [List.length_set]; exact h.len, h.all, h.b1, h.data, h.small, ?_, h.ts, h.sw, ?_, h.lim, ?_, h.g0, ?_, h.l0, h.l1⟩
  · intro k x hk
    simp only at hk ⊢
    rw [List.getElem?_set] at hk
    split at hk
    · rename_i e
      split at hk
      · simp at hk
        subst hk
        refine ⟨by omega, ?_⟩
        rw [show s.T + k = n - 1 from by omega, List.getD_eq_getElem?_getD]
      · cases hk
    · exact h.held k x hk
  · have := lead_grows s.L (n - s.T - 1) (S.getD (n - 1) [])
    have := h.low
    show s.base ≤ s.T + lead (s.L.set _ _) + 1
    omega
  · intro j x hx hth
    exact (h.there j x hx hth).put _ _
  · intro g hg
    exact (h.g1 g hg).same _ (Nat.le_refl _) (Nat.le_refl _) (Nat.add_le_add_left (lead_grows _ _ _) _) (fun m hm => hm.put _ _)
theorem doneN_there : ∀ (l : List Ld) (j : Nat), j < doneN l → ∃ x, l[j]? = some x ∧ x.there = true
  | [], j, h => by simp [doneN] at h
  | x :: l, j, h => by
    rw [doneN] at h
    split at h
    · rename_i hx
      cases j with
      | zero => exact ⟨x, rfl, hx⟩
      | succ j => rw [List.getElem?_cons_succ]; exact doneN_there l j (by omega)
    · omega
/-- The sender's loads are struck: those that came. -/
theorem good_struck {s : Lp} {S : List (List UInt8)} (h : Good s S) (Ls : List Ld) (lim : Nat) (hl : Ls.length = s.Ls.length) (hd : ∀ (j : Nat) (x : Ld), Ls[j]? = some x → ∃ y : Ld, s.Ls[j]? = some y ∧ x.data = y.data ∧ (x.there = true → Rcv s.T s.L (s.base + j))) (hlim : lim ≤ s.T + s.W) :
    Good { s with base := s.base + doneN Ls, lim := lim, Ls := Ls.drop (doneN Ls) } S := by
  have hle : doneN Ls ≤ Ls.length := by
    apply Classical.byContradiction
    intro hh
    obtain ⟨x, hx, -⟩ := doneN_there Ls Ls.length (by omega)
    simp at hx
  have a := h.all; have b := h.b1
  have hcame : ∀ k, k ≤ doneN Ls → s.base + k ≤ s.T + lead s.L + 1 := by
    intro k
    induction k with
    | zero => intro _; exact h.low
    | succ k ih =>
      intro hk
      have i1 := ih (by omega)
      obtain ⟨x, hx, hth⟩ := doneN_there Ls k (by omega)
      obtain ⟨y, -, -, hy⟩ := hd k x hx
      have := hy hth
      have h2 : Rcv s.T s.L ((s.base + k - 1) + 1) := by rwa [show s.base + k - 1 + 1 = s.base + k from by omega]
      have := h2.next (by omega)
      omega
  refine ⟨h.sent, h.w1, h.w2, h.got, h.len, by show s.base + doneN Ls + (Ls.drop _).length = s.sent + 1; rw [List.length_drop]; omega, by show 1 ≤ s.base + _; omega, ?_, h.small, h.held, h.ts, h.sw, hcame _ (Nat.le_refl _), hlim, ?_, h.g0, h.g1, h.l0, h.l1⟩
  · intro j x hx
    simp only at hx ⊢
    rw [List.getElem?_drop] at hx
    obtain ⟨y, h1, h2, -⟩ := hd _ x hx
    rw [h2, h.data _ y h1]
    congr 1
    omega
  · intro j x hx hth
    simp only at hx ⊢
    rw [List.getElem?_drop] at hx
    obtain ⟨y, -, -, h3⟩ := hd _ x hx
    have := h3 hth
    rwa [show s.base + doneN Ls + j = s.base + (doneN Ls + j) from by omega]
theorem mapIdx_at (f : Nat → Ld → Ld) (l : List Ld) (j : Nat) (x : Ld) (h : (l.mapIdx f)[j]? = some x) : ∃ y, l[j]? = some y ∧ x = f j y := by
  rw [List.getElem?_mapIdx] at h
  cases hy : l[j]? with
  | none => rw [hy] at h; cases h
  | some y => rw [hy] at h; simp at h; exact ⟨y, rfl, h.symm⟩
/-- An ack came. -/
theorem good_ack {s : Lp} {S : List (List UInt8)} (h : Good s S) (T0 : Nat) (L0 : List (Option (List UInt8))) (hT : T0 ≤ s.T) (hh : ∀ n : Nat, 1 ≤ n → hit ((T0 + lead L0 : Nat) : Int) (UInt64.ofNat (ackTo L0 (lead L0) s.W).toNat) (n : Int) = true → Rcv s.T s.L n) :
    Good { s with base := (ackOf s.base s.lim s.Ls ((T0 + lead L0 : Nat) : Int) (UInt64.ofNat (ackTo L0 (lead L0) s.W).toNat) ((T0 + s.W : Nat) : Int)).2.1, lim := (ackOf s.base s.lim s.Ls ((T0 + lead L0 : Nat) : Int) (UInt64.ofNat (ackTo L0 (lead L0) s.W).toNat) ((T0 + s.W : Nat) : Int)).2.2.1, Ls := (ackOf s.base s.lim s.Ls ((T0 + lead L0 : Nat) : Int) (UInt64.ofNat (ackTo L0 (lead L0) s.W).toNat) ((T0 + s.W : Nat) : Int)).2.2.2 } S := by
  generalize hm : UInt64.ofNat (ackTo L0 (lead L0) s.W).toNat = m at hh
  have b := h.b1
  by_cases hc : (0 : Int) ≤ ((T0 + lead L0 : Nat) : Int) ∧ ((T0 + lead L0 : Nat) : Int) < ((s.base + s.Ls.length : Nat) : Int) ∧ (0 : Int) ≤ ((T0 + s.W : Nat) : Int) ∧ ((T0 + s.W : Nat) : Int) ≤ 4611686018427387904
  · have hR : ackOf s.base s.lim s.Ls ((T0 + lead L0 : Nat) : Int) m ((T0 + s.W : Nat) : Int) = (0, s.base + doneN (s.Ls.mapIdx fun j x => ackLd ((T0 + lead L0 : Nat) : Int) m ((s.base + j : Nat) : Int) x), max s.lim ((T0 + s.W : Nat) : Int).toNat, (s.Ls.mapIdx fun j x => ackLd ((T0 + lead L0 : Nat) : Int) m ((s.base + j : Nat) : Int) x).drop (doneN (s.Ls.mapIdx fun j x => ackLd ((T0 + lead L0 : Nat) : Int) m ((s.base + j : Nat) : Int) x))) := by
      unfold ackOf; rw [if_pos hc]
    rw [hR]
    refine good_struck h _ _ (by simp) ?_ (by have := h.lim; rw [Int.toNat_natCast]; exact Nat.max_le.2 ⟨this, by omega⟩)
    intro j x hx
    obtain ⟨y, h1, rfl⟩ := mapIdx_at _ _ _ _ hx
    refine ⟨y, h1, ?_, ?_⟩
    · unfold ackLd; split <;> rfl
    · unfold ackLd
      split
      · rename_i hit1
        intro _
        exact hh _ (by omega) hit1
      · intro hth
        exact h.there j y h1 hth
  · have hR : ackOf s.base s.lim s.Ls ((T0 + lead L0 : Nat) : Int) m ((T0 + s.W : Nat) : Int) = (1, s.base, s.lim, s.Ls) := by
      unfold ackOf; rw [if_neg hc]
    rw [hR]
    exact h
/-- The connection is made anew. -/
theorem good_recon {s : Lp} {S : List (List UInt8)} (h : Good s S) : Good (reconL s) S := by
  have he : Good { s with epoch := s.epoch + 1 } S := ⟨h.sent, h.w1, h.w2, h.got, h.len, h.all, h.b1, h.data, h.small, h.held, h.ts, h.sw, h.low, h.lim, h.there, fun g hg => by
      have := (h.g0 g hg).more (s.epoch + 1) (Nat.le_succ _) []
      rwa [List.append_nil] at this, fun g hg => (h.g1 g hg).same (s.epoch + 1) (Nat.le_succ _) (Nat.le_refl _) (Nat.le_refl _) (fun n hn => hn), h.l0, h.l1⟩
  have a := h.all; have b := h.b1; have sw := h.sw
  unfold reconL
  generalize hnow : (s.now : Int) = now
  by_cases hc : (0 ≤ now ∧ now ≤ 1099511627776) ∧ 0 ≤ ((s.T : Int) + (lead s.L : Int)) ∧ ((s.T : Int) + (lead s.L : Int)) < ((s.base + s.Ls.length : Nat) : Int) ∧ 0 ≤ ((s.T : Int) + (s.W : Int)) ∧ ((s.T : Int) + (s.W : Int)) ≤ 4611686018427387904
  · have hR : resOf s.base s.lim s.Ls ((s.T : Int) + (lead s.L : Int)) ((s.T : Int) + (s.W : Int)) now = (0, s.base + doneN (s.Ls.mapIdx fun j x => resLd ((s.T : Int) + (lead s.L : Int)) now ((s.base + j : Nat) : Int) x), max ((s.T : Int) + (s.W : Int)).toNat (s.base + s.Ls.length - 1), (s.Ls.mapIdx fun j x => resLd ((s.T : Int) + (lead s.L : Int)) now ((s.base + j : Nat) : Int) x).drop (doneN (s.Ls.mapIdx fun j x => resLd ((s.T : Int) + (lead s.L : Int)) now ((s.base + j : Nat) : Int) x))) := by
      unfold resOf; rw [if_pos hc]
    rw [hR]
    refine good_struck he _ _ (by simp) ?_ (by show max _ _ ≤ s.T + s.W; exact Nat.max_le.2 ⟨by omega, by omega⟩)
    intro j x hx
    obtain ⟨y, h1, rfl⟩ := mapIdx_at _ _ _ _ hx
    refine ⟨y, h1, rfl, ?_⟩
    unfold resLd
    simp only [decide_eq_true_eq]
    intro hle
    exact Rcv.low (by omega)
  · have hR : resOf s.base s.lim s.Ls ((s.T : Int) + (lead s.L : Int)) ((s.T : Int) + (s.W : Int)) now = (1, s.base, s.lim, s.Ls) := by
      unfold resOf; rw [if_neg hc]
    rw [hR]
    exact he
end Go.Proofs.Ytnpkpfcljkekfaa
namespace Go.Proofs.Ytnpkpfcljkekfaa
open Go Go.RowKit
set_option linter.unusedVariables false
set_option linter.unusedSimpArgs false
set_option maxRecDepth 100000

/-- Numbers that are not too large to be told. -/
structure Near (s : Lp) : Prop where
  epoch : s.epoch ≤ 4611686018427387000
  sent : s.sent ≤ 4611686018427387000
theorem due_may (token : UInt64) (n ep : Nat) (x : List UInt8) (hn : n ≤ 4611686018427387904) (he : ep ≤ 4611686018427387904) : ((dueM n x).sealed token ep).may = true := by
  unfold Ms.may Ms.sealed dueM
  simp only [Bool.and_eq_true, decide_eq_true_eq]
  omega
theorem ack_may (token : UInt64) (T W ep : Nat) (L : List (Option (List UInt8))) (h1 : T + lead L ≤ 4611686018427387904) (h2 : T + W ≤ 4611686018427387904) (he : ep ≤ 4611686018427387904) : ((ackM T W L).sealed token ep).may = true := by
  unfold Ms.may Ms.sealed ackM
  simp only [Bool.and_eq_true, decide_eq_true_eq]
  omega
theorem due_un (token : UInt64) (n ep : Nat) (x : List UInt8) (hn : n ≤ 4611686018427387904) (he : ep ≤ 4611686018427387904) (hx : x.length ≤ 1100) : unpR (packB ((dueM n x).sealed token ep)) = ((dueM n x).sealed token ep, 0) := by
  have hm := due_may token n ep x hn he
  have := ((dueM n x).sealed token ep).bytes_len hm
  have e : ((dueM n x).sealed token ep).load.length = x.length := rfl
  exact unpR_pack _ hm (by omega)
theorem ack_un (token : UInt64) (T W ep : Nat) (L : List (Option (List UInt8))) (h1 : T + lead L ≤ 4611686018427387904) (h2 : T + W ≤ 4611686018427387904) (he : ep ≤ 4611686018427387904) : unpR (packB ((ackM T W L).sealed token ep)) = ((ackM T W L).sealed token ep, 0) := by
  have hm := ack_may token T W ep L h1 h2 he
  have := ((ackM T W L).sealed token ep).bytes_len hm
  have e : ((ackM T W L).sealed token ep).load.length = 0 := rfl
  exact unpR_pack _ hm (by omega)
theorem came_bad (s : Lp) (n : Int) (b : List UInt8) (h : Bad s.token b) : (cameL s n (unpR b).1 (unpR b).2).2 = s := by
  unfold cameL
  rcases h with h | h
  · rw [if_pos h]
  · split
    · rfl
    · rw [if_pos (.inl h)]
theorem good_erase0 {s : Lp} {S : List (List UInt8)} (h : Good s S) (i : Nat) : Good { s with G0 := s.G0.eraseIdx i } S := by
  have hl := List.length_eraseIdx_le s.G0 i
  exact h.ways (s.G0.eraseIdx i) s.G1 (fun g hg => h.g0 g (List.mem_of_mem_eraseIdx hg)) h.g1 (Nat.le_trans hl h.l0) h.l1
theorem good_erase1 {s : Lp} {S : List (List UInt8)} (h : Good s S) (i : Nat) : Good { s with G1 := s.G1.eraseIdx i } S := by
  have hl := List.length_eraseIdx_le s.G1 i
  exact h.ways s.G0 (s.G1.eraseIdx i) h.g0 (fun g hg => h.g1 g (List.mem_of_mem_eraseIdx hg)) h.l0 (Nat.le_trans hl h.l1)
theorem good_twice0 {s : Lp} {S : List (List UInt8)} (h : Good s S) (d : List UInt8 × Bool) (hd : d ∈ s.G0) : Good { s with G0 := putG s.G0 d } S :=
  h.ways (putG s.G0 d) s.G1 (fun g hg => (putG_mem hg).elim (h.g0 g) (fun e => e ▸ h.g0 d hd)) h.g1 (putG_lenG h.l0) h.l1
theorem good_twice1 {s : Lp} {S : List (List UInt8)} (h : Good s S) (d : List UInt8 × Bool) (hd : d ∈ s.G1) : Good { s with G1 := putG s.G1 d } S :=
  h.ways s.G0 (putG s.G1 d) h.g0 (fun g hg => (putG_mem hg).elim (h.g1 g) (fun e => e ▸ h.g1 d hd)) h.l0 (putG_lenG h.l1)
theorem good_forge0 {s : Lp} {S : List (List UInt8)} (h : Good s S) (b : List UInt8) (hb : Bad s.token b) : Good { s with G0 := putG s.G0 (b, true) } S :=
  h.ways (putG s.G0 (b, true)) s.G1 (fun g hg => (putG_mem hg).elim (h.g0 g) (fun e => .inl (e ▸ ⟨rfl, hb⟩))) h.g1 (putG_lenG h.l0) h.l1
theorem good_forge1 {s : Lp} {S : List (List UInt8)} (h : Good s S) (b : List UInt8) (hb : Bad s.token b) : Good { s with G1 := putG s.G1 (b, true) } S :=
  h.ways s.G0 (putG s.G1 (b, true)) h.g0 (fun g hg => (putG_mem hg).elim (h.g1 g) (fun e => .inl (e ▸ ⟨rfl, hb⟩))) h.l0 (putG_lenG h.l1)
theorem good_turn0 {s : Lp} {S : List (List UInt8)} (h : Good s S) (i : Nat) (b : List UInt8) (hb : Bad s.token b) : Good { s with G0 := s.G0.set i (b, true) } S :=
  h.ways (s.G0.set i (b, true)) s.G1 (fun g hg => (List.mem_or_eq_of_mem_set hg).elim (h.g0 g) (fun e => .inl (e ▸ ⟨rfl, hb⟩))) h.g1 (by rw [List.length_set]; exact h.l0) h.l1
theorem good_turn1 {s : Lp} {S : List (List UInt8)} (h : Good s S) (i : Nat) (b : List UInt8) (hb : Bad s.token b) : Good { s with G1 := s.G1.set i (b, true) } S :=
  h.ways s.G0 (s.G1.set i (b, true)) h.g0 (fun g hg => (List.mem_or_eq_of_mem_set hg).elim (h.g1 g) (fun e => .inl (e ▸ ⟨rfl, hb⟩))) h.l0 (by rw [List.length_set]; exact h.l1)
theorem good_deliver0 {s : Lp} {S : List (List UInt8)} (h : Good s S) (hN : Near s) (i : Nat) (b : List UInt8) (sp : Bool) (hi : s.G0[i]? = some (b, sp)) : Good (cameL { s with G0 := s.G0.eraseIdx i } 0 (unpR b).1 (unpR b).2).2 S := by
  have he := good_erase0 h i
  have hg := h.g0 (b, sp) (List.mem_of_getElem? hi)
  rcases hg with ⟨-, hb⟩ | ⟨-, n, ep, h1, h2, h3, h4⟩
  · rw [came_bad { s with G0 := s.G0.eraseIdx i } 0 b hb]
    exact he
  · simp only at h4
    have hx : (S.getD (n - 1) []).length ≤ 1100 := by
      apply h.small
      rw [List.getD_eq_getElem?_getD, List.getElem?_eq_getElem (by omega)]
      exact List.getElem_mem _
    have hs := h.sent; have n1 := hN.epoch; have n2 := hN.sent
    have hu := due_un s.token n ep (S.getD (n - 1) []) (by omega) (by omega) hx
    rw [h4, hu]
    unfold cameL
    rw [if_neg (by simp), if_neg (by rintro (e | e) <;> exact e rfl)]
    by_cases hep : ((dueM n (S.getD (n - 1) [])).sealed s.token ep).epoch ≠ (s.epoch : Int)
    · rw [if_pos hep]; exact he
    · rw [if_neg hep, if_pos rfl]
      exact good_data he n h1 h2
theorem good_deliver1 {s : Lp} {S : List (List UInt8)} (h : Good s S) (hN : Near s) (i : Nat) (b : List UInt8) (sp : Bool) (hi : s.G1[i]? = some (b, sp)) : Good (cameL { s with G1 := s.G1.eraseIdx i } 1 (unpR b).1 (unpR b).2).2 S := by
  have he := good_erase1 h i
  have hg := h.g1 (b, sp) (List.mem_of_getElem? hi)
  rcases hg with ⟨-, hb⟩ | ⟨-, T0, L0, ep, h1, h2, h3, h4, h5, h6⟩
  · rw [came_bad { s with G1 := s.G1.eraseIdx i } 1 b hb]
    exact he
  · simp only at h6
    have hs := h.sent; have n1 := hN.epoch; have n2 := hN.sent; have ts := h.ts; have w2 := h.w2
    have hl := lead_len L0
    have hu := ack_un s.token T0 s.W ep L0 (by omega) (by omega) (by omega)
    rw [h6, hu]
    unfold cameL
    rw [if_neg (by simp), if_neg (by rintro (e | e) <;> exact e rfl)]
    by_cases hep : ((ackM T0 s.W L0).sealed s.token ep).epoch ≠ (s.epoch : Int)
    · rw [if_pos hep]; exact he
    · rw [if_neg hep, if_neg (by decide)]
      exact good_ack he T0 L0 h1 h4
end Go.Proofs.Ytnpkpfcljkekfaa
namespace Go.Proofs.Ytnpkpfcljkekfaa
open Go Go.RowKit
set_option linter.unusedVariables false
set_option linter.unusedSimpArgs false
set_option maxRecDepth 100000

/-- No load waits for long. -/
def Soon (now : Nat) (Ls : List Ld) : Prop := ∀ x, x ∈ Ls → x.time ≤ (now : Int) + 64 ∧ 1 ≤ x.wait ∧ x.wait ≤ 64
theorem soon_send {s : Lp} (h : Soon s.now s.Ls) (xs : List UInt8) : Soon (sendL s xs).2.now (sendL s xs).2.Ls := by
  unfold sendL
  split
  · exact h
  unfold pushOf
  split
  · exact h
  split
  · exact h
  split
  · exact h
  intro x hx
  rcases List.mem_append.1 hx with hx | hx
  · exact h x hx
  · simp at hx; subst hx; exact ⟨by show (s.now : Int) ≤ (s.now : Int) + 64; omega, by show (1 : Int) ≤ 1; omega, by show (1 : Int) ≤ 64; omega⟩
theorem soon_poll {s : Lp} (h : Soon s.now s.Ls) : Soon (pollL s).2.now (pollL s).2.Ls := by
  unfold pollL
  split <;> exact h
theorem dueLd_soon (now : Nat) (x : Ld) (h : x.time ≤ (now : Int) + 64 ∧ 1 ≤ x.wait ∧ x.wait ≤ 64) : (dueLd ((now : Int) + 1) x).time ≤ ((now + 1 : Nat) : Int) + 64 ∧ 1 ≤ (dueLd ((now : Int) + 1) x).wait ∧ (dueLd ((now : Int) + 1) x).wait ≤ 64 := by
  obtain ⟨h1, h2, h3⟩ := h
  unfold dueLd
  split
  · refine ⟨by show (now : Int) + 1 + x.wait ≤ _; omega, ?_, ?_⟩
    · show 1 ≤ (if 64 < 2 * x.wait then (64 : Int) else 2 * x.wait)
      split <;> omega
    · show (if 64 < 2 * x.wait then (64 : Int) else 2 * x.wait) ≤ 64
      split <;> omega
  · exact ⟨by omega, h2, h3⟩
theorem due_soon (now base : Nat) (Ls : List Ld) (h : Soon now Ls) : Soon (now + 1) (dueOf ((now : Int) + 1) base Ls).2 := by
  unfold dueOf
  split
  · intro x hx
    obtain ⟨y, hy, rfl⟩ := List.mem_map.1 hx
    exact dueLd_soon now y (h y hy)
  · intro x hx
    obtain ⟨h1, h2, h3⟩ := h x hx
    exact ⟨by omega, h2, h3⟩
theorem tick_stop {s : Lp} (h : s.now = 1099511627776) : tickL s = s := if_pos h
theorem tick_go {s : Lp} (h : ¬ s.now = 1099511627776) : tickL s = { s with now := s.now + 1, Ls := (dueOf ((s.now : Int) + 1) s.base s.Ls).2, G0 := (dueOf ((s.now : Int) + 1) s.base s.Ls).1.foldl (toldG s.token s.epoch) s.G0, G1 := putG s.G1 (packB ((ackM s.T s.W s.L).sealed s.token s.epoch), false) } := if_neg h
def SoonL (s : Lp) : Prop := Soon s.now s.Ls
theorem soon_ticked (s : Lp) (now : Nat) (Ls : List Ld) (G0 G1 : List (List UInt8 × Bool)) (h : Soon now Ls) : SoonL { s with now := now, Ls := Ls, G0 := G0, G1 := G1 } := h
theorem soon_tick {s : Lp} (h : SoonL s) : SoonL (tickL s) := by
  by_cases hm : s.now = 1099511627776
  · rw [tick_stop hm]; exact h
  · rw [tick_go hm]
    exact soon_ticked s _ _ _ _ (due_soon s.now s.base s.Ls h)
theorem soon_ack (now base lim : Nat) (Ls : List Ld) (ack : Int) (m : UInt64) (credit : Int) (h : Soon now Ls) : Soon now (ackOf base lim Ls ack m credit).2.2.2 := by
  by_cases hc : 0 ≤ ack ∧ ack < ((base + Ls.length : Nat) : Int) ∧ 0 ≤ credit ∧ credit ≤ 4611686018427387904
  · unfold ackOf
    rw [if_pos hc]
    intro x hx
    have hx := List.mem_of_mem_drop hx
    obtain ⟨j, hj⟩ := List.mem_iff_getElem?.1 hx
    obtain ⟨y, h1, rfl⟩ := mapIdx_at _ _ _ _ hj
    have := h y (List.mem_of_getElem? h1)
    unfold ackLd
    split <;> exact this
  · unfold ackOf
    rw [if_neg hc]
    exact h
theorem soon_came {s : Lp} (n : Int) (m : Ms) (e : Int) (h : Soon s.now s.Ls) : Soon (cameL s n m e).2.now (cameL s n m e).2.Ls ∧ (cameL s n m e).2.now = s.now := by
  unfold cameL
  split
  · exact ⟨h, rfl⟩
  split
  · exact ⟨h, rfl⟩
  split
  · exact ⟨h, rfl⟩
  split
  · exact ⟨h, rfl⟩
  · exact ⟨soon_ack s.now s.base s.lim s.Ls m.ack m.bits m.credit h, rfl⟩
theorem soon_recon {s : Lp} (h : Soon s.now s.Ls) : Soon (reconL s).now (reconL s).Ls := by
  unfold reconL
  simp only
  generalize (s.T : Int) + (lead s.L : Int) = ack
  generalize (s.T : Int) + (s.W : Int) = credit
  by_cases hc : (0 ≤ (s.now : Int) ∧ (s.now : Int) ≤ 1099511627776) ∧ 0 ≤ ack ∧ ack < ((s.base + s.Ls.length : Nat) : Int) ∧ 0 ≤ credit ∧ credit ≤ 4611686018427387904
  · unfold resOf
    rw [if_pos hc]
    intro x hx
    have hx := List.mem_of_mem_drop hx
    obtain ⟨j, hj⟩ := List.mem_iff_getElem?.1 hx
    obtain ⟨y, h1, rfl⟩ := mapIdx_at _ _ _ _ hj
    unfold resLd
    exact ⟨by show (s.now : Int) ≤ (s.now : Int) + 64; omega, by show (1 : Int) ≤ 1; omega, by show (1 : Int) ≤ 64; omega⟩
  · unfold resOf
    rw [if_neg hc]
    exact h
end Go.Proofs.Ytnpkpfcljkekfaa
namespace Go.Proofs.Ytnpkpfcljkekfaa
open Go Go.RowKit
set_option linter.unusedVariables false
set_option linter.unusedSimpArgs false
set_option maxRecDepth 100000

/-- No more loads are out than the window. -/
def Few (s : Lp) : Prop := s.Ls.length ≤ s.W
theorem few_send {s : Lp} (h : Few s) (xs : List UInt8) : Few (sendL s xs).2 := by
  unfold sendL
  split
  · exact h
  unfold pushOf
  split
  · exact h
  split
  · exact h
  split
  · exact h
  rename_i hr
  show (s.Ls ++ [_]).length ≤ s.W
  simp
  omega
theorem few_poll {s : Lp} (h : Few s) : Few (pollL s).2 := by
  unfold pollL
  split <;> exact h
theorem few_ticked (s : Lp) (now : Nat) (Ls : List Ld) (G0 G1 : List (List UInt8 × Bool)) (h : Ls.length ≤ s.W) : Few { s with now := now, Ls := Ls, G0 := G0, G1 := G1 } := h
theorem dueOf_len (now : Int) (base : Nat) (Ls : List Ld) : (dueOf now base Ls).2.length = Ls.length := by
  unfold dueOf
  split
  · simp
  · rfl
theorem few_tick {s : Lp} (h : Few s) : Few (tickL s) := by
  by_cases hm : s.now = 1099511627776
  · rw [tick_stop hm]; exact h
  · rw [tick_go hm]
    exact few_ticked s _ _ _ _ (by rw [dueOf_len]; exact h)
theorem ack_len (base lim : Nat) (Ls : List Ld) (ack : Int) (m : UInt64) (credit : Int) : (ackOf base lim Ls ack m credit).2.2.2.length ≤ Ls.length := by
  by_cases hc : 0 ≤ ack ∧ ack < ((base + Ls.length : Nat) : Int) ∧ 0 ≤ credit ∧ credit ≤ 4611686018427387904
  · unfold ackOf
    rw [if_pos hc]
    simp
  · unfold ackOf
    rw [if_neg hc]
    exact Nat.le_refl _
theorem few_came {s : Lp} (n : Int) (m : Ms) (e : Int) (h : Few s) : Few (cameL s n m e).2 := by
  unfold cameL
  split
  · exact h
  split
  · exact h
  split
  · exact h
  split
  · exact h
  · exact Nat.le_trans (ack_len s.base s.lim s.Ls m.ack m.bits m.credit) h
theorem few_recon {s : Lp} (h : Few s) : Few (reconL s) := by
  unfold reconL
  show (resOf _ _ _ _ _ _).2.2.2.length ≤ s.W
  generalize (s.T : Int) + (lead s.L : Int) = ack
  generalize (s.T : Int) + (s.W : Int) = credit
  by_cases hc : (0 ≤ (s.now : Int) ∧ (s.now : Int) ≤ 1099511627776) ∧ 0 ≤ ack ∧ ack < ((s.base + s.Ls.length : Nat) : Int) ∧ 0 ≤ credit ∧ credit ≤ 4611686018427387904
  · unfold resOf
    rw [if_pos hc]
    have : s.Ls.length ≤ s.W := h
    simp
    omega
  · unfold resOf
    rw [if_neg hc]
    exact h
/-- A load that is out is told again by the time D. -/
def Wait (D : Nat) (s : Lp) (n : Nat) : Prop := ∃ x, s.base ≤ n ∧ s.Ls[n - s.base]? = some x ∧ x.there = false ∧ x.time ≤ (D : Int)
def WaitN (D : Nat) (s : Lp) (n : Nat) : Prop := ∃ x, s.base ≤ n ∧ s.Ls[n - s.base]? = some x ∧ x.there = false ∧ x.time ≤ (D : Int) ∧ (s.now : Int) < x.time
theorem soon_wait {s : Lp} {S : List (List UInt8)} (h : Good s S) (hs : SoonL s) (n : Nat) (h1 : 1 ≤ n) (h2 : n ≤ s.sent) : Rcv s.T s.L n ∨ Wait (s.now + 64) s n := by
  have a := h.all; have b := h.low
  by_cases hn : n < s.base
  · exact .inl (Rcv.low (by omega))
  · have hi : n - s.base < s.Ls.length := by omega
    cases ht : (s.Ls[n - s.base]).there with
    | true =>
      have := h.there (n - s.base) _ (List.getElem?_eq_getElem hi) ht
      rw [show s.base + (n - s.base) = n from by omega] at this
      exact .inl this
    | false =>
      refine .inr ⟨_, by omega, List.getElem?_eq_getElem hi, ht, ?_⟩
      have := (hs _ (List.getElem_mem hi)).1
      omega
/-- The datagram that tells a load. -/
def tells (s : Lp) (S : List (List UInt8)) (n : Nat) : List UInt8 × Bool := (packB ((dueM n (S.getD (n - 1) [])).sealed s.token s.epoch), false)
theorem dueOut_in (now : Int) : ∀ (n : Nat) (l : List Ld) (j : Nat) (x : Ld), l[j]? = some x → dueHit now x = true → (n + j, x.data) ∈ dueOut now n l
  | n, [], j, x, h, _ => by simp at h
  | n, y :: l, 0, x, h, hh => by
    simp at h
    subst h
    rw [dueOut, if_pos hh]
    simp
  | n, y :: l, j + 1, x, h, hh => by
    rw [List.getElem?_cons_succ] at h
    have ih := dueOut_in now (n + 1) l j x h hh
    rw [show n + 1 + j = n + (j + 1) from by omega] at ih
    rw [dueOut]
    split
    · exact List.mem_cons_of_mem _ ih
    · exact ih
theorem putG_in {α : Type} (G : List α) (d : α) (h : G.length < 256) : d ∈ putG G d ∧ (putG G d).length = G.length + 1 := by
  unfold putG
  rw [if_pos h]
  simp
theorem told_in (token : UInt64) (epoch : Nat) : ∀ (l : List (Nat × List UInt8)) (G : List (List UInt8 × Bool)), G.length + l.length ≤ 256 → ∀ e, e ∈ l → (packB ((dueM e.1 e.2).sealed token epoch), false) ∈ l.foldl (toldG token epoch) G
  | [], G, _, e, he => by cases he
  | x :: l, G, hl, e, he => by
    rw [List.length_cons] at hl
    obtain ⟨h1, h2⟩ := putG_in G (packB ((dueM x.1 x.2).sealed token epoch), false) (by omega)
    rw [List.foldl_cons]
    rcases List.mem_cons.1 he with rfl | he
    · have keep : ∀ (l : List (Nat × List UInt8)) (G : List (List UInt8 × Bool)) (g : List UInt8 × Bool), g ∈ G → g ∈ l.foldl (toldG token epoch) G := by
        intro l
        induction l with
        | nil => intro G g hg; exact hg
        | cons y l ih =>
          intro G g hg
          rw [List.foldl_cons]
          apply ih
          unfold toldG putG
          split
          · exact List.mem_append_left _ hg
          · exact hg
      exact keep l _ _ h1
    · exact told_in token epoch l _ (by show (putG G _).length + l.length ≤ 256; omega) e he
theorem due_len (now : Int) : ∀ (n : Nat) (l : List Ld), (dueOut now n l).length ≤ l.length
  | _, [] => Nat.le_refl _
  | n, x :: l => by have := due_len now (n + 1) l; rw [dueOut]; split <;> simp <;> omega
/-- Behind a tick a load came, or its datagram is on the way, or it waits. -/
theorem tick_wait {s : Lp} {S : List (List UInt8)} (h : Good s S) (hf : Few s) (hG : s.G0 = []) (D : Nat) (hnow : s.now < 1099511627776) (n : Nat) (h1 : Rcv s.T s.L n ∨ Wait D s n) :
    Rcv (tickL s).T (tickL s).L n ∨ tells (tickL s) S n ∈ (tickL s).G0 ∨ WaitN D (tickL s) n := by
  rw [tick_go (by omega)]
  rcases h1 with h1 | ⟨x, h2, h3, h4, h5⟩
  · exact .inl h1
  · have hd : dueOf ((s.now : Int) + 1) s.base s.Ls = (dueOut ((s.now : Int) + 1) s.base s.Ls, s.Ls.map (dueLd ((s.now : Int) + 1))) := if_pos (by omega)
    rw [hd]
    by_cases hh : dueHit ((s.now : Int) + 1) x = true
    · right; left
      have hin := dueOut_in ((s.now : Int) + 1) s.base s.Ls _ x h3 hh
      have a := h.all; have sw := h.sw; have w2 := h.w2; have b := h.b1; have lo := h.low; have hl := lead_len s.L; have hle := h.len
      have hdl := due_len ((s.now : Int) + 1) s.base s.Ls
      have hx := h.data _ x h3
      rw [show s.base - 1 + (n - s.base) = n - 1 from by omega] at hx
      have := told_in s.token s.epoch (dueOut ((s.now : Int) + 1) s.base s.Ls) s.G0 (by rw [hG]; simp; have hb : s.Ls.length ≤ s.W := hf; omega) _ hin
      rw [show s.base + (n - s.base) = n from by omega, hx] at this
      exact this
    · right; right
      have hx : dueLd ((s.now : Int) + 1) x = x := by unfold dueLd; rw [if_neg hh]
      refine ⟨x, h2, ?_, h4, h5, ?_⟩
      · show (s.Ls.map _)[n - s.base]? = some x
        rw [List.getElem?_map, h3]
        show some (dueLd ((s.now : Int) + 1) x) = some x
        rw [hx]
      · unfold dueHit at hh
        rw [h4] at hh
        simp at hh
        show ((s.now + 1 : Nat) : Int) < x.time
        omega
end Go.Proofs.Ytnpkpfcljkekfaa
namespace Go.Proofs.Ytnpkpfcljkekfaa
open Go Go.RowKit
set_option linter.unusedVariables false
set_option linter.unusedSimpArgs false
set_option maxRecDepth 100000

/-- The first datagram of way 0, or of way 1, comes. -/
def step0 (s : Lp) (b : List UInt8) : Lp := (cameL { s with G0 := s.G0.eraseIdx 0 } 0 (unpR b).1 (unpR b).2).2
def step1 (s : Lp) (b : List UInt8) : Lp := (cameL { s with G1 := s.G1.eraseIdx 0 } 1 (unpR b).1 (unpR b).2).2
theorem came0_is (s : Lp) (m : Ms) (e : Int) : ∃ L, (cameL s 0 m e).2 = { s with L := L } ∧ ∀ n, Rcv s.T s.L n → Rcv s.T L n := by
  have hd : ∀ n, Rcv s.T s.L n → Rcv s.T (dataR s.W s.T s.L m.seq m.load).2 n := by
    intro n hn
    unfold dataR
    split
    · exact hn
    split
    · exact hn
    split
    · exact hn
    split
    · exact hn
    split
    · exact hn
    · exact hn.put _ _
  unfold cameL
  split
  · exact ⟨s.L, rfl, fun n h => h⟩
  split
  · exact ⟨s.L, rfl, fun n h => h⟩
  split
  · exact ⟨s.L, rfl, fun n h => h⟩
  rw [if_pos rfl]
  exact ⟨_, rfl, hd⟩
theorem data_came (W T : Nat) (L : List (Option (List UInt8))) (n : Nat) (xs : List UInt8) (h1 : 1 ≤ n) (h2 : n ≤ T + W) (hx : xs.length ≤ 1200) (hL : L.length = W) : Rcv T (dataR W T L (n : Int) xs).2 n := by
  unfold dataR
  rw [if_neg (by omega), if_neg (by omega)]
  split
  · exact .inl (by omega)
  rw [if_neg (by omega), Int.toNat_natCast]
  split
  · rename_i h3 h4
    rw [List.getD_eq_getElem?_getD] at h4
    right
    rw [show n - 1 - T = n - T - 1 from by omega]
    cases hy : L[n - T - 1]? with
    | none => rw [hy] at h4; cases h4
    | some y =>
      cases y with
      | none => rw [hy] at h4; cases h4
      | some z => exact ⟨z, rfl⟩
  · right
    refine ⟨xs, ?_⟩
    rw [show n - 1 - T = n - T - 1 from by omega]
    rw [List.getElem?_set, if_pos rfl, if_pos (by omega)]
def Pend (D : Nat) (s : Lp) (S : List (List UInt8)) (n : Nat) : Prop := Rcv s.T s.L n ∨ tells s S n ∈ s.G0 ∨ WaitN D s n
theorem step0_pend {s : Lp} {S : List (List UInt8)} (h : Good s S) (hN : Near s) (b : List UInt8) (sp : Bool) (hi : s.G0[0]? = some (b, sp)) (D n : Nat) (h1 : 1 ≤ n) (h2 : n ≤ s.sent) (hp : Pend D s S n) : Pend D (step0 s b) S n := by
  obtain ⟨L, hL, hm⟩ := came0_is { s with G0 := s.G0.eraseIdx 0 } (unpR b).1 (unpR b).2
  have hstep : step0 s b = { s with G0 := s.G0.eraseIdx 0, L := L } := hL
  have hG : s.G0 = (b, sp) :: s.G0.eraseIdx 0 := by
    cases hc : s.G0 with
    | nil => rw [hc] at hi; cases hi
    | cons g G => rw [hc] at hi; simp at hi; rw [hi]; rfl
  have n1 := hN.epoch; have n2 := hN.sent; have sw := h.sw; have se := h.sent
  rcases hp with hp | hp | hp
  · rw [hstep]; exact .inl (hm n hp)
  · rw [hG] at hp
    rcases List.mem_cons.1 hp with e | hp
    · left
      have hx : (S.getD (n - 1) []).length ≤ 1100 := by
        apply h.small
        rw [List.getD_eq_getElem?_getD, List.getElem?_eq_getElem (by omega)]
        exact List.getElem_mem _
      have eb : b = packB ((dueM n (S.getD (n - 1) [])).sealed s.token s.epoch) := (congrArg Prod.fst e).symm
      have hu := due_un s.token n s.epoch (S.getD (n - 1) []) (by omega) (by omega) hx
      unfold step0
      rw [eb, hu]
      unfold cameL
      rw [if_neg (by simp), if_neg (by rintro (e | e) <;> exact e rfl), if_neg (fun e => e rfl), if_pos rfl]
      exact data_came s.W s.T s.L n _ h1 (by omega) (by show (S.getD (n - 1) []).length ≤ 1200; omega) h.len
    · rw [hstep]; exact .inr (.inl hp)
  · rw [hstep]; exact .inr (.inr hp)
def Came (D : Nat) (s : Lp) (n : Nat) : Prop := Rcv s.T s.L n ∨ WaitN D s n
theorem Pend.came {D : Nat} {s : Lp} {S : List (List UInt8)} {n : Nat} (h : Pend D s S n) (hG : s.G0 = []) : Came D s n := by
  rcases h with h | h | h
  · exact .inl h
  · rw [hG] at h; cases h
  · exact .inr h
theorem ack_wait {s : Lp} {ack : Int} {m : UInt64} {credit : Int} (hh : ∀ n : Nat, 1 ≤ n → hit ack m (n : Int) = true → Rcv s.T s.L n) (b1 : 1 ≤ s.base) (D n : Nat) (h : Came D s n) :
    Came D { s with base := (ackOf s.base s.lim s.Ls ack m credit).2.1, lim := (ackOf s.base s.lim s.Ls ack m credit).2.2.1, Ls := (ackOf s.base s.lim s.Ls ack m credit).2.2.2 } n := by
  rcases h with h | ⟨x, h1, h2, h3, h4, h5⟩
  · exact .inl h
  by_cases hc : 0 ≤ ack ∧ ack < ((s.base + s.Ls.length : Nat) : Int) ∧ 0 ≤ credit ∧ credit ≤ 4611686018427387904
  · have hR : ackOf s.base s.lim s.Ls ack m credit = (0, s.base + doneN (s.Ls.mapIdx fun j x => ackLd ack m ((s.base + j : Nat) : Int) x), max s.lim credit.toNat, (s.Ls.mapIdx fun j x => ackLd ack m ((s.base + j : Nat) : Int) x).drop (doneN (s.Ls.mapIdx fun j x => ackLd ack m ((s.base + j : Nat) : Int) x))) := by
      unfold ackOf; rw [if_pos hc]
    rw [hR]
    by_cases hx : hit ack m (n : Int) = true
    · exact .inl (hh n (by omega) hx)
    · right
      have hget : (s.Ls.mapIdx fun j x => ackLd ack m ((s.base + j : Nat) : Int) x)[n - s.base]? = some x := by
        rw [List.getElem?_mapIdx, h2]
        show some (ackLd ack m ((s.base + (n - s.base) : Nat) : Int) x) = some x
        rw [show s.base + (n - s.base) = n from by omega]
        unfold ackLd
        rw [if_neg hx]
      generalize (s.Ls.mapIdx fun j x => ackLd ack m ((s.base + j : Nat) : Int) x) = M at hget ⊢
      have hle : doneN M ≤ n - s.base := by
        apply Classical.byContradiction
        intro hcon
        obtain ⟨y, hy, hyt⟩ := doneN_there M (n - s.base) (by omega)
        rw [hget] at hy
        cases hy
        rw [h3] at hyt
        cases hyt
      refine ⟨x, by show s.base + doneN M ≤ n; omega, ?_, h3, h4, h5⟩
      show (M.drop (doneN M))[n - (s.base + doneN M)]? = some x
      rw [List.getElem?_drop, show doneN M + (n - (s.base + doneN M)) = n - s.base from by omega]
      exact hget
  · have hR : ackOf s.base s.lim s.Ls ack m credit = (1, s.base, s.lim, s.Ls) := by
      unfold ackOf; rw [if_neg hc]
    rw [hR]
    exact .inr ⟨x, h1, h2, h3, h4, h5⟩
theorem step1_came {s : Lp} {S : List (List UInt8)} (h : Good s S) (hN : Near s) (b : List UInt8) (sp : Bool) (hi : s.G1[0]? = some (b, sp)) (D n : Nat) (hp : Came D s n) : Came D (step1 s b) n := by
  have he : Came D { s with G1 := s.G1.eraseIdx 0 } n := hp
  have hg := h.g1 (b, sp) (List.mem_of_getElem? hi)
  unfold step1
  rcases hg with ⟨-, hb⟩ | ⟨-, T0, L0, ep, h1, h2, h3, h4, h5, h6⟩
  · rw [came_bad { s with G1 := s.G1.eraseIdx 0 } 1 b hb]
    exact he
  · simp only at h6
    have hs := h.sent; have n1 := hN.epoch; have n2 := hN.sent; have ts := h.ts; have w2 := h.w2
    have hl := lead_len L0
    have hu := ack_un s.token T0 s.W ep L0 (by omega) (by omega) (by omega)
    rw [h6, hu]
    unfold cameL
    rw [if_neg (by simp), if_neg (by rintro (e | e) <;> exact e rfl)]
    by_cases hep : ((ackM T0 s.W L0).sealed s.token ep).epoch ≠ (s.epoch : Int)
    · rw [if_pos hep]; exact he
    · rw [if_neg hep, if_neg (by decide)]
      exact ack_wait (s := { s with G1 := s.G1.eraseIdx 0 }) h4 h.b1 D n he
theorem poll_came {s : Lp} (D n : Nat) (h : Came D s n) : Came D (pollL s).2 n := by
  unfold pollL
  split
  · rename_i xs L hL
    rcases h with h | h
    · rw [hL] at h
      exact .inl h.shift
    · exact .inr h
  · exact h
theorem poll_lead (s : Lp) : lead (pollL s).2.L = lead s.L - 1 := by
  unfold pollL
  split
  · rename_i xs L hL
    show lead (L ++ [none]) = _
    rw [lead_app, hL, lead]
    rfl
  · rename_i hL
    have : lead s.L = 0 := by
      cases hc : s.L with
      | nil => rfl
      | cons x L =>
        cases x with
        | none => rfl
        | some y => exact absurd hc (hL y L)
    rw [this]
/-- All that was told came and was polled. -/
theorem came_all {s : Lp} {S : List (List UInt8)} (h : Good s S) (hl : lead s.L = 0) (hr : ∀ n, 1 ≤ n → n ≤ s.sent → Rcv s.T s.L n) : s.T = s.sent := by
  have ts := h.ts
  apply Classical.byContradiction
  intro hne
  have := (hr (s.T + 1) (by omega) (by omega)).next (by omega)
  omega
end Go.Proofs.Ytnpkpfcljkekfaa
namespace Go.Proofs.Ytnpkpfcljkekfaa
open Go Go.RowKit
set_option linter.unusedVariables false
set_option linter.unusedSimpArgs false
set_option maxRecDepth 100000

theorem Came.wait {D n : Nat} {s : Lp} (h : Came D s n) : Rcv s.T s.L n ∨ Wait D s n := by
  rcases h with h | ⟨x, h1, h2, h3, h4, h5⟩
  · exact .inl h
  · exact .inr ⟨x, h1, h2, h3, h4⟩
/-- What holds of a link between any two calls. -/
structure Fit (s : Lp) (S : List (List UInt8)) : Prop where
  good : Good s S
  near : Near s
  soon : SoonL s
  few : Few s
/-- Within a fair round: k datagrams of way 0 are still to come. -/
structure In0 (ok : Prop) (D t : Nat) (S : List (List UInt8)) (k : Nat) (s : Lp) : Prop where
  fit : Fit s S
  now : s.now = t
  way : s.G0.length = k
  pend : ok → ∀ n, 1 ≤ n → n ≤ s.sent → Pend D s S n
/-- .. and of way 1. -/
structure In1 (ok : Prop) (D t : Nat) (S : List (List UInt8)) (k : Nat) (s : Lp) : Prop where
  fit : Fit s S
  now : s.now = t
  way0 : s.G0 = []
  way : s.G1.length = k
  came : ok → ∀ n, 1 ≤ n → n ≤ s.sent → Came D s n
/-- .. and k polls are still to come. -/
structure In2 (ok : Prop) (D t : Nat) (S : List (List UInt8)) (k : Nat) (s : Lp) : Prop where
  fit : Fit s S
  now : s.now = t
  way0 : s.G0 = []
  way1 : s.G1 = []
  ld : lead s.L ≤ k
  came : ok → ∀ n, 1 ≤ n → n ≤ s.sent → Came D s n
theorem In0.step {ok : Prop} {D t k : Nat} {S : List (List UInt8)} {s : Lp} (h : In0 ok D t S (k + 1) s) (b : List UInt8) (sp : Bool) (hi : s.G0[0]? = some (b, sp)) : In0 ok D t S k (step0 s b) := by
  obtain ⟨L, hL, hm⟩ := came0_is { s with G0 := s.G0.eraseIdx 0 } (unpR b).1 (unpR b).2
  have hstep : step0 s b = { s with G0 := s.G0.eraseIdx 0, L := L } := hL
  have hg := good_deliver0 h.fit.good h.fit.near 0 b sp hi
  have hp := fun o n h1 h2 => step0_pend h.fit.good h.fit.near b sp hi D n h1 h2 (h.pend o n h1 h2)
  have hw := h.way
  refine ⟨⟨hg, ?_, ?_, ?_⟩, ?_, ?_, ?_⟩
  · rw [hstep]; exact ⟨h.fit.near.epoch, h.fit.near.sent⟩
  · rw [hstep]; exact h.fit.soon
  · rw [hstep]; exact h.fit.few
  · rw [hstep]; exact h.now
  · rw [hstep]
    show (s.G0.eraseIdx 0).length = k
    rw [List.length_eraseIdx, if_pos (by omega)]
    omega
  · rw [hstep] at hp ⊢
    exact hp
theorem In0.done {ok : Prop} {D t : Nat} {S : List (List UInt8)} {s : Lp} (h : In0 ok D t S 0 s) : In1 ok D t S s.G1.length s :=
  have hG : s.G0 = [] := List.eq_nil_of_length_eq_zero h.way
  ⟨h.fit, h.now, hG, rfl, fun o n h1 h2 => (h.pend o n h1 h2).came hG⟩
theorem came1_is (s : Lp) (m : Ms) (e : Int) (hs : SoonL s) (hf : Few s) : ∃ base lim Ls, (cameL s 1 m e).2 = { s with base := base, lim := lim, Ls := Ls } ∧ Soon s.now Ls ∧ Ls.length ≤ s.W := by
  have h1 := soon_ack s.now s.base s.lim s.Ls m.ack m.bits m.credit hs
  have h2 := Nat.le_trans (ack_len s.base s.lim s.Ls m.ack m.bits m.credit) hf
  unfold cameL
  split
  · exact ⟨_, _, _, rfl, hs, hf⟩
  split
  · exact ⟨_, _, _, rfl, hs, hf⟩
  split
  · exact ⟨_, _, _, rfl, hs, hf⟩
  rw [if_neg (by decide)]
  exact ⟨_, _, _, rfl, h1, h2⟩
theorem In1.step {ok : Prop} {D t k : Nat} {S : List (List UInt8)} {s : Lp} (h : In1 ok D t S (k + 1) s) (b : List UInt8) (sp : Bool) (hi : s.G1[0]? = some (b, sp)) : In1 ok D t S k (step1 s b) := by
  obtain ⟨base, lim, Ls, hL, hs1, hs2⟩ := came1_is { s with G1 := s.G1.eraseIdx 0 } (unpR b).1 (unpR b).2 h.fit.soon h.fit.few
  have hstep : step1 s b = { s with G1 := s.G1.eraseIdx 0, base := base, lim := lim, Ls := Ls } := hL
  have hg := good_deliver1 h.fit.good h.fit.near 0 b sp hi
  have hp := fun o n h1 h2 => step1_came h.fit.good h.fit.near b sp hi D n (h.came o n h1 h2)
  have hw := h.way
  refine ⟨⟨hg, ?_, ?_, ?_⟩, ?_, ?_, ?_, ?_⟩
  · rw [hstep]; exact ⟨h.fit.near.epoch, h.fit.near.sent⟩
  · rw [hstep]; exact hs1
  · rw [hstep]; exact hs2
  · rw [hstep]; exact h.now
  · rw [hstep]; exact h.way0
  · rw [hstep]
    show (s.G1.eraseIdx 0).length = k
    rw [List.length_eraseIdx, if_pos (by omega)]
    omega
  · rw [hstep] at hp ⊢
    exact hp
theorem In1.done {ok : Prop} {D t : Nat} {S : List (List UInt8)} {s : Lp} (h : In1 ok D t S 0 s) : In2 ok D t S 33 s :=
  ⟨h.fit, h.now, h.way0, List.eq_nil_of_length_eq_zero h.way, by have := lead_len s.L; have := h.fit.good.len; have := h.fit.good.w2; omega, h.came⟩
theorem pollL_is (s : Lp) : ∃ T L got, (pollL s).2 = { s with T := T, L := L, got := got } := by
  unfold pollL
  split
  · exact ⟨_, _, _, rfl⟩
  · exact ⟨_, _, _, rfl⟩
theorem fit_poll {s : Lp} {S : List (List UInt8)} (h : Fit s S) : Fit (pollL s).2 S := by
  obtain ⟨T, L, got, e⟩ := pollL_is s
  refine ⟨(good_poll h.good).1, ?_, ?_, ?_⟩
  · rw [e]; exact ⟨h.near.epoch, h.near.sent⟩
  · rw [e]; exact h.soon
  · rw [e]; exact h.few
theorem In2.step {ok : Prop} {D t k : Nat} {S : List (List UInt8)} {s : Lp} (h : In2 ok D t S (k + 1) s) : In2 ok D t S k (pollL s).2 := by
  obtain ⟨T, L, got, e⟩ := pollL_is s
  have hp := fun o n h1 h2 => poll_came D n (h.came o n h1 h2)
  have hl := poll_lead s
  have hk := h.ld
  refine ⟨fit_poll h.fit, ?_, ?_, ?_, by omega, ?_⟩
  · rw [e]; exact h.now
  · rw [e]; exact h.way0
  · rw [e]; exact h.way1
  · rw [e] at hp ⊢; exact hp
/-- Behind r fair rounds. -/
structure Outer (r : Nat) (S : List (List UInt8)) (s : Lp) : Prop where
  fit : Fit s S
  ways : 1 ≤ r → s.G0 = [] ∧ s.G1 = [] ∧ lead s.L = 0
  wait : 1 ≤ r → ∃ D, s.now + 65 = D + r ∧ ∀ n, 1 ≤ n → n ≤ s.sent → Rcv s.T s.L n ∨ Wait D s n
  came : 2 ≤ r → ∃ D, s.now + 65 = D + r ∧ ∀ n, 1 ≤ n → n ≤ s.sent → Came D s n
theorem fit_tick {s : Lp} {S : List (List UInt8)} (h : Fit s S) (hnow : s.now < 1099511627776) : Fit (tickL s) S ∧ (tickL s).now = s.now + 1 ∧ (tickL s).sent = s.sent := by
  have hg := good_tick h.good
  have h3 := soon_tick h.soon
  have h4 := few_tick h.few
  have e : (tickL s).epoch = s.epoch ∧ (tickL s).sent = s.sent ∧ (tickL s).now = s.now + 1 := by rw [tick_go (by omega)]; exact ⟨rfl, rfl, rfl⟩
  exact ⟨⟨hg, ⟨by rw [e.1]; exact h.near.epoch, by rw [e.2.1]; exact h.near.sent⟩, h3, h4⟩, e.2.2, e.2.1⟩
theorem outer_tick {r : Nat} {S : List (List UInt8)} {s : Lp} (h : Outer r S s) (hnow : s.now < 1099511627776) : ∃ D, (1 ≤ r → s.now + 65 = D + r) ∧ In0 (1 ≤ r) D (s.now + 1) S (tickL s).G0.length (tickL s) := by
  obtain ⟨f1, f2, f3⟩ := fit_tick h.fit hnow
  by_cases hr : 1 ≤ r
  · obtain ⟨D, hD, hw⟩ := h.wait hr
    refine ⟨D, fun _ => hD, f1, f2, rfl, fun _ n h1 h2 => ?_⟩
    exact tick_wait h.fit.good h.fit.few (h.ways hr).1 D hnow n (hw n h1 (by omega))
  · exact ⟨0, fun h => absurd h hr, f1, f2, rfl, fun h => absurd h hr⟩
theorem outer_next {r : Nat} {D t : Nat} {S : List (List UInt8)} {s : Lp} (h : In2 (1 ≤ r) D (t + 1) S 0 s) (hD : 1 ≤ r → t + 65 = D + r) : Outer (r + 1) S s := by
  have hn := h.now
  refine ⟨h.fit, fun _ => ⟨h.way0, h.way1, by have := h.ld; omega⟩, fun _ => ?_, fun h2 => ?_⟩
  · by_cases hr : 1 ≤ r
    · have := hD hr
      exact ⟨D, by omega, fun n h1 h2 => (h.came hr n h1 h2).wait⟩
    · exact ⟨s.now + 64, by omega, fun n h1 h2 => soon_wait h.fit.good h.fit.soon n h1 h2⟩
  · have hr : 1 ≤ r := by omega
    have := hD hr
    exact ⟨D, by omega, h.came hr⟩
/-- Behind 66 fair rounds all came. -/
theorem outer_all {S : List (List UInt8)} {s : Lp} (h : Outer 66 S s) : s.got = S.length ∧ s.G0 = [] ∧ s.G1 = [] := by
  obtain ⟨h0, h1, h2⟩ := h.ways (by decide)
  obtain ⟨D, hD, hc⟩ := h.came (by decide)
  have key := came_all h.fit.good h2 (fun n a b => by
    rcases hc n a b with hr | ⟨x, -, -, -, h4, h5⟩
    · exact hr
    · omega)
  exact ⟨by rw [h.fit.good.got, key, h.fit.good.sent], h0, h1⟩
end Go.Proofs.Ytnpkpfcljkekfaa
namespace Go.Proofs.Ytnpkpfcljkekfaa
open Go Go.RowKit
set_option linter.unusedVariables false
set_option linter.unusedSimpArgs false
set_option maxRecDepth 100000

/-- A link behind N calls of a script. -/
structure At (N : Nat) (s : Lp) (S : List (List UInt8)) : Prop where
  good : Good s S
  soon : SoonL s
  few : Few s
  epoch : s.epoch ≤ N + 1
  sent : s.sent ≤ N
  cnt : s.cnt ≤ N
  now : s.now ≤ N
theorem At.fit {N : Nat} {s : Lp} {S : List (List UInt8)} (h : At N s S) (hN : N ≤ 4611686018427386000) : Fit s S :=
  ⟨h.good, ⟨by have := h.epoch; omega, by have := h.sent; omega⟩, h.soon, h.few⟩
theorem at_new (W : Nat) (token : UInt64) (h1 : 1 ≤ W) (h2 : W ≤ 32) : At 0 (newL W token) [] :=
  ⟨good_new W token h1 h2, fun x hx => (by cases hx), Nat.zero_le _, Nat.le_refl _, Nat.le_refl _, Nat.le_refl _, Nat.le_refl _⟩
/-- What a call did: kind 0 takes a load, kind 1 gives one. -/
structure Did (N : Nat) (s : Lp) (S : List (List UInt8)) (kind : Int) (load : List UInt8) (x : List UInt8) (ok : Bool) (e : Int) (s' : Lp) : Prop where
  at' : At (N + 1) s' (if kind = 0 ∧ e = 0 then S ++ [load] else S)
  W : s'.W = s.W
  gave : kind = 1 → ok = true → s.T < S.length ∧ x = S.getD s.T [] ∧ s'.got = s.got + 1
  kept : ¬ (kind = 1 ∧ ok = true) → s'.got = s.got
theorem At.more {N : Nat} {s : Lp} {S : List (List UInt8)} (h : At N s S) : At (N + 1) s S :=
  ⟨h.good, h.soon, h.few, by have := h.epoch; omega, by have := h.sent; omega, by have := h.cnt; omega, by have := h.now; omega⟩
/-- A call that turns nothing. -/
theorem did_none {N : Nat} {s : Lp} {S : List (List UInt8)} (h : At N s S) (kind : Int) (load x : List UInt8) (e : Int) (hk : kind = 0 → e ≠ 0) : Did N s S kind load x false e s := by
  refine ⟨?_, rfl, fun _ h => (by cases h), fun _ => rfl⟩
  rw [if_neg (fun hh => hk hh.1 hh.2)]
  exact h.more
theorem did_send {N : Nat} {s : Lp} {S : List (List UInt8)} (h : At N s S) (xs x : List UInt8) (ok : Bool) : Did N s S 0 xs x ok (sendL s xs).1 (sendL s xs).2 := by
  have hg := good_send h.good xs
  have hs : SoonL (sendL s xs).2 := soon_send h.soon xs
  have hf := few_send h.few xs
  have hform : (sendL s xs).2.epoch = s.epoch ∧ (sendL s xs).2.now = s.now ∧ (sendL s xs).2.W = s.W ∧ (sendL s xs).2.got = s.got ∧ (sendL s xs).2.sent ≤ s.sent + 1 ∧ (sendL s xs).2.cnt ≤ s.cnt + 1 := by
    unfold sendL
    split
    · exact ⟨rfl, rfl, rfl, rfl, Nat.le_succ _, Nat.le_succ _⟩
    · refine ⟨rfl, rfl, rfl, rfl, ?_, Nat.le_refl _⟩
      show (if _ then s.sent + 1 else s.sent) ≤ s.sent + 1
      split
      · exact Nat.le_refl _
      · exact Nat.le_succ _
  obtain ⟨f1, f2, f3, f4, f5, f6⟩ := hform
  have a1 := h.epoch; have a2 := h.sent; have a3 := h.cnt; have a4 := h.now
  refine ⟨?_, f3, fun hk => (by cases hk), fun _ => f4⟩
  have e : (if (0 : Int) = 0 ∧ (sendL s xs).1 = 0 then S ++ [xs] else S) = (if (sendL s xs).1 = 0 then S ++ [xs] else S) := by simp
  rw [e]
  exact ⟨hg, hs, hf, by omega, by omega, by omega, by omega⟩
theorem did_poll {N : Nat} {s : Lp} {S : List (List UInt8)} (h : At N s S) (load : List UInt8) (e : Int) : Did N s S 1 load ((pollL s).1.getD []) (pollL s).1.isSome e (pollL s).2 := by
  obtain ⟨hg, hx⟩ := good_poll h.good
  have hs : SoonL (pollL s).2 := soon_poll h.soon
  have hf := few_poll h.few
  obtain ⟨T, L, got, hp⟩ := pollL_is s
  have a1 := h.epoch; have a2 := h.sent; have a3 := h.cnt; have a4 := h.now
  refine ⟨?_, by rw [hp], fun _ ho => ?_, fun hno => ?_⟩
  · rw [if_neg (fun hh => absurd hh.1 (by decide))]
    exact ⟨hg, hs, hf, by rw [hp]; show s.epoch ≤ _; omega, by rw [hp]; show s.sent ≤ _; omega, by rw [hp]; show s.cnt ≤ _; omega, by rw [hp]; show s.now ≤ _; omega⟩
  · cases hq : (pollL s).1 with
    | none => rw [hq] at ho; cases ho
    | some y => exact hx y hq
  · cases hq : (pollL s).1 with
    | none =>
      unfold pollL at hq ⊢
      split at hq
      · cases hq
      · rename_i hL
        rfl
    | some y => rw [hq] at hno; exact absurd ⟨rfl, rfl⟩ hno
theorem did_tick {N : Nat} {s : Lp} {S : List (List UInt8)} (h : At N s S) (load x : List UInt8) (e : Int) : Did N s S 2 load x false e (tickL s) := by
  have hg := good_tick h.good
  have h3 := soon_tick h.soon
  have h4 := few_tick h.few
  have a1 := h.epoch; have a2 := h.sent; have a3 := h.cnt; have a4 := h.now
  have he : (tickL s).epoch = s.epoch ∧ (tickL s).sent = s.sent ∧ (tickL s).cnt = s.cnt ∧ (tickL s).now ≤ s.now + 1 ∧ (tickL s).W = s.W ∧ (tickL s).got = s.got := by
    by_cases hm : s.now = 1099511627776
    · rw [tick_stop hm]; exact ⟨rfl, rfl, rfl, Nat.le_succ _, rfl, rfl⟩
    · rw [tick_go hm]; exact ⟨rfl, rfl, rfl, Nat.le_refl _, rfl, rfl⟩
  obtain ⟨e1, e2, e3, e4, e5, e6⟩ := he
  refine ⟨?_, e5, fun hk => (by cases hk), fun _ => e6⟩
  rw [if_neg (fun hh => absurd hh.1 (by decide))]
  exact ⟨hg, h3, h4, by omega, by omega, by omega, by omega⟩
theorem did_recon {N : Nat} {s : Lp} {S : List (List UInt8)} (h : At N s S) (load x : List UInt8) (e : Int) : Did N s S 8 load x false e (reconL s) := by
  have a1 := h.epoch; have a2 := h.sent; have a3 := h.cnt; have a4 := h.now
  refine ⟨?_, rfl, fun hk => (by cases hk), fun _ => rfl⟩
  rw [if_neg (fun hh => absurd hh.1 (by decide))]
  exact ⟨good_recon h.good, soon_recon h.soon, few_recon h.few, by show s.epoch + 1 ≤ N + 1 + 1; omega, by show s.sent ≤ _; omega, by show s.cnt ≤ _; omega, by show s.now ≤ _; omega⟩
/-- Other datagrams on the ways: nothing else is turned. -/
theorem did_ways {N : Nat} {s : Lp} {S : List (List UInt8)} (h : At N s S) (kind : Int) (load x : List UInt8) (e : Int) (hk : kind ≠ 0) (G0 G1 : List (List UInt8 × Bool)) (hg : Good { s with G0 := G0, G1 := G1 } S) : Did N s S kind load x false e { s with G0 := G0, G1 := G1 } := by
  have a1 := h.epoch; have a2 := h.sent; have a3 := h.cnt; have a4 := h.now
  refine ⟨?_, rfl, fun _ h => (by cases h), fun _ => rfl⟩
  rw [if_neg (fun hh => hk hh.1)]
  exact ⟨hg, h.soon, h.few, by show s.epoch ≤ _; omega, by show s.sent ≤ _; omega, by show s.cnt ≤ _; omega, by show s.now ≤ _; omega⟩
theorem did_deliver0 {N : Nat} {s : Lp} {S : List (List UInt8)} (h : At N s S) (hN : N ≤ 4611686018427386000) (load x : List UInt8) (e : Int) (i : Nat) (b : List UInt8) (sp : Bool) (hi : s.G0[i]? = some (b, sp)) : Did N s S 3 load x false e (cameL { s with G0 := s.G0.eraseIdx i } 0 (unpR b).1 (unpR b).2).2 := by
  have hg := good_deliver0 h.good (h.fit hN).near i b sp hi
  obtain ⟨L, hL, -⟩ := came0_is { s with G0 := s.G0.eraseIdx i } (unpR b).1 (unpR b).2
  rw [hL] at hg ⊢
  have a1 := h.epoch; have a2 := h.sent; have a3 := h.cnt; have a4 := h.now
  refine ⟨?_, rfl, fun _ h => (by cases h), fun _ => rfl⟩
  rw [if_neg (fun hh => absurd hh.1 (by decide))]
  exact ⟨hg, h.soon, h.few, by show s.epoch ≤ _; omega, by show s.sent ≤ _; omega, by show s.cnt ≤ _; omega, by show s.now ≤ _; omega⟩
theorem did_deliver1 {N : Nat} {s : Lp} {S : List (List UInt8)} (h : At N s S) (hN : N ≤ 4611686018427386000) (load x : List UInt8) (e : Int) (i : Nat) (b : List UInt8) (sp : Bool) (hi : s.G1[i]? = some (b, sp)) : Did N s S 3 load x false e (cameL { s with G1 := s.G1.eraseIdx i } 1 (unpR b).1 (unpR b).2).2 := by
  have hg := good_deliver1 h.good (h.fit hN).near i b sp hi
  obtain ⟨base, lim, Ls, hL, hs1, hs2⟩ := came1_is { s with G1 := s.G1.eraseIdx i } (unpR b).1 (unpR b).2 h.soon h.few
  rw [hL] at hg ⊢
  have a1 := h.epoch; have a2 := h.sent; have a3 := h.cnt; have a4 := h.now
  refine ⟨?_, rfl, fun _ h => (by cases h), fun _ => rfl⟩
  rw [if_neg (fun hh => absurd hh.1 (by decide))]
  exact ⟨hg, hs1, hs2, by show s.epoch ≤ _; omega, by show s.sent ≤ _; omega, by show s.cnt ≤ _; omega, by show s.now ≤ _; omega⟩
end Go.Proofs.Ytnpkpfcljkekfaa
namespace Go.Proofs.Ytnpkpfcljkekfaa
open Go Go.RowKit
set_option linter.unusedVariables false
set_option linter.unusedSimpArgs false
set_option maxRecDepth 100000

theorem unpR_def (b : List UInt8) : unpR b = match unpackB b with | .ok m => (m, 0) | .error k => (zeroM, k) := rfl
theorem packB_def (m : Ms) : packB m = if m.may = true ∧ m.bytes.length ≤ 1200 then frameB m.bytes else [] := rfl
theorem bad_error {token : UInt64} {b : List UInt8} {k : Int} (h : unpackB b = .error k) (hk : k ≠ 0) : Bad token b := .inl (by rw [unpR_def, h]; exact hk)
/-- What is on its way and was not turned is a frame. -/
theorem frame0 {s : Lp} {S : List (List UInt8)} (h : Good s S) (hN : Near s) (i : Nat) (b : List UInt8) (hi : s.G0[i]? = some (b, false)) : ∃ l, b = frameB l := by
  have n1 := hN.epoch; have n2 := hN.sent; have se := h.sent
  rcases h.g0 _ (List.mem_of_getElem? hi) with ⟨h1, -⟩ | ⟨-, n, ep, h1, h2, h3, h4⟩
  · cases h1
  · have hm := due_may s.token n ep (S.getD (n - 1) []) (by omega) (by omega)
    have hx : (S.getD (n - 1) []).length ≤ 1100 := by
      apply h.small
      rw [List.getD_eq_getElem?_getD, List.getElem?_eq_getElem (by omega)]
      exact List.getElem_mem _
    have hb := ((dueM n (S.getD (n - 1) [])).sealed s.token ep).bytes_len hm
    have e : ((dueM n (S.getD (n - 1) [])).sealed s.token ep).load.length = (S.getD (n - 1) []).length := rfl
    refine ⟨((dueM n (S.getD (n - 1) [])).sealed s.token ep).bytes, h4.trans ?_⟩
    rw [packB_def, if_pos ⟨hm, by omega⟩]
theorem frame1 {s : Lp} {S : List (List UInt8)} (h : Good s S) (hN : Near s) (i : Nat) (b : List UInt8) (hi : s.G1[i]? = some (b, false)) : ∃ l, b = frameB l := by
  have n1 := hN.epoch; have n2 := hN.sent; have se := h.sent; have ts := h.ts; have w2 := h.w2
  rcases h.g1 _ (List.mem_of_getElem? hi) with ⟨h1, -⟩ | ⟨-, T0, L0, ep, h1, h2, h3, h4, h5, h6⟩
  · cases h1
  · have hl := lead_len L0
    have hm := ack_may s.token T0 s.W ep L0 (by omega) (by omega) (by omega)
    have hb := ((ackM T0 s.W L0).sealed s.token ep).bytes_len hm
    have e : ((ackM T0 s.W L0).sealed s.token ep).load.length = 0 := rfl
    refine ⟨((ackM T0 s.W L0).sealed s.token ep).bytes, h6.trans ?_⟩
    rw [packB_def, if_pos ⟨hm, by omega⟩]
theorem set_same {α : Type} (G : List α) (i : Nat) (d : α) (h : G[i]? = some d) : G.set i d = G := by
  apply List.ext_getElem?
  intro j
  rw [List.getElem?_set]
  split
  · rename_i e
    subst e
    rw [if_pos (List.getElem?_eq_some_iff.1 h).1, h]
  · rfl
theorem did_turn0 {N : Nat} {s : Lp} {S : List (List UInt8)} (h : At N s S) (hN : N ≤ 4611686018427386000) (load x : List UInt8) (e : Int) (i : Nat) (b : List UInt8) (hi : s.G0[i]? = some (b, false)) (at_ : Int) (by_ : UInt32) : Did N s S 6 load x false e { s with G0 := s.G0.set i (turnB b at_ by_, by_ != 0) } := by
  obtain ⟨l, rfl⟩ := frame0 h.good (h.fit hN).near i b hi
  refine did_ways h 6 load x e (by decide) (s.G0.set i _) s.G1 ?_
  by_cases hb : by_ = 0
  · subst hb
    rw [turnB_zero _ _ (by rw [frameB_len]; omega)]
    show Good { s with G0 := s.G0.set i (frameB l, false), G1 := s.G1 } S
    rw [set_same _ _ _ hi]
    exact h.good
  · obtain ⟨k, hk, hk0⟩ := turned_none2 l at_ by_ hb
    rw [show (by_ != 0) = true from by simpa using hb]
    exact good_turn0 h.good i _ (bad_error hk hk0)
theorem did_turn1 {N : Nat} {s : Lp} {S : List (List UInt8)} (h : At N s S) (hN : N ≤ 4611686018427386000) (load x : List UInt8) (e : Int) (i : Nat) (b : List UInt8) (hi : s.G1[i]? = some (b, false)) (at_ : Int) (by_ : UInt32) : Did N s S 6 load x false e { s with G1 := s.G1.set i (turnB b at_ by_, by_ != 0) } := by
  obtain ⟨l, rfl⟩ := frame1 h.good (h.fit hN).near i b hi
  refine did_ways h 6 load x e (by decide) s.G0 (s.G1.set i _) ?_
  by_cases hb : by_ = 0
  · subst hb
    rw [turnB_zero _ _ (by rw [frameB_len]; omega)]
    show Good { s with G0 := s.G0, G1 := s.G1.set i (frameB l, false) } S
    rw [set_same _ _ _ hi]
    exact h.good
  · obtain ⟨k, hk, hk0⟩ := turned_none2 l at_ by_ hb
    rw [show (by_ != 0) = true from by simpa using hb]
    exact good_turn1 h.good i _ (bad_error hk hk0)
/-- What may be forged: bytes that tell nothing, or are of another token. -/
theorem forge_bad {token : UInt64} {b : List UInt8} (h : ¬ ((unpR b).2 = 0 ∧ (unpR b).1.token = token)) : Bad token b := by
  by_cases h1 : (unpR b).2 = 0
  · exact .inr (fun e => h ⟨h1, e⟩)
  · exact .inl h1
theorem did_forge0 {N : Nat} {s : Lp} {S : List (List UInt8)} (h : At N s S) (load x : List UInt8) (e : Int) (b : List UInt8) (hb : ¬ ((unpR b).2 = 0 ∧ (unpR b).1.token = s.token)) : Did N s S 7 load x false e { s with G0 := putG s.G0 (b, true) } :=
  did_ways h 7 load x e (by decide) (putG s.G0 (b, true)) s.G1 (good_forge0 h.good b (forge_bad hb))
theorem did_forge1 {N : Nat} {s : Lp} {S : List (List UInt8)} (h : At N s S) (load x : List UInt8) (e : Int) (b : List UInt8) (hb : ¬ ((unpR b).2 = 0 ∧ (unpR b).1.token = s.token)) : Did N s S 7 load x false e { s with G1 := putG s.G1 (b, true) } :=
  did_ways h 7 load x e (by decide) s.G0 (putG s.G1 (b, true)) (good_forge1 h.good b (forge_bad hb))
theorem did_drop0 {N : Nat} {s : Lp} {S : List (List UInt8)} (h : At N s S) (load x : List UInt8) (e : Int) (i : Nat) : Did N s S 4 load x false e { s with G0 := s.G0.eraseIdx i } :=
  did_ways h 4 load x e (by decide) (s.G0.eraseIdx i) s.G1 (good_erase0 h.good i)
theorem did_drop1 {N : Nat} {s : Lp} {S : List (List UInt8)} (h : At N s S) (load x : List UInt8) (e : Int) (i : Nat) : Did N s S 4 load x false e { s with G1 := s.G1.eraseIdx i } :=
  did_ways h 4 load x e (by decide) s.G0 (s.G1.eraseIdx i) (good_erase1 h.good i)
theorem did_twice0 {N : Nat} {s : Lp} {S : List (List UInt8)} (h : At N s S) (load x : List UInt8) (e : Int) (d : List UInt8 × Bool) (hd : d ∈ s.G0) : Did N s S 5 load x false e { s with G0 := putG s.G0 d } :=
  did_ways h 5 load x e (by decide) (putG s.G0 d) s.G1 (good_twice0 h.good d hd)
theorem did_twice1 {N : Nat} {s : Lp} {S : List (List UInt8)} (h : At N s S) (load x : List UInt8) (e : Int) (d : List UInt8 × Bool) (hd : d ∈ s.G1) : Did N s S 5 load x false e { s with G1 := putG s.G1 d } :=
  did_ways h 5 load x e (by decide) s.G0 (putG s.G1 d) (good_twice1 h.good d hd)
end Go.Proofs.Ytnpkpfcljkekfaa
namespace Go.Proofs.Ytnpkpfcljkekfaa
open Go Go.RowKit
set_option linter.unusedVariables false
set_option linter.unusedSimpArgs false
set_option maxRecDepth 100000

def dropL (s : Lp) (n i : Int) : Int × Lp :=
  if n = 0 then (if 0 ≤ i ∧ i < s.G0.length then (0, { s with G0 := s.G0.eraseIdx i.toNat }) else (15, s))
  else if n = 1 then (if 0 ≤ i ∧ i < s.G1.length then (0, { s with G1 := s.G1.eraseIdx i.toNat }) else (15, s))
  else (1, s)
def twiceL (s : Lp) (n i : Int) : Int × Lp :=
  if n = 0 then (if 0 ≤ i ∧ i < s.G0.length then (0, { s with G0 := putG s.G0 (s.G0.getD i.toNat ([], false)) }) else (15, s))
  else if n = 1 then (if 0 ≤ i ∧ i < s.G1.length then (0, { s with G1 := putG s.G1 (s.G1.getD i.toNat ([], false)) }) else (15, s))
  else (1, s)
def turnL (s : Lp) (n i at_ : Int) (by_ : UInt32) : Int × Lp :=
  if n = 0 then (if 0 ≤ i ∧ i < s.G0.length then (if (s.G0.getD i.toNat ([], false)).2 = true then (18, s) else (0, { s with G0 := s.G0.set i.toNat (turnB (s.G0.getD i.toNat ([], false)).1 at_ by_, by_ != 0) })) else (15, s))
  else if n = 1 then (if 0 ≤ i ∧ i < s.G1.length then (if (s.G1.getD i.toNat ([], false)).2 = true then (18, s) else (0, { s with G1 := s.G1.set i.toNat (turnB (s.G1.getD i.toNat ([], false)).1 at_ by_, by_ != 0) })) else (15, s))
  else (1, s)
def forgeL (s : Lp) (n : Int) (b : List UInt8) : Int × Lp :=
  if ¬ (n = 0 ∨ n = 1) then (1, s) else if 1208 < b.length then (8, s) else if (unpR b).2 = 0 ∧ (unpR b).1.token = s.token then (1, s)
  else if n = 0 then (0, { s with G0 := putG s.G0 (b, true) }) else (0, { s with G1 := putG s.G1 (b, true) })
theorem getD_some {G : List (List UInt8 × Bool)} {i : Int} (h : 0 ≤ i ∧ i < G.length) : G[i.toNat]? = some (G.getD i.toNat ([], false)) ∧ G.getD i.toNat ([], false) ∈ G := by
  have hi : i.toNat < G.length := by omega
  rw [List.getD_eq_getElem?_getD, List.getElem?_eq_getElem hi]
  exact ⟨rfl, List.getElem_mem hi⟩
theorem did_dropL {N : Nat} {s : Lp} {S : List (List UInt8)} (h : At N s S) (load x : List UInt8) (e n i : Int) : Did N s S 4 load x false e (dropL s n i).2 := by
  unfold dropL
  split
  · split
    · exact did_drop0 h load x e _
    · exact did_none h 4 load x e (fun h => by cases h)
  · split
    · split
      · exact did_drop1 h load x e _
      · exact did_none h 4 load x e (fun h => by cases h)
    · exact did_none h 4 load x e (fun h => by cases h)
theorem did_twiceL {N : Nat} {s : Lp} {S : List (List UInt8)} (h : At N s S) (load x : List UInt8) (e n i : Int) : Did N s S 5 load x false e (twiceL s n i).2 := by
  unfold twiceL
  split
  · split
    · rename_i hi
      exact did_twice0 h load x e _ (getD_some hi).2
    · exact did_none h 5 load x e (fun h => by cases h)
  · split
    · split
      · rename_i hi
        exact did_twice1 h load x e _ (getD_some hi).2
      · exact did_none h 5 load x e (fun h => by cases h)
    · exact did_none h 5 load x e (fun h => by cases h)
theorem unspoilt {g : List UInt8 × Bool} (h : ¬ g.2 = true) : g = (g.1, false) := by
  obtain ⟨a, b⟩ := g
  cases b
  · rfl
  · exact absurd rfl h
theorem did_turnL {N : Nat} {s : Lp} {S : List (List UInt8)} (h : At N s S) (hN : N ≤ 4611686018427386000) (load x : List UInt8) (e n i at_ : Int) (by_ : UInt32) : Did N s S 6 load x false e (turnL s n i at_ by_).2 := by
  unfold turnL
  split
  · split
    · rename_i hi
      split
      · exact did_none h 6 load x e (fun h => by cases h)
      · rename_i hsp
        have hg := (getD_some hi).1
        rw [unspoilt hsp] at hg
        exact did_turn0 h hN load x e i.toNat _ hg at_ by_
    · exact did_none h 6 load x e (fun h => by cases h)
  · split
    · split
      · rename_i hi
        split
        · exact did_none h 6 load x e (fun h => by cases h)
        · rename_i hsp
          have hg := (getD_some hi).1
          rw [unspoilt hsp] at hg
          exact did_turn1 h hN load x e i.toNat _ hg at_ by_
      · exact did_none h 6 load x e (fun h => by cases h)
    · exact did_none h 6 load x e (fun h => by cases h)
theorem did_forgeL {N : Nat} {s : Lp} {S : List (List UInt8)} (h : At N s S) (load x : List UInt8) (e n : Int) (b : List UInt8) : Did N s S 7 load x false e (forgeL s n b).2 := by
  unfold forgeL
  split
  · exact did_none h 7 load x e (fun h => by cases h)
  split
  · exact did_none h 7 load x e (fun h => by cases h)
  split
  · exact did_none h 7 load x e (fun h => by cases h)
  rename_i hb
  split
  · exact did_forge0 h load x e b hb
  · exact did_forge1 h load x e b hb
theorem did_deliverL {N : Nat} {s : Lp} {S : List (List UInt8)} (h : At N s S) (hN : N ≤ 4611686018427386000) (load x : List UInt8) (e n i : Int) : Did N s S 3 load x false e (deliverL s n i).2 := by
  unfold deliverL
  split
  · rename_i hn
    subst hn
    split
    · rename_i hi
      exact did_deliver0 h hN load x e i.toNat _ _ (getD_some hi).1
    · exact did_none h 3 load x e (fun h => by cases h)
  · split
    · rename_i hn
      subst hn
      split
      · rename_i hi
        exact did_deliver1 h hN load x e i.toNat _ _ (getD_some hi).1
      · exact did_none h 3 load x e (fun h => by cases h)
    · exact did_none h 3 load x e (fun h => by cases h)
/-- A call of a script: what it answers, and the link behind it. -/
def actL (s : Lp) (kind net i at_ : Int) (by_ : UInt32) (load : List UInt8) : (List UInt8 × Bool × Int) × Lp :=
  if kind = 0 then (([], false, (sendL s load).1), (sendL s load).2)
  else if kind = 1 then (((pollL s).1.getD [], (pollL s).1.isSome, 0), (pollL s).2)
  else if kind = 2 then (([], false, 0), tickL s)
  else if kind = 3 then (([], false, (deliverL s net i).1), (deliverL s net i).2)
  else if kind = 4 then (([], false, (dropL s net i).1), (dropL s net i).2)
  else if kind = 5 then (([], false, (twiceL s net i).1), (twiceL s net i).2)
  else if kind = 6 then (([], false, (turnL s net i at_ by_).1), (turnL s net i at_ by_).2)
  else if kind = 7 then (([], false, (forgeL s net load).1), (forgeL s net load).2)
  else if kind = 8 then (([], false, 0), reconL s)
  else (([], false, 0), s)
theorem did_act {N : Nat} {s : Lp} {S : List (List UInt8)} (h : At N s S) (hN : N ≤ 4611686018427386000) (kind net i at_ : Int) (by_ : UInt32) (load : List UInt8) :
    Did N s S kind load (actL s kind net i at_ by_ load).1.1 (actL s kind net i at_ by_ load).1.2.1 (actL s kind net i at_ by_ load).1.2.2 (actL s kind net i at_ by_ load).2 := by
  by_cases h0 : kind = 0
  · subst h0; rw [show actL s 0 net i at_ by_ load = _ from if_pos rfl]; exact did_send h load _ _
  by_cases h1 : kind = 1
  · subst h1; rw [show actL s 1 net i at_ by_ load = (((pollL s).1.getD [], (pollL s).1.isSome, 0), (pollL s).2) from by unfold actL; rw [if_neg (by decide), if_pos rfl]]; exact did_poll h load _
  by_cases h2 : kind = 2
  · subst h2; rw [show actL s 2 net i at_ by_ load = (([], false, 0), tickL s) from by unfold actL; rw [if_neg (by decide), if_neg (by decide), if_pos rfl]]; exact did_tick h load _ _
  by_cases h3 : kind = 3
  · subst h3; rw [show actL s 3 net i at_ by_ load = (([], false, (deliverL s net i).1), (deliverL s net i).2) from by unfold actL; rw [if_neg (by decide), if_neg (by decide), if_neg (by decide), if_pos rfl]]; exact did_deliverL h hN load _ _ _ _
  by_cases h4 : kind = 4
  · subst h4; rw [show actL s 4 net i at_ by_ load = (([], false, (dropL s net i).1), (dropL s net i).2) from by unfold actL; rw [if_neg (by decide), if_neg (by decide), if_neg (by decide), if_neg (by decide), if_pos rfl]]; exact did_dropL h load _ _ _ _
  by_cases h5 : kind = 5
  · subst h5; rw [show actL s 5 net i at_ by_ load = (([], false, (twiceL s net i).1), (twiceL s net i).2) from by unfold actL; rw [if_neg (by decide), if_neg (by decide), if_neg (by decide), if_neg (by decide), if_neg (by decide), if_pos rfl]]; exact did_twiceL h load _ _ _ _
  by_cases h6 : kind = 6
  · subst h6; rw [show actL s 6 net i at_ by_ load = (([], false, (turnL s net i at_ by_).1), (turnL s net i at_ by_).2) from by unfold actL; rw [if_neg (by decide), if_neg (by decide), if_neg (by decide), if_neg (by decide), if_neg (by decide), if_neg (by decide), if_pos rfl]]; exact did_turnL h hN load _ _ _ _ _ _
  by_cases h7 : kind = 7
  · subst h7; rw [show actL s 7 net i at_ by_ load = (([], false, (forgeL s net load).1), (forgeL s net load).2) from by unfold actL; rw [if_neg (by decide), if_neg (by decide), if_neg (by decide), if_neg (by decide), if_neg (by decide), if_neg (by decide), if_neg (by decide), if_pos rfl]]; exact did_forgeL h load _ _ _ _
  by_cases h8 : kind = 8
  · subst h8; rw [show actL s 8 net i at_ by_ load = (([], false, 0), reconL s) from by unfold actL; rw [if_neg (by decide), if_neg (by decide), if_neg (by decide), if_neg (by decide), if_neg (by decide), if_neg (by decide), if_neg (by decide), if_neg (by decide), if_pos rfl]]; exact did_recon h load _ _
  · rw [show actL s kind net i at_ by_ load = (([], false, 0), s) from by unfold actL; rw [if_neg h0, if_neg h1, if_neg h2, if_neg h3, if_neg h4, if_neg h5, if_neg h6, if_neg h7, if_neg h8]]
    exact did_none h kind load _ _ (fun h => absurd h h0)
end Go.Proofs.Ytnpkpfcljkekfaa
