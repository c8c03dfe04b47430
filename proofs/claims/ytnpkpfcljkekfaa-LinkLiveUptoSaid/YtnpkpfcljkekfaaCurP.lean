/- Short numbers read back; what a datagram's load tells, in plain Lean. -/
import Derived.Test.YtnpkpfcljkekfaaCur
import Derived.Test.YtnpkpfcljkekfaaFrameQ
import Derived.Test.YtnpkpfcljkekfaaFrameK
namespace Go.Proofs.Ytnpkpfcljkekfaa
open Go Go.RowKit
set_option linter.unusedVariables false
set_option linter.unusedSimpArgs false

/-- How the read of a short number ends: the number and how many bytes it has; a byte that may not stand there; too few bytes. -/
inductive Sh where
  | good (n used : Nat)
  | form (i : Nat)
  | short
def shGo : List UInt8 → Nat → Nat → Sh
  | [], _, _ => .short
  | x :: r, i, n => if (i = 0 ∧ x.toNat = 128) ∨ (i = 9 ∧ 128 ≤ x.toNat) ∨ 144115188075855872 ≤ n then .form i else if x.toNat < 128 then .good (n * 128 + x.toNat % 128) (i + 1) else shGo r (i + 1) (n * 128 + x.toNat % 128)
/-- A cursor's place: its bytes, where it stands, and its fault. -/
structure Cr where
  b : List UInt8
  pos : Nat
  why : Nat
  fat : Nat
def shortC (c : Cr) : Nat × Cr :=
  if c.why ≠ 0 then (0, c) else match shGo (c.b.drop c.pos) 0 0 with
  | .good n u => (n, ⟨c.b, c.pos + u, 0, c.fat⟩)
  | .form i => (0, ⟨c.b, c.pos, 5, c.pos + i⟩)
  | .short => (0, ⟨c.b, c.pos, 3, c.b.length⟩)
theorem shGo_good : ∀ (r : List UInt8) (i n m u : Nat), shGo r i n = .good m u → i < u ∧ u ≤ i + r.length ∧ m < 18446744073709551616
  | [], i, n, m, u, h => by simp [shGo] at h
  | x :: r, i, n, m, u, h => by
    rw [shGo] at h
    split at h
    · cases h
    · rename_i h1
      split at h
      · rename_i h2
        cases h
        simp; omega
      · have := shGo_good r _ _ m u h
        simp; omega
theorem shGo_form : ∀ (r : List UInt8) (i n k : Nat), shGo r i n = .form k → i ≤ k ∧ k < i + r.length
  | [], i, n, k, h => by simp [shGo] at h
  | x :: r, i, n, k, h => by
    rw [shGo] at h
    split at h
    · cases h; simp
    · split at h
      · cases h
      · have := shGo_form r _ _ k h
        simp; omega
/-- The places of a cursor that may be. -/
structure Cr.Ok (c : Cr) (b : List UInt8) : Prop where
  eq : c.b = b
  pos : c.pos ≤ b.length
  fat : c.fat ≤ b.length
  why : c.why ≤ 5
  zero : c.why = 0 → c.fat = 0
theorem shortC_ok {c : Cr} {b : List UInt8} (h : c.Ok b) : (shortC c).2.Ok b := by
  obtain ⟨rfl, h1, h2, h3, h4⟩ := h
  unfold shortC
  by_cases hw : c.why ≠ 0
  · rw [if_pos hw]; exact ⟨rfl, h1, h2, h3, h4⟩
  · rw [if_neg hw]
    cases hs : shGo (c.b.drop c.pos) 0 0 with
    | good n u =>
      have := shGo_good _ _ _ _ _ hs
      simp only [List.length_drop] at this
      exact ⟨rfl, by simp only; omega, h2, by simp, fun _ => h4 (by omega)⟩
    | form i =>
      have := shGo_form _ _ _ _ hs
      simp only [List.length_drop] at this
      exact ⟨rfl, h1, by simp only; omega, by simp, fun h => by cases h⟩
    | short => exact ⟨rfl, h1, Nat.le_refl _, by simp, fun h => by cases h⟩
theorem shortC_lt {c : Cr} : (shortC c).1 < 18446744073709551616 := by
  unfold shortC
  split
  · simp
  · cases hs : shGo (c.b.drop c.pos) 0 0 with
    | good n u => exact (shGo_good _ _ _ _ _ hs).2.2
    | form i => simp
    | short => simp
/-- A fault stays. -/
theorem shortC_why {c : Cr} (h : c.why ≠ 0) : shortC c = (0, c) := by unfold shortC; rw [if_pos h]
theorem shGo_up : ∀ (k y : Nat), y ≤ k → y < 144115188075855872 → ∀ r, shGo ((upG y).reverse ++ r) 0 0 = shGo r (upG y).length y
  | k, y, hk, hy, r => by
    by_cases h0 : y = 0
    · subst h0; rw [upG_zero]; rfl
    · match k, hk with
      | 0, hk => omega
      | k + 1, hk =>
        rw [upG_pos h0, List.reverse_cons, List.append_assoc, shGo_up k (y / 128) (by omega) (by omega)]
        have hb : (UInt8.ofNat (y % 128 + 128)).toNat = y % 128 + 128 := by rw [UInt8.toNat_ofNat']; omega
        have hl : (upG (y / 128)).length ≤ 8 := upG_len 8 _ (by omega)
        rw [List.singleton_append, shGo, hb, if_neg, if_neg (by omega)]
        · rw [show y / 128 * 128 + (y % 128 + 128) % 128 = y by omega]; rfl
        · intro hh
          rcases hh with ⟨h1, h2⟩ | ⟨h1, h2⟩ | h1
          · have h3 : y / 128 = 0 := by
              apply Classical.byContradiction
              intro h4
              rw [upG_pos h4] at h1
              simp at h1
            omega
          · omega
          · omega
theorem shGo_short (n : Nat) (h : n < 18446744073709551616) (r : List UInt8) : shGo (shortB n ++ r) 0 0 = .good n (shortB n).length := by
  have hl : (upG (n / 128)).length ≤ 9 := upG_len 9 _ (by omega)
  have hb : (UInt8.ofNat (n % 128)).toNat = n % 128 := by rw [UInt8.toNat_ofNat']; omega
  unfold shortB
  rw [List.append_assoc, shGo_up _ (n / 128) (Nat.le_refl _) (by omega), List.singleton_append, shGo, hb, if_neg (by omega), if_pos (by omega)]
  simp
  omega
/-- Numbers one behind the other. -/
def shorts (l : List Nat) : List UInt8 := (l.map shortB).flatten
theorem shortC_at (pre r : List UInt8) (n : Nat) (h : n < 18446744073709551616) : shortC ⟨pre ++ (shortB n ++ r), pre.length, 0, 0⟩ = (n, ⟨pre ++ (shortB n ++ r), pre.length + (shortB n).length, 0, 0⟩) := by
  unfold shortC
  rw [if_neg (by simp)]
  simp only [List.drop_left']
  rw [shGo_short n h]
/-- A number of a message that may be. -/
def small (n : Nat) : Bool := decide (n ≤ 4611686018427387904)
/-- A message, and its bytes. -/
structure Ms where
  kind : Int
  token : UInt64
  epoch : Int
  seq : Int
  ack : Int
  bits : UInt64
  credit : Int
  format : Int
  load : List UInt8
deriving DecidableEq
def Ms.may (m : Ms) : Bool := decide (1 ≤ m.kind ∧ m.kind ≤ 7) && decide (0 ≤ m.epoch ∧ m.epoch ≤ 4611686018427387904) && decide (0 ≤ m.seq ∧ m.seq ≤ 4611686018427387904) && decide (0 ≤ m.ack ∧ m.ack ≤ 4611686018427387904) &&
  decide (0 ≤ m.credit ∧ m.credit ≤ 4611686018427387904) && decide (0 ≤ m.format ∧ m.format ≤ 2)
def Ms.nums (m : Ms) : List Nat := [m.kind.toNat, m.token.toNat, m.epoch.toNat, m.seq.toNat, m.ack.toNat, m.bits.toNat, m.credit.toNat, m.format.toNat]
def Ms.bytes (m : Ms) : List UInt8 := shorts m.nums ++ m.load
/-- What a load tells: the numbers, and where the cursor stands behind each. -/
def told (l : List UInt8) : List Nat × Cr :=
  let r1 := shortC ⟨l, 0, 0, 0⟩
  let r2 := shortC r1.2
  let r3 := shortC r2.2
  let r4 := shortC r3.2
  let r5 := shortC r4.2
  let r6 := shortC r5.2
  let r7 := shortC r6.2
  let r8 := shortC r7.2
  ([r1.1, r2.1, r3.1, r4.1, r5.1, r6.1, r7.1, r8.1], r8.2)
def tellM (l : List UInt8) : Option Ms :=
  match told l with
  | ([a, b, c, d, e, f, g, h], z) =>
    if z.why = 0 ∧ small a = true ∧ small c = true ∧ small d = true ∧ small e = true ∧ small g = true ∧ small h = true then
      let m : Ms := ⟨a, UInt64.ofNat b, c, d, e, UInt64.ofNat f, g, h, l.drop z.pos⟩
      if m.may = true then some m else none
    else none
  | _ => none
/-- What a datagram tells, or the error's number. -/
def unpackB (b : List UInt8) : Except Int Ms :=
  match lookB b with
  | .whole l => if l.length + 8 = b.length then (match tellM l with | some m => .ok m | none => .error 5) else .error 4
  | _ => .error 4
/-- A frame's load and its length tell the frame. -/
theorem whole_frame {b l : List UInt8} (h : lookB b = .whole l) (hl : b.length = l.length + 8) : b = frameB l := by
  obtain ⟨h1, h2, h3, h4, h5, h6⟩ := look_whole h
  have hlen : ((b.take (frameN b + 8)).drop 2).length = (frameN b + 2) + 4 := by simp; omega
  obtain ⟨e1, e2⟩ := (crcOpen_iff hlen _).1 h5
  have hb : b.take (frameN b + 8) = b := List.take_of_length_le (by omega)
  rw [hb] at e1 e2
  have hN := frameN_4 (xs := b) (by omega)
  match b, hl with
  | x0 :: x1 :: x2 :: x3 :: r, hl =>
    have hx0 : x0 = 165 ∧ x1 = 90 := by
      unfold headOk at h4
      simpa using h4
    obtain ⟨rfl, rfl⟩ := hx0
    have hd : (165 :: 90 :: x2 :: x3 :: r : List UInt8).drop 2 = x2 :: x3 :: r := rfl
    rw [hd] at e1 e2
    have ht : List.take (frameN (165 :: 90 :: x2 :: x3 :: r) + 2) (x2 :: x3 :: r) = x2 :: x3 :: l := by
      rw [e2, h6]
      generalize frameN (165 :: 90 :: x2 :: x3 :: r) = N
      rw [show N + 4 = (N + 1 + 1 + 1) + 1 from rfl, List.take_succ_cons, List.take_succ_cons, List.take_succ_cons, List.take_succ_cons]
      rfl
    have hN2 : (165 :: 90 :: x2 :: x3 :: r : List UInt8).getD 2 0 = x2 := rfl
    have hN3 : (165 :: 90 :: x2 :: x3 :: r : List UInt8).getD 3 0 = x3 := rfl
    rw [hN2, hN3] at hN
    rw [ht] at e1
    have b2 := x2.toNat_lt
    have b3 := x3.toNat_lt
    have e2' : UInt8.ofNat (l.length / 256) = x2 := by apply UInt8.toNat_inj.1; rw [UInt8.toNat_ofNat']; omega
    have e3' : UInt8.ofNat (l.length % 256) = x3 := by apply UInt8.toNat_inj.1; rw [UInt8.toNat_ofNat']; omega
    have hcat : x2 :: x3 :: r = (x2 :: x3 :: l) ++ crcMark (crcSum (x2 :: x3 :: l)) := by
      rw [← e1, ← ht, List.take_append_drop]
    unfold frameB
    rw [e2', e3']
    show _ = 165 :: 90 :: crcSeal (x2 :: x3 :: l)
    rw [hcat]
    rfl
theorem scan_load_le {b l : List UInt8} (h : l ∈ (scan b).1) : l.length ≤ 1200 := (scan_le b.length b (Nat.le_refl _)).2.2 l h
/-- Exactly one load, of which the frame is the bytes: the look at the beginning tells as much. -/
theorem one_whole {b l : List UInt8} (h : (scan b).1 = [l]) (hb : frameB l = b) : lookB b = .whole l ∧ l.length + 8 = b.length := by
  have hl : l.length ≤ 1200 := scan_load_le (by rw [h]; simp)
  have := look_frame l [] hl
  rw [List.append_nil, hb] at this
  exact ⟨this, by rw [← hb, frameB_len]⟩
theorem whole_one {b l : List UInt8} (h : lookB b = .whole l) (hl : l.length + 8 = b.length) : (scan b).1 = [l] ∧ frameB l = b := by
  have hb := whole_frame h hl.symm
  obtain ⟨h1, -, h3, -⟩ := look_whole h
  have := scan_frame l [] (by omega)
  rw [List.append_nil, ← hb] at this
  exact ⟨by rw [this]; rfl, hb.symm⟩
theorem unpackB_one {b l : List UInt8} (h : (scan b).1 = [l]) (hb : frameB l = b) : unpackB b = (match tellM l with | some m => .ok m | none => .error 5) := by
  obtain ⟨h1, h2⟩ := one_whole h hb
  unfold unpackB
  rw [h1]
  simp only [if_pos h2]
theorem unpackB_none {b : List UInt8} (h : ∀ l, (scan b).1 = [l] → frameB l ≠ b) : unpackB b = .error 4 := by
  unfold unpackB
  split
  · rename_i l hl
    by_cases h2 : l.length + 8 = b.length
    · obtain ⟨h3, h4⟩ := whole_one hl h2
      exact absurd h4 (h l h3)
    · rw [if_neg h2]
  · rfl
theorem told_bytes (m : Ms) (h : m.may = true) : told m.bytes = (m.nums, ⟨m.bytes, (shorts m.nums).length, 0, 0⟩) := by
  unfold Ms.may at h
  simp only [Bool.and_eq_true, decide_eq_true_eq] at h
  obtain ⟨⟨⟨⟨⟨h1, h2⟩, h3⟩, h4⟩, h5⟩, h6⟩ := h
  have t1 := m.token.toNat_lt
  have t2 := m.bits.toNat_lt
  have key := fun (pre r : List UInt8) (n : Nat) (h : n < 18446744073709551616) => shortC_at pre r n h
  unfold told Ms.bytes Ms.nums shorts
  simp only [List.map_cons, List.map_nil, List.flatten_cons, List.flatten_nil, List.append_nil]
  generalize hb : shortB m.kind.toNat ++ (shortB m.token.toNat ++ (shortB m.epoch.toNat ++ (shortB m.seq.toNat ++ (shortB m.ack.toNat ++ (shortB m.bits.toNat ++ (shortB m.credit.toNat ++ shortB m.format.toNat)))))) ++ m.load = B
  have e1 := key [] (shortB m.token.toNat ++ (shortB m.epoch.toNat ++ (shortB m.seq.toNat ++ (shortB m.ack.toNat ++ (shortB m.bits.toNat ++ (shortB m.credit.toNat ++ (shortB m.format.toNat ++ m.load))))))) m.kind.toNat (by omega)
  have e2 := key (shortB m.kind.toNat) (shortB m.epoch.toNat ++ (shortB m.seq.toNat ++ (shortB m.ack.toNat ++ (shortB m.bits.toNat ++ (shortB m.credit.toNat ++ (shortB m.format.toNat ++ m.load)))))) m.token.toNat (by omega)
  have e3 := key (shortB m.kind.toNat ++ shortB m.token.toNat) (shortB m.seq.toNat ++ (shortB m.ack.toNat ++ (shortB m.bits.toNat ++ (shortB m.credit.toNat ++ (shortB m.format.toNat ++ m.load))))) m.epoch.toNat (by omega)
  have e4 := key (shortB m.kind.toNat ++ shortB m.token.toNat ++ shortB m.epoch.toNat) (shortB m.ack.toNat ++ (shortB m.bits.toNat ++ (shortB m.credit.toNat ++ (shortB m.format.toNat ++ m.load)))) m.seq.toNat (by omega)
  have e5 := key (shortB m.kind.toNat ++ shortB m.token.toNat ++ shortB m.epoch.toNat ++ shortB m.seq.toNat) (shortB m.bits.toNat ++ (shortB m.credit.toNat ++ (shortB m.format.toNat ++ m.load))) m.ack.toNat (by omega)
  have e6 := key (shortB m.kind.toNat ++ shortB m.token.toNat ++ shortB m.epoch.toNat ++ shortB m.seq.toNat ++ shortB m.ack.toNat) (shortB m.credit.toNat ++ (shortB m.format.toNat ++ m.load)) m.bits.toNat (by omega)
  have e7 := key (shortB m.kind.toNat ++ shortB m.token.toNat ++ shortB m.epoch.toNat ++ shortB m.seq.toNat ++ shortB m.ack.toNat ++ shortB m.bits.toNat) (shortB m.format.toNat ++ m.load) m.credit.toNat (by omega)
  have e8 := key (shortB m.kind.toNat ++ shortB m.token.toNat ++ shortB m.epoch.toNat ++ shortB m.seq.toNat ++ shortB m.ack.toNat ++ shortB m.bits.toNat ++ shortB m.credit.toNat) m.load m.format.toNat (by omega)
  simp only [List.append_assoc, List.nil_append, List.length_nil] at hb e1 e2 e3 e4 e5 e6 e7 e8
  simp only [List.length_append] at e1 e2 e3 e4 e5 e6 e7 e8
  rw [hb] at e1 e2 e3 e4 e5 e6 e7 e8
  simp only [Nat.zero_add] at e1
  rw [e1]
  simp only
  rw [e2]
  simp only [← Nat.add_assoc] at e3 e4 e5 e6 e7 e8 ⊢
  rw [e3]
  simp only
  rw [e4]
  simp only
  rw [e5]
  simp only
  rw [e6]
  simp only
  rw [e7]
  simp only
  rw [e8]
  simp only [List.length_append, ← Nat.add_assoc]
theorem tell_bytes (m : Ms) (h : m.may = true) : tellM m.bytes = some m := by
  unfold tellM
  rw [told_bytes m h]
  have h' := h
  unfold Ms.may at h'
  simp only [Bool.and_eq_true, decide_eq_true_eq] at h'
  obtain ⟨⟨⟨⟨⟨h1, h2⟩, h3⟩, h4⟩, h5⟩, h6⟩ := h'
  simp only [Ms.nums, small, decide_eq_true_eq]
  rw [if_pos (by refine ⟨?_, ?_, ?_, ?_, ?_, ?_, ?_⟩ <;> first | trivial | omega)]
  have e : (⟨(m.kind.toNat : Int), UInt64.ofNat m.token.toNat, (m.epoch.toNat : Int), (m.seq.toNat : Int), (m.ack.toNat : Int), UInt64.ofNat m.bits.toNat, (m.credit.toNat : Int), (m.format.toNat : Int), m.bytes.drop (shorts m.nums).length⟩ : Ms) = m := by
    have hd : m.bytes.drop (shorts m.nums).length = m.load := by unfold Ms.bytes; exact List.drop_left' rfl
    rw [hd, Int.toNat_of_nonneg (by omega), Int.toNat_of_nonneg h2.1, Int.toNat_of_nonneg h3.1, Int.toNat_of_nonneg h4.1, Int.toNat_of_nonneg h5.1, Int.toNat_of_nonneg h6.1, UInt64.ofNat_toNat, UInt64.ofNat_toNat]
  unfold Ms.nums at e
  rw [e, if_pos h]
end Go.Proofs.Ytnpkpfcljkekfaa
