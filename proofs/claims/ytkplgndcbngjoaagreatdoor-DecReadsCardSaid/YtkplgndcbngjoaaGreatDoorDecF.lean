/- dec: Whole, Parse. -/
import Derived.Test.YtkplgndcbngjoaaGreatDoorDecD
import Derived.Test.YtkplgndcbngjoaaGreatDoorDecB
import Derived.Test.YtkplgndcbngjoaaGreatDoorDecE
import Derived.Test.YtkplgndcbngjoaaGreatDoorDecR
namespace Go.Proofs.YtkplgndcbngjoaaGreatDoor
open Go Go.RowKit
set_option linter.unusedVariables false
set_option maxRecDepth 100000
set_option linter.unusedSimpArgs false

def Flt (why at' : Int) : Value := .agg #[.int .i64 why, .int .i64 at']
theorem stepB_le (q : Nat) (c : UInt8) (h : q ≤ 8) : stepB q c ≤ 9 := by
  unfold stepB; repeat' split
  all_goals omega
theorem two_cells {w w1 : World} {C1 C2 : Array Value} {t1 t2 : TypeId} (z : Chg Pure' ((w.alloc (.cells C1 t1)).alloc (.cells C2 t2)) w1) :
    (w1.heap[w.heap.size]? = some (.cells C1 t1 (0, 0))) ∧ (w1.heap[w.heap.size + 1]? = some (.cells C2 t2 (0, 0))) := by
  constructor
  · refine (z.block w.heap.size (by simp; omega) (fun h => h)).trans ?_
    rw [Below.heap_alloc _ _ _ (by simp)]
    exact Array.getElem?_push_size
  · refine (z.block (w.heap.size + 1) (by simp) (fun h => h)).trans ?_
    have : w.heap.size + 1 = (w.alloc (.cells C1 t1)).heap.size := by simp
    rw [this]
    exact Array.getElem?_push_size
theorem cutSign_of (l : List UInt8) (w : World) : Calls Tryz.prog 18 #[.string ⟨l.toArray⟩, .string ⟨#[45]⟩] w fun e w' => e = .returned (.tuple #[.string ⟨(Lib.trimPrefix l [45]).toArray⟩, .bool (Lib.hasPrefix l [45])]) ∧ w = w' :=
  (Tryz.strings_CutPrefix ⟨l.toArray⟩ ⟨#[45]⟩ w).mono (by rintro e w' ⟨rfl, rfl⟩; exact ⟨rfl, rfl⟩)
theorem replE_of (l : List UInt8) (w : World) (hl : l.length ≤ 4096) (he : Env w) :
    Calls Tryz.prog 20 #[.string ⟨l.toArray⟩, .string ⟨#[69]⟩, .string ⟨#[101]⟩] w fun e w' => e = .returned (.string ⟨(l.map (swap 69 101)).toArray⟩) ∧ Chg Pure' w w' := by
  obtain ⟨m, hm⟩ := he.max
  have hc : Lib.countB ⟨l.toArray⟩ ⟨#[69]⟩ ≤ 4096 := by
    have : Lib.countB ⟨l.toArray⟩ ⟨#[69]⟩ = Lib.count l [69] := rfl
    rw [this, Lib.count_one]
    exact Nat.le_trans List.count_le_length hl
  have hz : (⟨l.toArray⟩ : ByteArray).size = l.length := by simp [ByteArray.size]
  have h1 : (⟨#[101]⟩ : ByteArray).size = 1 := rfl
  refine (Tryz.strings_ReplaceAll ⟨l.toArray⟩ ⟨#[69]⟩ ⟨#[101]⟩ m w (by omega) hm (by decide) (by rw [h1]; omega)).mono ?_
  rintro e w' ⟨rfl, hB⟩
  refine ⟨?_, Below.chg hB⟩
  have hr := replace_one 69 101 (by decide) l
  exact congrArg (fun x : List UInt8 => Ending.returned (.string ⟨x.toArray⟩)) hr
theorem cutB_of (c : UInt8) (l : List UInt8) (w : World) (hl : l.length ≤ 4096) (he : Env w) :
    Calls Tryz.prog 19 #[.string ⟨l.toArray⟩, .string ⟨#[c]⟩] w fun e w' => ∃ b, e = .returned (.tuple #[.string ⟨(before c l).toArray⟩, .string ⟨(behind c l).toArray⟩, .bool b]) ∧ Chg Pure' w w' := by
  obtain ⟨m, hm⟩ := he.max
  have hz : (⟨l.toArray⟩ : ByteArray).size = l.length := by simp [ByteArray.size]
  refine (Tryz.strings_Cut ⟨l.toArray⟩ ⟨#[c]⟩ m w (by omega) hm).mono ?_
  rintro e w' ⟨rfl, n, rfl⟩
  obtain ⟨h1, h2⟩ := cut_one c l
  refine ⟨(Lib.cut l [c]).2.2, ?_, (Chg.refl _ _).drewN n⟩
  rw [← h1, ← h2]
theorem before_len (c : UInt8) (l : List UInt8) : (before c l).length ≤ l.length := (List.takeWhile_prefix _).length_le
theorem behind_len (c : UInt8) (l : List UInt8) : (behind c l).length ≤ l.length := by
  unfold behind
  rw [List.length_drop]
  have : (l.dropWhile (· != c)).length ≤ l.length := (List.dropWhile_suffix _).length_le
  omega
theorem trimPre_len (l p : List UInt8) : (Lib.trimPrefix l p).length ≤ l.length := by
  unfold Lib.trimPrefix; split
  · simp
  · exact Nat.le_refl _
theorem blk_cells2 {w : World} {g : Nat} {a b : Value} {t : TypeId} (h : w.heap[g]? = some (.cells #[a, b] t (0, 0))) :
    w.cell? ⟨g, 0, none⟩ = some a ∧ w.cell? ⟨g, 1, none⟩ = some b ∧ w.frozen? ⟨g, 0, none⟩ = false ∧ w.frozen? ⟨g, 1, none⟩ = false := by
  have e := fun j => cell_of_row w g j #[a, b] t (0, 0) h
  exact ⟨(e 0).trans rfl, (e 1).trans rfl, free_at h, free_at h⟩
theorem cat_str (a b : List UInt8) : (⟨a.toArray⟩ : ByteArray) ++ ⟨b.toArray⟩ = ⟨(a ++ b).toArray⟩ := by
  apply ByteArray.ext; simp [ByteArray.data_append]
theorem errA_good {s : List UInt8} {st : Nat} (h : (lookD 0 s).1 = st) (hst : st = 2 ∨ st = 3 ∨ st = 5 ∨ st = 8) : errA 0 s = none ∧
    ∀ {R : Num × Int × Int}, R = parseA s → s.length ≤ 4096 → R = if (partsA s).2 = 0 then ((partsA s).1, 0, 0) else (Num.none, (partsA s).2, 0) := by
  have hA : errA 0 s = none := by
    unfold errA
    rw [h]
    rcases hst with rfl | rfl | rfl | rfl <;> rfl
  exact ⟨hA, fun hR hl => by rw [hR, errA_no hA hl]⟩
set_option maxHeartbeats 4000000 in
theorem parse_of (s : List UInt8) (w : World) (hs : s.length ≤ 9223372036854775807) (he : Env w) :
    Calls Tryz.prog 6 #[.string ⟨s.toArray⟩] w fun e w' => e = .returned (.tuple #[(parseA s).1.val, Flt (parseA s).2.1 (parseA s).2.2]) ∧ Chg Pure' w w' := by
  obtain ⟨R, hR⟩ : ∃ R, R = parseA s := ⟨_, rfl⟩
  rw [← hR]
  have HR := Lib.hid hR
  clear hR
  go_enter Tryz.func6, Tryz.ntmps6
  go_wp2
  · have hlong : R = (Num.none, 11, 0) := by rw [HR.out, parseA, if_pos (by omega)]
    refine bodyPost_ret (v := .tuple #[.agg #[.bool false, .string ⟨#[]⟩, .int .i64 0], .agg #[.int .i64 11, .int .i64 0]]) ?_ rfl ⟨by rw [hlong]; rfl, (Chg.alloc (Chg.refl _ _) _).alloc _⟩
    unfold results
    go_simp
  have hl : s.length ≤ 4096 := by omega
  go_loop [4, 22] (fun q k => ∃ n st : Nat, n ≤ s.length ∧ k = .int .i64 n ∧ q = .int .i64 st ∧ st ≤ 8 ∧ Hid ((lookD 0 s).1 = (lookD st (s.drop n)).1 ∧ (lookD 0 s).2 = n + (lookD st (s.drop n)).2)) (fun q k => s.length - (intOf k).toNat)
  case atStart => exact ⟨0, 0, Nat.zero_le _, rfl, rfl, Nat.zero_le _, Lib.hid ⟨rfl, by simp⟩⟩
  case round =>
    obtain ⟨n, st, hn, rfl, rfl, hst, HL⟩ := hrel
    rcases Nat.lt_or_ge n s.length with hlt | hge
    · have hdrop : s.drop n = s[n] :: s.drop (n + 1) := List.drop_eq_getElem_cons hlt
      have hg : ∀ h, (⟨s.toArray⟩ : ByteArray)[n]'h = s[n] := by intro h; rfl
      go_wp2_with (first
        | (go_at_call 17; (try simp only [hg]); refine (step_of st hst s[n] _).mono ?_; rintro e w1 ⟨rfl, rfl⟩))
      · have h9 : stepB st s[n] = 9 := by
          have h := (by assumption : ((stepB st s[n] : Int) == 9) = true); simp at h; omega
        obtain ⟨l1, l2⟩ := HL.out
        rw [hdrop] at l1 l2
        simp only [lookD, h9, if_pos] at l1 l2
        have hr : R = (Num.none, 5, (n : Int)) := by rw [HR.out, parseA, if_neg (by omega), if_pos l1, l2]; rfl
        refine bodyPost_ret (v := .tuple #[.agg #[.bool false, .string ⟨#[]⟩, .int .i64 0], .agg #[.int .i64 5, .int .i64 n]]) ?_ rfl ⟨by rw [hr]; rfl, (Chg.alloc (Chg.refl _ _) _).alloc _⟩
        unfold results
        go_simp
      · have h9 : stepB st s[n] ≠ 9 := by
          have h := (by assumption : ((stepB st s[n] : Int) == 9) = false); simp at h; omega
        have hle := stepB_le st s[n] hst
        obtain ⟨l1, l2⟩ := HL.out
        rw [hdrop] at l1 l2
        simp only [lookD, if_neg h9] at l1 l2
        refine ⟨⟨n + 1, stepB st s[n], hlt, rfl, rfl, by omega, Lib.hid ⟨l1, by omega⟩⟩, ?_⟩
        simp only [intOf]; omega
    · obtain rfl : n = s.length := by omega
      have hd : s.drop s.length = [] := List.drop_length
      obtain ⟨l1, l2⟩ := HL.out
      rw [hd] at l1 l2
      simp only [lookD] at l1 l2
      have L1 := Lib.hid l1
      clear l1 l2 HL hd
      have y0 : Chg Pure' w ((w.alloc (.cells #[.bool false, .string ⟨#[]⟩, .int .i64 0] 23)).alloc (.cells #[.int .i64 0, .int .i64 0] 26)) := (Chg.alloc (Chg.refl _ _) _).alloc _
      have hT := trimPre_len s [45]
      have tk := Tryz.underlying3
      have hU : ((Lib.trimPrefix s [45]).map (swap 69 101)).length ≤ 4096 := by rw [List.length_map]; omega
      have hlf : (leftP s).length ≤ 4096 := Nat.le_trans (before_len _ _) (Nat.le_trans (before_len _ _) hU)
      have hrt : (rightP s).length ≤ 4096 := Nat.le_trans (behind_len _ _) (Nat.le_trans (before_len _ _) hU)
      have hlf2 : (before 46 (before 101 ((Lib.trimPrefix s [45]).map (swap 69 101)))).length ≤ 4096 := hlf
      have hrt2 : (behind 46 (before 101 ((Lib.trimPrefix s [45]).map (swap 69 101)))).length ≤ 4096 := hrt
      go_wp2_with (first
        | (go_at_call 18; refine (cutSign_of _ _).mono ?_; rintro e w1 ⟨rfl, rfl⟩)
        | (go_at_call 20; refine (replE_of _ _ (by omega) (he.pure y0)).mono ?_; rintro e w1 ⟨rfl, z1⟩)
        | (go_at_call 19; first
            | (clear tk; refine (cutB_of 101 _ _ (by omega) (he.pure (y0.trans' z1))).mono ?_; rintro e w2 ⟨b2, rfl, z2⟩)
            | (refine (cutB_of 46 _ _ (Nat.le_trans (before_len _ _) (by omega)) (he.pure ((y0.trans' z1).trans' z2))).mono ?_; rintro e w3 ⟨b3, rfl, z3⟩))
        | (go_at_call 22
           have hst2 : st = 2 ∨ st = 3 ∨ st = 5 ∨ st = 8 := by
             first
               | (have h := (by assumption : ((st : Int) == 2) = true); simp at h; omega)
               | (have h := (by assumption : ((st : Int) == 3) = true); simp at h; omega)
               | (have h := (by assumption : ((st : Int) == 5) = true); simp at h; omega)
               | (have h := (by assumption : ((st : Int) == 8) = true); simp at h; omega)
           have hA := errA_good L1.out hst2
           have HP := Lib.hid (hA.2 HR.out hl)
           have hg := parts_good hA.1
           refine (exponent_of (tailP s) _ (Nat.le_trans (behind_len _ _) (by omega)) hg).mono ?_; rintro e w4 ⟨rfl, z4⟩
           have hb := expA_bound _ hg)
        | (go_at_call 21
           change Calls _ _ #[.bool _, .string (⟨(leftP s).toArray⟩ ++ ⟨(rightP s).toArray⟩), .int .i64 (expA (tailP s) - ((rightP s).length : Int))] _ _
           rw [cat_str]
           refine (decMake_of _ _ _ _ (by rw [List.length_append]; omega) (by omega)).mono ?_; rintro e w5 ⟨rfl, z5⟩
           rw [show makeA (Lib.hasPrefix s [45]) (leftP s ++ rightP s) (expA (tailP s) - ((rightP s).length : Int)) = partsA s from rfl]
           obtain ⟨⟨⟨pn, pd, px⟩, pe⟩, hP⟩ : ∃ P, P = partsA s := ⟨_, rfl⟩
           rw [← hP] at HP ⊢
           clear hP
           dsimp only [Num.val]
           have y5 := y0.trans' ((((z1.trans' z2).trans' z3).trans' z4).trans' z5)
           obtain ⟨k1, k2⟩ := two_cells ((((z1.trans' z2).trans' z3).trans' z4).trans' z5)
           obtain ⟨c0, c1, c2, f0, f1, f2⟩ := blk_cells k1
           obtain ⟨d0, d1, g0, g1⟩ := blk_cells2 k2
           have hz5 : w.heap.size + 2 ≤ w5.heap.size := by
             have h1 := ((((z1.trans' z2).trans' z3).trans' z4).trans' z5).size
             simpa using h1
           have F1 : ∀ o i, (w5.alloc o).frozen? ⟨w.heap.size, i, none⟩ = false := fun o i => free_at (((Chg.alloc (Chg.refl Pure' w5) o).block w.heap.size (by omega) (fun h => h)).trans k1)
           have F2 : ∀ o i, (w5.alloc o).frozen? ⟨w.heap.size + 1, i, none⟩ = false := fun o i => free_at (((Chg.alloc (Chg.refl Pure' w5) o).block (w.heap.size + 1) (by omega) (fun h => h)).trans k2)
           have C0 : ∀ o, (w5.alloc o).cell? ⟨w.heap.size, 0, none⟩ = some (.bool false) := fun o => (Chg.alloc (Chg.refl Pure' w5) o).cell c0 (fun h => h)
           have C1 : ∀ o, (w5.alloc o).cell? ⟨w.heap.size, 1, none⟩ = some (.string ⟨#[]⟩) := fun o => (Chg.alloc (Chg.refl Pure' w5) o).cell c1 (fun h => h)
           have C2 : ∀ o, (w5.alloc o).cell? ⟨w.heap.size, 2, none⟩ = some (.int .i64 0) := fun o => (Chg.alloc (Chg.refl Pure' w5) o).cell c2 (fun h => h)
           have D0 : ∀ o, (w5.alloc o).cell? ⟨w.heap.size + 1, 0, none⟩ = some (.int .i64 0) := fun o => (Chg.alloc (Chg.refl Pure' w5) o).cell d0 (fun h => h)
           have D1 : ∀ o, (w5.alloc o).cell? ⟨w.heap.size + 1, 1, none⟩ = some (.int .i64 0) := fun o => (Chg.alloc (Chg.refl Pure' w5) o).cell d1 (fun h => h)
           clear k1 k2))
      all_goals first
        | (have hpe := (by assumption : (pe != 0) = true)
           have hpe : pe ≠ 0 := by simpa using hpe
           refine bodyPost_ret (v := .tuple #[.agg #[.bool false, .string ⟨#[]⟩, .int .i64 0], .agg #[.int .i64 pe, .int .i64 0]]) ?_ rfl ⟨by rw [HP.out]; simp only [if_neg hpe]; rfl, (((((Chg.alloc y5 _).setCell (.inl (Nat.le_refl _)) _).setCell (.inl (Nat.le_refl _)) _).setCell (.inl (Nat.le_refl _)) _).setCell (.inl (Nat.le_succ _)) _).setCell (.inl (Nat.le_succ _)) _⟩
           unfold results
           go_simp
           done)
        | (have hpe := (by assumption : (pe != 0) = false)
           have hpe : pe = 0 := by simpa using hpe
           refine bodyPost_ret (v := .tuple #[.agg #[.bool pn, .string ⟨pd.toArray⟩, .int .i64 px], .agg #[.int .i64 0, .int .i64 0]]) ?_ rfl ⟨by rw [HP.out]; simp only [if_pos hpe]; rfl, (((((Chg.alloc y5 _).setCell (.inl (Nat.le_refl _)) _).setCell (.inl (Nat.le_refl _)) _).setCell (.inl (Nat.le_refl _)) _).setCell (.inl (Nat.le_succ _)) _).setCell (.inl (Nat.le_succ _)) _⟩
           unfold results
           go_simp
           done)
        | skip
      have hq : lastQ st = false := by
        have h2 := (by assumption : ((st : Int) == 2) = false)
        have h3 := (by assumption : ((st : Int) == 3) = false)
        have h5 := (by assumption : ((st : Int) == 5) = false)
        have h8 := (by assumption : ((st : Int) == 8) = false)
        simp at h2 h3 h5 h8
        unfold lastQ; simp; omega
      have hr : R = (Num.none, 3, (s.length : Int)) := by
        rw [HR.out, parseA, if_neg (by omega), L1.out, if_neg (by omega), if_pos hq]
      refine bodyPost_ret (v := .tuple #[.agg #[.bool false, .string ⟨#[]⟩, .int .i64 0], .agg #[.int .i64 3, .int .i64 s.length]]) ?_ rfl ⟨by rw [hr]; rfl, (Chg.alloc (Chg.refl _ _) _).alloc _⟩
      unfold results
      go_simp
theorem repeatZ (c : Nat) : Lib.repeatL [48] c = List.replicate c 48 := by
  induction c with
  | zero => rfl
  | succ k ih =>
    simp [Lib.repeatL] at *
    rw [List.replicate_succ, ih]
theorem rep_of (c : Nat) (w : World) (hc : c ≤ 1000000) : Calls Tryz.prog 35 #[.string ⟨#[48]⟩, .int .i64 c] w fun e w' => e = .returned (.string ⟨(List.replicate c (48 : UInt8)).toArray⟩) ∧ Chg Pure' w w' := by
  have h1 : (⟨#[48]⟩ : ByteArray).size = 1 := rfl
  refine (Tryz.strings_Repeat ⟨#[48]⟩ c w (by omega) (by rw [h1]; omega)).mono ?_
  rintro e w' ⟨rfl, hB⟩
  exact ⟨by rw [← repeatZ], Below.chg hB⟩
set_option maxHeartbeats 2000000 in
theorem whole_of (n : Num) (w : World) (hl : n.dig.length ≤ 9223372036854775807) :
    Calls Tryz.prog 11 #[n.val] w fun e w' => e = .returned (.tuple #[.string ⟨(wholeA n).1.toArray⟩, .bool (wholeA n).2]) ∧ Chg Pure' w w' := by
  obtain ⟨R, hR⟩ : ∃ R, R = wholeA n := ⟨_, rfl⟩
  rw [← hR]
  obtain ⟨neg, l, x⟩ := n
  have HR := Lib.hid hR
  clear hR
  obtain ⟨r, hr⟩ : ∃ r, r = (⟨neg, l, x⟩ : Num).right := ⟨_, rfl⟩
  have hlen : r = true → l.length ≤ 800 ∧ -2000 ≤ x ∧ x ≤ 2000 := fun h => ⟨Num.right_len (n := ⟨neg, l, x⟩) (by rw [← hr]; exact h), Num.right_exp (n := ⟨neg, l, x⟩) (by rw [← hr]; exact h)⟩
  have HH := Lib.hid hr
  clear hr
  unfold Num.val
  cases r with
  | false =>
    go_enter Tryz.func11, Tryz.ntmps11
    go_wp2_with (first
      | (go_at_call 13; refine (decRight_any _ _ _ _ hl).mono ?_; rintro e w1 ⟨rfl, z1⟩; rw [← HH.out]; obtain ⟨c0, c1, c2⟩ := num_cells z1))
    go_ret2
    have hr : R = ([], false) := by rw [HR.out, wholeA, if_neg (by rw [← HH.out]; simp)]
    exact ⟨by rw [hr]; rfl, (Chg.alloc (Chg.refl _ _) _).trans' z1⟩
  | true =>
    obtain ⟨hl1, hx1⟩ := hlen rfl
    have HT : R = if 0 ≤ x ∧ x ≤ 800 - l.length then (l ++ List.replicate x.toNat 48, true) else ([], false) := by
      rw [HR.out, wholeA, ← HH.out]; simp
    have HT := Lib.hid HT
    clear HR
    go_enter Tryz.func11, Tryz.ntmps11
    go_wp2_with (first
      | (go_at_call 13; refine (decRight_any _ _ _ _ hl).mono ?_; rintro e w1 ⟨rfl, z1⟩; rw [← HH.out]; obtain ⟨c0, c1, c2⟩ := num_cells z1))
    · have hr : R = ([], false) := by rw [HT.out, if_neg (by omega)]
      go_ret2
      exact ⟨by rw [hr]; rfl, (Chg.alloc (Chg.refl _ _) _).trans' z1⟩
    · obtain ⟨k, rfl⟩ : ∃ k : Nat, x = k := ⟨x.toNat, by omega⟩
      have hr : R = (l ++ List.replicate k 48, true) := by rw [HT.out, if_pos (by assumption)]; rfl
      have hk : k ≤ 800 := by omega
      refine reg_begin (Pure') (by kernel_rfl) ?_
      refine reg_take 0 (v := ?_) rfl (by kernel_rfl) (by kernel_rfl) (by kernel_rfl) (fun _ _ _ h => h) (by kernel_rfl) ?_ ?_
      rotate_left
      · (intro w' hS; go_simp; (try go_bits); (try with_reducible rfl))
      try simp only [Act.put, List.getElem_toArray, List.getElem_cons_zero, List.getElem_cons_succ, List.setIfInBounds_toArray, List.set_cons_zero, List.set_cons_succ]
      refine reg_take 1 (v := ?_) rfl (by kernel_rfl) (by kernel_rfl) (by kernel_rfl) (fun _ _ _ h => h) (by kernel_rfl) ?_ ?_
      rotate_left
      · (intro w' hS; have hz := hS.cell (w := w1.drew) c1 (fun h => h); go_simp; (try go_bits); (try with_reducible rfl))
      try simp only [Act.put, List.getElem_toArray, List.getElem_cons_zero, List.getElem_cons_succ, List.setIfInBounds_toArray, List.set_cons_zero, List.set_cons_succ]
      refine reg_take 2 (v := ?_) rfl (by kernel_rfl) (by kernel_rfl) (by kernel_rfl) (fun _ _ _ h => h) (by kernel_rfl) ?_ ?_
      rotate_left
      · (intro w' hS; go_simp; (try go_bits); (try with_reducible rfl))
      try simp only [Act.put, List.getElem_toArray, List.getElem_cons_zero, List.getElem_cons_succ, List.setIfInBounds_toArray, List.set_cons_zero, List.set_cons_succ]
      refine reg_take 3 (v := ?_) rfl (by kernel_rfl) (by kernel_rfl) (by kernel_rfl) (fun _ _ _ h => h) (by kernel_rfl) ?_ ?_
      rotate_left
      · (intro w' hS; have hz := hS.cell (w := w1.drew) c2 (fun h => h); go_simp; (try go_bits); (try with_reducible rfl))
      try simp only [Act.put, List.getElem_toArray, List.getElem_cons_zero, List.getElem_cons_succ, List.setIfInBounds_toArray, List.set_cons_zero, List.set_cons_succ]
      refine reg_do 4 rfl (by kernel_rfl) (by kernel_rfl) ?_
      intro K hK
      go_simp
      refine (rep_of k _ (by omega)).mono ?_
      rintro e w2 ⟨rfl, z2⟩
      refine hK _ _ (z2) ?_
      clear hK K
      try simp only [Act.put, List.getElem_toArray, List.getElem_cons_zero, List.getElem_cons_succ, List.setIfInBounds_toArray, List.set_cons_zero, List.set_cons_succ]
      refine reg_take 5 (v := .string ⟨(l ++ List.replicate k (48 : UInt8)).toArray⟩) rfl (by kernel_rfl) (by kernel_rfl) (by kernel_rfl) (fun _ _ _ h => h) (by kernel_rfl) ?_ ?_
      · intro w' hS
        go_simp
        rw [if_neg (by omega)]
        have hcat : (⟨l.toArray⟩ : ByteArray) ++ ⟨Array.replicate k 48⟩ = ⟨(l ++ List.replicate k 48).toArray⟩ := by
          rw [← cat_str]; simp
        rw [hcat]
      simp only [Act.put, List.getElem_toArray, List.getElem_cons_zero, List.getElem_cons_succ, List.setIfInBounds_toArray, List.set_cons_zero, List.set_cons_succ]
      refine reg_take 6 (v := ?_) rfl (by kernel_rfl) (by kernel_rfl) (by kernel_rfl) (fun _ _ _ h => h) (by kernel_rfl) ?_ ?_
      rotate_left
      · (intro w' hS; go_simp; (try go_bits); (try with_reducible rfl))
      try simp only [Act.put, List.getElem_toArray, List.getElem_cons_zero, List.getElem_cons_succ, List.setIfInBounds_toArray, List.set_cons_zero, List.set_cons_succ]
      refine reg_take 7 (v := ?_) rfl (by kernel_rfl) (by kernel_rfl) (by kernel_rfl) (fun _ _ _ h => h) (by kernel_rfl) ?_ ?_
      rotate_left
      · (intro w' hS; go_simp; (try go_bits); (try with_reducible rfl))
      try simp only [Act.put, List.getElem_toArray, List.getElem_cons_zero, List.getElem_cons_succ, List.setIfInBounds_toArray, List.set_cons_zero, List.set_cons_succ]
      refine wpAnyH_done (by kernel_rfl) ?_ _
      go_wp2
      go_ret2
      exact ⟨by rw [hr]; rfl, ((Chg.alloc (Chg.refl _ _) _).trans' z1).trans' (((Chg.refl _ _).drew).trans' z2)⟩
    · go_ret2
      exact ⟨rfl, (Chg.alloc (Chg.refl _ _) _).trans' z1⟩
end Go.Proofs.YtkplgndcbngjoaaGreatDoor
