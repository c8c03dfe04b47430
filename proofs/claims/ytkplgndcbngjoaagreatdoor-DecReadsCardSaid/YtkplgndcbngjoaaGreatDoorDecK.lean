/- gantlineref06: digit, Make. -/
import Derived.Test.YtkplgndcbngjoaaGreatDoorDecJ
namespace Go.Proofs.YtkplgndcbngjoaaGreatDoor
open Go Go.RowKit
set_option linter.unusedVariables false
set_option maxRecDepth 100000
set_option linter.unusedSimpArgs false

def lead (l : List UInt8) (n : Nat) : Prop := ∀ (k : Nat) b, k < n → l[k]? = some b → b = 48
def trail (l : List UInt8) (m : Nat) : Prop := ∀ (k : Nat) b, m ≤ k → l[k]? = some b → b = 48
theorem lead_zero (l : List UInt8) : lead l 0 := fun k b h => by omega
theorem lead_succ {l : List UInt8} {n : Nat} (h : lead l n) (hn : n < l.length) (hc : l[n] = 48) : lead l (n + 1) := by
  intro k b hk hb
  rcases Nat.lt_or_ge k n with h1 | h1
  · exact h k b h1 hb
  · obtain rfl : k = n := by omega
    rw [List.getElem?_eq_getElem hn] at hb
    cases hb; exact hc
theorem trail_end (l : List UInt8) : trail l l.length := fun k b h hb => by
  rw [List.getElem?_eq_none h] at hb; cases hb
theorem trail_pred {l : List UInt8} {m : Nat} (h : trail l (m + 1)) (hm : m < l.length) (hc : l[m] = 48) : trail l m := by
  intro k b hk hb
  rcases Nat.lt_or_ge m k with h1 | h1
  · exact h k b h1 hb
  · obtain rfl : k = m := by omega
    rw [List.getElem?_eq_getElem hm] at hb
    cases hb; exact hc
theorem lead_all {l : List UInt8} (h : lead l l.length) : Lib.trimRightB l 48 = [] := by
  have := Lib.trimRightB_take l 48 0 (Nat.zero_le _) (fun j b _ hb => h j b (List.getElem?_eq_some_iff.1 hb).1 hb) (fun b h0 => by omega)
  simpa using this
theorem cut_both {l : List UInt8} {n m : Nat} (h1 : lead l n) (h2 : trail l m) (hnm : n < m) (hm : m ≤ l.length) (hn : l[n]'(by omega) ≠ 48) (hc : l[m - 1]'(by omega) ≠ 48) :
    Lib.trimRightB l 48 = l.take m ∧ Lib.trimLeftB (l.take m) 48 = (l.take m).drop n := by
  constructor
  · refine Lib.trimRightB_take l 48 m hm (fun j b hj hb => h2 j b hj hb) (fun b h0 hb => ?_)
    rw [List.getElem?_eq_getElem (by omega)] at hb
    cases hb; exact hc
  · refine Lib.trimLeftB_drop (l.take m) 48 n (by rw [List.length_take]; omega) (fun j b hj hb => ?_) (fun b hb => ?_)
    · rw [List.getElem?_take] at hb
      split at hb
      · exact h1 j b hj hb
      · cases hb
    · rw [List.getElem?_take, if_pos hnm, List.getElem?_eq_getElem (by omega)] at hb
      cases hb; exact hn
theorem ext_str (l : List UInt8) (n m : Nat) : (⟨l.toArray⟩ : ByteArray).extract n m = ⟨((l.take m).drop n).toArray⟩ := by
  apply ByteArray.ext
  apply Array.toList_inj.1
  rw [Lib.extract_data]
  simp [List.drop_take]
theorem rdigit_of (c : UInt8) (w : World) : Calls Tryz.prog 50 #[.int .u8 (c.toNat : Int)] w fun e w' => e = .returned (.bool (isDig c)) ∧ w = w' := by
  have hd : isDig c = true ↔ 48 ≤ c.toNat ∧ c.toNat ≤ 57 := by simp [isDig]
  go_enter Tryz.func50, Tryz.ntmps50
  go_wp2
  all_goals go_ret
  all_goals refine ⟨?_, rfl⟩
  all_goals go_simp
  all_goals (rw [Bool.eq_iff_iff]; try simp only [hd, decide_eq_true_eq, iff_true, true_iff, iff_false, false_iff, Bool.false_eq_true, Bool.and_eq_true])
  all_goals omega
set_option maxHeartbeats 4000000 in
theorem rmake_of (neg : Bool) (l : List UInt8) (x : Int) (w : World) (hl : l.length ≤ 9223372036854775807) (hx : -9223372036854775808 ≤ x ∧ x ≤ 9223372036854775807) :
    Calls Tryz.prog 29 #[.bool neg, .string ⟨l.toArray⟩, .int .i64 x] w fun e w' => e = .returned (.tuple #[(makeR neg l x).1.val, .int .i64 (makeR neg l x).2]) ∧ Chg Pure' w w' := by
  obtain ⟨R, hR⟩ : ∃ R, R = makeR neg l x := ⟨_, rfl⟩
  rw [← hR]
  have HR := Lib.hid hR
  clear hR
  by_cases hb : l = [] ∨ 4096 < l.length
  · have hr : R = (Num.none, 1) := by rw [HR.out, makeR, if_pos (by rcases hb with h | h; exact .inl h; exact .inr (.inl h))]
    subst hr
    clear HR
    have hb2 : l = [] ∨ 4096 < (l.length : Int) := by rcases hb with h | h; exact .inl h; exact .inr (by omega)
    go_enter Tryz.func29, Tryz.ntmps29
    go_wp2
    · refine bodyPost_ret (v := .tuple #[.agg #[.bool false, .string ⟨#[]⟩, .int .i64 0], .int .i64 1]) ?_ rfl ⟨rfl, Chg.alloc (Chg.refl _ _) _⟩
      unfold results
      go_simp
    · refine bodyPost_ret (v := .tuple #[.agg #[.bool false, .string ⟨#[]⟩, .int .i64 0], .int .i64 1]) ?_ rfl ⟨rfl, Chg.alloc (Chg.refl _ _) _⟩
      unfold results
      go_simp
    · exfalso
      have h := (by assumption : l.isEmpty = false ∧ (l.length : Int) ≤ 4096)
      rcases hb2 with h2 | h2
      · subst h2; simp at h
      · omega
  · have hne : l ≠ [] := fun h => hb (.inl h)
    have hlen : l.length ≤ 4096 := by have := fun h => hb (.inr h); omega
    have h0 : 0 < l.length := List.length_pos_iff.2 hne
    clear hb
    go_enter Tryz.func29, Tryz.ntmps29
    go_wp2
    · exfalso
      have h := (by assumption : l.isEmpty = true ∨ 4096 < (l.length : Int))
      rcases h with h2 | h2
      · exact hne (List.isEmpty_iff.1 h2)
      · omega
    rename l.isEmpty = false ∧ _ => hemp
    clear hemp
    go_loop [8] (fun i => ∃ n : Nat, n ≤ l.length ∧ i = .int .i64 n ∧ Hid (allDig (l.take n) = true)) (fun i => l.length - (intOf i).toNat)
    case atStart => exact ⟨0, Nat.zero_le _, rfl, Lib.hid rfl⟩
    case round =>
      obtain ⟨n, hn, rfl, HT⟩ := hrel
      rcases Nat.lt_or_ge n l.length with hlt | hge
      · have hg : ∀ h, (⟨l.toArray⟩ : ByteArray)[n]'h = l[n] := fun h => rfl
        go_wp2_with (first
          | (go_at_call 50; (try simp only [hg]); refine (rdigit_of l[n] _).mono ?_; rintro e w1 ⟨rfl, rfl⟩))
        · have hd : ¬ isDig l[n] = true := by have h := (by assumption : (!isDig l[n]) = true); simpa using h
          have hr : R = (Num.none, 1) := by
            rw [HR.out, makeR, if_pos (.inr (.inr (List.all_eq_false.2 ⟨l[n], List.getElem_mem _, hd⟩)))]
          refine bodyPost_ret (v := .tuple #[.agg #[.bool false, .string ⟨#[]⟩, .int .i64 0], .int .i64 1]) ?_ rfl ⟨by rw [hr]; rfl, Chg.alloc (Chg.refl _ _) _⟩
          unfold results
          first | done | go_simp
        · have hd : isDig l[n] = true := by have h := (by assumption : (!isDig l[n]) = false); simpa using h
          exact ⟨⟨n + 1, hlt, rfl, Lib.hid (allDig_succ hlt HT.out hd)⟩, by simp only [intOf]; omega⟩
      · obtain rfl : n = l.length := by omega
        have hall : allDig l = true := by have := HT.out; rwa [List.take_length] at this
        have HA := Lib.hid hall
        clear hall HT hge hn
        go_wp2
        go_loop [9] (fun f => ∃ n : Nat, n ≤ l.length ∧ f = .int .i64 n ∧ Hid (lead l n)) (fun f => l.length - (intOf f).toNat)
        case atStart => exact ⟨0, Nat.zero_le _, rfl, Lib.hid (lead_zero l)⟩
        case round =>
          obtain ⟨n, hn, rfl, HL⟩ := hrel
          rcases Nat.lt_or_ge n l.length with hlt | hge
          · have hg : ∀ h, (⟨l.toArray⟩ : ByteArray)[n]'h = l[n] := fun h => rfl
            have h48 := u8_eq l[n] 48 (by decide)
            by_cases hc : l[n] = 48
            · have hz : ((l[n].toNat : Nat) : Int) = 48 := h48.2 hc
              go_wp2
              exact ⟨⟨n + 1, hlt, rfl, Lib.hid (lead_succ HL.out hlt hc)⟩, by simp only [intOf]; omega⟩
            · have hz : ¬ ((l[n].toNat : Nat) : Int) = 48 := fun h => hc (h48.1 h)
              go_wp2
              repeat (rename (_ == _) = false => e1; clear e1)
              clear hz h48
              go_loop [10] (fun t => ∃ m : Nat, n < m ∧ m ≤ l.length ∧ t = .int .i64 m ∧ Hid (trail l m)) (fun t => (intOf t).toNat)
              case atStart => exact ⟨l.length, hlt, Nat.le_refl _, rfl, Lib.hid (trail_end l)⟩
              case round =>
                obtain ⟨m1, hnm, hm, rfl, HM⟩ := hrel
                obtain ⟨m, rfl⟩ : ∃ m, m1 = m + 1 := ⟨m1 - 1, by omega⟩
                have hlm : m < l.length := by omega
                have hgm : ∀ h, (⟨l.toArray⟩ : ByteArray)[m]'h = l[m] := fun h => rfl
                have h48 := u8_eq l[m] 48 (by decide)
                by_cases hcm : l[m] = 48
                · have hz : ((l[m].toNat : Nat) : Int) = 48 := h48.2 hcm
                  have hne2 : n ≠ m := by rintro rfl; exact hc hcm
                  go_wp2
                  exact ⟨⟨m, by omega, by omega, rfl, Lib.hid (trail_pred HM.out hlm hcm)⟩, by simp only [intOf]; omega⟩
                · have hz : ¬ ((l[m].toNat : Nat) : Int) = 48 := fun h => hcm (h48.1 h)
                  obtain ⟨t1, t2⟩ := cut_both HL.out HM.out hnm hm hc hcm
                  have hex := ext_str l n (m + 1)
                  rw [← t2, ← t1] at hex
                  have hD : (Lib.trimLeftB (Lib.trimRightB l 48) 48).length ≤ 9223372036854775807 := by
                    have := trimLeft_len (Lib.trimRightB l 48) 48
                    have := trimRight_len l 48
                    omega
                  have hm1 : (Lib.trimRightB l 48).length = m + 1 := by rw [t1, List.length_take]; omega
                  have hne3 : Lib.trimRightB l 48 ≠ [] := by intro h; rw [h] at hm1; simp at hm1
                  have hr : R = if x < -100000 ∨ 100000 < x then (Num.none, 11) else if Num.right ⟨neg, Lib.trimLeftB (Lib.trimRightB l 48) 48, x + l.length - ((m : Int) + 1)⟩ = true then (⟨neg, Lib.trimLeftB (Lib.trimRightB l 48) 48, x + l.length - ((m : Int) + 1)⟩, 0) else (Num.none, 11) := by
                    rw [HR.out, makeR, if_neg (by simp [hne, show l.all isDig = true from HA.out]; omega), if_neg hne3, hm1]
                    rfl
                  clear t1 t2 hne3 hm1 HR
                  generalize Lib.trimLeftB (Lib.trimRightB l 48) 48 = D at *
                  have HX := Lib.hid hr
                  clear hr
                  go_wp2_with (first
                    | (go_at_call 14; (try simp only [hex]); refine (rright06_of neg D _ _ hD).mono ?_; rintro e w1 ⟨rfl, z1⟩
                       obtain ⟨k1, k2⟩ := two_cells z1; obtain ⟨a0, a1, a2, af0, af1, af2⟩ := blk_cells k1; obtain ⟨b0, b1, b2, -⟩ := blk_cells k2; clear k1 k2))
                  all_goals first
                    | (have hfar : x < -100000 ∨ 100000 < x := by omega
                       have hr2 := HX.out
                       rw [if_pos hfar] at hr2
                       clear HX
                       refine bodyPost_ret (v := .tuple #[.agg #[.bool false, .string ⟨#[]⟩, .int .i64 0], .int .i64 11]) ?_ rfl ⟨by rw [hr2]; rfl, Chg.alloc (Chg.refl _ _) _⟩
                       unfold results
                       go_simp
                       done)
                    | (have hfar : ¬ (x < -100000 ∨ 100000 < x) := by omega
                       have hr2 := HX.out
                       rw [if_neg hfar] at hr2
                       have hri := (by assumption : (!Num.right ⟨neg, D, x + l.length - ((m : Int) + 1)⟩) = true)
                       rw [if_neg (by simpa using hri)] at hr2
                       clear HX
                       refine bodyPost_ret (v := .tuple #[.agg #[.bool false, .string ⟨#[]⟩, .int .i64 0], .int .i64 11]) ?_ rfl ⟨by rw [hr2]; rfl, (((((Chg.alloc (Chg.refl _ _) _).alloc _).trans' z1).setCell (.inl (Nat.le_refl _)) _).setCell (.inl (Nat.le_refl _)) _).setCell (.inl (Nat.le_refl _)) _⟩
                       unfold results
                       go_simp
                       done)
                    | (have hfar : ¬ (x < -100000 ∨ 100000 < x) := by omega
                       have hr2 := HX.out
                       rw [if_neg hfar] at hr2
                       have hri := (by assumption : (!Num.right ⟨neg, D, x + l.length - ((m : Int) + 1)⟩) = false)
                       rw [if_pos (by simpa using hri)] at hr2
                       clear HX
                       refine bodyPost_ret (v := .tuple #[.agg #[.bool neg, .string ⟨D.toArray⟩, .int .i64 (x + l.length - ((m : Int) + 1))], .int .i64 0]) ?_ rfl ⟨by rw [hr2]; rfl, (((((Chg.alloc (Chg.refl _ _) _).alloc _).trans' z1).setCell (.inl (Nat.le_refl _)) _).setCell (.inl (Nat.le_refl _)) _).setCell (.inl (Nat.le_refl _)) _⟩
                       unfold results
                       go_simp
                       done)
          · obtain rfl : n = l.length := by omega
            have hr : R = (Num.nought, 0) := by
              rw [HR.out, makeR, if_neg (by simp [hne, show l.all isDig = true from HA.out]; omega), if_pos (lead_all HL.out)]
            go_wp2
            refine bodyPost_ret (v := .tuple #[.agg #[.bool false, .string ⟨#[48]⟩, .int .i64 0], .int .i64 0]) ?_ rfl ⟨by first | rfl | (rw [hr]; rfl), Chg.alloc (Chg.refl _ _) _⟩
            unfold results
            go_simp
end Go.Proofs.YtkplgndcbngjoaaGreatDoor
