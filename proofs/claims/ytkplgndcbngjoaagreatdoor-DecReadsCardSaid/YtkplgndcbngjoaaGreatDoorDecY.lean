/- gantlineref06: Parse. -/
import Derived.Test.YtkplgndcbngjoaaGreatDoorDecX
import Derived.Deep.Cut
namespace Go.Proofs.YtkplgndcbngjoaaGreatDoor
open Go Go.RowKit
set_option linter.unusedVariables false
set_option maxRecDepth 100000
set_option linter.unusedSimpArgs false

def stN (s : List UInt8) : Bool := rIs s 45 ⟨0, 0, 0⟩
def st1 (s : List UInt8) : Rd := rMay s 45 ⟨0, 0, 0⟩
def stZ (s : List UInt8) : Bool := rIs s 48 (st1 s)
def st2 (s : List UInt8) : Rd := rMay s 48 (st1 s)
def stW (s : List UInt8) : List UInt8 := if stZ s then [48] else rDigs s (st2 s)
def st3 (s : List UInt8) : Rd := if stZ s then st2 s else rDigits s (st2 s)
def stD (s : List UInt8) : Bool := rIs s 46 (st3 s)
def st4 (s : List UInt8) : Rd := rMay s 46 (st3 s)
def stP (s : List UInt8) : List UInt8 := if stD s then rDigs s (st4 s) else []
def st5 (s : List UInt8) : Rd := if stD s then rDigits s (st4 s) else st4 s
def stE (s : List UInt8) : Bool := rIs s 101 (st5 s) || rIs s 69 (st5 s)
def st6 (s : List UInt8) : Rd := ⟨(st5 s).k + 1, (st5 s).why, (st5 s).fa⟩
def stM (s : List UInt8) : Bool := rIs s 45 (st6 s)
def stU (s : List UInt8) : Bool := rIs s 43 (st6 s)
def st7 (s : List UInt8) : Rd := if stM s || stU s then ⟨(st6 s).k + 1, (st6 s).why, (st6 s).fa⟩ else st6 s
def stG (s : List UInt8) : List UInt8 := rDigs s (st7 s)
def st8 (s : List UInt8) : Rd := rDigits s (st7 s)
def stX (s : List UInt8) : Int := if stE s then (if stM s then - satD 0 (stG s) else satD 0 (stG s)) else 0
def st9 (s : List UInt8) : Rd := if stE s then st8 s else st5 s
def stF (s : List UInt8) : Rd := if (st9 s).k < s.length then rWrong s (st9 s) else st9 s
def parseS (s : List UInt8) : Num × Int × Int :=
  if 4096 < s.length then (Num.none, 11, 0)
  else if (stF s).why ≠ 0 then (Num.none, (stF s).why, (stF s).fa)
  else
    let r := makeR (stN s) (stW s ++ stP s) (stX s - (stP s).length)
    if r.2 = 0 then (r.1, 0, 0) else (Num.none, 11, 0)
theorem rIs_lt {s : List UInt8} {c : UInt8} {r : Rd} (h : rIs s c r = true) : r.k < s.length := by
  simp only [rIs, Bool.and_eq_true, decide_eq_true_eq] at h
  rcases Nat.lt_or_ge r.k s.length with h1 | h1
  · exact h1
  · rw [List.drop_eq_nil_of_le h1] at h; simp at h
theorem rDigs_all (s : List UInt8) (r : Rd) : (rDigs s r).all isDig = true := by
  unfold rDigs; split
  · exact digsR_all _
  · rfl
theorem rDigs_len (s : List UInt8) (r : Rd) : (rDigs s r).length ≤ s.length := by
  unfold rDigs; split
  · have := congrArg List.length (digs_rest (s.drop r.k))
    rw [List.length_append, List.length_drop] at this; omega
  · simp
theorem satD_bound : ∀ (l : List UInt8) (a : Int), 0 ≤ a → a ≤ 1000000 → l.all isDig = true → 0 ≤ satD a l ∧ satD a l ≤ 1000000
  | [], a, h0, h1, _ => ⟨h0, h1⟩
  | c :: r, a, h0, h1, h => by
    simp only [List.all_cons, Bool.and_eq_true] at h
    have hc := (isDig_t c).1 h.1
    exact satD_bound r _ (by omega) (by omega) h.2
theorem stX_bound (s : List UInt8) : -1000000 ≤ stX s ∧ stX s ≤ 1000000 := by
  have := satD_bound (stG s) 0 (by omega) (by omega) (rDigs_all _ _)
  unfold stX; repeat' split
  all_goals omega
theorem RdAt.bump {w : World} {g : Nat} {s : List UInt8} {r : Rd} (h : RdAt w g s r) (hk : r.k < s.length) : RdAt (w.setCell ⟨g, 1, none⟩ (.int .i64 ((r.k : Int) + 1))) g s ⟨r.k + 1, r.why, r.fa⟩ := by
  obtain ⟨c0, c1, c2, c3, f1, f2, f3, le⟩ := h
  exact ⟨by go_simp, by go_simp, by go_simp, by go_simp, by go_simp, by go_simp, by go_simp, hk⟩
theorem three_cells' {w w1 : World} {C1 C2 C3 : Array Value} {t1 t2 t3 : TypeId} (z : Chg Pure' (((w.alloc (.cells C1 t1)).alloc (.cells C2 t2)).alloc (.cells C3 t3)) w1) :
    (w1.heap[w.heap.size]? = some (.cells C1 t1 (0, 0))) ∧ (w1.heap[w.heap.size + 1]? = some (.cells C2 t2 (0, 0))) ∧ (w1.heap[w.heap.size + 1 + 1]? = some (.cells C3 t3 (0, 0))) := by
  obtain ⟨h1, h2⟩ := two_cells (((Chg.refl Pure' ((w.alloc (.cells C1 t1)).alloc (.cells C2 t2))).alloc (.cells C3 t3)).trans' z)
  refine ⟨h1, h2, ?_⟩
  refine (z.block (w.heap.size + 1 + 1) (by simp) (fun h => h)).trans ?_
  have : w.heap.size + 1 + 1 = ((w.alloc (.cells C1 t1)).alloc (.cells C2 t2)).heap.size := by simp
  rw [this]
  exact Array.getElem?_push_size
theorem rd_new {w : World} {g : Nat} {s : List UInt8} {t : TypeId} (h : w.heap[g]? = some (.cells #[.string ⟨s.toArray⟩, .int .i64 0, .int .i64 0, .int .i64 0] t (0, 0))) : RdAt w g s ⟨0, 0, 0⟩ := by
  have e := fun j => cell_of_row w g j #[.string ⟨s.toArray⟩, .int .i64 0, .int .i64 0, .int .i64 0] t (0, 0) h
  exact ⟨(e 0).trans rfl, (e 1).trans rfl, (e 2).trans rfl, (e 3).trans rfl, free_at h, free_at h, free_at h, Nat.zero_le _⟩
set_option maxHeartbeats 4000000 in
theorem rparse_of (s : List UInt8) (w : World) (hs : s.length ≤ 9223372036854775807) :
    Calls Tryz.prog 7 #[.string ⟨s.toArray⟩] w fun e w' => e = .returned (.tuple #[(parseS s).1.val, Flt (parseS s).2.1 (parseS s).2.2]) ∧ Chg Pure' w w' := by
  obtain ⟨R, hR⟩ : ∃ R, R = parseS s := ⟨_, rfl⟩
  rw [← hR]
  have HR := Lib.hid hR
  clear hR
  by_cases hl0 : 4096 < s.length
  · have hr : R = (Num.none, 11, 0) := by rw [HR.out, parseS, if_pos hl0]
    subst hr
    clear HR
    go_enter Tryz.func7, Tryz.ntmps7
    go_wp2
    refine bodyPost_ret (v := .tuple #[.agg #[.bool false, .string ⟨#[]⟩, .int .i64 0], .agg #[.int .i64 11, .int .i64 0]]) ?_ rfl ⟨rfl, (Chg.alloc (Chg.refl _ _) _).alloc _⟩
    unfold results
    go_simp
  have hl : s.length ≤ 4096 := by omega
  clear hl0
  have tk1 := Tryz.underlying3
  go_enter Tryz.func7, Tryz.ntmps7
  go_upto_region 4 with (fail)
  obtain ⟨w0, hw0⟩ : ∃ v, v = (((w.alloc (.cells #[.bool false, .string ⟨#[]⟩, .int .i64 0] 23)).alloc (.cells #[.int .i64 0, .int .i64 0] 26)).alloc (.cells #[.string ⟨s.toArray⟩, .int .i64 0, .int .i64 0, .int .i64 0] 49)) := ⟨_, rfl⟩
  have y0 : Chg Pure' w w0 := by rw [hw0]; exact ((Chg.alloc (Chg.refl _ _) _).alloc _).alloc _
  obtain ⟨k1, k2, k3⟩ := three_cells' (w1 := w0) (by rw [hw0]; exact Chg.refl _ _)
  have h0 : RdAt w0 (w.heap.size + 1 + 1) s ⟨0, 0, 0⟩ := rd_new k3
  rw [← hw0]
  clear hw0 k3
  obtain ⟨g, hg⟩ : ∃ g, w.heap.size + 1 + 1 = g := ⟨_, rfl⟩
  simp only [hg] at h0 ⊢
  have K1 := Lib.hid k1
  have K2 := Lib.hid k2
  have HG := Lib.hid hg
  have H0 := Lib.hid h0
  clear k1 k2 h0 hg
  go_upto_if 20 with (first
    | (go_at_call 23; first
        | (clear tk1; refine (rmay_of H0.out 45 hl).mono ?_; rintro e w1 ⟨rfl, h1, z1⟩; have H1 := Lib.hid (show RdAt w1 g s (st1 s) from h1); clear h1; rw [show rIs s 45 ⟨0, 0, 0⟩ = stN s from rfl])
        | (refine (rmay_of H1.out 48 hl).mono ?_; rintro e w2 ⟨rfl, h2, z2⟩; have H2 := Lib.hid (show RdAt w2 g s (st2 s) from h2); clear h2; rw [show rIs s 48 (st1 s) = stZ s from rfl])))
  have Z2 := Lib.hid (z1.trans' z2)
  clear z1 z2 H0 H1
  go_cut [6] from 12 (fun v6 wx => v6 = .string ⟨(stW s).toArray⟩ ∧ Hid (RdAt wx g s (st3 s)) ∧ Hid (Chg (fun k => k = g) w0 wx))
  case first =>
    cases hz : stZ s with
    | true =>
      go_wp2
      go_meet
      exact ⟨by unfold stW; rw [if_pos hz], Lib.hid (by unfold st3; rw [if_pos hz]; exact H2.out), Z2⟩
    | false =>
      go_wp2_with (first
        | (go_at_call 24; refine (rdigits_of H2.out hl).mono ?_; rintro e w3 ⟨rfl, h3, z3⟩; have H3 := Lib.hid h3; clear h3))
      go_meet
      exact ⟨by unfold stW; rw [if_neg (by simp [hz])], Lib.hid (by unfold st3; rw [if_neg (by simp [hz])]; exact H3.out), Lib.hid (Z2.out.trans' z3)⟩
  case rest =>
    obtain ⟨rfl, H3, Z3⟩ := hcut
    clear H2 Z2
    go_upto_if 22 with (first
      | (go_at_call 23; refine (rmay_of H3.out 46 hl).mono ?_; rintro e w4 ⟨rfl, h4, z4⟩; have H4 := Lib.hid (show RdAt w4 g s (st4 s) from h4); clear h4; rw [show rIs s 46 (st3 s) = stD s from rfl]))
    have Z4 := Lib.hid (Z3.out.trans' z4)
    clear z4 H3 Z3
    go_cut [7] from 12 (fun v7 wx => v7 = .string ⟨(stP s).toArray⟩ ∧ Hid (RdAt wx g s (st5 s)) ∧ Hid (Chg (fun k => k = g) w0 wx))
    case first =>
      cases hz : stD s with
      | true =>
        go_wp2_with (first
          | (go_at_call 24; refine (rdigits_of H4.out hl).mono ?_; rintro e w5 ⟨rfl, h5, z5⟩; have H5 := Lib.hid h5; clear h5))
        go_meet
        exact ⟨by unfold stP; rw [if_pos hz], Lib.hid (by unfold st5; rw [if_pos hz]; exact H5.out), Lib.hid (Z4.out.trans' z5)⟩
      | false =>
        go_wp2
        go_meet
        exact ⟨by unfold stP; rw [if_neg (by simp [hz])], Lib.hid (by unfold st5; rw [if_neg (by simp [hz])]; exact H4.out), Z4⟩
    case rest =>
      obtain ⟨rfl, H5, Z5⟩ := hcut
      clear H4 Z4
      have tk2 := Tryz.underlying3
      have hs2 : s.length ≤ 9223372036854775807 := by omega
      go_upto_region 13 with (fail)
      go_cut [27] from 12 (fun v27 wx => v27 = .bool (stE s) ∧ Hid (RdAt wx g s (st5 s)) ∧ Hid (Chg (fun k => k = g) w0 wx))
      case first =>
        cases he : rIs s 101 (st5 s) with
        | true =>
          go_wp2_with (first
            | (go_at_call 25; refine (ris_of H5.out 101 hs2).mono ?_; rintro e w6 ⟨rfl, z6⟩; rw [he]; have H6 := Lib.hid (H5.out.stay z6 (fun h => h))))
          go_meet
          exact ⟨by unfold stE; rw [he]; rfl, H6, Lib.hid (Z5.out.trans' (Chg.of_pure z6))⟩
        | false =>
          go_wp2_with (first
            | (go_at_call 25; first
                | (clear tk2; refine (ris_of H5.out 101 hs2).mono ?_; rintro e w6 ⟨rfl, z6⟩; rw [he]; have H6 := Lib.hid (H5.out.stay z6 (fun h => h)))
                | (refine (ris_of H6.out 69 hs2).mono ?_; rintro e w7 ⟨rfl, z7⟩; have H7 := Lib.hid (H6.out.stay z7 (fun h => h)))))
          go_meet
          exact ⟨by unfold stE; rw [he]; rfl, H7, Lib.hid ((Z5.out.trans' (Chg.of_pure z6)).trans' (Chg.of_pure z7))⟩
      case rest =>
        obtain ⟨rfl, H6, Z6⟩ := hcut
        clear H5 Z5
        go_upto_if 27 with (fail)
        go_cut [8, 9] from 12 (fun v8 v9 wx => v8 = .int .i64 (stX s) ∧ Hid (RdAt wx g s (st9 s)) ∧ Hid (Chg (fun k => k = g) w0 wx))
        case first =>
          cases he : stE s with
          | false =>
            go_wp2
            go_meet
            exact ⟨by unfold stX; rw [if_neg (by simp [he])], Lib.hid (by unfold st9; rw [if_neg (by simp [he])]; exact H6.out), Z6⟩
          | true =>
            have hlt : (st5 s).k < s.length := by
              unfold stE at he
              rcases Bool.or_eq_true_iff.1 he with h | h <;> exact rIs_lt h
            obtain ⟨c0, c1, c2, c3, f1, f2, f3, le⟩ := id H6.out
            have HB := Lib.hid (show RdAt (wc.setCell ⟨g, 1, none⟩ (.int .i64 (((st5 s).k : Int) + 1))) g s (st6 s) from H6.out.bump hlt)
            have ZB := Lib.hid (Chg.setCell (S := fun k => k = g) Z6.out (p := ⟨g, 1, none⟩) (.inr rfl) (.int .i64 (((st5 s).k : Int) + 1)))
            have hGl : (stG s).length ≤ 4096 := Nat.le_trans (rDigs_len _ _) hl
            have hGb := satD_bound (stG s) 0 (by omega) (by omega) (rDigs_all _ _)
            have tk3 := Tryz.underlying3
            cases hm : stM s with
            | true =>
              have hlt2 : (st6 s).k < s.length := rIs_lt hm
              have h7 : st7 s = ⟨(st6 s).k + 1, (st6 s).why, (st6 s).fa⟩ := by unfold st7; rw [if_pos (by rw [hm]; rfl)]
              have H7 := Lib.hid h7
              clear h7
              go_wp2_with (first
                | (go_at_call 25; refine (ris_of HB.out 45 hs2).mono ?_; rintro e wa ⟨rfl, za⟩; rw [show rIs s 45 (st6 s) = true from hm]; have HA := Lib.hid (HB.out.stay za (fun h => h)); obtain ⟨d0, d1, d2, d3, g1, g2, g3, -⟩ := id HA.out)
                | (go_at_call 24; refine (rdigits_of (r := st7 s) (by rw [H7.out]; exact HA.out.bump hlt2) hl).mono ?_; rintro e wd ⟨rfl, hd, zd⟩; have HD := Lib.hid (show RdAt wd g s (st8 s) from hd); clear hd; rw [show rDigs s (st7 s) = stG s from rfl])
                | (go_at_call 26; refine (rexp_of (stG s) _ hGl (rDigs_all _ _)).mono ?_; rintro e we ⟨rfl, rfl⟩))
              go_meet
              exact ⟨by unfold stX; rw [if_pos he, if_pos hm], Lib.hid (by unfold st9; rw [if_pos he]; exact HD.out), Lib.hid ((Chg.setCell (S := fun k => k = g) (ZB.out.trans' (Chg.of_pure za)) (p := ⟨g, 1, none⟩) (.inr rfl) _).trans' zd)⟩
            | false =>
              cases hu : stU s with
              | true =>
                have hlt2 : (st6 s).k < s.length := rIs_lt hu
                have h7 : st7 s = ⟨(st6 s).k + 1, (st6 s).why, (st6 s).fa⟩ := by unfold st7; rw [if_pos (by rw [hm, hu]; rfl)]
                have H7 := Lib.hid h7
                clear h7
                go_wp2_with (first
                  | (go_at_call 25; first
                      | (clear tk3; refine (ris_of HB.out 45 hs2).mono ?_; rintro e wa ⟨rfl, za⟩; rw [show rIs s 45 (st6 s) = false from hm]; have HA := Lib.hid (HB.out.stay za (fun h => h)))
                      | (refine (ris_of HA.out 43 hs2).mono ?_; rintro e wf ⟨rfl, zf⟩; rw [show rIs s 43 (st6 s) = true from hu]; have HU := Lib.hid (HA.out.stay zf (fun h => h)); obtain ⟨d0, d1, d2, d3, g1, g2, g3, -⟩ := id HU.out))
                  | (go_at_call 24; refine (rdigits_of (r := st7 s) (by rw [H7.out]; exact HU.out.bump hlt2) hl).mono ?_; rintro e wd ⟨rfl, hd, zd⟩; have HD := Lib.hid (show RdAt wd g s (st8 s) from hd); clear hd; rw [show rDigs s (st7 s) = stG s from rfl])
                  | (go_at_call 26; refine (rexp_of (stG s) _ hGl (rDigs_all _ _)).mono ?_; rintro e we ⟨rfl, rfl⟩))
                go_meet
                exact ⟨by unfold stX; rw [if_pos he, if_neg (by simp [hm])], Lib.hid (by unfold st9; rw [if_pos he]; exact HD.out), Lib.hid ((Chg.setCell (S := fun k => k = g) ((ZB.out.trans' (Chg.of_pure za)).trans' (Chg.of_pure zf)) (p := ⟨g, 1, none⟩) (.inr rfl) _).trans' zd)⟩
              | false =>
                have h7 : st7 s = st6 s := by unfold st7; rw [if_neg (by rw [hm, hu]; simp)]
                have H7 := Lib.hid h7
                clear h7
                go_wp2_with (first
                  | (go_at_call 25; first
                      | (clear tk3; refine (ris_of HB.out 45 hs2).mono ?_; rintro e wa ⟨rfl, za⟩; rw [show rIs s 45 (st6 s) = false from hm]; have HA := Lib.hid (HB.out.stay za (fun h => h)))
                      | (refine (ris_of HA.out 43 hs2).mono ?_; rintro e wf ⟨rfl, zf⟩; rw [show rIs s 43 (st6 s) = false from hu]; have HU := Lib.hid (HA.out.stay zf (fun h => h))))
                  | (go_at_call 24; refine (rdigits_of (r := st7 s) (by rw [H7.out]; exact HU.out) hl).mono ?_; rintro e wd ⟨rfl, hd, zd⟩; have HD := Lib.hid (show RdAt wd g s (st8 s) from hd); clear hd; rw [show rDigs s (st7 s) = stG s from rfl])
                  | (go_at_call 26; refine (rexp_of (stG s) _ hGl (rDigs_all _ _)).mono ?_; rintro e we ⟨rfl, rfl⟩))
                go_meet
                exact ⟨by unfold stX; rw [if_pos he, if_neg (by simp [hm])], Lib.hid (by unfold st9; rw [if_pos he]; exact HD.out), Lib.hid (((ZB.out.trans' (Chg.of_pure za)).trans' (Chg.of_pure zf)).trans' zd)⟩
        case rest =>
          obtain ⟨rfl, H9, Z9⟩ := hcut
          clear H6 Z6
          obtain ⟨c0, c1, c2, c3, f1, f2, f3, le⟩ := id H9.out
          go_upto_if 50 with (fail)
          go_cut [] from 12 (fun wx => Hid (RdAt wx g s (stF s)) ∧ Hid (Chg (fun k => k = g) w0 wx))
          case first =>
            by_cases hk : (st9 s).k < s.length
            · have hki : ((st9 s).k : Int) < (s.length : Int) := by omega
              go_wp2_with (first
                | (go_at_call 27; refine (rwrong_of H9.out).mono ?_; rintro e w2 ⟨rfl, h2, z2⟩; have H2 := Lib.hid h2; clear h2))
              go_meet
              exact ⟨Lib.hid (by unfold stF; rw [if_pos hk]; exact H2.out), Lib.hid (Z9.out.trans' z2)⟩
            · have hki : ¬ ((st9 s).k : Int) < (s.length : Int) := by omega
              go_wp2
              go_meet
              exact ⟨Lib.hid (by unfold stF; rw [if_neg hk]; exact H9.out), Z9⟩
          case rest =>
            obtain ⟨HF, ZF⟩ := hcut
            clear H9 Z9 c0 c1 c2 c3 f1 f2 f3 le
            obtain ⟨c0, c1, c2, c3, f1, f2, f3, le⟩ := id HF.out
            have kk1 : wc.heap[w.heap.size]? = some (.cells #[.bool false, .string ⟨#[]⟩, .int .i64 0] 23 (0, 0)) :=
              (ZF.out.block w.heap.size ((Array.getElem?_eq_some_iff.1 K1.out).1) (fun h => by have := HG.out; omega)).trans K1.out
            have kk2 : wc.heap[w.heap.size + 1]? = some (.cells #[.int .i64 0, .int .i64 0] 26 (0, 0)) :=
              (ZF.out.block (w.heap.size + 1) ((Array.getElem?_eq_some_iff.1 K2.out).1) (fun h => by have := HG.out; omega)).trans K2.out
            obtain ⟨a0, a1, a2, af0, af1, af2⟩ := blk_cells kk1
            obtain ⟨b0, b1, bf0, bf1⟩ := blk_cells2 kk2
            have y1 : Hid (Chg Pure' w wc) := Lib.hid (y0.trans (T := fun k => k = g) ZF.out (fun i hi e => by have := HG.out; omega))
            have hWl : (stW s).length ≤ 4096 := by
              unfold stW; split
              · simp
              · exact Nat.le_trans (rDigs_len _ _) hl
            have hPl : (stP s).length ≤ 4096 := by
              unfold stP; split
              · exact Nat.le_trans (rDigs_len _ _) hl
              · simp
            have hX := stX_bound s
            by_cases hw : (stF s).why = 0
            · have hr : R = if (makeR (stN s) (stW s ++ stP s) (stX s - (stP s).length)).2 = 0 then ((makeR (stN s) (stW s ++ stP s) (stX s - (stP s).length)).1, 0, 0) else (Num.none, 11, 0) := by
                rw [HR.out, parseS, if_neg (by omega), if_neg (by simp [hw])]
              obtain ⟨⟨⟨pn, pd, px⟩, pe⟩, hP⟩ : ∃ P, P = makeR (stN s) (stW s ++ stP s) (stX s - (stP s).length) := ⟨_, rfl⟩
              have hM := rmake_of (stN s) (stW s ++ stP s) (stX s - (stP s).length)
              rw [← hP] at hr hM
              dsimp only [Num.val] at hr hM
              have HP := Lib.hid hr
              have HM := Lib.hid hM
              clear hr hM hP HR
              go_wp2_with (first
                | (go_at_call 28; refine (rok_of HF.out).mono ?_; rintro e wo ⟨rfl, rfl⟩; rw [decide_eq_true hw])
                | (go_at_call 29; rw [cat_str]; refine (HM.out _ (by rw [List.length_append]; omega) (by omega)).mono ?_; rintro e w5 ⟨rfl, z5⟩
                   have hz5 : w.heap.size + 2 ≤ w5.heap.size := by
                     have h1 := z5.size
                     have h2 := (Array.getElem?_eq_some_iff.1 kk2).1
                     have h3 := ZF.out.size
                     omega
                   have l1 := (z5.block w.heap.size ((Array.getElem?_eq_some_iff.1 kk1).1) (fun h => h)).trans kk1
                   have l2 := (z5.block (w.heap.size + 1) ((Array.getElem?_eq_some_iff.1 kk2).1) (fun h => h)).trans kk2
                   have F1 : ∀ o i, (w5.alloc o).frozen? ⟨w.heap.size, i, none⟩ = false := fun o i => free_at (((Chg.alloc (Chg.refl Pure' w5) o).block w.heap.size (by omega) (fun h => h)).trans l1)
                   have F2 : ∀ o i, (w5.alloc o).frozen? ⟨w.heap.size + 1, i, none⟩ = false := fun o i => free_at (((Chg.alloc (Chg.refl Pure' w5) o).block (w.heap.size + 1) (by omega) (fun h => h)).trans l2)
                   clear a0 a1 a2 af0 af1 af2 b0 b1 bf0 bf1 kk1 kk2
                   obtain ⟨a0, a1, a2, -⟩ := blk_cells l1
                   obtain ⟨b0, b1, -⟩ := blk_cells2 l2
                   have C0 : ∀ o, (w5.alloc o).cell? ⟨w.heap.size, 0, none⟩ = some (.bool false) := fun o => (Chg.alloc (Chg.refl Pure' w5) o).cell a0 (fun h => h)
                   have C1 : ∀ o, (w5.alloc o).cell? ⟨w.heap.size, 1, none⟩ = some (.string ⟨#[]⟩) := fun o => (Chg.alloc (Chg.refl Pure' w5) o).cell a1 (fun h => h)
                   have C2 : ∀ o, (w5.alloc o).cell? ⟨w.heap.size, 2, none⟩ = some (.int .i64 0) := fun o => (Chg.alloc (Chg.refl Pure' w5) o).cell a2 (fun h => h)
                   have D0 : ∀ o, (w5.alloc o).cell? ⟨w.heap.size + 1, 0, none⟩ = some (.int .i64 0) := fun o => (Chg.alloc (Chg.refl Pure' w5) o).cell b0 (fun h => h)
                   have D1 : ∀ o, (w5.alloc o).cell? ⟨w.heap.size + 1, 1, none⟩ = some (.int .i64 0) := fun o => (Chg.alloc (Chg.refl Pure' w5) o).cell b1 (fun h => h)
                   clear l1 l2))
              all_goals first
                | (have hpe := (by assumption : (pe != 0) = true)
                   have hpe : pe ≠ 0 := by simpa using hpe
                   refine bodyPost_ret (v := .tuple #[.agg #[.bool false, .string ⟨#[]⟩, .int .i64 0], .agg #[.int .i64 11, .int .i64 0]]) ?_ rfl ⟨by rw [HP.out]; simp only [if_neg hpe]; rfl, (((((Chg.alloc (y1.out.trans' z5) _).setCell (.inl (Nat.le_refl _)) _).setCell (.inl (Nat.le_refl _)) _).setCell (.inl (Nat.le_refl _)) _).setCell (.inl (Nat.le_succ _)) _).setCell (.inl (Nat.le_succ _)) _⟩
                   unfold results
                   go_simp
                   done)
                | (have hpe := (by assumption : (pe != 0) = false)
                   have hpe : pe = 0 := by simpa using hpe
                   refine bodyPost_ret (v := .tuple #[.agg #[.bool pn, .string ⟨pd.toArray⟩, .int .i64 px], .agg #[.int .i64 0, .int .i64 0]]) ?_ rfl ⟨by rw [HP.out]; simp only [if_pos hpe]; rfl, (((((Chg.alloc (y1.out.trans' z5) _).setCell (.inl (Nat.le_refl _)) _).setCell (.inl (Nat.le_refl _)) _).setCell (.inl (Nat.le_refl _)) _).setCell (.inl (Nat.le_succ _)) _).setCell (.inl (Nat.le_succ _)) _⟩
                   unfold results
                   go_simp
                   done)
            · have hr : R = (Num.none, (stF s).why, (stF s).fa) := by rw [HR.out, parseS, if_neg (by omega), if_pos hw]
              have HP := Lib.hid hr
              clear hr HR
              go_wp2_with (first
                | (go_at_call 28; refine (rok_of HF.out).mono ?_; rintro e wo ⟨rfl, rfl⟩; rw [decide_eq_false hw]))
              refine reg_begin (fun k => k = w.heap.size ∨ k = w.heap.size + 1) (by kernel_rfl) ?_
              have hgn : ¬ (g = w.heap.size ∨ g = w.heap.size + 1) := by have := HG.out; omega
              refine reg_take 0 (v := ?_) rfl (by kernel_rfl) (by kernel_rfl) (by kernel_rfl) (fun _ _ _ h => h) (by kernel_rfl) ?_ ?_
              rotate_left
              · (intro w' hS; go_simp; (try go_bits); (try with_reducible rfl))
              try simp only [Act.put, List.getElem_toArray, List.getElem_cons_zero, List.getElem_cons_succ, List.setIfInBounds_toArray, List.set_cons_zero, List.set_cons_succ]
              refine reg_take 1 (v := ?_) rfl (by kernel_rfl) (by kernel_rfl) (by kernel_rfl) (fun _ _ _ h => h) (by kernel_rfl) ?_ ?_
              rotate_left
              · (intro w' hS; go_simp; (try go_bits); (try with_reducible rfl))
              try simp only [Act.put, List.getElem_toArray, List.getElem_cons_zero, List.getElem_cons_succ, List.setIfInBounds_toArray, List.set_cons_zero, List.set_cons_succ]
              refine reg_take 2 (v := ?_) rfl (by kernel_rfl) (by kernel_rfl) (by kernel_rfl) (fun _ _ _ h => h) (by kernel_rfl) ?_ ?_
              rotate_left
              · (intro w' hS; have hz := hS.cell (w := wc.drew) c2 hgn; have hz2 := hS.cell (w := wc.drew) c3 hgn; go_simp; (try go_bits); (try with_reducible rfl))
              try simp only [Act.put, List.getElem_toArray, List.getElem_cons_zero, List.getElem_cons_succ, List.setIfInBounds_toArray, List.set_cons_zero, List.set_cons_succ]
              refine reg_do 3 rfl (by kernel_rfl) (by kernel_rfl) ?_
              intro K hK
              go_simp
              refine hK _ _ (((Chg.setCell (S := fun k => k = w.heap.size ∨ k = w.heap.size + 1) (a := wc.drew) (b := wc.drew) (Chg.refl _ _) (p := ⟨w.heap.size, 0, none⟩) (.inr (.inl rfl)) (.bool false)).setCell (p := ⟨w.heap.size, 1, none⟩) (.inr (.inl rfl)) (.string ⟨#[]⟩)).setCell (p := ⟨w.heap.size, 2, none⟩) (.inr (.inl rfl)) (.int .i64 0)) ?_
              clear hK K
              try simp only [Act.put, List.getElem_toArray, List.getElem_cons_zero, List.getElem_cons_succ, List.setIfInBounds_toArray, List.set_cons_zero, List.set_cons_succ]
              refine reg_do 4 rfl (by kernel_rfl) (by kernel_rfl) ?_
              intro K hK
              go_simp
              refine hK _ _ ?_ ?_
              rotate_left
              clear hK K
              try simp only [Act.put, List.getElem_toArray, List.getElem_cons_zero, List.getElem_cons_succ, List.setIfInBounds_toArray, List.set_cons_zero, List.set_cons_succ]
              refine wpAnyH_done (by kernel_rfl) ?_ _
              · go_wp2
                refine bodyPost_ret (v := .tuple #[.agg #[.bool false, .string ⟨#[]⟩, .int .i64 0], .agg #[.int .i64 (stF s).why, .int .i64 (stF s).fa]]) ?_ rfl ⟨by rw [HP.out]; rfl, (((((y1.out.setCell (p := ⟨w.heap.size, 0, none⟩) (.inl (Nat.le_refl _)) (.bool false)).setCell (p := ⟨w.heap.size, 1, none⟩) (.inl (Nat.le_refl _)) (.string ⟨#[]⟩)).setCell (p := ⟨w.heap.size, 2, none⟩) (.inl (Nat.le_refl _)) (.int .i64 0)).setCell (p := ⟨w.heap.size + 1, 0, none⟩) (.inl (Nat.le_succ _)) _).setCell (p := ⟨w.heap.size + 1, 1, none⟩) (.inl (Nat.le_succ _)) _).drew⟩
                unfold results
                go_simp
              · obtain ⟨wx, hwx⟩ : ∃ v, v = (((wc.setCell ⟨w.heap.size, 0, none⟩ (.bool false)).setCell ⟨w.heap.size, 1, none⟩ (.string ⟨#[]⟩)).setCell ⟨w.heap.size, 2, none⟩ (.int .i64 0)) := ⟨_, rfl⟩
                rw [← hwx]
                exact (Chg.setCell (S := fun k => k = w.heap.size ∨ k = w.heap.size + 1) (a := wx.drew) (b := wx.drew) (Chg.refl _ _) (p := ⟨w.heap.size + 1, 0, none⟩) (.inr (.inr rfl)) (.int .i64 (stF s).why)).setCell (p := ⟨w.heap.size + 1, 1, none⟩) (.inr (.inr rfl)) (.int .i64 (stF s).fa)
end Go.Proofs.YtkplgndcbngjoaaGreatDoor
