/- LinkNobody. -/
import Derived.Test.YtnpkpfcljkekfaaLinkZ
import Derived.Test.YtnpkpfcljkekfaaL19
namespace Go.Proofs.Ytnpkpfcljkekfaa
open Go Go.RowKit
set_option linter.unusedVariables false
set_option maxRecDepth 100000
set_option linter.unusedSimpArgs false

def nb1 (xs : List UInt8) : Lp := ⟨1, 0, 1, 2, 0, 1, 2, 1, [⟨xs, false, 0, 1⟩], [none, none], [], [], 1, 0⟩
def nbM (xs : List UInt8) : Ms := (dueM 1 xs).sealed 1 1
def nbA : Ms := (ackM 0 2 [none, none]).sealed 1 1
def nb2 (xs : List UInt8) : Lp := ⟨1, 1, 1, 2, 0, 1, 2, 1, [⟨xs, false, 2, 2⟩], [none, none], [(packB (nbM xs), false)], [(packB nbA, false)], 1, 0⟩
def nb3 (xs : List UInt8) : Lp := ⟨1, 1, 1, 2, 0, 1, 2, 1, [⟨xs, false, 2, 2⟩], [some xs, none], [], [(packB nbA, false)], 1, 0⟩
def nb4 (xs : List UInt8) : Lp := ⟨1, 1, 1, 2, 1, 1, 2, 1, [⟨xs, false, 2, 2⟩], [none, none], [], [(packB nbA, false)], 1, 1⟩
theorem nb_big (xs : List UInt8) (h : 1100 < xs.length) : sendL (newL 2 1) xs = (8, newL 2 1) := by unfold sendL; rw [if_pos h]
theorem nb_send (xs : List UInt8) (h : ¬ 1100 < xs.length) : sendL (newL 2 1) xs = (0, nb1 xs) := by
  have e : pushOf 2 1 2 [] xs 0 = ((1, 0), [⟨xs, false, 0, 1⟩]) := by
    unfold pushOf
    rw [if_neg (by decide), if_neg (by omega), if_neg (by decide)]
    rfl
  unfold sendL
  rw [if_neg h]
  show ((pushOf 2 1 2 [] xs 0).1.2, ({ newL 2 1 with Ls := (pushOf 2 1 2 [] xs 0).2, cnt := 1, sent := if (pushOf 2 1 2 [] xs 0).1.2 = 0 then 1 else 0 } : Lp)) = _
  rw [e]
  rfl
theorem nb_tick (xs : List UInt8) : tickL (nb1 xs) = nb2 xs := by
  have e1 : dueOf (((nb1 xs).now : Int) + 1) (nb1 xs).base (nb1 xs).Ls = ([(1, xs)], [⟨xs, false, 2, 2⟩]) := by
    show dueOf 1 1 [⟨xs, false, 0, 1⟩] = _
    simp [dueOf, dueOut, dueHit, dueLd]
  unfold tickL
  rw [if_neg (show ¬ (nb1 xs).now = 1099511627776 from (by show ¬ (0 : Nat) = 1099511627776; decide)), e1]
  simp only [List.foldl_cons, List.foldl_nil, toldG]
  unfold nb2 nbM nbA nb1
  simp [putG]
theorem nb_may (xs : List UInt8) : (nbM xs).may = true := by simp [Ms.may, nbM, dueM, Ms.sealed]
theorem nb_un (xs : List UInt8) (h : ¬ 1100 < xs.length) : unpR (packB (nbM xs)) = (nbM xs, 0) := unpR_pack _ (nb_may xs) (by have := (nbM xs).bytes_len (nb_may xs); have e : (nbM xs).load.length = xs.length := rfl; omega)
theorem nb_came (xs : List UInt8) (h : ¬ 1100 < xs.length) : cameL { nb2 xs with G0 := (nb2 xs).G0.eraseIdx 0 } 0 (nbM xs) 0 = (0, nb3 xs) := by
  have e : dataR 2 0 [none, none] 1 xs = (0, [some xs, none]) := by
    unfold dataR
    rw [if_neg (by decide), if_neg (by omega), if_neg (by decide), if_neg (by decide), if_neg (by decide)]
    rfl
  show ((dataR 2 0 [none, none] 1 xs).1, ({ nb2 xs with G0 := [], L := (dataR 2 0 [none, none] 1 xs).2 } : Lp)) = _
  rw [e]
  rfl
theorem nb_poll (xs : List UInt8) : pollL (nb3 xs) = (some xs, nb4 xs) := rfl
set_option maxHeartbeats 16000000 in
theorem law_LinkNobody (B0 : Option Addr) (n0 c0 : Nat) (xs : List UInt8) (kind net ii at_ : Int) (by_ : UInt32) (A : Option Addr) (n c : Nat) (w : World) (hB0 : Bytes w B0 n0 xs) (hc0 : n0 ≤ c0) (hn0 : n0 ≤ 140737488351232) :
    Calls Try.prog 8 #[.slice B0 n0 c0, .agg (actV kind net ii at_ by_ A n c)] w fun e w' => e = .returned (.bool true) ∧ Chg Pure' w w' := by
  have hz := zero_link
  have hl := hB0.len
  obtain ⟨w1, hw1⟩ : ∃ w1, w.alloc (.cells (actV kind net ii at_ by_ A n c) 49) = w1 := ⟨_, rfl⟩
  obtain ⟨w2, hw2⟩ : ∃ w2, w1.alloc (.cells #[.int .u64 0, .int .i64 0, .int .i64 0, .pointer none, .pointer none, .slice none 0 0, .int .i64 0, .int .i64 0] 60) = w2 := ⟨_, rfl⟩
  obtain ⟨w3, hw3⟩ : ∃ w3, w2.alloc (.cells #[.pointer none, .pointer (some ⟨w1.heap.size, 0, none⟩)] 41) = w3 := ⟨_, rfl⟩
  have c1 : Chg Pure' w w1 := by rw [← hw1]; exact (Chg.refl _ _).alloc _
  have c2 : Chg Pure' w1 w2 := by rw [← hw2]; exact (Chg.refl _ _).alloc _
  have c3 : Chg Pure' w2 w3 := by rw [← hw3]; exact (Chg.refl _ _).alloc _
  have z1 : w1.heap.size = w.heap.size + 1 := by rw [← hw1]; simp
  have z2 : w2.heap.size = w.heap.size + 2 := by rw [← hw2]; simp [z1]
  have ha : w3.heap[w.heap.size]? = some (.cells (actV kind net ii at_ by_ A n c) 49 (0, 0)) := by
    rw [(c2.pure c3).block w.heap.size (by omega) (fun h => h), ← hw1]; exact heap_alloc_new w _
  have hzc : w3.cell? ⟨w.heap.size + 1, 3, none⟩ = some (.pointer none) := by
    rw [← z1]
    refine c3.cell ?_ (fun h => h)
    rw [← hw2]; exact cellAt_alloc_lit w1 #[.int .u64 0, .int .i64 0, .int .i64 0, .pointer none, .pointer none, .slice none 0 0, .int .i64 0, .int .i64 0] 60 3
  have hr0 : w3.cell? ⟨w.heap.size + 2, 0, none⟩ = some (.pointer none) := by
    rw [← z2, ← hw3]; exact cellAt_alloc_lit w2 #[.pointer none, .pointer (some ⟨w1.heap.size, 0, none⟩)] 41 0
  have hr1 : w3.cell? ⟨w.heap.size + 2, 1, none⟩ = some (.pointer (some ⟨w.heap.size + 1, 0, none⟩)) := by
    rw [← z2, ← z1, ← hw3]; exact cellAt_alloc_lit w2 #[.pointer none, .pointer (some ⟨w1.heap.size, 0, none⟩)] 41 1
  have HW : Hid (((w.alloc (.cells (actV kind net ii at_ by_ A n c) 49)).alloc (.cells #[.int .u64 0, .int .i64 0, .int .i64 0, .pointer none, .pointer none, .slice none 0 0, .int .i64 0, .int .i64 0] 60)).alloc (.cells #[.pointer none, .pointer (some ⟨w.heap.size + 1, 0, none⟩)] 41) = w3) := Lib.hid (by rw [hw1, hw2, ← z1]; exact hw3)
  have C3 := Lib.hid ((c1.pure c2).pure c3)
  have HA3 := Lib.hid ha
  have HZ3 := Lib.hid hzc
  have HR0 := Lib.hid hr0
  have HR1 := Lib.hid hr1
  clear hw1 hw2 hw3 c1 c2 c3 z1 z2 ha hzc hr0 hr1
  unfold actV at HW ⊢
  go_enter Try.func8, Try.ntmps8
  go_wp2_with (fail)
  rw [HW.out]
  obtain ⟨ab, hab⟩ : ∃ ab, w.heap.size = ab := ⟨_, rfl⟩
  rw [hab] at HA3 HZ3 HR0 HR1 ⊢
  clear HW
  go_loopw [22] (fun i wr => ∃ j : Nat, j ≤ 2 ∧ i = .int .i64 j ∧ Hid (∃ z, wr.heap[ab]? = some (.cells (actV z net ii at_ by_ A n c) 49 (0, 0))) ∧ Hid (Chg (fun k => k = ab) w3 wr)) (fun i _ => 2 - (intOf i).toNat)
  case atStart => exact ⟨0, by omega, rfl, Lib.hid ⟨kind, HA3.out⟩, Lib.hid (Chg.refl _ _)⟩
  case round =>
    obtain ⟨j, hj, rfl, HA, HC⟩ := hrel
    by_cases hlt : j < 2
    · have i1 : (j : Int) < 2 := by omega
      have hv : ∃ v, wr.cell? ⟨ab + 2, j, none⟩ = some v ∧ (v = .pointer none ∨ v = .pointer (some ⟨ab + 1, 0, none⟩)) := by
        rcases (by omega : j = 0 ∨ j = 1) with rfl | rfl
        · exact ⟨_, HC.out.cell HR0.out (by show ¬ ab + 2 = ab; omega), .inl rfl⟩
        · exact ⟨_, HC.out.cell HR1.out (by show ¬ ab + 2 = ab; omega), .inr rfl⟩
      obtain ⟨v, hv1, hv2⟩ := hv
      have hN : ∀ w', Chg (fun k => k = ab) w3 w' → NilL w' v := fun w' hc' => by
        rcases hv2 with rfl | rfl
        · exact .inl rfl
        · exact .inr ⟨ab + 1, rfl, hc'.cell HZ3.out (by show ¬ ab + 1 = ab; omega)⟩
      have HN := Lib.hid hN
      clear hN hv2
      go_wp2_with (fail)
      go_loopw [26] (fun i wi => ∃ k : Nat, k ≤ 9 ∧ i = .int .i64 k ∧ Hid (∃ z, wi.heap[ab]? = some (.cells (actV z net ii at_ by_ A n c) 49 (0, 0))) ∧ Hid (Chg (fun k => k = ab) w3 wi)) (fun i _ => 9 - (intOf i).toNat)
      case atStart => exact ⟨0, by omega, rfl, HA, HC⟩
      case round =>
        clear HA HC
        obtain ⟨k, hk, rfl, HA, HC⟩ := hrel
        by_cases hkl : k < 9
        · have i2 : (k : Int) < 9 := by omega
          obtain ⟨z, hz0⟩ := HA.out
          have m0 : wr.cell? ⟨ab, 0, none⟩ = some (.int .i64 z) := cell_of_row _ ab 0 _ _ _ hz0
          have m1 : wr.cell? ⟨ab, 1, none⟩ = some (.int .i64 net) := cell_of_row _ ab 1 _ _ _ hz0
          have m2 : wr.cell? ⟨ab, 2, none⟩ = some (.int .i64 ii) := cell_of_row _ ab 2 _ _ _ hz0
          have m3 : wr.cell? ⟨ab, 3, none⟩ = some (.int .i64 at_) := cell_of_row _ ab 3 _ _ _ hz0
          have m4 : wr.cell? ⟨ab, 4, none⟩ = some (.int .u32 (by_.toNat : Int)) := cell_of_row _ ab 4 _ _ _ hz0
          have m5 : wr.cell? ⟨ab, 5, none⟩ = some (.slice A n c) := cell_of_row _ ab 5 _ _ _ hz0
          have f0 : wr.frozen? ⟨ab, 0, none⟩ = false := free_at hz0
          have hz1 := heap_setCell_same wr ab 0 _ _ (.int .i64 (k : Nat)) hz0
          have hz1 : (wr.setCell ⟨ab, 0, none⟩ (.int .i64 (k : Nat))).heap[ab]? = some (.cells (actV k net ii at_ by_ A n c) 49 (0, 0)) := hz1
          have cs : Chg (fun k => k = ab) wr (wr.setCell ⟨ab, 0, none⟩ (.int .i64 (k : Nat))) := Chg.setCell (S := fun k => k = ab) (Chg.refl _ wr) (p := ⟨ab, 0, none⟩) (.inr rfl) _
          have C2 := Lib.hid (HC.out.trans' cs)
          have hdo := ndoes_any (HN.out _ C2.out) k hkl net ii at_ by_ A n c
          have HZ1 := Lib.hid hz1
          unfold actV at hdo
          have HDO := Lib.hid hdo
          clear hz0 hz1 cs hdo HA HC
          by_cases hk3 : k = 1 ∨ k = 2 ∨ k = 8
          · rcases hk3 with rfl | rfl | rfl
            · go_wp2_with (fail)
              refine HDO.out.mono ?_
              rintro e wq ⟨rfl, cq⟩
              have HA2 : Hid (∃ z, wq.heap[ab]? = some (.cells (actV z net ii at_ by_ A n c) 49 (0, 0))) := Lib.hid ⟨_, (cq.block ab (Array.getElem?_eq_some_iff.1 HZ1.out).1 (fun h => h)).trans HZ1.out⟩
              have HC2 := Lib.hid (C2.out.trans' cq.of_pure)
              clear m0 m1 m2 m3 m4 m5 f0 HZ1 C2 HDO cq
              go_wp2
              go_roundw
              case rel => exact ⟨2, by omega, by go_num, HA2, HC2⟩
              case measure => first | (simp [intOf]; done) | (simp [intOf]; omega)
            · go_wp2_with (fail)
              refine HDO.out.mono ?_
              rintro e wq ⟨rfl, cq⟩
              have HA2 : Hid (∃ z, wq.heap[ab]? = some (.cells (actV z net ii at_ by_ A n c) 49 (0, 0))) := Lib.hid ⟨_, (cq.block ab (Array.getElem?_eq_some_iff.1 HZ1.out).1 (fun h => h)).trans HZ1.out⟩
              have HC2 := Lib.hid (C2.out.trans' cq.of_pure)
              clear m0 m1 m2 m3 m4 m5 f0 HZ1 C2 HDO cq
              go_wp2
              go_roundw
              case rel => exact ⟨3, by omega, by go_num, HA2, HC2⟩
              case measure => first | (simp [intOf]; done) | (simp [intOf]; omega)
            · go_wp2_with (fail)
              refine HDO.out.mono ?_
              rintro e wq ⟨rfl, cq⟩
              have HA2 : Hid (∃ z, wq.heap[ab]? = some (.cells (actV z net ii at_ by_ A n c) 49 (0, 0))) := Lib.hid ⟨_, (cq.block ab (Array.getElem?_eq_some_iff.1 HZ1.out).1 (fun h => h)).trans HZ1.out⟩
              have HC2 := Lib.hid (C2.out.trans' cq.of_pure)
              clear m0 m1 m2 m3 m4 m5 f0 HZ1 C2 HDO cq
              go_wp2
              go_roundw
              case rel => exact ⟨9, by omega, by go_num, HA2, HC2⟩
              case measure => first | (simp [intOf]; done) | (simp [intOf]; omega)
          · have hno : noRes k = 2 := by unfold noRes; rw [if_neg hk3]
            have hdo := HDO.out
            rw [hno] at hdo
            have HDO := Lib.hid hdo
            clear hno hdo hk3
            go_wp2_with (fail)
            refine HDO.out.mono ?_
            rintro e wq ⟨rfl, cq⟩
            have HA2 : Hid (∃ z, wq.heap[ab]? = some (.cells (actV z net ii at_ by_ A n c) 49 (0, 0))) := Lib.hid ⟨_, (cq.block ab (Array.getElem?_eq_some_iff.1 HZ1.out).1 (fun h => h)).trans HZ1.out⟩
            have HC2 := Lib.hid (C2.out.trans' cq.of_pure)
            clear m0 m1 m2 m3 m4 m5 f0 HZ1 C2 HDO cq
            go_wp2
            go_roundw
            case rel => exact ⟨k + 1, by omega, by go_num, HA2, HC2⟩
            case measure => first | (simp [intOf]; done) | (simp [intOf]; omega)
        · have hk9 : k = 9 := by omega
          subst hk9
          have C2 := HC
          have w0 := Lib.hid (nway_any (HN.out _ HC.out) 0)
          have w1 := Lib.hid (nsent_any (HN.out _ HC.out))
          have w2 := Lib.hid (ngot_any (HN.out _ HC.out))
          have w4 := Lib.hid (nheld_any (HN.out _ HC.out))
          go_wp2_with (fail)
          refine w0.out.mono ?_
          rintro e wq ⟨rfl, rfl⟩
          go_wp2_with (fail)
          refine w1.out.mono ?_
          rintro e wq ⟨rfl, rfl⟩
          go_wp2_with (fail)
          refine w2.out.mono ?_
          rintro e wq ⟨rfl, rfl⟩
          go_wp2_with (fail)
          refine w4.out.mono ?_
          rintro e wq ⟨rfl, rfl⟩
          clear w0 w1 w2 w4
          go_wp2
          go_roundw
          case rel => exact ⟨j + 1, by omega, by go_num, HA, HC⟩
          case measure => first | (simp [intOf]; done) | (simp [intOf]; omega)
    · have hj2 : j = 2 := by omega
      subst hj2
      have C3b : Hid (Chg Pure' w wr) := Lib.hid (C3.out.trans HC.out (fun i hi e => by have e : i = ab := e; omega))
      clear HA HC HA3 HZ3 HR0 HR1
      go_wp2_with (fail)
      refine (lnew_ok 2 1 wr (by omega) (by omega)).mono ?_
      rintro e w4 ⟨p, rfl, h4, c4⟩
      have C4 := Lib.hid (C3b.out.pure c4)
      have hb4 := hB0.pure C4.out
      obtain ⟨v5, w5, hr5, ho5, c5⟩ := own_cat8 (n := 0) (c := c0) (xs := []) (World.ownsRow_nil w4 w4.heap.size 5 1 : w4.ownsRow w4.heap.size 5 1 (.slice none 0 0) 0 (enc [])) hb4 (Nat.le_refl _) (by omega)
      have c5 : Chg Pure' w4 w5 := c5.mono (fun k hk e => by cases e)
      rw [Nat.zero_add, List.nil_append] at ho5
      have hx5 := h4.apart c5
      obtain ⟨A5, q5, rfl, hq5, hb5, -⟩ := Bytes.of_own ho5
      have C5 := Lib.hid (C4.out.pure c5)
      have HO5 := Lib.hid ho5
      have HX5 := Lib.hid hx5
      have hBw : w.heap.size ≤ wr.heap.size := C3b.out.size
      have hw45 : wr.heap.size ≤ w4.heap.size := c4.size
      have HSD := Lib.hid (lsend_x hx5 A5 n0 q5 xs hb5 hn0 (by show 0 ≤ _; omega) (by show 0 ≤ _; omega))
      clear h4 c4 hb4 ho5 hx5 hb5 c5 C3b C3 C4
      generalize wr.heap.size = bz at *
      go_wp2_with (at_builtin; refine Lib.wpList_append_run _ rfl _ _ _ _ rfl _ _ rfl rfl _ _ hr5 ?_; clear hr5)
      go_wp2_with (fail)
      refine HSD.out.mono ?_
      rintro e w6 ⟨rfl, h6, c6⟩
      have BB : ∀ i, i < w.heap.size → bz ≤ i → Pure' i := fun i h1 h2 => by omega
      have C6 := Lib.hid (C5.out.trans c6 (fun i h1 h2 => BB i h1 h2.1))
      by_cases hbig : 1100 < xs.length
      · rw [nb_big xs hbig] at h6 ⊢
        clear h6 c6 HSD HX5 HO5 hbig
        go_wp2_with (fail)
        refine (alive19 _).mono ?_
        rintro e w9 ⟨rfl, c9⟩
        go_wp2
        go_ret
        exact ⟨rfl, C6.out.pure c9⟩
      · rw [nb_send xs hbig] at h6 ⊢
        have ho6 := own_keep HO5.out c6 (fun k hk h2 => h2.2 (HO5.out.lt k hk))
        have HOB : Hid (∀ k, (Value.slice A5 n0 q5).ownBlock = some k → w4.heap.size ≤ k ∧ k < w5.heap.size) := Lib.hid (fun k hk => HO5.out.lt k hk)
        have HX6 := Lib.hid h6
        have HO6 := Lib.hid ho6
        clear h6 c6 ho6 HSD HX5 HO5
        simp only
        go_wp2_with (fail)
        go_loopw [112] (fun i wl => ∃ (k : Nat) (zs : List UInt8), k ≤ n0 ∧ i = .int .i64 k ∧ zs.length = n0 ∧ Hid (wl.ownsRow w4.heap.size 5 1 (.slice A5 n0 q5) n0 (enc zs)) ∧ Hid (LinkIX wl bz p (nb1 xs) (fun k => w4.heap.size ≤ k ∧ k < w5.heap.size)) ∧ Hid (Chg Pure' w wl)) (fun i _ => n0 - (intOf i).toNat)
        case atStart => exact ⟨0, xs, by omega, rfl, hl, HO6, HX6, C6⟩
        case round =>
          clear HO6 HX6 C6
          obtain ⟨k, zs, hk, rfl, hzl, HO, HX, HC⟩ := hrel
          by_cases hlt : k < n0
          · have i1 : (k : Int) < (n0 : Int) := by omega
            obtain ⟨B, q, hv, -, hB, -⟩ := own_slice HO.out
            obtain ⟨ob, rfl, hob⟩ := hB (by omega)
            cases hv
            obtain ⟨x0, f0⟩ := own_cell8 HO.out (i := k) (by omega)
            have hx := xor255 (zs.getD k 0)
            generalize zs.getD k 0 = z at *
            obtain ⟨ho2, -⟩ := HO.out.stored k (.int .u8 ((z ^^^ 255).toNat : Int))
            rw [enc_set] at ho2
            have cs : Chg (fun k => k = ob) wr (wr.setCell ⟨ob, k, none⟩ (.int .u8 ((z ^^^ 255).toNat : Int))) := Chg.setCell (S := fun k => k = ob) (Chg.refl _ wr) (p := ⟨ob, k, none⟩) (.inr rfl) _
            have HX2 := Lib.hid (HX.out.write cs (fun k e => by rw [show k = ob from e]; exact HOB.out ob rfl))
            have HC2 := Lib.hid (HC.out.trans cs (fun i hi e => by have := (HOB.out ob rfl).1; have e : i = ob := e; omega))
            have HO2 := Lib.hid ho2
            clear ho2 cs HO HX HC
            go_wp2
            go_roundw
            case rel => exact ⟨k + 1, zs.set k (z ^^^ 255), by omega, by go_num, by simp [hzl], HO2, HX2, HC2⟩
            case measure => simp [intOf]; omega
          · have hkn : ((k : Int) < (n0 : Int)) = False := eq_false (by omega)
            have HT := Lib.hid (ltick_any HX.out.link (by show 0 ≤ _; omega))
            clear HX HO
            go_wp2_with (fail)
            refine HT.out.mono ?_
            rintro e w7 ⟨rfl, h7, c7⟩
            rw [nb_tick] at h7
            have C7 := Lib.hid (HC.out.trans c7 BB)
            have HDV := Lib.hid (ldeliver_in0 h7 0 (packB (nbM xs)) false rfl (by show 0 ≤ _; omega))
            rw [nb_un xs hbig, nb_came xs hbig] at HDV
            clear h7 c7 HT HC
            go_wp2_with (fail)
            refine HDV.out.mono ?_
            rintro e w8 ⟨rfl, h8, c8⟩
            have h8 : LinkIn w8 bz p (nb3 xs) := h8
            have C8 := Lib.hid (C7.out.trans c8 BB)
            have HPL := Lib.hid (lpoll_any h8 (by show 0 ≤ _; omega) (by show 0 ≤ _; omega))
            clear h8 c8 HDV C7
            go_wp2_with (fail)
            refine HPL.out.mono ?_
            rintro e w9 ⟨h9, c9, hp9⟩
            rw [nb_poll] at hp9
            obtain ⟨A9, n9, q9, rfl, hl9, hm9, hb9⟩ := hp9
            have C9 := Lib.hid (C8.out.trans c9 BB)
            have HSM := Lib.hid (same_is true A9 q9 n9 xs B0 c0 n0 xs w9 hb9 (hB0.pure C9.out) (by simp))
            clear h9 c9 HPL C8 hb9
            go_wp2_with (fail)
            refine HSM.out.mono ?_
            rintro e w10 ⟨rfl, rfl⟩
            go_wp2_with (fail)
            refine (alive19 _).mono ?_
            rintro e w11 ⟨rfl, c11⟩
            go_wp2
            go_ret
            exact ⟨rfl, C9.out.pure c11⟩
end Go.Proofs.Ytnpkpfcljkekfaa
