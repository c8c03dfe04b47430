/- The document's receiver: what one in memory reads as, and the contracts of its methods. -/
import Derived.Test.YtnkdlilccfclbaaRecvB
import Derived.Test.YtnkdlilccfclbaaSame
namespace Go.Proofs.Ytnkdlilccfclbaa
open Go Go.RowKit
set_option linter.unusedVariables false
set_option linter.unusedSimpArgs false

theorem infoCame : (Try.prog.info? 61).map (fun i => (i.zero, i.size, i.bytes)) = some (some (.agg #[.bool false, .slice none 0 0]), 2, 32) := by kernel_rfl
/-- The cells of one place. -/
def Spot (w : World) (F : Nat → Prop) (cs : List Value) (j : Nat) : Option (List UInt8) → Prop
  | none => cs[j * 2]? = some (.bool false) ∧ cs[j * 2 + 1]? = some (.slice none 0 0)
  | some xs => cs[j * 2]? = some (.bool true) ∧ ∃ A n c, cs[j * 2 + 1]? = some (.slice A n c) ∧ n ≤ c ∧ n ≤ 1200 ∧ Bytes w A n xs ∧ ∀ a, A = some a → F a.block
theorem Spot.frame {w w' : World} {F F' G : Nat → Prop} {cs cs' : List Value} {j j' : Nat} {x : Option (List UInt8)} (h : Spot w F cs j x) (hc : Chg G w w') (hd : ∀ k, F k → ¬ G k) (hF : ∀ k, F k → F' k)
    (h0 : cs'[j' * 2]? = cs[j * 2]?) (h1 : cs'[j' * 2 + 1]? = cs[j * 2 + 1]?) : Spot w' F' cs' j' x := by
  cases x with
  | none => exact ⟨h0.trans h.1, h1.trans h.2⟩
  | some xs =>
    obtain ⟨a, A, n, c, b, hn, hm, hB, hA⟩ := h
    exact ⟨h0.trans a, A, n, c, h1.trans b, hn, hm, hB.chg hc (fun a ha => hd _ (hA a ha)), fun a ha => hF _ (hA a ha)⟩
/-- The document's receiver, in blocks of G. -/
structure MAt (w : World) (G : Nat → Prop) (q W T : Nat) (L : List (Option (List UInt8))) : Prop where
  own : G q
  lt : ∀ k, G k → k < w.heap.size
  w1 : 1 ≤ W
  w32 : W ≤ 32
  len : L.length = W
  blk : ∃ c, w.heap[q]? = some (.cells c 45 (0, 0)) ∧ c.size = 3
  cw : w.cell? ⟨q, 0, none⟩ = some (.int .i64 W)
  ct : w.cell? ⟨q, 1, none⟩ = some (.int .i64 T)
  row : ∃ g cap cs, w.cell? ⟨q, 2, none⟩ = some (.slice (some ⟨g, 0, none⟩) W cap) ∧ w.ownsRow 0 61 2 (.slice (some ⟨g, 0, none⟩) W cap) W cs ∧ G g ∧ g ≠ q ∧ W ≤ cap ∧
    ∀ j, j < W → Spot w (fun k => G k ∧ k ≠ q ∧ k ≠ g) cs j (L.getD j none)
theorem MAt.frame {w w' : World} {G S : Nat → Prop} {q W T : Nat} {L : List (Option (List UInt8))} (h : MAt w G q W T L) (hc : Chg S w w') (hd : ∀ k, G k → ¬ S k) : MAt w' G q W T L := by
  obtain ⟨c, hb, hs⟩ := h.blk
  obtain ⟨g, cap, cs, r1, r2, r3, r4, r5, r6⟩ := h.row
  exact ⟨h.own, fun k hk => Nat.lt_of_lt_of_le (h.lt k hk) hc.size, h.w1, h.w32, h.len, ⟨c, (hc.block q (h.lt q h.own) (hd q h.own)).trans hb, hs⟩, hc.cell h.cw (hd q h.own), hc.cell h.ct (hd q h.own),
    ⟨g, cap, cs, hc.cell r1 (hd q h.own), own_keep r2 hc (fun k hk => by cases hk; exact hd g r3), r3, r4, r5, fun j hj => (r6 j hj).frame hc (fun k hk => hd k hk.1) (fun k hk => hk) rfl rfl⟩⟩
theorem MAt.pure {w w' : World} {G : Nat → Prop} {q W T : Nat} {L : List (Option (List UInt8))} (h : MAt w G q W T L) (hc : Chg Pure' w w') : MAt w' G q W T L := h.frame hc (fun _ _ h => h)
theorem MAt.mono {w : World} {G G' : Nat → Prop} {q W T : Nat} {L : List (Option (List UInt8))} (h : MAt w G q W T L) (hG : ∀ k, G k → G' k) (hl : ∀ k, G' k → k < w.heap.size) : MAt w G' q W T L := by
  obtain ⟨g, cap, cs, r1, r2, r3, r4, r5, r6⟩ := h.row
  exact ⟨hG q h.own, hl, h.w1, h.w32, h.len, h.blk, h.cw, h.ct, ⟨g, cap, cs, r1, r2, hG g r3, r4, r5, fun j hj => (r6 j hj).frame (Chg.refl Pure' w) (fun _ _ h => h) (fun k hk => ⟨hG k hk.1, hk.2⟩) rfl rfl⟩⟩
/-- What stands in the place of number T + 1 + k. -/
theorem MAt.flag {w : World} {G : Nat → Prop} {q W T : Nat} {L : List (Option (List UInt8))} (h : MAt w G q W T L) {g cap : Nat} {cs : List Value} (r2 : w.ownsRow 0 61 2 (.slice (some ⟨g, 0, none⟩) W cap) W cs)
    (r6 : ∀ j, j < W → Spot w (fun k => G k ∧ k ≠ q ∧ k ≠ g) cs j (L.getD j none)) {k : Nat} (hk : k < W) : w.cell? ⟨g, k * 2, none⟩ = some (.bool (L.getD k none).isSome) := by
  have h6 := r6 k hk
  rw [r2.cellAt (k * 2) (by omega)]
  cases hL : L.getD k none with
  | none => rw [hL] at h6; exact h6.1
  | some xs => rw [hL] at h6; exact h6.1

set_option maxHeartbeats 1000000 in
theorem mready_any (G : Nat → Prop) (q W T : Nat) (L : List (Option (List UInt8))) (w : World) (h : MAt w G q W T L) :
    Calls Try.prog 21 #[.pointer (some ⟨q, 0, none⟩)] w fun e w' => e = .returned (.int .i64 (lead L : Nat)) ∧ w = w' := by
  obtain ⟨g, cap, cs, r1, r2, r3, r4, r5, r6⟩ := h.row
  have h32 := h.w32
  have hf := fun k (hk : k < W) => h.flag r2 r6 hk
  have HF := Lib.hid hf
  have H := Lib.hid h
  clear h r2 r6 hf
  go_enter Try.func21, Try.ntmps21
  go_wp2
  go_loop [3] (fun i => ∃ k : Nat, k ≤ W ∧ i = .int .i64 k ∧ Hid (∀ j, j < k → (L.getD j none).isSome = true)) (fun i => W - (intOf i).toNat)
  case atStart => exact ⟨0, Nat.zero_le _, rfl, fun j hj => by omega⟩
  case round =>
    obtain ⟨k, hk, rfl, hall⟩ := hrel
    by_cases hlt : k < W
    · have hb := HF.out k hlt
      cases hL : L.getD k none with
      | none =>
        rw [hL] at hb
        have hl : lead L = k := lead_is L k (by rw [H.out.len]; exact hk) hall.out (fun _ => hL)
        have HL := Lib.hid hl
        clear hL hl
        go_wp2
        go_ret
        exact ⟨by rw [HL.out]; rfl, rfl⟩
      | some xs =>
        rw [hL] at hb
        have hh : Hid (∀ j, j < k + 1 → (L.getD j none).isSome = true) := fun j hj => by
          by_cases hjk : j = k
          · subst hjk; rw [hL]; rfl
          · exact hall.out j (by omega)
        clear hL
        go_wp2
        go_round
        case rel => exact ⟨k + 1, by omega, by go_num, hh⟩
        case measure => simp [intOf]; omega
    · obtain rfl : k = W := by omega
      have hl : lead L = k := lead_is L k (by rw [H.out.len]; exact hk) hall.out (fun hh => by rw [H.out.len] at hh; omega)
      have HL := Lib.hid hl
      clear hl
      go_wp2
      go_ret
      exact ⟨by rw [HL.out]; rfl, rfl⟩

/-- How many of the first k have come. -/
def heldTo (L : List (Option (List UInt8))) (k : Nat) : Nat := (L.take k).countP (·.isSome)
theorem heldTo_step (L : List (Option (List UInt8))) (k : Nat) (h : k < L.length) : heldTo L (k + 1) = heldTo L k + (if (L.getD k none).isSome then 1 else 0) := by
  unfold heldTo
  rw [List.take_succ_eq_append_getElem h, List.countP_append, List.getD_eq_getElem?_getD, List.getElem?_eq_getElem h]
  simp [List.countP_cons]
set_option maxHeartbeats 1000000 in
theorem mheld_any (G : Nat → Prop) (q W T : Nat) (L : List (Option (List UInt8))) (w : World) (h : MAt w G q W T L) :
    Calls Try.prog 23 #[.pointer (some ⟨q, 0, none⟩)] w fun e w' => e = .returned (.int .i64 (L.countP (·.isSome) : Nat)) ∧ w = w' := by
  obtain ⟨g, cap, cs, r1, r2, r3, r4, r5, r6⟩ := h.row
  have h32 := h.w32
  have hf := fun k (hk : k < W) => h.flag r2 r6 hk
  have HF := Lib.hid hf
  have H := Lib.hid h
  clear h r2 r6 hf
  go_enter Try.func23, Try.ntmps23
  go_wp2
  go_loop [3, 4] (fun n i => ∃ k c : Nat, k ≤ W ∧ i = .int .i64 k ∧ n = .int .i64 c ∧ c ≤ k ∧ Hid (c = heldTo L k)) (fun _ i => W - (intOf i).toNat)
  case atStart => exact ⟨0, 0, Nat.zero_le _, rfl, rfl, Nat.le_refl _, rfl⟩
  case round =>
    obtain ⟨k, c, hk, rfl, rfl, hck, hc⟩ := hrel
    by_cases hlt : k < W
    · have hb := HF.out k hlt
      have hst := heldTo_step L k (by rw [H.out.len]; exact hlt)
      cases hL : L.getD k none with
      | none =>
        rw [hL] at hb hst
        have hh : Hid (c = heldTo L (k + 1)) := by rw [hst, ← hc.out]; rfl
        clear hL hst
        go_wp2
        go_round
        case rel => exact ⟨k + 1, c, by omega, by go_num, rfl, by omega, hh⟩
        case measure => simp [intOf]; omega
      | some xs =>
        rw [hL] at hb hst
        have hh : Hid (c + 1 = heldTo L (k + 1)) := by rw [hst, ← hc.out]; rfl
        clear hL hst
        go_wp2
        go_round
        case rel => exact ⟨k + 1, c + 1, by omega, by go_num, by go_num, by omega, hh⟩
        case measure => simp [intOf]; omega
    · obtain rfl : k = W := by omega
      go_wp2
      go_ret
      refine ⟨?_, rfl⟩
      rw [hc.out]
      unfold heldTo
      rw [List.take_of_length_le (by rw [H.out.len]; exact Nat.le_refl _)]
      rfl
end Go.Proofs.Ytnkdlilccfclbaa
