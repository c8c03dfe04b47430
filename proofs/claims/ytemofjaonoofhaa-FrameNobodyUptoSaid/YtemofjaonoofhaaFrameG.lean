/- Package frame: the shown start, and FrameEncodes. -/
import Derived.Test.YtemofjaonoofhaaFrameF
import Derived.Test.YtemofjaonoofhaaFrameQ
namespace Go.Proofs.Ytemofjaonoofhaa
open Go Go.RowKit
set_option linter.unusedVariables false
set_option linter.unusedSimpArgs false

theorem scan_shown : scan (7 :: frameB [97]) = ([[97]], 10) := by
  have h := scan_frame [97] [] (by decide)
  rw [List.append_nil, scan_nil] at h
  rw [scan_not 7 _ (by decide), h]
  rfl
set_option maxHeartbeats 4000000 in
theorem alive03 (w : World) : Calls Try.prog 14 #[] w fun e w' => e = .returned (.bool true) ∧ Chg Pure' w w' := by
  have kc := fun (w : World) (C : Array Value) (n c : Nat) => Lib.run_convert_bytes_const (P := Try.prog) w 22 5 C n c Try.underlying22 Try.underlying5
  have c1 : Chg Pure' w (w.alloc (.cells #[.int .u8 97] 5 (1, 2))) := (Chg.refl _ w).alloc _
  have hb : Bytes (w.alloc (.cells #[.int .u8 97] 5 (1, 2))) (some ⟨w.heap.size, 0, none⟩) 1 [97] := Bytes.alloc_mark w #[.int .u8 97] 5 (1, 2) [97] rfl 1 rfl
  go_enter Try.func14, Try.ntmps14
  go_wp2_with (fail)
  generalize w.alloc (.cells #[.int .u8 97] 5 (1, 2)) = w1 at *
  refine (fenc_any _ 1 1 _ w1 hb (Nat.le_refl _) (by decide)).mono ?_
  rintro e w2 ⟨c2, h⟩
  rcases h with ⟨h, -⟩ | ⟨-, v, rfl, hv⟩
  · omega
  have C2 := c1.pure c2
  have hfl : (frameB [97]).length = 9 := by rw [frameB_length]; rfl
  obtain ⟨B, q, rfl, hq, hB0, -⟩ := own_slice hv
  obtain ⟨g, rfl, hg⟩ := hB0 (by decide)
  have hB : Bytes w2 (some ⟨g, 0, none⟩) 9 (frameB [97]) := by
    obtain ⟨B', q', e, h1, h2, -⟩ := Bytes.of_own hv
    injection e with e1
    rw [e1]
    exact h2
  clear hv hb c1 c2
  go_wp2_with (fail)
  refine (fnew_any w2).mono ?_
  rintro e w3 ⟨rfl, hs, c3⟩
  have hB3 := hB.pure c3
  have C3 := C2.pure c3
  have q0 : w3.cell? ⟨g, 0, none⟩ = some (.int .u8 165) := by
    obtain ⟨b', off', e, hcl⟩ := hB3.cells (by omega)
    cases e
    have := hcl 0 (by rw [hfl]; decide)
    exact this
  have hs3 := hs.plt
  have hsz : w3.heap.size = w3.heap.size := rfl
  have hpw : Hid (w.heap.size ≤ w2.heap.size) := Lib.hid C2.size
  generalize w2.heap.size = p at *
  clear hB c3
  have ca : Chg Pure' w3 (w3.alloc (.cells #[.int .u8 7] 5)) := (Chg.refl _ w3).alloc _
  have ho := World.ownsRow_lit (base := w3.heap.size) (e := 5) (size := 1) w3 #[.int .u8 7] 1 (Nat.le_refl _) (by decide) rfl
  have hB4 := hB3.pure ca
  obtain ⟨v4, w4, hr4, ho4, hg4, -⟩ := app_own (P := Try.prog) _ w3.heap.size 22 22 5 Try.underlying22 infoU8 rfl (by decide) _ _ _ ho (some ⟨g, 0, none⟩) 9 q (enc (frameB [97])) hB4.row (by rw [enc_length, hfl]) (enc_one _) (by decide) (by omega) ca.size
  have c4 : Chg Pure' w3 w4 := by
    have c1 := (Chg.refl (fun k => w3.heap.size ≤ k) _).grown hg4 (fun k hk => .inr (by simp [Value.ownBlock] at hk; omega))
    exact ca.trans c1 (fun i hi h => absurd h (by omega))
  have hfl2 : #[Value.int .u8 7].toList ++ enc (frameB [97]) = enc (7 :: frameB [97]) := by simp [enc]
  rw [hfl2] at ho4
  obtain ⟨B5, q5, rfl, hq5, -, -⟩ := own_slice ho4
  have hB5 : Bytes w4 B5 10 (7 :: frameB [97]) := by
    obtain ⟨B', q', e, h1, h2, -⟩ := Bytes.of_own ho4
    injection e with e1
    rw [e1]
    exact h2
  have s4 := hs.pure c4
  have C4 := C3.pure c4
  clear hfl2 hg4 ho4 ho hB4 ca c4
  go_wp2_with (first
    | (at_builtin; refine Lib.wpList_append_run _ rfl _ _ _ _ rfl _ _ rfl rfl _ _ hr4 ?_)
    | fail)
  clear hr4
  refine (feed_any s4 B5 10 q5 _ hB5 (by omega) (by decide) (by decide)).mono ?_
  rintro e w5 ⟨v, q', rfl, hq', hl, hs5, c5⟩
  rw [List.nil_append, scan_shown] at hl hs5
  obtain ⟨A6, c6, rfl, -⟩ := hl.val
  obtain ⟨gg, Ai, ci, rfl, -, hcell, -, hld⟩ := hl.get (k := 0) (by decide)
  have hcell : w5.cell? ⟨gg, 0, none⟩ = some (.slice Ai 1 ci) := hcell
  have hby : Bytes w5 Ai 1 [97] := hld.bytes
  have st := hby.run_string (P := Try.prog) 22 9 5 Try.underlying22 Try.underlying5 Try.underlying9 ci
  have hs5 : StrAt w5 p q' [] 1 := hs5
  have C5 : Chg Pure' w w5 := C4.trans c5 (fun i hi h => by have := hpw.out; omega)
  have e1 : ([[97]] : List (List UInt8)).length = 1 := rfl
  rw [e1]
  clear hl hld hby c5 s4
  go_wp2_with (fail)
  refine (lost_any hs5).mono ?_
  rintro e w6 ⟨rfl, rfl⟩
  go_wp2_with (fail)
  refine (waits_any hs5).mono ?_
  rintro e w6 ⟨rfl, rfl⟩
  go_wp2
  go_ret
  exact ⟨rfl, C5⟩

set_option maxHeartbeats 4000000 in
theorem law_FrameEncodes (A : Option Addr) (n c : Nat) (xs : List UInt8) (w : World) (hA : Bytes w A n xs) (hc : n ≤ c) (hn : n ≤ 140737488351232) :
    Calls Try.prog 3 #[.slice A n c] w fun e w' => e = .returned (.bool true) ∧ Chg Pure' w w' := by
  go_enter Try.func3, Try.ntmps3
  go_wp2_with (fail)
  refine (fenc_any A n c xs w hA hc hn).mono ?_
  rintro e w1 ⟨c1, h⟩
  rcases h with ⟨hbig, rfl⟩ | ⟨hsm, v1, rfl, hv1⟩
  · go_wp2_with (fail)
    refine (rencode_any A n c xs w1 (hA.pure c1) hc hn).mono ?_
    rintro e w2 ⟨c2, h⟩
    rcases h with ⟨-, rfl⟩ | ⟨h, -⟩
    · have C2 := c1.pure c2
      go_wp2_with (fail)
      refine (same_is true none 0 0 [] none 0 0 [] w2 (Bytes.nil _ _) (Bytes.nil _ _) rfl).mono ?_
      rintro e w3 ⟨rfl, rfl⟩
      go_wp2_with (fail)
      refine (alive03 _).mono ?_
      rintro e w3 ⟨rfl, c3⟩
      go_wp2
      go_ret
      exact ⟨rfl, C2.pure c3⟩
    · omega
  · obtain ⟨B1, q1, rfl, -, -, -⟩ := own_slice hv1
    have hB1 : Bytes w1 B1 (n + 8) (frameB xs) := by
      obtain ⟨B', q', e, h1, h2, -⟩ := Bytes.of_own hv1
      injection e with e1
      rw [e1]
      exact h2
    go_wp2_with (fail)
    refine (rencode_any A n c xs w1 (hA.pure c1) hc hn).mono ?_
    rintro e w2 ⟨c2, h⟩
    rcases h with ⟨h, -⟩ | ⟨-, v2, rfl, hv2⟩
    · omega
    · obtain ⟨B2, q2, rfl, -, -, -⟩ := own_slice hv2
      have hB2 : Bytes w2 B2 (n + 8) (frameB xs) := by
        obtain ⟨B', q', e, h1, h2, -⟩ := Bytes.of_own hv2
        injection e with e1
        rw [e1]
        exact h2
      have hB1' := hB1.pure c2
      have C2 := c1.pure c2
      clear hv1 hv2 hB1
      go_wp2_with (fail)
      refine (same_is true B1 q1 (n + 8) (frameB xs) B2 q2 (n + 8) (frameB xs) w2 hB1' hB2 (by simp)).mono ?_
      rintro e w3 ⟨rfl, rfl⟩
      go_wp2_with (fail)
      refine (alive03 _).mono ?_
      rintro e w3 ⟨rfl, c3⟩
      go_wp2
      go_ret
      exact ⟨rfl, C2.pure c3⟩
end Go.Proofs.Ytemofjaonoofhaa
