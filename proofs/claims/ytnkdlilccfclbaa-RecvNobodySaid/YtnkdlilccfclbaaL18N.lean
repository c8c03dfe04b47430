/- The laws of layer 18, going on: a receiver that nobody made, and RecvNobody. -/
import Derived.Test.YtnkdlilccfclbaaL18
import Derived.Test.YtnkdlilccfclbaaSame
namespace Go.Proofs.Ytnkdlilccfclbaa
open Go Go.RowKit
set_option linter.unusedVariables false
set_option linter.unusedSimpArgs false

/-- A receiver that nobody made: nil, or one of zeros. -/
def Dead (w : World) (v : Value) : Prop := v = .pointer none ∨ ∃ p, v = .pointer (some ⟨p, 0, none⟩) ∧ w.cell? ⟨p, 0, none⟩ = some (.int .i64 0)
theorem Dead.chg {w w' : World} {v : Value} (h : Dead w v) (hc : Chg Pure' w w') : Dead w' v := by
  rcases h with h | ⟨p, h, hp⟩
  · exact .inl h
  · exact .inr ⟨p, h, hc.cell hp (fun h => h)⟩
theorem ok_dead (v : Value) (w : World) (h : Dead w v) : Calls Try.prog 24 #[v] w fun e w' => e = .returned (.bool false) ∧ w = w' := by
  rcases h with rfl | ⟨p, rfl, h1⟩
  · go_enter Try.func24, Try.ntmps24
    go_wp2
    go_ret
    exact ⟨rfl, rfl⟩
  · go_enter Try.func24, Try.ntmps24
    go_wp2
    go_ret
    exact ⟨rfl, rfl⟩
theorem ready_dead (v : Value) (w : World) (h : Dead w v) : Calls Try.prog 20 #[v] w fun e w' => e = .returned (.int .i64 0) ∧ w = w' := by
  go_enter Try.func20, Try.ntmps20
  go_wp2_with (fail)
  refine (ok_dead _ _ h).mono ?_
  rintro e w' ⟨rfl, rfl⟩
  go_wp2
  go_ret
  exact ⟨rfl, rfl⟩
theorem taken_dead (v : Value) (w : World) (h : Dead w v) : Calls Try.prog 14 #[v] w fun e w' => e = .returned (.int .i64 0) ∧ w = w' := by
  go_enter Try.func14, Try.ntmps14
  go_wp2_with (fail)
  refine (ok_dead _ _ h).mono ?_
  rintro e w' ⟨rfl, rfl⟩
  go_wp2
  go_ret
  exact ⟨rfl, rfl⟩
theorem held_dead (v : Value) (w : World) (h : Dead w v) : Calls Try.prog 22 #[v] w fun e w' => e = .returned (.int .i64 0) ∧ w = w' := by
  go_enter Try.func22, Try.ntmps22
  go_wp2_with (fail)
  refine (ok_dead _ _ h).mono ?_
  rintro e w' ⟨rfl, rfl⟩
  go_wp2
  go_ret
  exact ⟨rfl, rfl⟩
theorem take_dead (v : Value) (w : World) (h : Dead w v) : Calls Try.prog 12 #[v] w fun e w' => e = .returned (.tuple #[.slice none 0 0, .bool false]) ∧ w = w' := by
  go_enter Try.func12, Try.ntmps12
  go_wp2_with (fail)
  refine (ready_dead _ _ h).mono ?_
  rintro e w' ⟨rfl, rfl⟩
  go_wp2
  go_ret2
  exact ⟨rfl, rfl⟩
theorem ack_dead (v : Value) (w : World) (h : Dead w v) : Calls Try.prog 15 #[v] w fun e w' => e = .returned (.tuple #[.int .i64 0, .int .u64 0, .int .i64 0]) ∧ w = w' := by
  go_enter Try.func15, Try.ntmps15
  go_wp2_with (fail)
  refine (ok_dead _ _ h).mono ?_
  rintro e w' ⟨rfl, rfl⟩
  go_wp2
  go_ret3
  exact ⟨rfl, rfl⟩
theorem data_dead (v x y : Value) (w : World) (h : Dead w v) : Calls Try.prog 11 #[v, x, y] w fun e w' => e = .returned (.int .i64 2) ∧ w = w' := by
  go_enter Try.func11, Try.ntmps11
  go_wp2_with (fail)
  refine (ok_dead _ _ h).mono ?_
  rintro e w' ⟨rfl, rfl⟩
  go_wp2
  go_ret
  exact ⟨rfl, rfl⟩

set_option maxRecDepth 100000 in
set_option maxHeartbeats 2000000 in
theorem law_RecvNobody (A : Option Addr) (n c : Nat) (xs : List UInt8) (a : Int) (w : World) (hA : Bytes w A n xs) (hc : n ≤ c) (hn : n ≤ 140737488351232) (ha : -9223372036854775808 ≤ a ∧ a ≤ 9223372036854775807) :
    Calls Try.prog 8 #[.slice A n c, .int .i64 a] w fun e w' => e = .returned (.bool true) ∧ Chg Pure' w w' := by
  obtain ⟨zs, hz, hz0⟩ : ∃ zs : Array Value, (∀ w, (zeroValue 53).run Try.prog w = .ok (.agg zs) w) ∧ zs[0]? = some (.int .i64 0) := ⟨_, zero_recv, rfl⟩
  have hn31 : n ≤ 140737488355328 := by omega
  go_enter Try.func8, Try.ntmps8
  go_wp2_with (fail)
  have C1 : Chg Pure' w (w.alloc (.cells zs 53)) := (Chg.refl _ w).alloc _
  have D1 : Dead (w.alloc (.cells zs 53)) (.pointer (some ⟨w.heap.size, 0, none⟩)) := .inr ⟨_, rfl, by rw [cellAt_alloc_lit]; exact hz0⟩
  have hsz : (w.alloc (.cells zs 53)).heap.size = w.heap.size + 1 := by simp
  generalize w.alloc (.cells zs 53) = w1 at *
  have C2 : Chg Pure' w1 (w1.alloc (.cells #[.pointer none, .pointer (some ⟨w.heap.size, 0, none⟩)] 23)) := (Chg.refl _ w1).alloc _
  have D2 := D1.chg C2
  have D3 : Dead (w1.alloc (.cells #[.pointer none, .pointer (some ⟨w.heap.size, 0, none⟩)] 23)) (.pointer none) := .inl rfl
  have k0 : (w1.alloc (.cells #[.pointer none, .pointer (some ⟨w.heap.size, 0, none⟩)] 23)).cell? ⟨w.heap.size + 1, 0, none⟩ = some (.pointer none) := by rw [← hsz, cellAt_alloc_lit]; rfl
  have k1 : (w1.alloc (.cells #[.pointer none, .pointer (some ⟨w.heap.size, 0, none⟩)] 23)).cell? ⟨w.heap.size + 1, 1, none⟩ = some (.pointer (some ⟨w.heap.size, 0, none⟩)) := by rw [← hsz, cellAt_alloc_lit]; rfl
  have C3 := C1.pure C2
  generalize (w1.alloc (.cells #[.pointer none, .pointer (some ⟨w.heap.size, 0, none⟩)] 23)) = w2 at *
  go_loop [23] (fun i => ∃ k : Nat, k ≤ 2 ∧ i = .int .i64 k) (fun i => 2 - (intOf i).toNat)
  case atStart => exact ⟨0, Nat.zero_le _, rfl⟩
  case round =>
    obtain ⟨k, hk, rfl⟩ := hrel
    by_cases hlt : k < 2
    · obtain ⟨v, hkv, hD⟩ : ∃ v, w2.cell? ⟨w.heap.size + 1, k, none⟩ = some v ∧ Dead w2 v := by
        rcases (show k = 0 ∨ k = 1 from by omega) with rfl | rfl
        · exact ⟨_, k0, D3⟩
        · exact ⟨_, k1, D2⟩
      clear k0 k1 hz hz0
      go_wp2_with (fail)
      refine (take_dead _ _ hD).mono ?_
      rintro e w' ⟨rfl, rfl⟩
      go_wp2_with (fail)
      refine (ack_dead _ _ hD).mono ?_
      rintro e w' ⟨rfl, rfl⟩
      go_wp2_with (fail)
      refine (data_dead _ _ _ _ hD).mono ?_
      rintro e w' ⟨rfl, rfl⟩
      go_wp2_with (fail)
      refine (taken_dead _ _ hD).mono ?_
      rintro e w' ⟨rfl, rfl⟩
      go_wp2_with (fail)
      refine (ready_dead _ _ hD).mono ?_
      rintro e w' ⟨rfl, rfl⟩
      go_wp2_with (fail)
      refine (held_dead _ _ hD).mono ?_
      rintro e w' ⟨rfl, rfl⟩
      go_wp2
      go_round
      case rel => exact ⟨k + 1, by omega, by go_num⟩
      case measure => simp [intOf]; omega
    · clear k0 k1 hz hz0 D1 D2 D3
      go_wp2_with (fail)
      refine (new_ok 2 _ (by omega) (by omega)).mono ?_
      rintro e w3 ⟨rfl, c3, r3⟩
      generalize hp : w2.heap.size = p at *
      have C4 := C3.pure c3
      have hwp : w.heap.size ≤ p := by rw [← hp]; exact C3.size
      have hA3 := hA.pure C4
      have hl := hA3.len
      have ho := World.ownsRow_nil (base := w3.heap.size) (e := 5) (size := 1) w3
      obtain ⟨v4, w4, hr4, ho4, hg4, -⟩ := app_own (P := Try.prog) w3 w3.heap.size 29 29 5 Try.underlying29 infoU8 rfl (by decide) _ _ _ ho A n c (enc xs) hA3.row (by rw [enc_length, hl, Nat.mul_one]) (enc_one _) (by decide) (by omega) (Nat.le_refl _)
      have C5 : Chg Pure' w w4 := C4.grown hg4 (fun k hk => by cases hk)
      have cc4 : Chg Pure' w3 w4 := (Chg.refl _ _).grown hg4 (fun k hk => by cases hk)
      rw [List.nil_append, Nat.zero_add] at ho4
      go_wp2_with (first
        | (at_builtin; refine Lib.wpList_append_run _ rfl _ _ _ _ rfl _ _ rfl rfl _ _ hr4 ?_)
        | fail)
      obtain ⟨B4, q4, rfl, hq4, hg4', hlt4⟩ := own_slice ho4
      obtain ⟨-, -, -, -, hb4, -⟩ := Bytes.of_own ho4
      have hb4 : Bytes w4 B4 n xs := by obtain ⟨A', c', e', h1, h2, -⟩ := Bytes.of_own ho4; cases e'; exact h2
      have r4 := r3.pure cc4
      have hp3 : p < w3.heap.size := r3.lt p rfl
      clear hr4 hg4 ho hA3 c3 r3 C1 C2 C3 hsz
      refine (data_any _ _ _ _ _ 1 _ n q4 xs _ r4 (by omega) (by omega) hb4 (by omega)).mono ?_
      rintro e w5 ⟨rfl, c5, r5⟩
      have C6 : Chg Pure' w w5 := C5.trans c5 (fun i hi e => by have := C4.size; omega)
      by_cases hbig : 1200 < xs.length
      · have hd : dataR 2 0 (List.replicate 2 none) 1 xs = (8, List.replicate 2 none) := by unfold dataR; rw [if_neg (by omega), if_pos hbig]
        rw [hd]
        clear r5 r4 hd
        go_wp2_with (fail)
        refine (alive18 _).mono ?_
        rintro e w6 ⟨rfl, c6⟩
        go_wp2
        go_ret
        exact ⟨rfl, C6.pure c6⟩
      · have hd : dataR 2 0 (List.replicate 2 none) 1 xs = (0, [some xs, none]) := by unfold dataR; rw [if_neg (by omega), if_neg hbig, if_neg (by omega), if_neg (by omega)]; rfl
        rw [hd] at r5 ⊢
        have ho5 := own_keep ho4 c5 (fun g hg e => by have := (ho4.lt g hg).1; omega)
        have hF5 : ∀ i, Ext (fun k => k = p) w4 w5 i → i = p ∨ w4.heap.size ≤ i := by
          rintro i (h | h)
          · exact .inl h
          · exact .inr h.1
        generalize Ext (fun k => k = p) w4 w5 = F5 at r5 hF5
        clear r4 hd hb4 ho4
        go_wp2_with (fail)
        go_loopw [103] (fun i wr => ∃ (k : Nat) (zs : List UInt8), k ≤ n ∧ i = .int .i64 k ∧ wr.ownsRow w3.heap.size 5 1 (.slice B4 n q4) n (enc zs) ∧ Chg (fun j => w3.heap.size ≤ j ∧ j < w4.heap.size) w5 wr) (fun i _ => n - (intOf i).toNat)
        case atStart => exact ⟨0, _, Nat.zero_le _, rfl, ho5, Chg.refl _ _⟩
        case round =>
          obtain ⟨k, zs, hk, rfl, ho, hcq⟩ := hrel
          by_cases hlt : k < n
          · have hzl : zs.length = n := by have := ho.1; rw [enc_length] at this; omega
            have hkz : k < zs.length := by omega
            obtain ⟨g, rfl, hge⟩ := hg4' (by omega)
            have hgl := (hlt4 _ rfl).2
            have hcell := ho.cellAt k (by omega)
            rw [enc_get zs k hkz] at hcell
            have hfr := ho.frozenAt k
            have hx := xor255 (zs[k])
            obtain ⟨ho2, -⟩ := ho.stored k (.int .u8 ((zs[k] ^^^ 255).toNat : Int))
            rw [enc_set] at ho2
            have hc' : Chg (fun j => w3.heap.size ≤ j ∧ j < w4.heap.size) w5 (wr.setCell ⟨g, k, none⟩ (.int .u8 ((zs[k] ^^^ 255).toNat : Int))) := hcq.setCell (p := ⟨g, k, none⟩) (.inr ⟨hge, hgl⟩) _
            have i1 : (k : Int) < (n : Int) := by omega
            clear ho hzl
            go_wp2
            go_roundw
            case rel => exact ⟨k + 1, _, by omega, by go_num, ho2, hc'⟩
            case measure => simp [intOf]; omega
          · have C7 : Chg Pure' w wr := C6.trans hcq (fun i hi h => absurd (Nat.lt_of_lt_of_le hi C4.size) (by omega))
            have r7 := r5.frame hcq (fun k hF h => by rcases hF5 k hF with h1 | h1 <;> omega)
            clear ho r5 hcq
            go_wp2_with (fail)
            refine (take_some _ _ _ _ _ _ _ r7 (by omega)).mono ?_
            rintro e w8 ⟨A8, n8, q8, rfl, h8, hn8, hb8, -, c8, -⟩
            have C8 : Chg Pure' w w8 := C7.trans c8 (fun i hi e => by have := C4.size; omega)
            go_wp2_with (fail)
            refine (same_is true _ _ _ _ _ _ _ _ _ hb8 (hA.pure C8) (by simp)).mono ?_
            rintro e w9 ⟨rfl, rfl⟩
            go_wp2_with (fail)
            refine (alive18 _).mono ?_
            rintro e w10 ⟨rfl, c10⟩
            go_wp2
            go_ret
            exact ⟨rfl, C8.pure c10⟩
end Go.Proofs.Ytnkdlilccfclbaa
