/- The laws of layer 17, going on: SendNobody. -/
import Derived.Test.YtlkpnhfdcljbfaaL17N
namespace Go.Proofs.Ytlkpnhfdcljbfaa
open Go Go.RowKit
set_option linter.unusedVariables false
set_option linter.unusedSimpArgs false

set_option maxRecDepth 100000 in
set_option maxHeartbeats 4000000 in
theorem law_SendNobody (kind now nn credit : Int) (m : UInt64) (A : Option Addr) (n c : Nat) (xs : List UInt8) (w : World) (hA : Bytes w A n xs) (hc : n ≤ c) (hn : n ≤ 140737488351232) :
    Calls Try.prog 7 #[.agg #[.int .i64 kind, .int .i64 now, .int .i64 nn, .int .i64 credit, .int .u64 (m.toNat : Int), .slice A n c]] w fun e w' => e = .returned (.bool true) ∧ Chg Pure' w w' := by
  have hz := zero_sender
  have hl := hA.len
  have HL := Lib.hid hl
  clear hl
  go_enter Try.func7, Try.ntmps7
  go_wp2_with (fail)
  have C0 : Chg Pure' w (w.alloc (.cells #[.int .i64 kind, .int .i64 now, .int .i64 nn, .int .i64 credit, .int .u64 (m.toNat : Int), .slice A n c] 39)) := (Chg.refl _ w).alloc _
  have lit := fun j => cellAt_alloc_lit w #[.int .i64 kind, .int .i64 now, .int .i64 nn, .int .i64 credit, .int .u64 (m.toNat : Int), .slice A n c] 39 j
  have hs0 : (w.alloc (.cells #[.int .i64 kind, .int .i64 now, .int .i64 nn, .int .i64 credit, .int .u64 (m.toNat : Int), .slice A n c] 39)).heap.size = w.heap.size + 1 := by simp
  generalize (w.alloc (.cells #[.int .i64 kind, .int .i64 now, .int .i64 nn, .int .i64 credit, .int .u64 (m.toNat : Int), .slice A n c] 39)) = w0 at *
  have C1 : Chg Pure' w0 (w0.alloc (.cells #[.int .i64 0, .int .i64 0, .int .i64 0, .int .i64 0, .map none] 50)) := (Chg.refl _ w0).alloc _
  have D1 : DeadS (w0.alloc (.cells #[.int .i64 0, .int .i64 0, .int .i64 0, .int .i64 0, .map none] 50)) (.pointer (some ⟨w.heap.size + 1, 0, none⟩)) := .inr ⟨_, rfl, by rw [← hs0, cellAt_alloc_lit]; rfl⟩
  have hs1 : (w0.alloc (.cells #[.int .i64 0, .int .i64 0, .int .i64 0, .int .i64 0, .map none] 50)).heap.size = w.heap.size + 1 + 1 := by simp [hs0]
  generalize (w0.alloc (.cells #[.int .i64 0, .int .i64 0, .int .i64 0, .int .i64 0, .map none] 50)) = w1 at *
  have C2 : Chg Pure' w1 (w1.alloc (.cells #[.pointer none, .pointer (some ⟨w.heap.size + 1, 0, none⟩)] 24)) := (Chg.refl _ w1).alloc _
  have D2 := D1.chg C2
  have D3 : DeadS (w1.alloc (.cells #[.pointer none, .pointer (some ⟨w.heap.size + 1, 0, none⟩)] 24)) (.pointer none) := .inl rfl
  have k0 : (w1.alloc (.cells #[.pointer none, .pointer (some ⟨w.heap.size + 1, 0, none⟩)] 24)).cell? ⟨w.heap.size + 1 + 1, 0, none⟩ = some (.pointer none) := by rw [← hs1, cellAt_alloc_lit]; rfl
  have k1 : (w1.alloc (.cells #[.pointer none, .pointer (some ⟨w.heap.size + 1, 0, none⟩)] 24)).cell? ⟨w.heap.size + 1 + 1, 1, none⟩ = some (.pointer (some ⟨w.heap.size + 1, 0, none⟩)) := by rw [← hs1, cellAt_alloc_lit]; rfl
  generalize (w1.alloc (.cells #[.pointer none, .pointer (some ⟨w.heap.size + 1, 0, none⟩)] 24)) = w2 at *
  have C12 := C1.pure C2
  have C3 := C0.pure C12
  have e1 : w2.cell? ⟨w.heap.size, 1, none⟩ = some (.int .i64 now) := C12.cell (lit 1) (fun h => h)
  have e2 : w2.cell? ⟨w.heap.size, 2, none⟩ = some (.int .i64 nn) := C12.cell (lit 2) (fun h => h)
  have e3 : w2.cell? ⟨w.heap.size, 3, none⟩ = some (.int .i64 credit) := C12.cell (lit 3) (fun h => h)
  have e4 : w2.cell? ⟨w.heap.size, 4, none⟩ = some (.int .u64 (m.toNat : Int)) := C12.cell (lit 4) (fun h => h)
  have e5 : w2.cell? ⟨w.heap.size, 5, none⟩ = some (.slice A n c) := C12.cell (lit 5) (fun h => h)
  have hsb : w.heap.size + 2 ≤ w2.heap.size := by rw [← show w1.heap.size = w.heap.size + 2 from hs1]; exact C2.size
  clear lit D1 C12 C1 C2 C0
  go_loop [19] (fun i => ∃ k : Nat, k ≤ 2 ∧ i = .int .i64 k) (fun i => 2 - (intOf i).toNat)
  case atStart => exact ⟨0, Nat.zero_le _, rfl⟩
  case round =>
    obtain ⟨k, hk, rfl⟩ := hrel
    by_cases hlt : k < 2
    · obtain ⟨v, hkv, hD⟩ : ∃ v, w2.cell? ⟨w.heap.size + 1 + 1, k, none⟩ = some v ∧ DeadS w2 v := by
        rcases (show k = 0 ∨ k = 1 from by omega) with rfl | rfl
        · exact ⟨_, k0, D3⟩
        · exact ⟨_, k1, D2⟩
      clear k0 k1 hz
      go_wp2_with (fail)
      refine (spush_dead _ _ _ _ hD).mono ?_
      rintro e w' ⟨rfl, rfl⟩
      go_wp2_with (fail)
      refine (sdue_dead _ _ _ hD).mono ?_
      rintro e w' ⟨rfl, rfl⟩
      go_wp2_with (fail)
      refine (sack_dead _ _ _ _ _ hD).mono ?_
      rintro e w' ⟨rfl, rfl⟩
      go_wp2_with (fail)
      refine (sres_dead _ _ _ _ _ hD).mono ?_
      rintro e w' ⟨rfl, rfl⟩
      go_wp2_with (fail)
      refine (sout_dead _ _ hD).mono ?_
      rintro e w' ⟨rfl, rfl⟩
      go_wp2_with (fail)
      refine (sbase_dead _ _ hD).mono ?_
      rintro e w' ⟨rfl, rfl⟩
      go_wp2_with (fail)
      refine (snext_dead _ _ hD).mono ?_
      rintro e w' ⟨rfl, rfl⟩
      go_wp2_with (fail)
      refine (slimit_dead _ _ hD).mono ?_
      rintro e w' ⟨rfl, rfl⟩
      go_wp2
      go_round
      case rel => exact ⟨k + 1, by omega, by go_num⟩
      case measure => simp [intOf]; omega
    · clear k0 k1 hz D2 D3
      go_wp2_with (fail)
      refine (own_new 2 _ (by omega) (by omega)).mono ?_
      rintro e w3 ⟨rfl, s3⟩
      have hp2 : w2.heap.size + 1 ≠ w2.heap.size := by omega
      generalize hp : w2.heap.size + 1 = p at *
      generalize hb : w2.heap.size = b at *
      go_wp2_with (fail)
      refine (own_ack s3 0 0 2).mono ?_
      rintro e w4 ⟨rfl, s4⟩
      rw [show ackOf 1 0 [] 0 0 2 = (0, 1, 2, []) from rfl] at s4 ⊢
      obtain ⟨adr, D, g1, g2, g3⟩ := s4
      clear s3
      have C4 := C3.pure g3
      have hf1 := g1.foot_lt
      have q5 := g3.cell e5 (fun h => h)
      have hA4 := hA.pure C4
      have hl := HL.out
      by_cases hbig : 1200 < n
      · have i1 : (1200 : Int) < (n : Int) := by omega
        clear e1 e2 e3 e4 e5
        go_wp2_with (fail)
        refine (alive17 _).mono ?_
        rintro e w6 ⟨rfl, c6⟩
        go_wp2
        go_ret
        exact ⟨rfl, C4.pure c6⟩
      · have i1 : (n : Int) ≤ (1200 : Int) := by omega
        have ho := World.ownsRow_nil (base := w4.heap.size) (e := 5) (size := 1) w4
        obtain ⟨v5, w5, hr5, ho5, hg5, -⟩ := app_own (P := Try.prog) w4 w4.heap.size 22 22 5 Try.underlying22 infoU8 rfl (by decide) _ _ _ ho A n c (enc xs) hA4.row (by rw [enc_length, hl, Nat.mul_one]) (enc_one _) (by decide) (by omega) (Nat.le_refl _)
        have c5 : Chg Pure' w4 w5 := (Chg.refl _ _).grown hg5 (fun k hk => by cases hk)
        rw [List.nil_append, Nat.zero_add] at ho5
        clear hg5 ho hl e1 e2 e3 e4
        go_wp2_with (first
          | (at_builtin; refine Lib.wpList_append_run _ rfl _ _ _ _ rfl _ _ rfl rfl _ _ hr5 ?_)
          | fail)
        clear hr5
        have C5 := C4.pure c5
        have h1 := g1.pure c5
        have l5 := q5
        obtain ⟨B5, k5, rfl, hk5, hB5, hlt5⟩ := own_slice ho5
        have hb5 : Bytes w5 B5 n xs := by obtain ⟨A', c', e', x1, x2, -⟩ := Bytes.of_own ho5; cases e'; exact x2
        refine (spush_any h1 _ _ _ _ 0 hb5 (by omega) (by omega)).mono ?_
        have hpo : pushOf 2 1 2 [] xs 0 = ((1, 0), [⟨xs, false, 0, 1⟩]) := by
          unfold pushOf
          rw [if_neg (by omega), if_neg (by have := HL.out; omega), if_neg (by simp)]
          rfl
        rw [hpo]
        rintro e w6 ⟨rfl, c6, adr6, D6, h6, f6⟩
        have hw2 : w.heap.size ≤ b := by rw [← hb]; exact C3.size
        have hpb : b ≤ p := by omega
        have C6 : Chg Pure' w w6 := C5.trans c6 (fun i hi e => by rcases e with rfl | rfl <;> omega)
        have hsz4 := g3.size
        have hsz5 := c5.size
        have hsz6 := c6.size
        have hF6 : ∀ k, Foot p b adr6 D6 1 1 k → k < w4.heap.size ∨ w5.heap.size ≤ k := fun k hk => (f6 k hk).imp (fun h => hf1 k h) (fun h => h)
        have hl6 := h6.foot_lt
        have hG6 : ∀ k, Foot p b adr6 D6 1 1 k → b ≤ k := fun k hk => (f6 k hk).elim (fun h => by have := g2 k h; omega) (fun h => by omega)
        have ho6 := own_keep ho5 c6 (fun g hg e => by
          have := ho5.lt g hg
          have hq1 := hf1 p (.inl rfl)
          have hq2 := hf1 b (.inr (.inl rfl))
          rcases e with rfl | rfl <;> omega)
        have l6 : w6.cell? ⟨w.heap.size, 5, none⟩ = some (.slice A n c) := c6.cell (c5.cell l5 (fun h => h)) (fun e => by rcases e with e | e <;> simp only at e <;> omega)
        have CC5 := Lib.hid C5
        have CC6 := Lib.hid C6
        have HH6 := Lib.hid h6
        have HF := Lib.hid hF6
        have HG := Lib.hid hG6
        have HLF := Lib.hid hl6
        clear hG6 h6 hF6 hl6 f6 c6 h1 g1 hb5 ho5 hpo hf1 g2
        have HAin := Lib.hid hA
        clear hA4 C4 C5 c5 g3 l5 q5 e5 C3 hA
        go_wp2_with (fail)
        go_loopw [127] (fun i wr => ∃ (k : Nat) (zs : List UInt8), k ≤ n ∧ i = .int .i64 k ∧ wr.ownsRow w4.heap.size 5 1 (.slice B5 n k5) n (enc zs) ∧ Chg (fun j => w4.heap.size ≤ j ∧ j < w5.heap.size) w6 wr) (fun i _ => n - (intOf i).toNat)
        case atStart => exact ⟨0, _, Nat.zero_le _, rfl, ho6, Chg.refl _ _⟩
        case round =>
          obtain ⟨k, zs, hk, rfl, ho, hcq⟩ := hrel
          by_cases hlt : k < n
          · have hzl : zs.length = n := by have := ho.1; rw [enc_length] at this; omega
            have hkz : k < zs.length := by omega
            obtain ⟨g, rfl, hge⟩ := hB5 (by omega)
            have hgl := (hlt5 _ rfl).2
            have hcell := ho.cellAt k (by omega)
            rw [enc_get zs k hkz] at hcell
            have hfr := ho.frozenAt k
            have hx := xor255 (zs[k])
            obtain ⟨ho2, -⟩ := ho.stored k (.int .u8 ((zs[k] ^^^ 255).toNat : Int))
            rw [enc_set] at ho2
            have hc' : Chg (fun j => w4.heap.size ≤ j ∧ j < w5.heap.size) w6 (wr.setCell ⟨g, k, none⟩ (.int .u8 ((zs[k] ^^^ 255).toNat : Int))) := hcq.setCell (p := ⟨g, k, none⟩) (.inr ⟨hge, hgl⟩) _
            have i2 : (k : Int) < (n : Int) := by omega
            clear ho hzl l6 ho6
            go_wp2
            go_roundw
            case rel => exact ⟨k + 1, _, by omega, by go_num, ho2, hc'⟩
            case measure => simp [intOf]; omega
          · have h7 := HH6.out.frame hcq (fun k hF h => by rcases HF.out k hF with h1 | h1 <;> omega)
            have l7 := hcq.cell l6 (fun h => by simp only at h; omega)
            have C7 : Chg Pure' w wr := CC6.out.trans hcq (fun i hi h => by omega)
            clear ho ho6 hcq l6
            go_wp2_with (fail)
            refine (sdue_any h7 0).mono ?_
            rw [show dueOf 0 1 [⟨xs, false, 0, 1⟩] = ([(1, xs)], [⟨xs, false, 1, 2⟩]) from rfl]
            rintro e w8 ⟨v8, vs8, rfl, hm8, c8, h8⟩
            have hl7 := h7.foot_lt
            have hb7 : b < wr.heap.size := hl7 b (.inr (.inl rfl))
            obtain ⟨B7, hB7⟩ : ∃ B, B = wr.heap.size := ⟨_, rfl⟩
            rw [← hB7] at hm8 hl7 hb7
            have HB7 := Lib.hid hB7
            have HL7 := Lib.hid hl7
            clear hl7
            obtain ⟨g, q8, rfl, hgB, hcell⟩ := hm8.cells (by simp)
            obtain ⟨u, rfl⟩ : ∃ u, vs8 = [u] := by
              match vs8, hm8.len with
              | [u], _ => exact ⟨u, rfl⟩
            have hl0 : w8.ownsRow B7 5 1 u xs.length (enc xs) := hm8.loads 0 (by simp) (by simp)
            rw [HL.out] at hl0
            have hap : u.ownBlock ≠ some g := fun e => own_apart hl0 hm8.row (by decide) e rfl
            have m0 := hcell 0 (by simp)
            have m1 := hcell 1 (by simp)
            have m2 := hcell 2 (by simp)
            have m3 := hcell 3 (by simp)
            have m4 := hcell 4 (by simp)
            have m5 := hcell 5 (by simp)
            have m6 := hcell 6 (by simp)
            have m7 := hcell 7 (by simp)
            have m8 := hcell 8 (by simp)
            simp only [rowCells, msgCells, List.cons_append, List.nil_append, List.append_nil, List.getElem?_cons_succ, List.getElem?_cons_zero] at m0 m1 m2 m3 m4 m5 m6 m7 m8
            have hlu := fun g hg => hl0.lt g hg
            have C8 : Chg Pure' w w8 := C7.trans c8 (fun i hi h => by
              have := HG.out i (Lds.foot h)
              omega)
            have l8 := c8.cell l7 (fun h => by have := HG.out _ (Lds.foot h); simp only at this; omega)
            have H8 := Lib.hid h8
            have hzm := zero_msg
            clear hcell hm8 h8 h7 l7 C7 c8 hB7
            go_wp2_with (fail)
            go_loopw [140] (fun i wr2 => ∃ (k : Nat) (zs : List UInt8), k ≤ 1 ∧ i = .int .i64 k ∧ wr2.ownsRow B7 5 1 u n (enc zs) ∧ Chg (fun j => u.ownBlock = some j) w8 wr2) (fun i _ => 1 - (intOf i).toNat)
            case atStart => exact ⟨0, _, Nat.zero_le _, rfl, hl0, Chg.refl _ _⟩
            case round =>
              obtain ⟨k2, zs2, hk2, rfl, ho2, hc2⟩ := hrel
              by_cases hlt2 : k2 < 1
              · obtain rfl : k2 = 0 := by omega
                have o0 := hc2.cell m0 hap
                have o1 := hc2.cell m1 hap
                have o2 := hc2.cell m2 hap
                have o3 := hc2.cell m3 hap
                have o4 := hc2.cell m4 hap
                have o5 := hc2.cell m5 hap
                have o6 := hc2.cell m6 hap
                have o7 := hc2.cell m7 hap
                have o8 := hc2.cell m8 hap
                obtain ⟨Bu, qu, rfl, hqu, hBu, hltu⟩ := own_slice ho2
                clear m0 m1 m2 m3 m4 m5 m6 m7 m8 hl0
                go_wp2_with (fail)
                have c9 : Chg Pure' wr (wr.alloc (.cells #[.int .i64 1, .int .u64 0, .int .i64 0, .int .i64 1, .int .i64 0, .int .u64 0, .int .i64 0, .int .i64 0, .slice Bu n qu] 41)) := (Chg.refl _ wr).alloc _
                have hlt9 := fun g hg => ho2.lt g hg
                have ho9 := own_keep ho2 c9 (fun _ _ h => h)
                have l9 : (wr.alloc (.cells #[.int .i64 1, .int .u64 0, .int .i64 0, .int .i64 1, .int .i64 0, .int .u64 0, .int .i64 0, .int .i64 0, .slice Bu n qu] 41)).cell? ⟨wr.heap.size, 8, none⟩ = some (.slice Bu n qu) := by
                  rw [cellAt_alloc_lit]; rfl
                generalize (wr.alloc (.cells #[.int .i64 1, .int .u64 0, .int .i64 0, .int .i64 1, .int .i64 0, .int .u64 0, .int .i64 0, .int .i64 0, .slice Bu n qu] 41)) = wa at *
                generalize hnb : wr.heap.size = nb at *
                have HNB := Lib.hid hnb
                clear o0 o1 o2 o3 o4 o5 o6 o7 o8 hzm ho2 hnb
                go_loopw [147] (fun i wr3 => ∃ (k3 : Nat) (zs3 : List UInt8), k3 ≤ n ∧ i = .int .i64 k3 ∧ wr3.ownsRow B7 5 1 (.slice Bu n qu) n (enc zs3) ∧ Chg (fun j => (Value.slice Bu n qu).ownBlock = some j) wa wr3) (fun i _ => n - (intOf i).toNat)
                case atStart => exact ⟨0, _, Nat.zero_le _, rfl, ho9, Chg.refl _ _⟩
                case round =>
                  obtain ⟨k3, zs3, hk3, rfl, ho3, hc3⟩ := hrel
                  have l10 := hc3.cell l9 (fun e => by
                    have := (hlt9 _ e).2
                    simp only at this
                    omega)
                  by_cases hlt3 : k3 < n
                  · have hzl : zs3.length = n := by have := ho3.1; rw [enc_length] at this; omega
                    have hkz : k3 < zs3.length := by omega
                    obtain ⟨gu, rfl, hge⟩ := hBu (by omega)
                    have hcell := ho3.cellAt k3 (by omega)
                    rw [enc_get zs3 k3 hkz] at hcell
                    have hfr := ho3.frozenAt k3
                    have hx := xor255 (zs3[k3])
                    obtain ⟨ho4, -⟩ := ho3.stored k3 (.int .u8 ((zs3[k3] ^^^ 255).toNat : Int))
                    rw [enc_set] at ho4
                    have hc' : Chg (fun j => (Value.slice (some ⟨gu, 0, none⟩) n qu).ownBlock = some j) wa (World.setCell _ ⟨gu, k3, none⟩ (.int .u8 ((zs3[k3] ^^^ 255).toNat : Int))) := hc3.setCell (p := ⟨gu, k3, none⟩) (.inr rfl) _
                    have i2 : (k3 : Int) < (n : Int) := by omega
                    clear ho3 hzl l9
                    go_wp2
                    go_roundw
                    case rel => exact ⟨k3 + 1, _, by omega, by go_num, ho4, hc'⟩
                    case measure => simp [intOf]; omega
                  · go_wp2
                    go_roundw
                    case rel => exact ⟨1, _, by omega, rfl, ho3, (hc2.trans c9 (fun _ _ h => h.elim)).trans' hc3⟩
                    case measure => simp [intOf]
              · have hB9 : ∀ j, u.ownBlock = some j → B7 ≤ j := fun j hj => (ho2.lt j hj).1
                have h9 := H8.out.frame hc2 (fun k hk hj => by
                  have := hB9 k hj
                  have := HL7.out k hk
                  omega)
                have l9 := hc2.cell l8 (fun hj => by
                  have := hB9 _ hj
                  simp only at this
                  omega)
                have C9 : Chg Pure' w wr := C8.trans hc2 (fun i hi hj => by
                  have := hB9 i hj
                  omega)
                clear m0 m1 m2 m3 m4 m5 m6 m7 m8 hl0 ho2 hzm l8 C8 hc2
                go_wp2_with (fail)
                refine (sdue_any h9 9).mono ?_
                rw [show dueOf 9 1 [⟨xs, false, 1, 2⟩] = ([(1, xs)], [⟨xs, false, 11, 4⟩]) from rfl]
                rintro e w10 ⟨v10, vs10, rfl, hm10, c10, h10⟩
                obtain ⟨g', q10, rfl, -, hcell⟩ := hm10.cells (by simp)
                obtain ⟨u', rfl⟩ : ∃ u, vs10 = [u] := by
                  match vs10, hm10.len with
                  | [u], _ => exact ⟨u, rfl⟩
                have hl1 : w10.ownsRow wr.heap.size 5 1 u' xs.length (enc xs) := hm10.loads 0 (by simp) (by simp)
                obtain ⟨A1, q1, rfl, -, hb1, -⟩ := Bytes.of_own hl1
                have m8 := hcell 8 (by simp)
                simp only [rowCells, msgCells, List.cons_append, List.nil_append, List.append_nil, List.getElem?_cons_succ, List.getElem?_cons_zero] at m8
                have l10 := c10.cell l9 (fun h => by have := HG.out _ (Lds.foot h); simp only at this; omega)
                have C10 : Chg Pure' w w10 := C9.trans c10 (fun i hi h => by have := HG.out i (Lds.foot h); omega)
                have HB := Lib.hid (HAin.out.pure C10)
                have HB1 := Lib.hid hb1
                clear hcell hm10 h10 h9 l9 C9 c10 hl1 hb1
                go_wp2_with (fail)
                refine reg_begin (Pure') (by kernel_rfl) ?_
                refine reg_take 0 (v := ?_) rfl (by kernel_rfl) (by kernel_rfl) (by kernel_rfl) (fun _ _ _ h => h) (by kernel_rfl) ?_ ?_
                rotate_left
                · (intro w' hS; go_simp; (try go_bits); (try with_reducible rfl))
                try simp only [Act.put, List.getElem_toArray, List.getElem_cons_zero, List.getElem_cons_succ, List.setIfInBounds_toArray, List.set_cons_zero, List.set_cons_succ]
                refine reg_take 1 (v := ?_) rfl (by kernel_rfl) (by kernel_rfl) (by kernel_rfl) (fun _ _ _ h => h) (by kernel_rfl) ?_ ?_
                rotate_left
                · (intro w' hS; go_simp; (try go_bits); (try with_reducible rfl))
                try simp only [Act.put, List.getElem_toArray, List.getElem_cons_zero, List.getElem_cons_succ, List.setIfInBounds_toArray, List.set_cons_zero, List.set_cons_succ]
                refine reg_take 2 (v := ?_) rfl (by kernel_rfl) (by kernel_rfl) (by kernel_rfl) (fun _ _ _ h => h) (by kernel_rfl) ?_ ?_
                rotate_left
                · (intro w' hS; go_simp; (try go_bits); (try with_reducible rfl))
                try simp only [Act.put, List.getElem_toArray, List.getElem_cons_zero, List.getElem_cons_succ, List.setIfInBounds_toArray, List.set_cons_zero, List.set_cons_succ]
                refine reg_take 3 (v := ?_) rfl (by kernel_rfl) (by kernel_rfl) (by kernel_rfl) (fun _ _ _ h => h) (by kernel_rfl) ?_ ?_
                rotate_left
                · (intro w' hS; go_simp; (try go_bits); (try with_reducible rfl))
                try simp only [Act.put, List.getElem_toArray, List.getElem_cons_zero, List.getElem_cons_succ, List.setIfInBounds_toArray, List.set_cons_zero, List.set_cons_succ]
                refine reg_take 4 (v := ?_) rfl (by kernel_rfl) (by kernel_rfl) (by kernel_rfl) (fun _ _ _ h => h) (by kernel_rfl) ?_ ?_
                rotate_left
                · (intro w' hS; go_simp; (try go_bits); (try with_reducible rfl))
                try simp only [Act.put, List.getElem_toArray, List.getElem_cons_zero, List.getElem_cons_succ, List.setIfInBounds_toArray, List.set_cons_zero, List.set_cons_succ]
                refine reg_take 5 (v := ?_) rfl (by kernel_rfl) (by kernel_rfl) (by kernel_rfl) (fun _ _ _ h => h) (by kernel_rfl) ?_ ?_
                rotate_left
                · (intro w' hS; go_simp; (try go_bits); (try with_reducible rfl))
                try simp only [Act.put, List.getElem_toArray, List.getElem_cons_zero, List.getElem_cons_succ, List.setIfInBounds_toArray, List.set_cons_zero, List.set_cons_succ]
                refine reg_take 6 (v := ?_) rfl (by kernel_rfl) (by kernel_rfl) (by kernel_rfl) (fun _ _ _ h => h) (by kernel_rfl) ?_ ?_
                rotate_left
                · (intro w' hS; go_simp; (try go_bits); (try with_reducible rfl))
                try simp only [Act.put, List.getElem_toArray, List.getElem_cons_zero, List.getElem_cons_succ, List.setIfInBounds_toArray, List.set_cons_zero, List.set_cons_succ]
                refine reg_take 7 (v := ?_) rfl (by kernel_rfl) (by kernel_rfl) (by kernel_rfl) (fun _ _ _ h => h) (by kernel_rfl) ?_ ?_
                rotate_left
                · (intro w' hS; have hz := hS.cell (w := w10.drew) m8 (fun h => h); go_simp; (try go_bits); (try with_reducible rfl))
                try simp only [Act.put, List.getElem_toArray, List.getElem_cons_zero, List.getElem_cons_succ, List.setIfInBounds_toArray, List.set_cons_zero, List.set_cons_succ]
                refine reg_take 8 (v := ?_) rfl (by kernel_rfl) (by kernel_rfl) (by kernel_rfl) (fun _ _ _ h => h) (by kernel_rfl) ?_ ?_
                rotate_left
                · (intro w' hS; go_simp; (try go_bits); (try with_reducible rfl))
                try simp only [Act.put, List.getElem_toArray, List.getElem_cons_zero, List.getElem_cons_succ, List.setIfInBounds_toArray, List.set_cons_zero, List.set_cons_succ]
                refine reg_take 9 (v := ?_) rfl (by kernel_rfl) (by kernel_rfl) (by kernel_rfl) (fun _ _ _ h => h) (by kernel_rfl) ?_ ?_
                rotate_left
                · (intro w' hS; have hz := hS.cell (w := w10.drew) l10 (fun h => h); go_simp; (try go_bits); (try with_reducible rfl))
                try simp only [Act.put, List.getElem_toArray, List.getElem_cons_zero, List.getElem_cons_succ, List.setIfInBounds_toArray, List.set_cons_zero, List.set_cons_succ]
                refine reg_do 10 rfl (by kernel_rfl) (by kernel_rfl) ?_
                intro K hK
                go_simp
                refine (same_is true _ _ _ _ _ _ _ _ _ (HB1.out.drew) (HB.out.drew) (by simp)).mono ?_
                rintro e w11 ⟨rfl, rfl⟩
                go_simp
                refine hK _ _ (Chg.refl _ _) ?_
                clear hK K
                try simp only [Act.put, List.getElem_toArray, List.getElem_cons_zero, List.getElem_cons_succ, List.setIfInBounds_toArray, List.set_cons_zero, List.set_cons_succ]
                refine reg_take 11 (v := ?_) rfl (by kernel_rfl) (by kernel_rfl) (by kernel_rfl) (fun _ _ _ h => h) (by kernel_rfl) ?_ ?_
                rotate_left
                · (intro w' hS; go_simp; (try go_bits); (try with_reducible rfl))
                try simp only [Act.put, List.getElem_toArray, List.getElem_cons_zero, List.getElem_cons_succ, List.setIfInBounds_toArray, List.set_cons_zero, List.set_cons_succ]
                refine reg_take 12 (v := ?_) rfl (by kernel_rfl) (by kernel_rfl) (by kernel_rfl) (fun _ _ _ h => h) (by kernel_rfl) ?_ ?_
                rotate_left
                · (intro w' hS; go_simp; (try go_bits); (try with_reducible rfl))
                try simp only [Act.put, List.getElem_toArray, List.getElem_cons_zero, List.getElem_cons_succ, List.setIfInBounds_toArray, List.set_cons_zero, List.set_cons_succ]
                refine reg_do 13 rfl (by kernel_rfl) (by kernel_rfl) ?_
                intro K hK
                go_simp
                refine (alive17 _).mono ?_
                rintro e w11 ⟨rfl, c11⟩
                go_simp
                refine hK _ _ (c11) ?_
                clear hK K
                try simp only [Act.put, List.getElem_toArray, List.getElem_cons_zero, List.getElem_cons_succ, List.setIfInBounds_toArray, List.set_cons_zero, List.set_cons_succ]
                refine reg_take 14 (v := ?_) rfl (by kernel_rfl) (by kernel_rfl) (by kernel_rfl) (fun _ _ _ h => h) (by kernel_rfl) ?_ ?_
                rotate_left
                · (intro w' hS; go_simp; (try go_bits); (try with_reducible rfl))
                try simp only [Act.put, List.getElem_toArray, List.getElem_cons_zero, List.getElem_cons_succ, List.setIfInBounds_toArray, List.set_cons_zero, List.set_cons_succ]
                refine reg_take 15 (v := ?_) rfl (by kernel_rfl) (by kernel_rfl) (by kernel_rfl) (fun _ _ _ h => h) (by kernel_rfl) ?_ ?_
                rotate_left
                · (intro w' hS; go_simp; (try go_bits); (try with_reducible rfl))
                try simp only [Act.put, List.getElem_toArray, List.getElem_cons_zero, List.getElem_cons_succ, List.setIfInBounds_toArray, List.set_cons_zero, List.set_cons_succ]
                refine wpAnyH_done (by kernel_rfl) ?_ _
                go_wp2
                go_ret
                exact ⟨rfl, (C10.drew).pure c11⟩
end Go.Proofs.Ytlkpnhfdcljbfaa
