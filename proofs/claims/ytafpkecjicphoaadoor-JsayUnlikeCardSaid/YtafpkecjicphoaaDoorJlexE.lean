/- jlex.Escape. -/
import Derived.Test.YtafpkecjicphoaaDoorJlexP
import Derived.Test.YtafpkecjicphoaaDoorUtfB
import Derived.Test.YtafpkecjicphoaaDoorTreeV
import Derived.Test.YtafpkecjicphoaaDoorWriters
import Derived.StillTailTactics
namespace Go.Proofs.YtafpkecjicphoaaDoor
open Go Go.RowKit
set_option linter.unusedVariables false
set_option linter.unusedSimpArgs false
set_option maxRecDepth 100000

theorem and15 (r : Nat) (h : r < 32) : bits BinOp.and IntKind.i32 (r : Int) 15 = (r : Int) % 16 := by
  have : ∀ n : Fin 32, bits BinOp.and IntKind.i32 ((n.val : Nat) : Int) 15 = ((n.val : Nat) : Int) % 16 := by decide +kernel
  exact this ⟨r, h⟩
theorem short_sel (r : Nat) (h : (r : Int) < 128) (hs : ¬ shortE r = 0) : (r = 34 ∧ Lib.indexByte [34, 92, 8, 9, 10, 12, 13] (UInt8.ofNat (min (r : Int) 255).toNat) = 0 ∧ shortE r = 34) ∨ (r = 92 ∧ Lib.indexByte [34, 92, 8, 9, 10, 12, 13] (UInt8.ofNat (min (r : Int) 255).toNat) = 1 ∧ shortE r = 92) ∨ (r = 8 ∧ Lib.indexByte [34, 92, 8, 9, 10, 12, 13] (UInt8.ofNat (min (r : Int) 255).toNat) = 2 ∧ shortE r = 98) ∨ (r = 9 ∧ Lib.indexByte [34, 92, 8, 9, 10, 12, 13] (UInt8.ofNat (min (r : Int) 255).toNat) = 3 ∧ shortE r = 116) ∨ (r = 10 ∧ Lib.indexByte [34, 92, 8, 9, 10, 12, 13] (UInt8.ofNat (min (r : Int) 255).toNat) = 4 ∧ shortE r = 110) ∨ (r = 12 ∧ Lib.indexByte [34, 92, 8, 9, 10, 12, 13] (UInt8.ofNat (min (r : Int) 255).toNat) = 5 ∧ shortE r = 102) ∨ (r = 13 ∧ Lib.indexByte [34, 92, 8, 9, 10, 12, 13] (UInt8.ofNat (min (r : Int) 255).toNat) = 6 ∧ shortE r = 114) := by
  rw [show (min (r : Int) 255).toNat = r by omega]
  have : ∀ n : Fin 128, ¬ shortE n.val = 0 → (n.val = 34 ∧ Lib.indexByte [34, 92, 8, 9, 10, 12, 13] (UInt8.ofNat n.val) = 0 ∧ shortE n.val = 34) ∨ (n.val = 92 ∧ Lib.indexByte [34, 92, 8, 9, 10, 12, 13] (UInt8.ofNat n.val) = 1 ∧ shortE n.val = 92) ∨ (n.val = 8 ∧ Lib.indexByte [34, 92, 8, 9, 10, 12, 13] (UInt8.ofNat n.val) = 2 ∧ shortE n.val = 98) ∨ (n.val = 9 ∧ Lib.indexByte [34, 92, 8, 9, 10, 12, 13] (UInt8.ofNat n.val) = 3 ∧ shortE n.val = 116) ∨ (n.val = 10 ∧ Lib.indexByte [34, 92, 8, 9, 10, 12, 13] (UInt8.ofNat n.val) = 4 ∧ shortE n.val = 110) ∨ (n.val = 12 ∧ Lib.indexByte [34, 92, 8, 9, 10, 12, 13] (UInt8.ofNat n.val) = 5 ∧ shortE n.val = 102) ∨ (n.val = 13 ∧ Lib.indexByte [34, 92, 8, 9, 10, 12, 13] (UInt8.ofNat n.val) = 6 ∧ shortE n.val = 114) := by decide +kernel
  exact this ⟨r, by omega⟩ hs
theorem wr16 {r : Nat} (h : r < 32) : wrap32 ((r : Int) % 16 + 1) = (r : Int) % 16 + 1 := by
  have : ∀ n : Fin 32, wrap32 (((n.val : Nat) : Int) % 16 + 1) = ((n.val : Nat) : Int) % 16 + 1 := by decide +kernel
  exact this ⟨r, h⟩
theorem wr16d {r : Nat} (h : r < 32) : IntKind.i32.wrap ((r : Int) / 16 + 1) = (r : Int) / 16 + 1 := by
  have : ∀ n : Fin 32, IntKind.i32.wrap (((n.val : Nat) : Int) / 16 + 1) = ((n.val : Nat) : Int) / 16 + 1 := by decide +kernel
  exact this ⟨r, h⟩
theorem wr16m {r : Nat} (h : r < 32) : IntKind.i32.wrap ((r : Int) % 16 + 1) = (r : Int) % 16 + 1 := by
  have : ∀ n : Fin 32, IntKind.i32.wrap (((n.val : Nat) : Int) % 16 + 1) = ((n.val : Nat) : Int) % 16 + 1 := by decide +kernel
  exact this ⟨r, h⟩
theorem strCells_byteCells (l : List UInt8) : Lib.strCells ⟨l.toArray⟩ = Lib.byteCells l := by simp [Lib.strCells, Lib.byteCells]
theorem min255 {r : Nat} (h : r < 32) : min (r : Int) 255 % 256 = (r : Int) := by omega
theorem min255' {r : Nat} (h : r < 32) : (min (r : Int) 255).toNat = r := by omega
theorem hex_ext (k : Nat) (h : k < 16) : (⟨#[48, 49, 50, 51, 52, 53, 54, 55, 56, 57, 97, 98, 99, 100, 101, 102]⟩ : ByteArray).extract k (k + 1) = ⟨#[hexD k]⟩ := by
  have : ∀ n : Fin 16, (⟨#[48, 49, 50, 51, 52, 53, 54, 55, 56, 57, 97, 98, 99, 100, 101, 102]⟩ : ByteArray).extract n.val (n.val + 1) = ⟨#[hexD n.val]⟩ := by decide +kernel
  exact this ⟨k, h⟩
set_option maxHeartbeats 1000000 in
theorem escape_bad (l : List UInt8) (hl : l.length ≤ 1099511627776) (hb : utfOk l = false) (w : World) :
    Calls Tryd.prog 31 #[.string ⟨l.toArray⟩] w fun e w' => e = .returned (.string ⟨(escT l).toArray⟩) ∧ Chg Pure' w w' := by
  have hcv := fun W => Lib.run_convert_string_bytes (P := Tryd.prog) W 9 23 5 ⟨l.toArray⟩ Tryd.underlying9 Tryd.underlying23 Tryd.underlying5
  have hu := utfStr_of l (by omega)
  rw [hb] at hu
  simp only [faultOf] at hu
  rw [show escT l = [] by unfold escT; rw [hb]; rfl]
  go_enter Tryd.func31, Tryd.ntmps31
  go_wp2_with (go_at_call 35; refine (hu _ _ _ _ (by simp) (by simp [ByteArray.size]) rfl).mono ?_)
  rintro e w1 a rfl z1
  go_wp2
  go_ret
  exact ⟨rfl, z1⟩
set_option maxHeartbeats 1000000 in
theorem escape_ok (l : List UInt8) (hl : l.length ≤ 1099511627776) (hb : utfOk l = true) (w : World) :
    Calls Tryd.prog 31 #[.string ⟨l.toArray⟩] w fun e w' => e = .returned (.string ⟨(escT l).toArray⟩) ∧ Chg Pure' w w' := by
  have hsz : (⟨l.toArray⟩ : ByteArray).size = l.length := by simp [ByteArray.size]
  have hcv := fun W => Lib.run_convert_string_bytes (P := Tryd.prog) W 9 23 5 ⟨l.toArray⟩ Tryd.underlying9 Tryd.underlying23 Tryd.underlying5
  have hu := utfStr_of l (by omega)
  rw [hb] at hu
  simp only [faultOf] at hu
  rw [show escT l = 34 :: (escR l.length l ++ [34]) by unfold escT; rw [hb]; rfl]
  obtain ⟨R, hR⟩ : ∃ R, escR l.length l = R := ⟨_, rfl⟩
  rw [hR]
  replace hR := Lib.hid hR
  go_enter Tryd.func31, Tryd.ntmps31
  go_wp2_with (go_at_call 35; refine (hu _ _ _ _ (by simp) (by simp [ByteArray.size]) rfl).mono ?_)
  rintro e w1 rfl z1
  have hI0 := Lib.IsBuilderF.of (Lib.fresh_isBuilder 70 5 w1)
  go_wp2_with (go_at_call 43; refine (Tryd.Builder_WriteByte_k w1.heap.size w1.heap.size _ 34 _ hI0 (by simp) (by simp)).mono ?_)
  rintro e w2 ⟨rfl, h1, b1, k1⟩
  have hb2 := b1.size
  have hgt : w1.heap.size < w2.heap.size := by
    obtain ⟨_, v, hv, _⟩ := h1
    exact (Array.getElem?_eq_some_iff.1 hv).1
  have hb12 := Lib.hid b1
  go_wp2
  go_loopw [] (fun wr => ∃ (pos fuel : Nat) (acc : List UInt8), Lib.IsBuilderF 70 5 w1.heap.size w1.heap.size (Lib.byteCells acc) wr ∧ wr.heap[w2.heap.size]? = some (.stringIter ⟨l.toArray⟩ pos) ∧ Below w1.heap.size w1 wr ∧ Hid (acc ++ escR fuel (l.drop pos) = 34 :: R) ∧ l.length ≤ pos + fuel ∧ pos ≤ l.length ∧ acc.length ≤ 6 * pos + 1) (fun wr => l.length - wr.iterPos w2.heap.size)
  case atStart =>
    refine ⟨0, l.length, [34], ?_, ?_, ?_, Lib.hid (by rw [List.drop_zero, hR.out]; rfl), by omega, by omega, by simp⟩
    · exact Lib.IsBuilderF.alloc (Or.inr h1) _
    · have := World.iter_heap w2 ⟨l.toArray⟩ 0
      simpa using this
    · exact ((((Below.refl _ w1).alloc (Nat.le_refl _) _).trans b1).alloc (by omega) _)
  case round =>
    obtain ⟨pos, fuel, acc, hI, hit, hbw, hacc, hfu, hpl, hal⟩ := hrel
    by_cases hp : pos < l.length
    · obtain ⟨c0, hc0⟩ : ∃ x, l[pos]'hp = x := ⟨_, rfl⟩
      have hd : l.drop pos = c0 :: l.drop (pos + 1) := by rw [List.drop_eq_getElem_cons hp, hc0]
      have hnx : ∀ ty, (Instr.next (.pointer (some ⟨w2.heap.size, 0, none⟩)) true ty).run Tryd.prog wr = _ := fun ty => Lib.run_next_any_at wr w2.heap.size ⟨l.toArray⟩ pos ty hit (by rw [hsz]; exact hp)
      have hde : Utf8.decode ⟨l.toArray⟩ pos = decL (c0 :: l.drop (pos + 1)) := by rw [decode_drop, hd]
      have hw := decL_width c0 (l.drop (pos + 1))
      have hF2 := hacc.out
      obtain ⟨f, rfl⟩ : ∃ f, fuel = f + 1 := ⟨fuel - 1, by omega⟩
      rw [hd] at hF2
      simp only [escR] at hF2
      rw [← hd] at hF2 hw hde
      generalize hD : decL (l.drop pos) = D at *
      obtain ⟨r, wd⟩ := D
      rw [List.drop_drop] at hF2
      simp only [hde] at hnx
      obtain ⟨hw1, hw2, hw3⟩ := hw
      simp only at hw1 hw2 hw3 hF2
      rw [List.length_drop] at hw2
      have hit2 := Lib.iterAt_heap wr w2.heap.size ⟨l.toArray⟩ pos (pos + wd) hit
      have hI2 := hI.iterAt hit (pos + wd)
      have hbw2 := Lib.below_iterAt hbw (k := w2.heap.size) (by omega) ⟨l.toArray⟩ (pos + wd)
      obtain ⟨W, hW⟩ : ∃ W, wr.iterAt w2.heap.size ⟨l.toArray⟩ (pos + wd) = W := ⟨_, rfl⟩
      rw [hW] at hit2 hI2 hbw2 hnx
      clear hacc hD hde hd
      have hWs := (Array.getElem?_eq_some_iff.1 hit2).1
      by_cases h128 : 128 ≤ r
      · have h128' : (128 : Int) ≤ r := by omega
        have he : esc1 r = Lib.encodeRune r := by unfold esc1; rw [shortE_low h128, if_neg (by simp), if_neg (by omega)]
        go_wp2_with (first
          | (go_at_call 44; refine (Tryd.strings_IndexByte _ _ _).mono ?_; rintro e w3 ⟨rfl, rfl⟩)
          | (go_at_call 46; refine (Tryd.Builder_WriteRune_k w1.heap.size w1.heap.size _ r (by omega) (by omega) _ hI2 (by rw [Lib.byteCells_length]; omega) (by omega)).mono ?_))
        first | rintro e w4 rfl h4 b4 k4 | rintro e w4 ⟨rfl, h4, b4, k4⟩
        have hit4 := k4.iter hit2 (by omega)
        have hl4 := Lib.runeCells_le (r : Int)
        rw [Lib.runeCells_length] at hl4
        go_wp2
        go_roundw
        case rel =>
          refine ⟨pos + wd, f, acc ++ Lib.encodeRune r, ?_, hit4, hbw2.trans b4, Lib.hid (by rw [← hF2, he, List.append_assoc]), by omega, by omega, by simp; omega⟩
          rw [Lib.byteCells_append, Lib.byteCells_encodeRune]; exact Or.inr h4
        case measure => simp only [World.iterPos, hit4, hit]; omega
      · have h128' : (r : Int) < 128 := by omega
        by_cases hsh : shortE r = 0
        · have hix : Lib.indexByte [34, 92, 8, 9, 10, 12, 13] (UInt8.ofNat (min (r : Int) 255).toNat) < 0 := by
            have h := (esc_index r (by omega)).1
            rw [show (min (r : Int) 255).toNat = r by omega]
            have h2 : ¬ (0 ≤ Lib.indexByte escFrom (UInt8.ofNat r)) := fun e => h.2 e hsh
            exact Int.not_le.1 h2
          obtain ⟨ix, hi⟩ : ∃ ix, Lib.indexByte [34, 92, 8, 9, 10, 12, 13] (UInt8.ofNat (min (r : Int) 255).toNat) = ix := ⟨_, rfl⟩
          rw [hi] at hix
          by_cases h32 : 32 ≤ r
          · have h32' : (32 : Int) ≤ r := by omega
            have he : esc1 r = Lib.encodeRune r := by unfold esc1; rw [hsh, if_neg (by simp), if_neg (by omega)]
            go_wp2_with (first
              | (go_at_call 44; refine (Tryd.strings_IndexByte _ _ _).mono ?_; rintro e w3 ⟨rfl, rfl⟩)
              | (go_at_call 46; refine (Tryd.Builder_WriteRune_k w1.heap.size w1.heap.size _ r (by omega) (by omega) _ hI2 (by rw [Lib.byteCells_length]; omega) (by omega)).mono ?_))
            first | rintro e w4 rfl h4 b4 k4 | rintro e w4 ⟨rfl, h4, b4, k4⟩
            have hit4 := k4.iter hit2 (by omega)
            have hl4 := Lib.runeCells_le (r : Int)
            rw [Lib.runeCells_length] at hl4
            go_wp2
            go_roundw
            case rel =>
              refine ⟨pos + wd, f, acc ++ Lib.encodeRune r, ?_, hit4, hbw2.trans b4, Lib.hid (by rw [← hF2, he, List.append_assoc]), by omega, by omega, by simp; omega⟩
              rw [Lib.byteCells_append, Lib.byteCells_encodeRune]; exact Or.inr h4
            case measure => simp only [World.iterPos, hit4, hit]; omega
          · have h32' : (r : Int) < 32 := by omega
            have hlt32 : r < 32 := Nat.lt_of_not_le h32
            have hmm := min255 hlt32
            have hi3 : Lib.indexByte [34, 92, 8, 9, 10, 12, 13] (UInt8.ofNat r) = ix := by rw [← hi, min255' hlt32]
            go_wp2_with (first
              | (go_at_call 44; refine (Tryd.strings_IndexByte _ _ _).mono ?_; rintro e w3 ⟨rfl, rfl⟩))
            have g1 : (0 : Int) ≤ (r : Int) / 16 := by omega
            have g2 : (r : Int) / 16 + 1 ≤ 16 := by omega
            have g3 : (0 : Int) ≤ (r : Int) % 16 := by omega
            have g4 : (r : Int) % 16 + 1 ≤ 16 := by omega
            refine wp_region_still_tail 14 (by kernel_rfl) (by kernel_rfl) ?_
            simp only [List.take_succ_cons, List.take_zero, List.drop_succ_cons, List.drop_zero]
            change wpStill _ _ w3.drew _ _ _
            still_step
            still_step
            still_step
            still_step
            still_step
            rw [wr16d hlt32]
            refine wpStill_step (fun K hK => ?_)
            go_simp
            rw [if_pos (by omega), if_pos (by omega), show ((r : Int) / 16).toNat = r / 16 by omega, show ((r : Int) / 16 + 1).toNat = r / 16 + 1 by omega, hex_ext (r / 16) (by omega)]
            go_simp
            refine hK _ ?_
            clear hK K
            still_step
            still_step
            refine wpStill_step (fun K hK => ?_)
            go_simp
            rw [and15 r hlt32]
            refine hK _ ?_
            clear hK K
            still_step
            refine wpStill_step (fun K hK => ?_)
            go_simp
            rw [and15 r hlt32]
            refine hK _ ?_
            clear hK K
            still_step
            rw [wr16m hlt32]
            refine wpStill_step (fun K hK => ?_)
            go_simp
            rw [if_pos (by omega), if_pos (by omega), show ((r : Int) % 16).toNat = r % 16 by omega, show ((r : Int) % 16 + 1).toNat = r % 16 + 1 by omega, hex_ext (r % 16) (by omega)]
            go_simp
            refine hK _ ?_
            clear hK K
            still_step
            refine wpStill_nil ?_
            change wpList _ _ _ _ _ w3.drew
            have hbw5 : Below w1.heap.size w1 w3.drew := ⟨hbw2.os, hbw2.tape, hbw2.output, hbw2.size, hbw2.block⟩
            have hI5 : Lib.IsBuilderF 70 5 w1.heap.size w1.heap.size (Lib.byteCells acc) w3.drew := hI2
            have hit5 : w3.drew.heap[w2.heap.size]? = some (Obj.stringIter { data := l.toArray } (pos + wd)) := hit2
            have he : esc1 r = [92, 117, 48, 48, hexD (r / 16), hexD (r % 16)] := by unfold esc1; rw [hsh, if_neg (by simp), if_pos hlt32]
            generalize w3.drew = w5 at *
            generalize hexD (r / 16) = x1 at *
            generalize hexD (r % 16) = x2 at *
            have hW2 := Lib.hid hW
            have hs5 : w1.heap.size ≤ w5.heap.size := hbw5.size
            clear hW hnx hI2 hit2 hbw2 hcv hu hI0 h1 b1 k1 hb12 hI hi hi3 hix hmm
            go_wp2_with (fail)
            have hcat : (({ data := #[92, 117, 48, 48] } : ByteArray) ++ { data := #[x1] } ++ { data := #[x2] }) = ⟨([92, 117, 48, 48, x1, x2] : List UInt8).toArray⟩ := by
              refine (congrArg (· ++ ({ data := #[x2] } : ByteArray)) (cat_str [92, 117, 48, 48] [x1])).trans ?_
              exact cat_str [92, 117, 48, 48, x1] [x2]
            rw [hcat]
            refine (Tryd.Builder_WriteString_k w1.heap.size w1.heap.size _ ⟨([92, 117, 48, 48, x1, x2] : List UInt8).toArray⟩ _ hI5 (by rw [Lib.byteCells_length]; simp [ByteArray.size]; omega) hs5).mono ?_
            first | rintro e w6 rfl h6 b6 k6 | rintro e w6 ⟨rfl, h6, b6, k6⟩
            have hit6 := k6.iter hit5 (by omega)
            rw [strCells_byteCells] at h6
            have hW3 := hW2.out
            clear hcat
            go_wp2
            go_roundw
            case rel =>
              refine ⟨pos + wd, f, acc ++ [92, 117, 48, 48, x1, x2], ?_, hit6, hbw5.trans b6, Lib.hid (by rw [← hF2, he, List.append_assoc]), by omega, by omega, by simp; omega⟩
              rw [Lib.byteCells_append]; exact Or.inr h6
            case measure => simp only [World.iterPos, hit6, hit]; omega
        · have hsel := short_sel r h128' hsh
          have he : esc1 r = [92, shortE r] := by unfold esc1; rw [if_pos hsh]
          clear hsh hw3
          rcases hsel with ⟨-, hix, hv⟩ | ⟨-, hix, hv⟩ | ⟨-, hix, hv⟩ | ⟨-, hix, hv⟩ | ⟨-, hix, hv⟩ | ⟨-, hix, hv⟩ | ⟨-, hix, hv⟩
          all_goals rw [hv] at he
          all_goals clear hv
          · go_wp2_with (first
              | (go_at_call 44; refine (Tryd.strings_IndexByte _ _ _).mono ?_; rintro e w3 ⟨rfl, rfl⟩)
              | (go_at_call 43; refine (Tryd.Builder_WriteByte_k w1.heap.size w1.heap.size _ 92 _ hI2 (by rw [Lib.byteCells_length]; omega) (by omega)).mono ?_))
            rintro e w4 ⟨rfl, h4, b4, k4⟩
            have hit4 := k4.iter hit2 (by omega)
            have hI4 : Lib.IsBuilderF 70 5 w1.heap.size w1.heap.size (Lib.byteCells (acc ++ [92])) w4 := by rw [Lib.byteCells_append]; exact Or.inr h4
            have hs4 := b4.size
            go_wp2_with (go_at_call 43; refine (Tryd.Builder_WriteByte_k w1.heap.size w1.heap.size _ 34 _ hI4 (by rw [Lib.byteCells_length]; simp; omega) (by omega)).mono ?_)
            rintro e w5 ⟨rfl, h5, b5, k5⟩
            have hit5 := k5.iter hit4 (by omega)
            go_wp2
            go_roundw
            case rel =>
              refine ⟨pos + wd, f, acc ++ [92] ++ [34], ?_, hit5, (hbw2.trans b4).trans b5, Lib.hid (by rw [← hF2, he]; simp), by omega, by omega, by simp; omega⟩
              rw [Lib.byteCells_append]; exact Or.inr h5
            case measure => simp only [World.iterPos, hit5, hit]; omega
          · go_wp2_with (first
              | (go_at_call 44; refine (Tryd.strings_IndexByte _ _ _).mono ?_; rintro e w3 ⟨rfl, rfl⟩)
              | (go_at_call 43; refine (Tryd.Builder_WriteByte_k w1.heap.size w1.heap.size _ 92 _ hI2 (by rw [Lib.byteCells_length]; omega) (by omega)).mono ?_))
            rintro e w4 ⟨rfl, h4, b4, k4⟩
            have hit4 := k4.iter hit2 (by omega)
            have hI4 : Lib.IsBuilderF 70 5 w1.heap.size w1.heap.size (Lib.byteCells (acc ++ [92])) w4 := by rw [Lib.byteCells_append]; exact Or.inr h4
            have hs4 := b4.size
            go_wp2_with (go_at_call 43; refine (Tryd.Builder_WriteByte_k w1.heap.size w1.heap.size _ 92 _ hI4 (by rw [Lib.byteCells_length]; simp; omega) (by omega)).mono ?_)
            rintro e w5 ⟨rfl, h5, b5, k5⟩
            have hit5 := k5.iter hit4 (by omega)
            go_wp2
            go_roundw
            case rel =>
              refine ⟨pos + wd, f, acc ++ [92] ++ [92], ?_, hit5, (hbw2.trans b4).trans b5, Lib.hid (by rw [← hF2, he]; simp), by omega, by omega, by simp; omega⟩
              rw [Lib.byteCells_append]; exact Or.inr h5
            case measure => simp only [World.iterPos, hit5, hit]; omega
          · go_wp2_with (first
              | (go_at_call 44; refine (Tryd.strings_IndexByte _ _ _).mono ?_; rintro e w3 ⟨rfl, rfl⟩)
              | (go_at_call 43; refine (Tryd.Builder_WriteByte_k w1.heap.size w1.heap.size _ 92 _ hI2 (by rw [Lib.byteCells_length]; omega) (by omega)).mono ?_))
            rintro e w4 ⟨rfl, h4, b4, k4⟩
            have hit4 := k4.iter hit2 (by omega)
            have hI4 : Lib.IsBuilderF 70 5 w1.heap.size w1.heap.size (Lib.byteCells (acc ++ [92])) w4 := by rw [Lib.byteCells_append]; exact Or.inr h4
            have hs4 := b4.size
            go_wp2_with (go_at_call 43; refine (Tryd.Builder_WriteByte_k w1.heap.size w1.heap.size _ 98 _ hI4 (by rw [Lib.byteCells_length]; simp; omega) (by omega)).mono ?_)
            rintro e w5 ⟨rfl, h5, b5, k5⟩
            have hit5 := k5.iter hit4 (by omega)
            go_wp2
            go_roundw
            case rel =>
              refine ⟨pos + wd, f, acc ++ [92] ++ [98], ?_, hit5, (hbw2.trans b4).trans b5, Lib.hid (by rw [← hF2, he]; simp), by omega, by omega, by simp; omega⟩
              rw [Lib.byteCells_append]; exact Or.inr h5
            case measure => simp only [World.iterPos, hit5, hit]; omega
          · go_wp2_with (first
              | (go_at_call 44; refine (Tryd.strings_IndexByte _ _ _).mono ?_; rintro e w3 ⟨rfl, rfl⟩)
              | (go_at_call 43; refine (Tryd.Builder_WriteByte_k w1.heap.size w1.heap.size _ 92 _ hI2 (by rw [Lib.byteCells_length]; omega) (by omega)).mono ?_))
            rintro e w4 ⟨rfl, h4, b4, k4⟩
            have hit4 := k4.iter hit2 (by omega)
            have hI4 : Lib.IsBuilderF 70 5 w1.heap.size w1.heap.size (Lib.byteCells (acc ++ [92])) w4 := by rw [Lib.byteCells_append]; exact Or.inr h4
            have hs4 := b4.size
            go_wp2_with (go_at_call 43; refine (Tryd.Builder_WriteByte_k w1.heap.size w1.heap.size _ 116 _ hI4 (by rw [Lib.byteCells_length]; simp; omega) (by omega)).mono ?_)
            rintro e w5 ⟨rfl, h5, b5, k5⟩
            have hit5 := k5.iter hit4 (by omega)
            go_wp2
            go_roundw
            case rel =>
              refine ⟨pos + wd, f, acc ++ [92] ++ [116], ?_, hit5, (hbw2.trans b4).trans b5, Lib.hid (by rw [← hF2, he]; simp), by omega, by omega, by simp; omega⟩
              rw [Lib.byteCells_append]; exact Or.inr h5
            case measure => simp only [World.iterPos, hit5, hit]; omega
          · go_wp2_with (first
              | (go_at_call 44; refine (Tryd.strings_IndexByte _ _ _).mono ?_; rintro e w3 ⟨rfl, rfl⟩)
              | (go_at_call 43; refine (Tryd.Builder_WriteByte_k w1.heap.size w1.heap.size _ 92 _ hI2 (by rw [Lib.byteCells_length]; omega) (by omega)).mono ?_))
            rintro e w4 ⟨rfl, h4, b4, k4⟩
            have hit4 := k4.iter hit2 (by omega)
            have hI4 : Lib.IsBuilderF 70 5 w1.heap.size w1.heap.size (Lib.byteCells (acc ++ [92])) w4 := by rw [Lib.byteCells_append]; exact Or.inr h4
            have hs4 := b4.size
            go_wp2_with (go_at_call 43; refine (Tryd.Builder_WriteByte_k w1.heap.size w1.heap.size _ 110 _ hI4 (by rw [Lib.byteCells_length]; simp; omega) (by omega)).mono ?_)
            rintro e w5 ⟨rfl, h5, b5, k5⟩
            have hit5 := k5.iter hit4 (by omega)
            go_wp2
            go_roundw
            case rel =>
              refine ⟨pos + wd, f, acc ++ [92] ++ [110], ?_, hit5, (hbw2.trans b4).trans b5, Lib.hid (by rw [← hF2, he]; simp), by omega, by omega, by simp; omega⟩
              rw [Lib.byteCells_append]; exact Or.inr h5
            case measure => simp only [World.iterPos, hit5, hit]; omega
          · go_wp2_with (first
              | (go_at_call 44; refine (Tryd.strings_IndexByte _ _ _).mono ?_; rintro e w3 ⟨rfl, rfl⟩)
              | (go_at_call 43; refine (Tryd.Builder_WriteByte_k w1.heap.size w1.heap.size _ 92 _ hI2 (by rw [Lib.byteCells_length]; omega) (by omega)).mono ?_))
            rintro e w4 ⟨rfl, h4, b4, k4⟩
            have hit4 := k4.iter hit2 (by omega)
            have hI4 : Lib.IsBuilderF 70 5 w1.heap.size w1.heap.size (Lib.byteCells (acc ++ [92])) w4 := by rw [Lib.byteCells_append]; exact Or.inr h4
            have hs4 := b4.size
            go_wp2_with (go_at_call 43; refine (Tryd.Builder_WriteByte_k w1.heap.size w1.heap.size _ 102 _ hI4 (by rw [Lib.byteCells_length]; simp; omega) (by omega)).mono ?_)
            rintro e w5 ⟨rfl, h5, b5, k5⟩
            have hit5 := k5.iter hit4 (by omega)
            go_wp2
            go_roundw
            case rel =>
              refine ⟨pos + wd, f, acc ++ [92] ++ [102], ?_, hit5, (hbw2.trans b4).trans b5, Lib.hid (by rw [← hF2, he]; simp), by omega, by omega, by simp; omega⟩
              rw [Lib.byteCells_append]; exact Or.inr h5
            case measure => simp only [World.iterPos, hit5, hit]; omega
          · go_wp2_with (first
              | (go_at_call 44; refine (Tryd.strings_IndexByte _ _ _).mono ?_; rintro e w3 ⟨rfl, rfl⟩)
              | (go_at_call 43; refine (Tryd.Builder_WriteByte_k w1.heap.size w1.heap.size _ 92 _ hI2 (by rw [Lib.byteCells_length]; omega) (by omega)).mono ?_))
            rintro e w4 ⟨rfl, h4, b4, k4⟩
            have hit4 := k4.iter hit2 (by omega)
            have hI4 : Lib.IsBuilderF 70 5 w1.heap.size w1.heap.size (Lib.byteCells (acc ++ [92])) w4 := by rw [Lib.byteCells_append]; exact Or.inr h4
            have hs4 := b4.size
            go_wp2_with (go_at_call 43; refine (Tryd.Builder_WriteByte_k w1.heap.size w1.heap.size _ 114 _ hI4 (by rw [Lib.byteCells_length]; simp; omega) (by omega)).mono ?_)
            rintro e w5 ⟨rfl, h5, b5, k5⟩
            have hit5 := k5.iter hit4 (by omega)
            go_wp2
            go_roundw
            case rel =>
              refine ⟨pos + wd, f, acc ++ [92] ++ [114], ?_, hit5, (hbw2.trans b4).trans b5, Lib.hid (by rw [← hF2, he]; simp), by omega, by omega, by simp; omega⟩
              rw [Lib.byteCells_append]; exact Or.inr h5
            case measure => simp only [World.iterPos, hit5, hit]; omega
    · have hnx : ∀ ty, (Instr.next (.pointer (some ⟨w2.heap.size, 0, none⟩)) true ty).run Tryd.prog wr = _ := fun ty => Lib.run_next_end_at wr w2.heap.size ⟨l.toArray⟩ pos ty hit (by rw [hsz]; exact hp)
      have hsr := (Array.getElem?_eq_some_iff.1 hit).1
      go_wp2_with (go_at_call 43; refine (Tryd.Builder_WriteByte_k w1.heap.size w1.heap.size _ 34 _ hI (by rw [Lib.byteCells_length]; omega) (by omega)).mono ?_)
      rintro e w3 ⟨rfl, h3, b3, k3⟩
      have hI3 : Lib.IsBuilderF 70 5 w1.heap.size w1.heap.size (Lib.byteCells (acc ++ [34])) w3 := by rw [Lib.byteCells_append]; exact Or.inr h3
      have hs3 := b3.size
      go_wp2_with (go_at_call 47; refine (Tryd.Builder_String_any_k w1.heap.size w1.heap.size (acc ++ [34]) _ hI3 (by omega)).mono ?_)
      rintro e w4 ⟨rfl, h4, b4, k4⟩
      have hacc2 : acc = 34 :: R := by
        have := hacc.out
        rw [List.drop_eq_nil_of_le (by omega)] at this
        rw [← this]
        cases fuel <;> simp [escR]
      go_wp2
      go_ret
      refine ⟨rfl, z1.trans' (Below.chg ((hbw.trans b3).trans b4))⟩
end Go.Proofs.YtafpkecjicphoaaDoor
