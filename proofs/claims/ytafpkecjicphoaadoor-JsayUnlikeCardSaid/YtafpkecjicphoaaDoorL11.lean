/- Chapter 11: alive; JsayTight. -/
import Derived.Test.YtafpkecjicphoaaDoorJsayG
import Derived.Test.YtafpkecjicphoaaDoorSame
namespace Go.Proofs.YtafpkecjicphoaaDoor
open Go Go.RowKit
set_option linter.unusedVariables false
set_option linter.unusedSimpArgs false
set_option maxRecDepth 100000

def al1 : Tn := .mk 2 0 true [55] 0 [] [] [] []
def al2 : Tn := .mk 3 0 false [50, 53] (-1) [] [] [] []
def al3 : Tn := .mk 5 0 false [] 0 [97, 34] [] [] []
def alT : Tn := .mk 7 0 false [] 0 [] [] [] [al1, al2, al3]
theorem alT_print : printA alT = ([91, 45, 55, 44, 50, 53, 101, 45, 49, 44, 34, 97, 92, 34, 34, 93], 0) := by decide +kernel
theorem alT_can : canA alT = true := by decide +kernel
def leafCells (t : Tn) : Array Value := nodeCells t none 0 none 0 none 0
theorem leaf_at (w : World) (t : Tn) (h1 : t.bytes = [] ∧ t.keys = [] ∧ t.kids = []) (hk : -9223372036854775808 ≤ t.kind ∧ t.kind ≤ 9223372036854775807) (hx : -9223372036854775808 ≤ t.exp ∧ t.exp ≤ 9223372036854775807) (hd : t.dig.length ≤ 140737488351232) (ht : t.text.length ≤ 140737488351232) : NodeAt w (leafCells t) t := by
  obtain ⟨a, b, c⟩ := h1
  refine NodeAt.mk ⟨hk, hx, hd, ht, ?_, by rw [a]; simp, by rw [a]; simp, by rw [b]; simp, by rw [b]; simp, by rw [c]; simp, by rw [c]; simp⟩ (by rw [b, ElemsAt]; trivial) (by rw [c, ElemsAt]; trivial)
  rw [a]
  exact Bytes.nil _ _
def alRow : Array Value := #[.int .i64 2, .int .u64 0, .bool true, .string ⟨#[55]⟩, .int .i64 0, .string ⟨#[]⟩, .slice none 0 0, .slice none 0 0, .slice none 0 0,
  .int .i64 3, .int .u64 0, .bool false, .string ⟨#[50, 53]⟩, .int .i64 (-1), .string ⟨#[]⟩, .slice none 0 0, .slice none 0 0, .slice none 0 0,
  .int .i64 5, .int .u64 0, .bool false, .string ⟨#[]⟩, .int .i64 0, .string ⟨#[97, 34]⟩, .slice none 0 0, .slice none 0 0, .slice none 0 0]
theorem al_at {w : World} {b : Nat} (h : w.heap[b]? = some (.cells alRow 26 (0, 0))) : NodeAt w (nodeCells alT none 0 none 0 (some ⟨b, 0, none⟩) 3) alT := by
  have row : ∀ (j : Nat) (t : Tn), j < 3 → (∀ i, i < 9 → alRow[j * 9 + i]? = (leafCells t)[i]?) → ∀ i u, (leafCells t)[i]? = some u → w.cell? ⟨b, 0 + j * 9 + i, none⟩ = some u := by
    intro j t hj hr i u hu
    have hi : i < 9 := (Array.getElem?_eq_some_iff.1 hu).1
    rw [cell_of_row _ b (0 + j * 9 + i) _ _ (0, 0) h, Nat.zero_add, hr i hi]
    exact hu
  have nine : ∀ {P : Nat → Prop}, P 0 → P 1 → P 2 → P 3 → P 4 → P 5 → P 6 → P 7 → P 8 → ∀ i, i < 9 → P i := by
    intro P p0 p1 p2 p3 p4 p5 p6 p7 p8 i hi
    rcases i with _ | _ | _ | _ | _ | _ | _ | _ | _ | i
    all_goals first | assumption | omega
  refine NodeAt.mk ⟨by decide, by decide, by decide, by decide, Bytes.nil _ _, by decide, by decide, by decide, by decide, by decide, by decide⟩ (by rw [show alT.keys = [] from rfl, ElemsAt]; trivial) ?_
  rw [show alT.kids = [al1, al2, al3] from rfl, ElemsAt, ElemsAt, ElemsAt, ElemsAt]
  refine ⟨⟨b, 0, leafCells al1, rfl, row 0 al1 (by decide) (nine rfl rfl rfl rfl rfl rfl rfl rfl rfl), leaf_at w al1 ⟨rfl, rfl, rfl⟩ (by decide) (by decide) (by decide) (by decide)⟩,
    ⟨b, 0, leafCells al2, rfl, row 1 al2 (by decide) (nine rfl rfl rfl rfl rfl rfl rfl rfl rfl), leaf_at w al2 ⟨rfl, rfl, rfl⟩ (by decide) (by decide) (by decide) (by decide)⟩,
    ⟨b, 0, leafCells al3, rfl, row 2 al3 (by decide) (nine rfl rfl rfl rfl rfl rfl rfl rfl rfl), leaf_at w al3 ⟨rfl, rfl, rfl⟩ (by decide) (by decide) (by decide) (by decide)⟩, trivial⟩
set_option maxHeartbeats 2000000 in
theorem alive11 (w : World) (he : Env w) : Calls Tryd.prog 6 #[] w fun e w' => e = .returned (.bool true) ∧ Chg Pure' w w' := by
  have ca : Chg Pure' w ((w.alloc (.cells alRow 26)).alloc (.cells (nodeCells alT none 0 none 0 (some ⟨w.heap.size, 0, none⟩) 3) 26)) := ((Chg.refl _ _).alloc _).alloc _
  have hb0 : ((w.alloc (.cells alRow 26)).alloc (.cells (nodeCells alT none 0 none 0 (some ⟨w.heap.size, 0, none⟩) 3) 26)).heap[w.heap.size]? = some (.cells alRow 26 (0, 0)) := (Below.heap_alloc _ _ _ (by simp)).trans (heap_alloc_new w _)
  have hb1 : ((w.alloc (.cells alRow 26)).alloc (.cells (nodeCells alT none 0 none 0 (some ⟨w.heap.size, 0, none⟩) 3) 26)).heap[w.heap.size + 1]? = some (.cells (nodeCells alT none 0 none 0 (some ⟨w.heap.size, 0, none⟩) 3) 26 (0, 0)) := by
    have := heap_alloc_new (w.alloc (.cells alRow 26)) (.cells (nodeCells alT none 0 none 0 (some ⟨w.heap.size, 0, none⟩) 3) 26)
    rwa [show (w.alloc (.cells alRow 26)).heap.size = w.heap.size + 1 by simp] at this
  have hn := al_at hb0
  have HP := Lib.hid (print_of _ alT _ hn (he.pure ca))
  have HC := Lib.hid (fun W hc => can_of _ alT W (hn.pure (w' := W) hc) (he.pure (ca.trans' hc)))
  have CA := Lib.hid ca
  have HB1 := Lib.hid hb1
  rw [alT_can] at HC
  unfold PrintPost at HP
  rw [alT_print] at HP
  clear ca hb0 hb1 hn he
  have zn := zero_node
  go_enter Tryd.func6, Tryd.ntmps6
  go_wp2_with (fail)
  refine HP.out.mono ?_
  rintro e w2 ⟨A, n, c, rfl, hA, hq, hF, z2⟩
  have hb2 := (z2.block (w.heap.size + 1) (by simp) (fun h => h)).trans HB1.out
  obtain ⟨p0, p1, p2, p3, p4, p5, p6, p7, p8⟩ := node_nine hb2
  have hr := hA.run_string (P := Tryd.prog) 23 9 5 Tryd.underlying23 Tryd.underlying5 Tryd.underlying9 c
  have HC2 := Lib.hid (HC.out w2 z2)
  have C2 := Lib.hid (CA.out.trans' z2)
  have hr0 : ∀ x : List UInt8, (⟨x.toArray⟩ : ByteArray) = ⟨x.toArray⟩ := fun _ => rfl
  clear hA hF hq z2 hb2 HP HC CA HB1 hr0
  simp only [alT, Tn.kind, Tn.n, Tn.neg, Tn.dig, Tn.exp, Tn.text, Tn.bytes, Tn.keys, Tn.kids, List.length_cons, List.length_nil] at p0 p1 p2 p3 p4 p5 p6 p7 p8
  go_wp2_with (go_at_call 12; refine HC2.out.mono ?_; rintro e w3 ⟨rfl, z3⟩)
  go_ret
  exact ⟨rfl, C2.out.trans' z3⟩
theorem print_cases (t : Tn) : ((printA t).2 ≠ 0 ∧ (printA t).1 = []) ∨ ((printA t).2 = 0 ∧ scanT false false (printA t).1 = some false ∧ (printA t).1.length ≤ 4096) := by
  unfold printA
  split
  · exact .inl ⟨‹_›, rfl⟩
  · rename_i h0
    split
    · exact .inl ⟨by simp, rfl⟩
    · split
      · exact .inl ⟨by simp, rfl⟩
      · refine .inr ⟨rfl, say_tight (check_zero (by simpa using h0)).2.2.1, by simp only; omega⟩
set_option maxHeartbeats 4000000 in
theorem law_JsayTight (cs : Array Value) (t : Tn) (w : World) (ht : NodeAt w cs t) (he : Env w) :
    Calls Tryd.prog 4 #[.agg cs] w fun e w' => e = .returned (.bool true) ∧ Chg Pure' w w' := by
  have hcs := print_cases t
  obtain ⟨Ab, cb, Ak, ck, Ai, ci, rfl, -⟩ := ht.out
  have ca : Chg Pure' w (w.alloc (.cells (nodeCells t Ab cb Ak ck Ai ci) 26)) := (Chg.refl _ _).alloc _
  have HP := Lib.hid (print_of _ t _ (ht.pure ca) (he.pure ca))
  have HA := Lib.hid (fun W hc => alive11 W (he.pure (w' := W) hc))
  have CA := Lib.hid ca
  unfold PrintPost at HP
  generalize printA t = PA at *
  obtain ⟨X, F⟩ := PA
  clear ca ht he
  simp only at HP hcs
  rcases hcs with ⟨hF, rfl⟩ | ⟨rfl, hsc, hl⟩
  · have hF' : (F == 0) = false := by simpa using hF
    clear hF
    unfold nodeCells at *
    go_enter Tryd.func4, Tryd.ntmps4
    go_wp2_with (fail)
    refine HP.out.mono ?_
    rintro e w2 ⟨A, n, c, rfl, hA, hq, -, z2⟩
    obtain rfl : n = 0 := hA.len.symm
    have C2 := Lib.hid (CA.out.trans' z2)
    have HA2 := Lib.hid (HA.out w2 C2.out)
    clear hA hq z2 HP HA CA
    go_wp2_with (go_at_call 6; refine HA2.out.mono ?_; rintro e w3 ⟨rfl, z3⟩)
    go_ret
    exact ⟨rfl, C2.out.trans' z3⟩
  · have HSC := Lib.hid hsc
    clear hsc
    unfold nodeCells at *
    go_enter Tryd.func4, Tryd.ntmps4
    go_wp2_with (fail)
    refine HP.out.mono ?_
    rintro e w2 ⟨A, n, c, rfl, hA, hq, -, z2⟩
    obtain rfl := hA.len
    have C2 := Lib.hid (CA.out.trans' z2)
    have HA2 := Lib.hid (HA.out w2 C2.out)
    have HB := Lib.hid hA
    have HQ := Lib.hid hq
    have hl' : (X.length : Int) ≤ 4096 := by omega
    clear hA hq z2 HP HA CA
    go_wp2_with (fail)
    go_loop [5, 6] (fun i k => ∃ (ins : Bool) (p : Nat), i = .bool ins ∧ k = .int .i64 p ∧ p ≤ X.length + 1 ∧ Hid (scanT ins false (X.drop p) = some false)) (fun _ k => X.length + 1 - (intOf k).toNat)
    case atStart => exact ⟨false, 0, rfl, rfl, by omega, by rw [List.drop_zero]; exact HSC⟩
    case round =>
      obtain ⟨ins, p, rfl, rfl, hp, hs⟩ := hrel
      by_cases hlt : p < X.length
      · have hlt' : (p : Int) < (X.length : Int) := by omega
        obtain ⟨b, off, rfl, hcell⟩ := HB.out.cells (by omega)
        have hc := hcell p hlt
        have hsd := hs.out
        rw [List.drop_eq_getElem_cons hlt] at hsd
        generalize X[p] = x at *
        have HS := Lib.hid hsd
        clear hs hsd hcell
        cases ins
        · by_cases h34 : (x.toNat : Int) = 34
          · have h34' : x.toNat = 34 := by omega
            have hs := HS.out
            rw [scanT, if_neg (by simp), if_pos h34'] at hs
            have HS2 := Lib.hid hs
            clear hs h34'
            go_wp2
            go_round
            case rel => exact ⟨true, p + 1, rfl, by go_num, by omega, HS2⟩
            case measure => simp [intOf]; omega
          · have h34' : ¬ x.toNat = 34 := by omega
            have hs := HS.out
            rw [scanT, if_neg (by simp), if_neg h34'] at hs
            by_cases hg : x.toNat ≤ 32 ∨ 126 < x.toNat
            · rw [if_pos ⟨rfl, hg⟩] at hs
              cases hs
            · rw [if_neg (fun e => hg e.2)] at hs
              have g1 : ¬ (x.toNat : Int) ≤ 32 := by omega
              have g2 : ¬ (126 : Int) < (x.toNat : Int) := by omega
              have HS2 := Lib.hid hs
              clear hs h34' hg
              go_wp2
              go_round
              case rel => exact ⟨false, p + 1, rfl, by go_num, by omega, HS2⟩
              case measure => simp [intOf]; omega
        · by_cases h92 : (x.toNat : Int) = 92
          · have h92' : x.toNat = 92 := by omega
            have hs := HS.out
            rw [scanT, if_pos ⟨rfl, h92'⟩] at hs
            have hs2 : scanT true false (X.drop (p + 2)) = some false ∧ p + 2 ≤ X.length := by
              rcases Nat.lt_or_ge (p + 1) X.length with h | h
              · rw [List.drop_eq_getElem_cons h, scanT] at hs
                exact ⟨hs, by omega⟩
              · rw [List.drop_eq_nil_of_le h, scanT] at hs
                cases hs
            obtain ⟨hs2, hp2⟩ := hs2
            have HS2 := Lib.hid hs2
            clear hs hs2 h92'
            go_wp2
            go_round
            case rel => exact ⟨true, p + 2, rfl, by go_num, by omega, HS2⟩
            case measure => simp [intOf]; omega
          · by_cases h34 : (x.toNat : Int) = 34
            · have h34' : x.toNat = 34 := by omega
              have hs := HS.out
              rw [scanT, if_neg (by omega), if_pos h34'] at hs
              have HS2 := Lib.hid hs
              clear hs h34'
              go_wp2
              go_round
              case rel => exact ⟨false, p + 1, rfl, by go_num, by omega, HS2⟩
              case measure => simp [intOf]; omega
            · have h34' : ¬ x.toNat = 34 := by omega
              have hs := HS.out
              rw [scanT, if_neg (by omega), if_neg h34', if_neg (by simp)] at hs
              have HS2 := Lib.hid hs
              clear hs h34'
              go_wp2
              go_round
              case rel => exact ⟨true, p + 1, rfl, by go_num, by omega, HS2⟩
              case measure => simp [intOf]; omega
      · have hge : (X.length : Int) ≤ p := by omega
        have hsd := hs.out
        rw [List.drop_eq_nil_of_le (by omega), scanT] at hsd
        obtain rfl : ins = false := by simpa using hsd
        clear hs hsd
        go_wp2_with (go_at_call 6; refine HA2.out.mono ?_; rintro e w3 ⟨rfl, z3⟩)
        go_ret
        exact ⟨rfl, C2.out.trans' z3⟩
end Go.Proofs.YtafpkecjicphoaaDoor
