/- utf.Check: a range over a string, by the model's own decoding. -/
import Derived.Test.YtafpkecjicphoaaDoorUtfA
import Derived.Lib.OthersKept
namespace Go.Proofs.YtafpkecjicphoaaDoor
open Go Go.RowKit
set_option linter.unusedVariables false
set_option linter.unusedSimpArgs false
set_option maxRecDepth 100000

theorem Chg.iterAt {w w' : World} (h : Chg Pure' w w') {k : Nat} (hk : w.heap.size ≤ k) (s : ByteArray) (pos : Nat) : Chg Pure' w (w'.iterAt k s pos) :=
  h.trans (T := fun j => j = k) ⟨rfl, rfl, rfl, by rw [Lib.iterAt_size]; exact Nat.le_refl _, fun i _ hn => Lib.iterAt_other w' k i s pos hn⟩ (fun i hi e => by subst e; omega)
def faultOf (ok : Bool) (at_ : Int) : Value := .agg #[.int .i64 (if ok then 0 else 6), .int .i64 (if ok then 0 else at_)]

set_option maxHeartbeats 800000 in
theorem utfCheck_of (A : Option Addr) (n c : Nat) (l : List UInt8) (w : World) (hA : Bytes w A n l) (hn : n ≤ 4611686018427387904) (hnc : n ≤ c) :
    Calls Tryd.prog 35 #[.slice A n c] w fun e w' => ∃ at_, e = .returned (faultOf (utfOk l) at_) ∧ Chg Pure' w w' := by
  have hlen := hA.len
  have hsz : (⟨l.toArray⟩ : ByteArray).size = n := by simpa [ByteArray.size] using hlen
  have hs1 := (hA.pure ((Chg.refl Pure' w).alloc (.cells #[.int .i64 0, .int .i64 0] 59))).run_string (P := Tryd.prog) 23 9 5 Tryd.underlying23 Tryd.underlying5 Tryd.underlying9 c
  obtain ⟨B, hB⟩ : ∃ B, utfOk l = B := ⟨_, rfl⟩
  rw [hB]
  replace hB : Hid (utfR l.length l = B) := hB
  go_enter Tryd.func35, Tryd.ntmps35
  go_wp2
  go_loopw [] (fun wr => ∃ (pos fuel : Nat), wr.heap[w.heap.size + 1]? = some (.stringIter ⟨l.toArray⟩ pos) ∧ wr.heap[w.heap.size]? = some (.cells #[.int .i64 0, .int .i64 0] 59 (0, 0)) ∧ Chg Pure' w wr ∧ Hid (utfR fuel (l.drop pos) = B) ∧ n ≤ pos + fuel) (fun wr => n - wr.iterPos (w.heap.size + 1))
  case atStart =>
    refine ⟨0, l.length, ?_, ?_, ((Chg.refl Pure' w).alloc _).alloc _, hB, by omega⟩
    · have := World.iter_heap (w.alloc (.cells #[.int .i64 0, .int .i64 0] 59)) ⟨l.toArray⟩ 0
      simpa using this
    · rw [show ∀ (x : World) s p, (x.iter s p).heap = x.heap.push (.stringIter s p) from fun _ _ _ => rfl, Array.getElem?_push_lt (by simp only [World.alloc, Array.size_push]; omega)]
      simp only [World.alloc, Array.getElem_push_eq]
  case round =>
    obtain ⟨pos, fuel, hit, hres, hch, hF, hfu⟩ := hrel
    have hszr : w.heap.size + 1 < wr.heap.size := (Array.getElem?_eq_some_iff.1 hit).1
    have r0 : wr.cell? ⟨w.heap.size, 0, none⟩ = some (.int .i64 0) := by simp [World.cell?, hres]
    have r1 : wr.cell? ⟨w.heap.size, 1, none⟩ = some (.int .i64 0) := by simp [World.cell?, hres]
    have rf0 : wr.frozen? ⟨w.heap.size, 0, none⟩ = false := free_of hres
    have rf1 : wr.frozen? ⟨w.heap.size, 1, none⟩ = false := free_of hres
    by_cases hp : pos < n
    · have hpl : pos < l.length := by omega
      obtain ⟨c0, hc0⟩ : ∃ x, l[pos]'hpl = x := ⟨_, rfl⟩
      have hd : l.drop pos = c0 :: l.drop (pos + 1) := by rw [List.drop_eq_getElem_cons hpl, hc0]
      have hnx : ∀ ty, (Instr.next (.pointer (some ⟨w.heap.size + 1, 0, none⟩)) true ty).run Tryd.prog wr = _ := fun ty => Lib.run_next_any_at wr (w.heap.size + 1) ⟨l.toArray⟩ pos ty hit (by rw [hsz]; exact hp)
      have hde : Utf8.decode ⟨l.toArray⟩ pos = decL (c0 :: l.drop (pos + 1)) := by rw [decode_drop, hd]
      have hw := decL_width c0 (l.drop (pos + 1))
      have h1 := one_is c0 (l.drop (pos + 1))
      have hF2 := hF.out
      obtain ⟨f, rfl⟩ : ∃ f, fuel = f + 1 := ⟨fuel - 1, by omega⟩
      rw [hd] at hF2
      simp only [utfR] at hF2
      rw [← hd] at hF2 h1
      rw [← hd] at hw hde
      generalize hD : decL (l.drop pos) = D at *
      obtain ⟨r, wd⟩ := D
      rw [List.drop_drop] at hF2
      simp only [hde] at hnx
      obtain ⟨hw1, hw2, hw3⟩ := hw
      simp only at hw1 hw2 hw3
      rw [List.length_drop] at hw2
      have hit2 := Lib.iterAt_heap wr (w.heap.size + 1) ⟨l.toArray⟩ pos (pos + wd) hit
      have hres2 : (wr.iterAt (w.heap.size + 1) ⟨l.toArray⟩ (pos + wd)).heap[w.heap.size]? = _ := (Lib.iterAt_other wr (w.heap.size + 1) w.heap.size ⟨l.toArray⟩ (pos + wd) (by omega)).trans hres
      have hch2 := hch.iterAt (k := w.heap.size + 1) (by omega) ⟨l.toArray⟩ (pos + wd)
      obtain ⟨W, hW⟩ : ∃ W, wr.iterAt (w.heap.size + 1) ⟨l.toArray⟩ (pos + wd) = W := ⟨_, rfl⟩
      rw [hW] at hit2 hres2 hch2 hnx
      by_cases hr : r = 65533
      · have hr' : ((r : Int) == 65533) = true := by simp [hr]
        obtain ⟨b, off, rfl, -⟩ := hA.cells (by omega)
        have hpart := (hA.pure hch2).part pos n (by omega) (by omega)
        rw [List.take_of_length_le (by omega)] at hpart
        obtain ⟨wrg, hwr0, hone⟩ := h1
        have hone2 : ∀ q, Calls Tryd.prog 48 #[.slice (some ⟨b, off + pos, none⟩) (n - pos) q] W fun e w' => e = .returned (.tuple #[.int .i32 (oneP (l.drop pos)).1, .int .i64 (oneP (l.drop pos)).2.1, .int .i64 (oneP (l.drop pos)).2.2]) ∧ Chg Pure' W w' :=
          fun q => one_of b (off + pos) (n - pos) q (l.drop pos) W hpart (by omega) (by omega)
        rw [hone] at hone2
        by_cases hwd : wd = 1
        · subst hwd
          rw [if_pos (by rw [hr])] at hF2
          subst hF2
          rw [if_pos (by rw [hr])] at hone2
          clear hr hF hone
          have q1 : ¬ c - pos = 0 := by omega
          have q2 : pos < c := by omega
          have q3 : pos ≤ n := by omega
          have hW1 : w.heap.size < W.heap.size := by have := (Array.getElem?_eq_some_iff.1 hit2).1; omega
          have hB1 := hch2.size
          go_wp2_with (go_at_call 48; refine (hone2 _).mono ?_)
          rintro e w1 rfl z1
          have hres3 : w1.heap[w.heap.size]? = some (.cells #[.int .i64 0, .int .i64 0] 59 (0, 0)) := (z1.block w.heap.size hW1 (fun h => h)).trans hres2
          have s0 : w1.cell? ⟨w.heap.size, 0, none⟩ = some (.int .i64 0) := by simp [World.cell?, hres3]
          have s1 : w1.cell? ⟨w.heap.size, 1, none⟩ = some (.int .i64 0) := by simp [World.cell?, hres3]
          have sf0 : w1.frozen? ⟨w.heap.size, 0, none⟩ = false := free_of hres3
          have sf1 : w1.frozen? ⟨w.heap.size, 1, none⟩ = false := free_of hres3
          go_wp2
          refine bodyPost_ret (v := .agg #[.int .i64 6, .int .i64 (wrap64 ((pos : Int) + wrg))]) ?_ rfl ⟨wrap64 ((pos : Int) + wrg), rfl, ?_⟩
          · unfold results; go_simp
          · exact ((hch2.trans' z1).setCell (.inl (Nat.le_refl _)) _).setCell (.inl (Nat.le_refl _)) _
        · rw [if_neg (by simp [hwd])] at hF2
          rw [if_neg (by simp [hwd])] at hone2
          clear hr hF hone
          have q1 : ¬ c - pos = 0 := by omega
          have q2 : pos < c := by omega
          have q3 : pos ≤ n := by omega
          have hW1 : w.heap.size < W.heap.size := by have := (Array.getElem?_eq_some_iff.1 hit2).1; omega
          have hW2 := (Array.getElem?_eq_some_iff.1 hit2).1
          go_wp2_with (go_at_call 48; refine (hone2 _).mono ?_)
          rintro e w1 rfl z1
          have hres3 : w1.heap[w.heap.size]? = some (.cells #[.int .i64 0, .int .i64 0] 59 (0, 0)) := (z1.block w.heap.size hW1 (fun h => h)).trans hres2
          have s0 : w1.cell? ⟨w.heap.size, 0, none⟩ = some (.int .i64 0) := by simp [World.cell?, hres3]
          have s1 : w1.cell? ⟨w.heap.size, 1, none⟩ = some (.int .i64 0) := by simp [World.cell?, hres3]
          have sf0 : w1.frozen? ⟨w.heap.size, 0, none⟩ = false := free_of hres3
          have sf1 : w1.frozen? ⟨w.heap.size, 1, none⟩ = false := free_of hres3
          go_wp2
          have hit3 : w1.heap[w.heap.size + 1]? = some (.stringIter ⟨l.toArray⟩ (pos + wd)) := (z1.block _ hW2 (fun h => h)).trans hit2
          go_roundw
          case rel => exact ⟨pos + wd, f, hit3, hres3, hch2.trans' z1, hF2, by omega⟩
          case measure => simp only [World.iterPos, hit3, hit]; omega
      · rw [if_neg (by intro e; simp at e; exact hr e.1)] at hF2
        have hr' : ((r : Int) == 65533) = false := by simp; omega
        clear hr hF h1 hD
        go_wp2
        go_roundw
        case rel => exact ⟨pos + wd, f, hit2, hres2, hch2, hF2, by omega⟩
        case measure => simp only [World.iterPos, hit2, hit]; omega
    · have hnx : ∀ ty, (Instr.next (.pointer (some ⟨w.heap.size + 1, 0, none⟩)) true ty).run Tryd.prog wr = _ := fun ty => Lib.run_next_end_at wr (w.heap.size + 1) ⟨l.toArray⟩ pos ty hit (by rw [hsz]; exact hp)
      rw [List.drop_eq_nil_of_le (by omega)] at hF
      have hF2 : B = true := by rw [← hF.out]; cases fuel <;> rfl
      subst hF2
      have hB1 := hch.size
      go_wp2
      refine bodyPost_ret (v := .agg #[.int .i64 0, .int .i64 0]) ?_ rfl ⟨0, rfl, ?_⟩
      · unfold results; go_simp
      · exact (hch.setCell (.inl (Nat.le_refl _)) _).setCell (.inl (Nat.le_refl _)) _
end Go.Proofs.YtafpkecjicphoaaDoor
