/- Package frame: Scan. -/
import Derived.Test.YtemofjaonoofhaaFrameB
import Derived.Test.YtemofjaonoofhaaSame
namespace Go.Proofs.Ytemofjaonoofhaa
open Go Go.RowKit
set_option linter.unusedVariables false
set_option linter.unusedSimpArgs false

theorem infoBs : (Try.prog.info? 22).map (fun i => (i.zero, i.size, i.bytes)) = some (some (.slice none 0 0), 1, 24) := by kernel_rfl
/-- A row of slices, of the call's own from B on, each of which reads as these bytes, and these are of the call's own too. -/
def Loads (w : World) (B : Nat) (v : Value) (ls : List (List UInt8)) : Prop :=
  ∃ us, w.ownsRow B 22 1 v ls.length us ∧ ∀ i (h : i < ls.length), ∃ A c, us[i]? = some (.slice A (ls[i]'h).length c) ∧ (ls[i]'h).length ≤ c ∧ Load w B A (ls[i]'h)
theorem Loads.nil (w : World) (B : Nat) : Loads w B (.slice none 0 0) [] := ⟨[], World.ownsRow_nil _ _ _ _, fun i h => absurd h (by simp)⟩
theorem Load.lt {w : World} {B : Nat} {A : Option Addr} {xs : List UInt8} (h : Load w B A xs) {a : Addr} (ha : A = some a) : a.block < w.heap.size := by
  obtain ⟨-, cs, h2⟩ := h.blk a ha
  exact (Array.getElem?_eq_some_iff.1 h2).1
theorem Load.far {w : World} {B B' : Nat} {e : TypeId} {A : Option Addr} {xs : List UInt8} (h : Load w B A xs) {v : Value} {n : Nat} {us : List Value} (ho : w.ownsRow B' e 1 v n us) (he : e ≠ 5) {a : Addr} (ha : A = some a) : v.ownBlock ≠ some a.block := by
  intro hv
  obtain ⟨-, cs, h2⟩ := h.blk a ha
  rcases ho.2 with ⟨rfl, -⟩ | ⟨g, cap, cur, rfl, -, hg, -⟩
  · cases hv
  · simp only [Value.ownBlock, Option.some.injEq] at hv
    rw [← hv, hg] at h2
    injection h2 with h2
    injection h2 with h3 h4
    exact he h4
theorem Load.low {w : World} {B B' : Nat} {A : Option Addr} {xs : List UInt8} (h : Load w B A xs) (hB : B' ≤ B) : Load w B' A xs :=
  ⟨h.bytes, fun a ha => by obtain ⟨h1, h2⟩ := h.blk a ha; exact ⟨by omega, h2⟩⟩
theorem Loads.low {w : World} {B B' : Nat} {v : Value} {ls : List (List UInt8)} (h : Loads w B v ls) (hB : B' ≤ B) : Loads w B' v ls := by
  obtain ⟨us, h1, h2⟩ := h
  refine ⟨us, h1.low hB, fun i hi => ?_⟩
  obtain ⟨A, c, h3, h4, h5⟩ := h2 i hi
  exact ⟨A, c, h3, h4, h5.low hB⟩
theorem Loads.pure {w w' : World} {B : Nat} {v : Value} {ls : List (List UInt8)} (h : Loads w B v ls) (hc : Chg Pure' w w') : Loads w' B v ls := by
  obtain ⟨us, h1, h2⟩ := h
  refine ⟨us, own_keep h1 hc (fun _ _ h => h), fun i hi => ?_⟩
  obtain ⟨A, c, h3, h4, h5⟩ := h2 i hi
  exact ⟨A, c, h3, h4, h5.frame hc (fun _ _ h => h)⟩
theorem Loads.keep {S : Nat → Prop} {w w' : World} {B : Nat} {v : Value} {ls : List (List UInt8)} (h : Loads w B v ls) (hc : Chg S w w') (hS : ∀ k, B ≤ k → ¬ S k) : Loads w' B v ls := by
  obtain ⟨us, h1, h2⟩ := h
  refine ⟨us, own_keep h1 hc (fun g hg => hS g (h1.lt g hg).1), fun i hi => ?_⟩
  obtain ⟨A, c, h3, h4, h5⟩ := h2 i hi
  exact ⟨A, c, h3, h4, h5.frame hc (fun a ha => hS _ (h5.blk a ha).1)⟩
/-- One load more: append of a row of one. -/
theorem Loads.more {w w1 : World} {B : Nat} {v : Value} {ls : List (List UInt8)} {A : Option Addr} {l : List UInt8} {c : Nat} (h : Loads w B v ls) (hl : Load w B A l) (hc : l.length ≤ c) (hB : B ≤ w.heap.size) (hn : (ls.length + 1) * 24 ≤ 140737488355328) (h1 : w1 = w.alloc (.cells #[.slice A l.length c] 22)) :
    ∃ v' w', (Builtin.append_ #[31, 31] 31 #[v, .slice (some ⟨w.heap.size, 0, none⟩) 1 1]).run Try.prog w1 = .ok v' w' ∧ Loads w' B v' (ls ++ [l]) ∧ Chg (fun k => v.ownBlock = some k) w w' := by
  subst h1
  obtain ⟨us, hr, hu⟩ := h
  have ca : Chg Pure' w (w.alloc (.cells #[.slice A l.length c] 22)) := (Chg.refl _ w).alloc _
  have hrow : Row (w.alloc (.cells #[.slice A l.length c] 22)) (some ⟨w.heap.size, 0, none⟩) [.slice A l.length c] := by
    refine ⟨fun _ => ⟨w.heap.size, 0, rfl, fun j x hx => ?_⟩⟩
    rw [Nat.zero_add, cellAt_alloc_lit, ← hx]
    simp
  have hr2 := own_keep hr ca (fun _ _ h => h)
  obtain ⟨v6, w6, hr6, ho6, hg6, hb6⟩ := app_own (P := Try.prog) _ B 31 31 22 Try.underlying31 infoBs rfl (by decide) _ _ _ hr2 _ 1 1 _ hrow rfl (by intro u hu; simp at hu; subst hu; rfl) (by decide) (by omega) (by have := ca.size; omega)
  have c6 : Chg (fun k => v.ownBlock = some k) (w.alloc (.cells #[.slice A l.length c] 22)) w6 := (Chg.refl _ _).grown hg6 (fun k hk => .inr hk)
  have C : Chg (fun k => v.ownBlock = some k) w w6 := (Chg.of_pure ca).trans' c6
  refine ⟨v6, w6, hr6, ⟨us ++ [.slice A l.length c], by simpa using ho6, fun i hi => ?_⟩, C⟩
  have hul : us.length = ls.length := by have := hr.1; simpa using this
  by_cases hil : i < ls.length
  · obtain ⟨A1, c1, h3, h4, h5⟩ := hu i hil
    refine ⟨A1, c1, ?_, ?_, ?_⟩
    · rw [List.getElem?_append_left (by omega), List.getElem_append_left hil]; exact h3
    · rw [List.getElem_append_left hil]; exact h4
    · rw [List.getElem_append_left hil]; exact h5.frame C (fun a ha e => h5.far hr (by decide) ha e)
  · have hie : i = ls.length := by simp at hi; omega
    subst hie
    refine ⟨A, c, ?_, ?_, ?_⟩
    · rw [List.getElem?_append_right (by omega), hul, Nat.sub_self, List.getElem_append_right (by omega)]; simp
    · rw [List.getElem_append_right (by omega)]; simpa using hc
    · rw [List.getElem_append_right (by omega)]
      have := hl.frame C (fun a ha e => hl.far hr (by decide) ha e)
      simpa using this
theorem lookB_drop_whole {xs l : List UInt8} {k : Nat} (h : lookB (xs.drop k) = .whole l) : k + (l.length + 8) ≤ xs.length := by
  obtain ⟨h1, h2, -⟩ := look_whole h
  simp at h2; omega
set_option maxHeartbeats 4000000 in
theorem scan_any (A : Option Addr) (n c : Nat) (xs : List UInt8) (w : World) (hA : Bytes w A n xs) (hc : n ≤ c) (hn : n * 3 + 24 ≤ 140737488351232) :
    Calls Try.prog 15 #[.slice A n c] w fun e w' => ∃ v, e = .returned (.tuple #[v, .int .i64 ((scan xs).2 : Nat)]) ∧ Loads w' w.heap.size v (scan xs).1 ∧ Chg Pure' w w' := by
  have hl := hA.len
  have HL := Lib.hid hl
  clear hl
  go_enter Try.func15, Try.ntmps15
  go_wp2_with (fail)
  go_step3
  go_wp2_with (fail)
  go_step3
  go_wp2_with (fail)
  go_loopw [4, 5] (fun v i wr => ∃ (k : Nat) (ls : List (List UInt8)), k ≤ n ∧ i = .int .i64 k ∧ ls.length * 8 ≤ k ∧ Hid (Loads wr w.heap.size v ls ∧ Chg Pure' w wr ∧ (scan xs).1 = ls ++ (scan (xs.drop k)).1 ∧ (scan xs).2 = (scan (xs.drop k)).2 + k)) (fun _ i _ => n - (intOf i).toNat)
  case atStart => exact ⟨0, [], Nat.zero_le _, rfl, Nat.le_refl _, Lib.hid ⟨Loads.nil _ _, Chg.refl _ _, rfl, rfl⟩⟩
  case round =>
    obtain ⟨k, ls, hk, rfl, hlk, HS⟩ := hrel
    by_cases hlt : k < n
    · have hbl := hA.cells (by omega)
      obtain ⟨b, off, rfl, -⟩ := hbl
      have hC : Chg Pure' w wr := HS.out.2.1
      have hb : Bytes wr (some ⟨b, off + k, none⟩) (n - k) (xs.drop k) := by
        have := (hA.pure hC).part k n (by omega) (by omega)
        rwa [List.take_of_length_le (by rw [HL.out]; omega)] at this
      have s1 : (c = k) = False := eq_false (by omega)
      have s2 : (k : Int) ≤ (n : Int) := by omega
      have s3 : (k : Int) < (n : Int) := by omega
      have hne : xs.drop k ≠ [] := by intro h; have := congrArg List.length h; have := HL.out; simp at *; omega
      have HE := Lib.hid (scan_eq _ hne)
      clear hne
      go_wp2_with (fail)
      refine (look_all b (off + k) (n - k) (c - k) (xs.drop k) wr hb (by omega) (by omega) (by omega)).mono ?_
      rintro e w1 ⟨c1, hp⟩
      have C1 := hC.pure c1
      have L1 := Lib.hid (HS.out.1.pure c1)
      obtain ⟨r, hr⟩ : ∃ r, lookB (xs.drop k) = r := ⟨_, rfl⟩
      have hE := HE.out
      rw [hr] at hE hp
      have hS1 := HS.out.2.2.1
      have hS2 := HS.out.2.2.2
      cases r with
      | nothing =>
        obtain rfl := hp
        have HN : Hid (Loads w1 w.heap.size u4 ls ∧ Chg Pure' w w1 ∧ (scan xs).1 = ls ++ (scan (xs.drop (k + 1))).1 ∧ (scan xs).2 = (scan (xs.drop (k + 1))).2 + (k + 1)) := by
          refine Lib.hid ⟨L1.out, C1, ?_, ?_⟩
          · rw [hS1, hE, List.drop_drop]
          · rw [hS2, hE, List.drop_drop]; simp only; omega
        clear hE hr hS1 hS2 HS HE
        go_wp2
        go_roundw
        case rel => exact ⟨k + 1, ls, by omega, by go_num, by omega, HN⟩
        case measure => simp [intOf]; omega
      | few =>
        obtain rfl := hp
        clear hr
        go_wp2
        try rw [Exit.noGoto_ret]
        go_ret2
        refine ⟨u4, ?_, ?_, C1⟩
        · rw [hS2, hE]; first | done | (simp only [Nat.zero_add]; done) | (simp only [Nat.zero_add]; rfl)
        · rw [hS1, hE]; simpa using L1.out
      | whole l =>
        obtain ⟨A', c', rfl, hlc, hld⟩ := hp
        have hfit := lookB_drop_whole hr
        rw [HL.out] at hfit
        obtain ⟨v6, w6, hr6, ho6, c6⟩ := L1.out.more (hld.low (by have := hC.size; omega)) hlc (by have := C1.size; omega) (by omega) rfl
        have C6 : Chg Pure' w w6 := C1.trans c6 (fun i hi e => by obtain ⟨us, ho, -⟩ := L1.out; have := (ho.lt i e).1; omega)
        have HN : Hid (Loads w6 w.heap.size v6 (ls ++ [l]) ∧ Chg Pure' w w6 ∧ (scan xs).1 = (ls ++ [l]) ++ (scan (xs.drop (k + (l.length + 8)))).1 ∧ (scan xs).2 = (scan (xs.drop (k + (l.length + 8)))).2 + (k + (l.length + 8))) := by
          refine Lib.hid ⟨ho6, C6, ?_, ?_⟩
          · rw [hS1, hE]; simp [List.drop_drop]
          · rw [hS2, hE]; simp only [List.drop_drop]; omega
        clear hE hr hS1 hS2 HS HE c6 C6 ho6 hld
        go_wp2_with (first
          | (at_builtin; refine Lib.wpList_append_run _ rfl _ _ _ _ rfl _ _ rfl rfl _ _ hr6 ?_)
          | fail)
        clear hr6
        go_wp2
        go_roundw
        case rel => exact ⟨k + (l.length + 8), ls ++ [l], by omega, by go_num, by simp; omega, HN⟩
        case measure => simp [intOf]; omega
    · have hkn : k = n := by omega
      have s3 : (k : Int) < (n : Int) → False := by omega
      have hnil : xs.drop k = [] := by rw [List.drop_eq_nil_iff, HL.out]; omega
      have H := HS.out
      rw [hnil] at H
      obtain ⟨h1, h2, h3, h4⟩ := H
      rw [scan_nil] at h3 h4
      have H3 := Lib.hid h3
      have H4 := Lib.hid h4
      clear h3 h4 hkn hnil HS
      go_wp2
      go_ret2
      refine ⟨u4, ?_, ?_, h2⟩
      · rw [H4.out, Nat.zero_add]; rfl
      · rw [H3.out]; simpa using h1
end Go.Proofs.Ytemofjaonoofhaa
