/- jsay's writer: list. -/
import Derived.Test.YtafpkecjicphoaaDoorJsayW
namespace Go.Proofs.YtafpkecjicphoaaDoor
open Go Go.RowKit
set_option linter.unusedVariables false
set_option linter.unusedSimpArgs false
set_option maxRecDepth 100000

theorem WrPost.of_pure {base wb : Nat} {v : Value} {acc : List UInt8} {ok : Bool} {w w1 : World} (hc : Chg Pure' w w1) {e : Ending} {w' : World} (h : WrPost base wb v acc ok w1 e w') : WrPost base wb v acc ok w e w' := by
  obtain ⟨h1, v', h2, h3⟩ := h
  exact ⟨h1, v', h2, WrStep.of_pure hc h3⟩
theorem put1a {base wb : Nat} {v : Value} {acc : List UInt8} {ok : Bool} {w : World} (hW : WrAt base wb v acc ok w) (p : List UInt8) (hl : acc.length + p.length ≤ 1099511627776) :
    Calls Tryd.prog 29 #[.pointer (some ⟨wb, 0, none⟩), .slice (some ⟨w.heap.size, 0, none⟩) 1 1] (w.alloc (.cells #[.string ⟨p.toArray⟩] 9)) (WrPost base wb v (acc ++ p) ok (w.alloc (.cells #[.string ⟨p.toArray⟩] 9))) := by
  have hc : Chg Pure' w (w.alloc (.cells #[.string ⟨p.toArray⟩] 9)) := (Chg.refl _ _).alloc _
  have hlt := hW.lt
  have hr : Row (w.alloc (.cells #[.string ⟨p.toArray⟩] 9)) (some ⟨w.heap.size, 0, none⟩) ([p].map sv) := by
    refine ⟨fun _ => ⟨_, _, rfl, fun j u hu => ?_⟩⟩
    rw [cell_of_row _ w.heap.size (0 + j) _ _ (0, 0) (heap_alloc_new w _), Nat.zero_add, ← Array.getElem?_toList]
    exact hu
  have h := put_of (hW.pure hc) (some ⟨w.heap.size, 0, none⟩) 1 1 [p] hr rfl (fun a ha => by
    cases ha
    exact ⟨fun e => by simp only at e; omega, fun e => by have := (hW.ownLt e).2; simp at this⟩) (by simpa using hl) (by omega)
  simp only [List.flatten_cons, List.flatten_nil, List.append_nil] at h
  exact h
theorem put1 {base wb : Nat} {v : Value} {acc : List UInt8} {ok : Bool} {w : World} (hW : WrAt base wb v acc ok w) (p : List UInt8) (hl : acc.length + p.length ≤ 1099511627776) :
    Calls Tryd.prog 29 #[.pointer (some ⟨wb, 0, none⟩), .slice (some ⟨w.heap.size, 0, none⟩) 1 1] (w.alloc (.cells #[.string ⟨p.toArray⟩] 9)) (WrPost base wb v (acc ++ p) ok w) :=
  (put1a hW p hl).mono fun e w' h => WrPost.of_pure ((Chg.refl _ _).alloc _) h
theorem put2a {base wb : Nat} {v : Value} {acc : List UInt8} {ok : Bool} {w : World} (hW : WrAt base wb v acc ok w) (p q : List UInt8) (hl : acc.length + p.length + q.length ≤ 1099511627776) :
    Calls Tryd.prog 29 #[.pointer (some ⟨wb, 0, none⟩), .slice (some ⟨w.heap.size, 0, none⟩) 2 2] (w.alloc (.cells #[.string ⟨p.toArray⟩, .string ⟨q.toArray⟩] 9)) (WrPost base wb v (acc ++ (p ++ q)) ok (w.alloc (.cells #[.string ⟨p.toArray⟩, .string ⟨q.toArray⟩] 9))) := by
  have hc : Chg Pure' w (w.alloc (.cells #[.string ⟨p.toArray⟩, .string ⟨q.toArray⟩] 9)) := (Chg.refl _ _).alloc _
  have hlt := hW.lt
  have hr : Row (w.alloc (.cells #[.string ⟨p.toArray⟩, .string ⟨q.toArray⟩] 9)) (some ⟨w.heap.size, 0, none⟩) ([p, q].map sv) := by
    refine ⟨fun _ => ⟨_, _, rfl, fun j u hu => ?_⟩⟩
    rw [cell_of_row _ w.heap.size (0 + j) _ _ (0, 0) (heap_alloc_new w _), Nat.zero_add, ← Array.getElem?_toList]
    exact hu
  have h := put_of (hW.pure hc) (some ⟨w.heap.size, 0, none⟩) 2 2 [p, q] hr rfl (fun a ha => by
    cases ha
    exact ⟨fun e => by simp only at e; omega, fun e => by have := (hW.ownLt e).2; simp at this⟩) (by simp; omega) (by omega)
  simp only [List.flatten_cons, List.flatten_nil, List.append_nil] at h
  exact h
theorem put2 {base wb : Nat} {v : Value} {acc : List UInt8} {ok : Bool} {w : World} (hW : WrAt base wb v acc ok w) (p q : List UInt8) (hl : acc.length + p.length + q.length ≤ 1099511627776) :
    Calls Tryd.prog 29 #[.pointer (some ⟨wb, 0, none⟩), .slice (some ⟨w.heap.size, 0, none⟩) 2 2] (w.alloc (.cells #[.string ⟨p.toArray⟩, .string ⟨q.toArray⟩] 9)) (WrPost base wb v (acc ++ (p ++ q)) ok w) :=
  (put2a hW p q hl).mono fun e w' h => WrPost.of_pure ((Chg.refl _ _).alloc _) h
theorem sepB_drop {ts : List (List UInt8)} {k : Nat} (h : k < ts.length) : sepB (decide (0 < k)) (ts.drop k) = (if 0 < k then [44] else []) ++ (ts[k] ++ sepB (decide (0 < k + 1)) (ts.drop (k + 1))) := by
  rw [List.drop_eq_getElem_cons h, sepB]
  simp
set_option maxHeartbeats 2000000 in
/-- list: so many things between two signs, with commas. -/
theorem list_of {base wb : Nat} {v : Value} {acc : List UInt8} {ok : Bool} {w : World} (hW : WrAt base wb v acc ok w) (frm til : List UInt8) (F : FuncId) (caps : Array Value) (n : Nat) (ts : List (List UInt8)) (oks : List Bool) (hn : ts.length = n) (ho : oks.length = n)
    (hent : ∀ args w, (callFunc F args).run Tryd.prog w = .ok (.enter F args) w)
    (hl : acc.length + (frm ++ (sepB false ts ++ til)).length ≤ 1099511627776) (hn2 : n ≤ 1099511627776)
    (hcall : ∀ (k : Nat) (hk : k < ts.length) (hk2 : k < oks.length) (w' : World) (v' : Value) (acc' : List UInt8) (ok' : Bool), WrStep wb v v' w w' → WrAt base wb v' acc' ok' w' → acc'.length + (ts[k]'hk).length ≤ 1099511627776 →
      Calls Tryd.prog F (#[.int .i64 (k : Nat)] ++ caps) w' (WrPost base wb v' (acc' ++ ts[k]'hk) (ok' && oks[k]'hk2) w')) :
    Calls Tryd.prog 32 #[.pointer (some ⟨wb, 0, none⟩), .string ⟨frm.toArray⟩, .string ⟨til.toArray⟩, .int .i64 n, .func (.func F) #[] caps] w (WrPost base wb v (acc ++ (frm ++ (sepB false ts ++ til))) (ok && oks.all id) w) := by
  obtain ⟨T, hT⟩ : ∃ T, acc ++ (frm ++ (sepB false ts ++ til)) = T := ⟨_, rfl⟩
  have hTl : T.length ≤ 1099511627776 := by rw [← hT, List.length_append]; exact hl
  obtain ⟨O, hO⟩ : ∃ O, (ok && oks.all id) = O := ⟨_, rfl⟩
  rw [hT, hO]
  have HP1 := Lib.hid (put1 hW frm (by rw [← hT] at hTl; simp at hTl; omega))
  have HT := Lib.hid hT
  have HO := Lib.hid hO
  have HN := Lib.hid hn
  have HON := Lib.hid ho
  have HE := Lib.hid hent
  have HC := Lib.hid hcall
  have HW := Lib.hid hW
  have HTL := Lib.hid hTl
  clear hT hO hn ho hent hl hW hcall hTl
  go_enter Tryd.func32, Tryd.ntmps32
  go_wp2_with (fail)
  refine HP1.out.mono ?_
  rintro e w1 ⟨rfl, v1, hW1, hS1⟩
  have HW1 := Lib.hid hW1
  have HS1 := Lib.hid hS1
  clear hW1 hS1 HP1
  go_wp2_with (fail)
  go_loopw [16] (fun i wr => ∃ (k : Nat) (v' : Value) (acc' : List UInt8) (ok' : Bool), k ≤ n ∧ i = .int .i64 k ∧ Hid (WrAt base wb v' acc' ok' wr) ∧ Hid (WrStep wb v v' w wr) ∧ Hid (acc' ++ (sepB (decide (0 < k)) (ts.drop k) ++ til) = T) ∧ Hid ((ok' && (oks.drop k).all id) = O)) (fun i _ => n - (intOf i).toNat)
  case atStart => exact ⟨0, v1, acc ++ frm, ok, Nat.zero_le _, rfl, HW1, HS1, Lib.hid (by rw [← HT.out]; simp), Lib.hid (by rw [← HO.out]; simp)⟩
  case round =>
    clear HW1 HS1
    obtain ⟨k, v', acc', ok', hk, rfl, hWr, hSt, hTk, hOk⟩ := hrel
    by_cases hlt : k < n
    · have hk1 : k < ts.length := by rw [HN.out]; exact hlt
      have hk2 : k < oks.length := by rw [HON.out]; exact hlt
      have ht := hTk.out
      rw [sepB_drop hk1] at ht
      have hq := hOk.out
      rw [List.drop_eq_getElem_cons hk2, List.all_cons] at hq
      have HCK := Lib.hid (HC.out k hk1 hk2)
      generalize ts[k] = x at *
      generalize oks[k] = y at *
      have HQ := Lib.hid hq
      have HTT := HTL.out
      by_cases h0 : 0 < k
      · have h0' : (0 : Int) < (k : Int) := by omega
        rw [if_pos h0] at ht
        have hb1 : acc'.length + ([44] : List UInt8).length ≤ 1099511627776 := by rw [← ht] at HTT; simp at HTT; simp; omega
        have hb2 : (acc' ++ [44]).length + x.length ≤ 1099511627776 := by rw [← ht] at HTT; simp at HTT; simp; omega
        have HP := Lib.hid (put1 hWr.out [44] hb1)
        have HB2 := Lib.hid hb2
        have HTS := Lib.hid ht
        clear ht hq hTk hOk HTT hb1 hb2 hk1 hk2
        go_wp2_with (fail)
        refine HP.out.mono ?_
        rintro e w2 ⟨rfl, v2, hW2, hS2⟩
        have HS3 := Lib.hid (hSt.out.trans hS2)
        have HCC := Lib.hid (HCK.out w2 v2 _ _ HS3.out hW2 HB2.out)
        clear hW2 hS2 HP hWr hSt
        go_wp2_with (fail)
        rw [HE.out, Oper.upon_enter]
        refine HCC.out.mono ?_
        rintro e w3 ⟨rfl, v3, hW3, hS3⟩
        have HW3 := Lib.hid hW3
        have HS4 := Lib.hid (HS3.out.trans hS3)
        clear hW3 hS3 HCC
        go_wp2
        go_roundw
        case rel => exact ⟨k + 1, v3, _, _, by omega, by go_num, HW3, HS4, Lib.hid (by rw [← HTS.out]; simp), Lib.hid (by rw [← HQ.out]; simp [Bool.and_assoc])⟩
        case measure => simp [intOf]; omega
      · obtain rfl : k = 0 := by omega
        rw [if_neg h0] at ht
        have hb2 : acc'.length + x.length ≤ 1099511627776 := by rw [← ht] at HTT; simp at HTT; omega
        have HTS := Lib.hid ht
        have HCC := Lib.hid (HCK.out wr v' _ _ hSt.out hWr.out hb2)
        clear ht hq hTk hOk HTT hb2 hk1 hk2 h0
        go_wp2_with (fail)
        rw [HE.out, Oper.upon_enter]
        refine HCC.out.mono ?_
        rintro e w3 ⟨rfl, v3, hW3, hS3⟩
        have HW3 := Lib.hid hW3
        have HS4 := Lib.hid (hSt.out.trans hS3)
        clear hW3 hS3 HCC
        go_wp2
        go_roundw
        case rel => exact ⟨0 + 1, v3, _, _, by omega, by go_num, HW3, HS4, Lib.hid (by rw [← HTS.out]; simp), Lib.hid (by rw [← HQ.out]; simp [Bool.and_assoc])⟩
        case measure => simp [intOf]; omega
    · obtain rfl : k = n := by omega
      have ht := hTk.out
      rw [show ts.drop k = [] from List.drop_eq_nil_of_le (by rw [HN.out]; omega), sepB, List.nil_append] at ht
      have hq := hOk.out
      rw [show oks.drop k = [] from List.drop_eq_nil_of_le (by rw [HON.out]; omega)] at hq
      have HTT := HTL.out
      have HP := Lib.hid (put1 hWr.out til (by rw [← ht] at HTT; simp at HTT; omega))
      have HTE := Lib.hid ht
      have HQ := Lib.hid (show ok' = O by simpa using hq)
      clear ht hq HTT hTk hOk
      go_wp2_with (fail)
      refine HP.out.mono ?_
      rintro e w2 ⟨rfl, v2, hW2, hS2⟩
      have HW2 := Lib.hid hW2
      have HS3 := Lib.hid (hSt.out.trans hS2)
      clear hW2 hS2 HP
      go_wp2
      first | go_end0 | (refine bodyPost_ret (results_none rfl _ _ _) rfl ?_)
      exact ⟨rfl, v2, by rw [← HTE.out, ← HQ.out]; exact HW2.out, HS3.out⟩
end Go.Proofs.YtafpkecjicphoaaDoor
