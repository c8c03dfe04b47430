/- Package frame: a stream told by all that came; FrameFew. -/
import Derived.Test.YtemofjaonoofhaaFrameH
namespace Go.Proofs.Ytemofjaonoofhaa
open Go Go.RowKit
set_option linter.unusedVariables false
set_option linter.unusedSimpArgs false

/-- A stream to which these bytes came. -/
def StrOf (w : World) (p q : Nat) (pre : List UInt8) : Prop := StrAt w p q (keeps pre) (lostB pre)
theorem keeps_nil : keeps [] = [] := rfl
theorem lostB_nil : lostB [] = 0 := rfl
theorem lost_le (pre : List UInt8) : lostB pre ≤ pre.length := by have := balance pre; omega
theorem feed_pre {w : World} {p q : Nat} {pre : List UInt8} (h : StrOf w p q pre) (A : Option Addr) (n c : Nat) (xs : List UInt8) (hA : Bytes w A n xs) (hc : n ≤ c) (hn : n ≤ 17592186044416) (hp : pre.length ≤ 2305843009213693952) :
    Calls Try.prog 19 #[.pointer (some ⟨p, 0, none⟩), .slice A n c] w fun e w' => ∃ v q' ls, e = .returned v ∧ w.heap.size ≤ q' ∧ Loads w' (q' + 1) v ls ∧ found (pre ++ xs) = found pre ++ ls ∧ StrOf w' p q' (pre ++ xs) ∧ Chg (fun k => k = p) w w' := by
  have hk := keeps_short pre
  have hl := lost_le pre
  refine (feed_any h A n c xs hA hc (by omega) (by omega)).mono ?_
  rintro e w' ⟨v, q', rfl, hq, hld, hs, hch⟩
  rw [← keeps_append, ← lost_append] at hs
  exact ⟨v, q', _, rfl, hq, hld, found_append pre xs, hs, hch⟩
theorem fnew_of (w : World) :
    Calls Try.prog 18 #[] w fun e w' => e = .returned (.pointer (some ⟨w.heap.size, 0, none⟩)) ∧ StrOf w' w.heap.size (w.heap.size + 1) [] ∧ Chg Pure' w w' := fnew_any w
theorem BytesL.at' {w : World} {b off n k : Nat} {xss : List (List UInt8)} (h : BytesL w (some ⟨b, off, none⟩) n xss) (hk : k < xss.length) : ∃ Aj nj cj, w.cell? ⟨b, off + k, none⟩ = some (.slice Aj nj cj) ∧ nj ≤ cj ∧ Bytes w Aj nj (xss[k]'hk) := by
  obtain ⟨b', off', e, hc⟩ := h.cells (by have := h.len; omega)
  cases e
  exact hc k hk
theorem flatten_succ (xss : List (List UInt8)) (k : Nat) (hk : k < xss.length) : (xss.take (k + 1)).flatten = (xss.take k).flatten ++ xss[k]'hk := by
  rw [List.take_succ_eq_append_getElem hk, List.flatten_append]
  simp
theorem flatten_le (xss : List (List UInt8)) (M : Nat) (h : ∀ x ∈ xss, x.length ≤ M) : xss.flatten.length ≤ xss.length * M := by
  induction xss with
  | nil => simp
  | cons x xss ih =>
    have h1 := h x (by simp)
    have h2 := ih (fun y hy => h y (by simp [hy]))
    simp only [List.flatten_cons, List.length_append, List.length_cons, Nat.succ_mul]
    omega
set_option maxRecDepth 100000 in
set_option maxHeartbeats 4000000 in
theorem law_FrameFew (A : Option Addr) (n c : Nat) (xss : List (List UInt8)) (w : World) (hA : BytesL w A n xss) (hc : n ≤ c) (hn : n ≤ 1048576) (hx : ∀ x ∈ xss, x.length ≤ 1048576) :
    Calls Try.prog 7 #[.slice A n c] w fun e w' => e = .returned (.bool true) ∧ Chg Pure' w w' := by
  go_enter Try.func7, Try.ntmps7
  go_wp2_with (fail)
  refine (fnew_of w).mono ?_
  rintro e w1 ⟨rfl, h1, c1⟩
  go_wp2_with (fail)
  refine (alive03 w1).mono ?_
  rintro e w2 ⟨rfl, c2⟩
  have H2 : Hid (StrOf w2 w.heap.size (w.heap.size + 1) []) := Lib.hid (StrAt.pure h1 c2)
  have C2 := c1.pure c2
  have hp0 : w.heap.size < w2.heap.size := by have := h1.plt; have := c2.size; omega
  clear h1 c1 c2
  generalize hp : w.heap.size = p at *
  go_wp2_with (fail)
  go_loopw [4, 5, 19] (fun all fnd i wr => ∃ (k q : Nat), k ≤ n ∧ i = .int .i64 k ∧ all = .int .i64 ((xss.take k).flatten.length : Nat) ∧ fnd = .int .i64 (sizeL (found (xss.take k).flatten) : Nat) ∧ Hid (StrOf wr p q (xss.take k).flatten ∧ Chg Pure' w wr)) (fun _ _ i _ => n - (intOf i).toNat)
  case atStart => exact ⟨0, p + 1, Nat.zero_le _, rfl, rfl, rfl, Lib.hid ⟨H2.out, C2⟩⟩
  case round =>
    obtain ⟨k, q, hk, rfl, rfl, rfl, HS⟩ := hrel
    clear H2
    by_cases hlt : k < n
    · have hlx := hA.len
      obtain ⟨b, off, rfl, -⟩ := hA.cells (by omega)
      have hkx : k < xss.length := by omega
      obtain ⟨Aj, nj, cj, e1, e2, e3⟩ := hA.at' hkx
      have x1 := HS.out.2.cell e1 (fun h => h)
      have b1 := e3.pure HS.out.2
      have hxl : (xss[k]'hkx).length ≤ 1048576 := hx _ (List.getElem_mem hkx)
      have hj := e3.len
      have hfs := flatten_succ xss k hkx
      have hfl := flatten_le (xss.take k) 1048576 (fun x hx' => hx x (List.mem_of_mem_take hx'))
      have hfl2 : (xss.take k).flatten.length ≤ 1099511627776 := by
        have : (xss.take k).length ≤ 1048576 := by simp; omega
        have := Nat.mul_le_mul_right 1048576 this
        omega
      rw [hj] at hxl
      generalize xss[k] = x at *
      clear hfl e1 e3 hkx hlx
      have HFS := Lib.hid hfs
      clear hfs
      have hbal := balance (xss.take k).flatten
      generalize hpre : (xss.take k).flatten = pre at *
      clear hpre
      obtain ⟨tot, htot⟩ : ∃ t, pre.length = t := ⟨_, rfl⟩
      obtain ⟨sz, hsz⟩ : ∃ t, sizeL (found pre) = t := ⟨_, rfl⟩
      have HT := Lib.hid htot
      have HZ := Lib.hid hsz
      rw [htot] at hfl2 hbal
      rw [hsz] at hbal
      rw [htot, hsz]
      have hsz2 : sz ≤ 1099511627776 := by omega
      clear hbal htot hsz
      go_wp2_with (fail)
      refine (feed_pre HS.out.1 Aj nj cj x b1 e2 (by omega) (by rw [HT.out]; omega)).mono ?_
      rintro e w3 ⟨v, q', ls, rfl, hq', hld, hfo, hs3, c3⟩
      obtain ⟨A3, c3', rfl, -⟩ := hld.val
      have hC3 : Chg Pure' w w3 := HS.out.2.trans c3 (fun i hi e => by omega)
      have hsl : sizeL ls + sz ≤ tot + nj := by
        have h1 := balance (pre ++ x)
        rw [hfo, sizeL_append, HZ.out, List.length_append, HT.out, hj] at h1
        omega
      have hll := sizeL_len ls
      have HB : Hid ((keeps (pre ++ x)).length + lostB (pre ++ x) + (sz + sizeL ls) = tot + nj) := by
        have h1 := balance (pre ++ x)
        rw [hfo, sizeL_append, HZ.out, List.length_append, HT.out, hj] at h1
        exact Lib.hid h1
      have hks := keeps_short (pre ++ x)
      have HFO := Lib.hid hfo
      have HC3 := Lib.hid hC3
      have HJ := Lib.hid hj
      clear c3 hfo hq' hC3 hj b1 x1
      go_wp2_with (fail)
      go_loopw [5, 31] (fun fnd i wi => ∃ j : Nat, j ≤ ls.length ∧ i = .int .i64 j ∧ fnd = .int .i64 (sz + sizeL (ls.take j) : Nat) ∧ wi = w3) (fun _ i _ => ls.length - (intOf i).toNat)
      case atStart => exact ⟨0, Nat.zero_le _, rfl, by simp [sizeL], rfl⟩
      case round =>
        obtain ⟨j, hj, rfl, rfl, rfl⟩ := hrel
        by_cases hjl : j < ls.length
        · obtain ⟨g, Ai, ci, rfl, -, hcell, hci, -⟩ := hld.get hjl
          have hsu := sizeL_succ ls j hjl
          have hst := sizeL_take ls (j + 1)
          have HSU : Hid (((sz + sizeL (ls.take (j + 1)) : Nat) : Int) = ((sz + sizeL (ls.take j) : Nat) : Int) + (((ls[j]'hjl).length : Int) + 8)) := Lib.hid (by rw [hsu]; omega)
          obtain ⟨len, hlen⟩ : ∃ m, (ls[j]'hjl).length = m := ⟨_, rfl⟩
          rw [hlen] at hcell hsu HSU
          obtain ⟨cur, hcur⟩ : ∃ cur, sz + sizeL (ls.take j) = cur := ⟨_, rfl⟩
          rw [hcur] at HSU ⊢
          have b1 : cur ≤ 1099511627776 + 1048576 := by omega
          have b2 : len ≤ 1099511627776 + 1048576 := by omega
          clear hsu hst hci hld hlen hcur
          go_wp2_with (fail)
          go_roundw
          case rel => exact ⟨j + 1, by omega, by go_num, by rw [HSU.out], by first | rfl | trivial⟩
          case measure => simp [intOf]; omega
        · have hjn : j = ls.length := by omega
          subst hjn
          rw [List.take_length]
          have hjf : ((ls.length : Int) < (ls.length : Int)) = False := eq_false (by omega)
          obtain ⟨wv, hwv⟩ : ∃ t, (keeps (pre ++ x)).length = t := ⟨_, rfl⟩
          obtain ⟨lv, hlv⟩ : ∃ t, lostB (pre ++ x) = t := ⟨_, rfl⟩
          have hB := HB.out
          obtain ⟨fv, hfv⟩ : ∃ t, sz + sizeL ls = t := ⟨_, rfl⟩
          have HW : ∀ wr, StrOf wr p q' (pre ++ x) → Calls Try.prog 21 #[.pointer (some ⟨p, 0, none⟩)] wr fun e w' => e = .returned (.int .i64 wv) ∧ wr = w' := by rw [← hwv]; exact fun wr h => waits_any h
          have HL : ∀ wr, StrOf wr p q' (pre ++ x) → Calls Try.prog 20 #[.pointer (some ⟨p, 0, none⟩)] wr fun e w' => e = .returned (.int .i64 lv) ∧ wr = w' := by rw [← hlv]; exact fun wr h => lost_any h
          have HFV := Lib.hid hfv
          rw [hwv, hlv, hfv] at hB
          rw [hwv] at hks
          rw [hfv]
          clear hwv hlv hfv hld hsl hll HB
          have t1 : (wv : Int) < 0 → False := by omega
          have t2 : (wv : Int) < 1208 := by omega
          have t3 : (lv : Int) < 0 → False := by omega
          have t4 : (((wv : Int) + (lv : Int) + (fv : Int)) != ((tot : Int) + (nj : Int))) = false := by rw [bne_eq_false_iff_eq]; omega
          have b3 : lv ≤ 2199023255552 := by omega
          have b4 : fv ≤ 2199023255552 := by omega
          clear hB
          go_wp2_with (first
            | (go_at_call 21; refine (HW _ hs3).mono ?_; rintro e w' ⟨rfl, rfl⟩)
            | (go_at_call 20; refine (HL _ hs3).mono ?_; rintro e w' ⟨rfl, rfl⟩))
          go_roundw
          case rel =>
            refine ⟨k + 1, q', by omega, by go_num, ?_, ?_, Lib.hid ⟨?_, HC3.out⟩⟩
            · rw [HFS.out, List.length_append, HT.out, HJ.out]; go_num
            · rw [HFS.out, HFO.out, sizeL_append, HZ.out, HFV.out]
            · rw [HFS.out]; exact hs3
          case measure => simp [intOf]; omega
    · have hkn : ((k : Int) < (n : Int)) = False := eq_false (by omega)
      have C := HS.out.2
      go_wp2
      go_ret
      exact ⟨rfl, C⟩
end Go.Proofs.Ytemofjaonoofhaa
