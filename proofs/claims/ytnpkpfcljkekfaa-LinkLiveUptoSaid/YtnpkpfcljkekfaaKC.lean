/- The program's cursor in memory, and its reads. -/
import Derived.Test.YtnpkpfcljkekfaaCurP
import Derived.Test.YtnpkpfcljkekfaaCurC
import Derived.Test.YtnpkpfcljkekfaaSend
import Derived.Deep.CutRange
namespace Go.Proofs.Ytnpkpfcljkekfaa
open Go Go.RowKit
set_option linter.unusedVariables false
set_option maxRecDepth 100000
set_option linter.unusedSimpArgs false

/-- A cursor of the program's at p. -/
structure CurAt (w : World) (p : Nat) (A : Option Addr) (q : Nat) (c : Cr) : Prop where
  blk : ∃ cs, w.heap[p]? = some (.cells cs 122 (0, 0)) ∧ cs.size = 5
  c0 : w.cell? ⟨p, 0, none⟩ = some (.bool true)
  c1 : w.cell? ⟨p, 1, none⟩ = some (.slice A c.b.length q)
  c2 : w.cell? ⟨p, 2, none⟩ = some (.int .i64 (c.pos : Nat))
  c3 : w.cell? ⟨p, 3, none⟩ = some (.int .i64 (c.why : Nat))
  c4 : w.cell? ⟨p, 4, none⟩ = some (.int .i64 (c.fat : Nat))
  bytes : Bytes w A c.b.length c.b
  far : Off A (fun k => k = p)
  hq : c.b.length ≤ q
  ok : c.Ok c.b
  big : c.b.length ≤ 1200
theorem CurAt.lt {w : World} {p : Nat} {A : Option Addr} {q : Nat} {c : Cr} (h : CurAt w p A q c) : p < w.heap.size := by
  obtain ⟨cs, h1, -⟩ := h.blk
  exact (Array.getElem?_eq_some_iff.1 h1).1
theorem CurAt.frame {S : Nat → Prop} {w w' : World} {p : Nat} {A : Option Addr} {q : Nat} {c : Cr} (h : CurAt w p A q c) (hc : Chg S w w') (hp : ¬ S p) (hA : Off A S) : CurAt w' p A q c := by
  obtain ⟨cs, h1, h2⟩ := h.blk
  exact ⟨⟨cs, (hc.block p h.lt hp).trans h1, h2⟩, hc.cell h.c0 hp, hc.cell h.c1 hp, hc.cell h.c2 hp, hc.cell h.c3 hp, hc.cell h.c4 hp, h.bytes.chg hc hA, h.far, h.hq, h.ok, h.big⟩
theorem CurAt.pure {w w' : World} {p : Nat} {A : Option Addr} {q : Nat} {c : Cr} (h : CurAt w p A q c) (hc : Chg Pure' w w') : CurAt w' p A q c := h.frame hc (fun h => h) (Off.pure A)
/-- Another place. -/
theorem CurAt.goes {w : World} {p : Nat} {A : Option Addr} {q : Nat} {c : Cr} (h : CurAt w p A q c) (k : Nat) (hk : k ≤ c.b.length) (v : Int) (hv : v = (k : Int)) :
    CurAt (w.setCell ⟨p, 2, none⟩ (.int .i64 v)) p A q ⟨c.b, k, c.why, c.fat⟩ ∧ Chg (fun k => k = p) w (w.setCell ⟨p, 2, none⟩ (.int .i64 v)) := by
  subst hv
  have hc : Chg (fun k => k = p) w (w.setCell ⟨p, 2, none⟩ (.int .i64 (k : Int))) := Chg.setCell (S := fun k => k = p) (Chg.refl _ w) (p := ⟨p, 2, none⟩) (.inr rfl) _
  obtain ⟨cs, h1, h2⟩ := h.blk
  refine ⟨⟨⟨_, heap_setCell_same w p 2 _ _ _ h1, by simpa using h2⟩, (set_far (by omega)).trans h.c0, (set_far (by omega)).trans h.c1, set_at h.c2, (set_far (by omega)).trans h.c3, (set_far (by omega)).trans h.c4, h.bytes.chg hc h.far, h.far, h.hq, ?_, h.big⟩, hc⟩
  exact ⟨rfl, hk, h.ok.fat, h.ok.why, h.ok.zero⟩
/-- A fault. -/
theorem CurAt.fails {w : World} {p : Nat} {A : Option Addr} {q : Nat} {c : Cr} (h : CurAt w p A q c) (e k : Nat) (hk : k ≤ c.b.length) (he : 1 ≤ e) (he5 : e ≤ 5) (v u : Int) (hv : v = (e : Int)) (hu : u = (k : Int)) :
    CurAt ((w.setCell ⟨p, 3, none⟩ (.int .i64 v)).setCell ⟨p, 4, none⟩ (.int .i64 u)) p A q ⟨c.b, c.pos, e, k⟩ ∧ Chg (fun k => k = p) w ((w.setCell ⟨p, 3, none⟩ (.int .i64 v)).setCell ⟨p, 4, none⟩ (.int .i64 u)) := by
  subst hv hu
  have c1 : Chg (fun k => k = p) w (w.setCell ⟨p, 3, none⟩ (.int .i64 (e : Int))) := Chg.setCell (S := fun k => k = p) (Chg.refl _ w) (p := ⟨p, 3, none⟩) (.inr rfl) _
  have hc : Chg (fun k => k = p) w ((w.setCell ⟨p, 3, none⟩ (.int .i64 (e : Int))).setCell ⟨p, 4, none⟩ (.int .i64 (k : Int))) := Chg.setCell (S := fun k => k = p) c1 (p := ⟨p, 4, none⟩) (.inr rfl) _
  obtain ⟨cs, h1, h2⟩ := h.blk
  have h3 := heap_setCell_same w p 3 cs _ (.int .i64 (e : Int)) h1
  refine ⟨⟨⟨_, heap_setCell_same _ p 4 _ _ _ h3, by simpa using h2⟩, (set_far (by omega)).trans ((set_far (by omega)).trans h.c0), (set_far (by omega)).trans ((set_far (by omega)).trans h.c1), (set_far (by omega)).trans ((set_far (by omega)).trans h.c2),
    (set_far (by omega)).trans (set_at h.c3), set_at ((set_far (by omega)).trans h.c4), h.bytes.chg hc h.far, h.far, h.hq, ?_, h.big⟩, hc⟩
  exact ⟨rfl, h.ok.pos, hk, he5, fun h0 => by simp only at h0; omega⟩

theorem zero_fault (w : World) : (zeroValue 79).run Try.prog w = .ok (.agg #[.int .i64 0, .int .i64 0]) w := by kernel_rfl
theorem cfault_any {w : World} {p : Nat} {A : Option Addr} {q : Nat} {c : Cr} (h : CurAt w p A q c) :
    Calls Try.prog 42 #[.pointer (some ⟨p, 0, none⟩)] w fun e w' => e = .returned (.agg #[.int .i64 (c.why : Nat), .int .i64 (c.fat : Nat)]) ∧ Chg Pure' w w' := by
  have hz := zero_fault
  have ca : Chg Pure' w (w.alloc (.cells #[.int .i64 0, .int .i64 0] 79)) := (Chg.refl _ w).alloc _
  have h1 := h.pure ca
  have x0 := h1.c0
  have x3 := h1.c3
  have x4 := h1.c4
  generalize c.why = y at *
  generalize c.fat = z at *
  clear h h1
  go_enter Try.func42, Try.ntmps42
  go_wp2_with (fail)
  refine bodyPost_ret (v := .agg #[.int .i64 y, .int .i64 z]) ?_ rfl ⟨rfl, (Chg.refl _ w).alloc _⟩
  unfold results
  go_simp
  try rfl
theorem cwell_any {w : World} {p : Nat} {A : Option Addr} {q : Nat} {c : Cr} (h : CurAt w p A q c) (r : Bool) (hr : decide (c.why = 0) = r) :
    Calls Try.prog 73 #[.pointer (some ⟨p, 0, none⟩)] w fun e w' => e = .returned (.bool r) ∧ Chg Pure' w w' := by
  have H := Lib.hid (cfault_any h)
  have hz := zero_fault
  have hok := h.ok.zero
  clear h
  go_enter Try.func73, Try.ntmps73
  go_wp2_with (fail)
  refine H.out.mono ?_
  rintro e w1 ⟨rfl, c1⟩
  clear H
  by_cases h0 : c.why = 0
  · obtain rfl : true = r := by rw [← hr]; simp [h0]
    rw [h0, hok h0]
    clear hr
    go_wp2
    go_ret
    exact ⟨rfl, c1⟩
  · obtain rfl : false = r := by rw [← hr]; simp [h0]
    have h1 : ((c.why : Int) == 0) = false := by rw [beq_eq_false_iff_ne]; omega
    generalize c.why = y at *
    generalize c.fat = z at *
    clear hok hr
    go_wp2
    go_ret
    exact ⟨ret_bool (by simp [h0]), c1⟩
theorem cneeds_ok {w : World} {p : Nat} (e k : Int) :
    Calls Try.prog 74 #[.pointer (some ⟨p, 0, none⟩), .bool true, .int .i64 e, .int .i64 k] w fun e w' => e = .returned (.bool true) ∧ w = w' := by
  go_enter Try.func74, Try.ntmps74
  go_wp2
  go_ret
  exact ⟨rfl, rfl⟩
theorem cneeds_bad {w : World} {p : Nat} {A : Option Addr} {q : Nat} {c : Cr} (h : CurAt w p A q c) (e k : Nat) (hk : k ≤ c.b.length) (he : 1 ≤ e) (he5 : e ≤ 5) (v u : Int) (hv : v = (e : Int)) (hu : u = (k : Int)) :
    Calls Try.prog 74 #[.pointer (some ⟨p, 0, none⟩), .bool false, .int .i64 v, .int .i64 u] w fun e' w' => e' = .returned (.bool false) ∧ CurAt w' p A q ⟨c.b, c.pos, e, k⟩ ∧ Chg (fun k => k = p) w w' := by
  obtain ⟨cs, b1, b2⟩ := h.blk
  have x3 := h.c3
  have x4 := h.c4
  have f3 : w.frozen? ⟨p, 3, none⟩ = false := free_at b1
  have f4 : w.frozen? ⟨p, 4, none⟩ = false := free_at b1
  have HF := Lib.hid (h.fails e k hk he he5 v u hv hu)
  clear h b1 b2 hv hu
  go_enter Try.func74, Try.ntmps74
  go_wp2
  go_ret
  exact ⟨rfl, HF.out⟩
end Go.Proofs.Ytnpkpfcljkekfaa
namespace Go.Proofs.Ytnpkpfcljkekfaa
open Go Go.RowKit
set_option linter.unusedVariables false
set_option maxRecDepth 100000
set_option linter.unusedSimpArgs false

theorem shortC_good {c : Cr} {n u : Nat} (hw : c.why = 0) (h : shGo (c.b.drop c.pos) 0 0 = .good n u) : shortC c = (n, ⟨c.b, c.pos + u, 0, c.fat⟩) := by unfold shortC; rw [if_neg (by omega), h]
theorem shortC_form {c : Cr} {i : Nat} (hw : c.why = 0) (h : shGo (c.b.drop c.pos) 0 0 = .form i) : shortC c = (0, ⟨c.b, c.pos, 5, c.pos + i⟩) := by unfold shortC; rw [if_neg (by omega), h]
theorem shortC_short {c : Cr} (hw : c.why = 0) (h : shGo (c.b.drop c.pos) 0 0 = .short) : shortC c = (0, ⟨c.b, c.pos, 3, c.b.length⟩) := by unfold shortC; rw [if_neg (by omega), h]
/-- What a read of a short number leaves. -/
def shortPost (w : World) (p : Nat) (A : Option Addr) (q : Nat) (c : Cr) (e : Ending) (w' : World) : Prop :=
  e = .returned (.int .u64 ((shortC c).1 : Nat)) ∧ CurAt w' p A q (shortC c).2 ∧ Chg (fun k => k = p) w w'
theorem cshort_fault {w : World} {p : Nat} {A : Option Addr} {q : Nat} {c : Cr} (h : CurAt w p A q c) (hw : c.why ≠ 0) :
    Calls Try.prog 39 #[.pointer (some ⟨p, 0, none⟩)] w (shortPost w p A q c) := by
  have HR := Lib.hid (shortC_why hw)
  have H := Lib.hid (cwell_any h false (by simp [hw]))
  go_enter Try.func39, Try.ntmps39
  go_wp2_with (fail)
  refine H.out.mono ?_
  rintro e w1 ⟨rfl, c1⟩
  go_wp2
  go_ret
  refine ⟨?_, ?_, Chg.of_pure c1⟩
  · rw [HR.out]; rfl
  · rw [HR.out]; exact h.pure c1
theorem or_low7 (m : Nat) (x : UInt8) (hm : m < 144115188075855872) : bits .or .u64 ((m : Int) * 128) (IntKind.u64.wrap (bits .and .u8 (x.toNat : Int) 127)) = ((m * 128 + x.toNat % 128 : Nat) : Int) := by
  have h1 : bits .and .u8 (x.toNat : Int) 127 = ((x.toNat % 128 : Nat) : Int) := by
    have h : ∀ b : Fin 256, bits .and .u8 ((b.val : Nat) : Int) 127 = ((b.val % 128 : Nat) : Int) := by decide +kernel
    exact h ⟨x.toNat, x.toNat_lt⟩
  rw [h1, show IntKind.u64.wrap ((x.toNat % 128 : Nat) : Int) = ((x.toNat % 128 : Nat) : Int) from by rw [IntKind.wrap_u64]; omega]
  have e : bits .or .u64 ((m : Int) * 128) ((x.toNat % 128 : Nat) : Int) = IntKind.u64.wrap ((BitVec.ofInt 64 ((m : Int) * 128) ||| BitVec.ofInt 64 ((x.toNat % 128 : Nat) : Int)).toNat : Int) := rfl
  rw [e, BitVec.toNat_or, BitVec.toNat_ofInt, BitVec.toNat_ofInt]
  have e1 : ((m : Int) * 128 % (2 ^ 64 : Nat)).toNat = 2 ^ 7 * m := by omega
  have e2 : (((x.toNat % 128 : Nat) : Int) % (2 ^ 64 : Nat)).toNat = x.toNat % 128 := by omega
  rw [e1, e2, ← Nat.two_pow_add_eq_or_of_lt (by omega : x.toNat % 128 < 2 ^ 7), IntKind.wrap_u64]
  omega
theorem cshort_end {w : World} {p : Nat} {A : Option Addr} {q : Nat} {c : Cr} (h : CurAt w p A q c) (hw : c.why = 0) (he : c.pos = c.b.length) :
    Calls Try.prog 39 #[.pointer (some ⟨p, 0, none⟩)] w (shortPost w p A q c) := by
  have HR := Lib.hid (shortC_short hw (by rw [he, List.drop_length]; rfl))
  have H := Lib.hid (cwell_any h true (by simp [hw]))
  have hq := h.hq
  have hbig := h.big
  go_enter Try.func39, Try.ntmps39
  go_wp2_with (fail)
  refine H.out.mono ?_
  rintro e w1 ⟨rfl, c1⟩
  have h1 := h.pure c1
  have H1 := Lib.hid h1
  have x1 := h1.c1
  have x2 := h1.c2
  have C1 := Lib.hid c1
  clear c1 h1 H h
  rw [he] at x2
  go_wp2_with (fail)
  go_quiet (fail)
  have C2 : Hid (Chg Pure' w (w1.drewN nq)) := Lib.hid (C1.out.drewN _)
  have H2 := Lib.hid (H1.out.pure ((Chg.refl Pure' w1).drewN nq))
  generalize hAA : (if q = c.b.length then A else Option.map (fun x => x.add c.b.length) A) = A' at *
  clear x1 x2 H1 C1
  generalize w1.drewN nq = w2 at *
  have x1 := H2.out.c1
  have HB := Lib.hid (cneeds_bad H2.out 3 c.b.length (Nat.le_refl _) (by omega) (by omega) 3 (c.b.length : Int) rfl rfl)
  clear H2
  go_wp2_with (fail)
  go_loopw [3, 19] (fun nv i wr => nv = .int .u64 0 ∧ i = .int .i64 0 ∧ wr = w2) (fun _ _ _ => 0)
  case atStart => exact ⟨rfl, rfl, rfl⟩
  case round =>
    obtain ⟨rfl, rfl, rfl⟩ := hrel
    go_wp2_with (fail)
    refine HB.out.mono ?_
    rintro e w5 ⟨rfl, h5, c5⟩
    go_wp2
    go_ret
    refine ⟨?_, ?_, (Chg.of_pure C2.out).trans' c5⟩
    · rw [HR.out]; rfl
    · rw [HR.out]; exact h5
theorem cshort_more {w : World} {p : Nat} {b off : Nat} {q : Nat} {c : Cr} (h : CurAt w p (some ⟨b, off, none⟩) q c) (hw : c.why = 0) (he : c.pos < c.b.length) :
    Calls Try.prog 39 #[.pointer (some ⟨p, 0, none⟩)] w (shortPost w p (some ⟨b, off, none⟩) q c) := by
  have H := Lib.hid (cwell_any h true (by simp [hw]))
  have hq := h.hq
  have hbig := h.big
  go_enter Try.func39, Try.ntmps39
  go_wp2_with (fail)
  refine H.out.mono ?_
  rintro e w1 ⟨rfl, c1⟩
  have h1 := h.pure c1
  have H1 := Lib.hid h1
  have x1 := h1.c1
  have x2 := h1.c2
  have C1 := Lib.hid c1
  have s1 : (q = c.pos) = False := eq_false (by omega)
  clear c1 h1 H h
  obtain ⟨k0, hk0⟩ : ∃ k0, c.pos = k0 := ⟨_, rfl⟩
  obtain ⟨n0, hn0⟩ : ∃ n0, c.b.length = n0 := ⟨_, rfl⟩
  rw [hk0] at x2 s1 he
  rw [hn0] at x1 he hq hbig
  have s2 : (k0 : Int) ≤ (n0 : Int) := by omega
  have s3 : (n0 : Int) ≤ (q : Int) := by omega
  have HK := Lib.hid hk0
  have HN := Lib.hid hn0
  clear hk0 hn0
  go_wp2_with (fail)
  go_quiet (fail)
  have C2 : Hid (Chg Pure' w (w1.drewN nq)) := Lib.hid (C1.out.drewN _)
  have H2 := Lib.hid (H1.out.pure ((Chg.refl Pure' w1).drewN nq))
  clear x1 x2 H1 C1
  generalize w1.drewN nq = w2 at *
  have x1 := H2.out.c1
  have x2 := H2.out.c2
  rw [HK.out] at x2
  rw [HN.out] at x1
  obtain ⟨cs, hb1, hb2⟩ := H2.out.blk
  have f2 : w2.frozen? ⟨p, 2, none⟩ = false := free_at hb1
  clear hb1 hb2
  obtain ⟨L, hL⟩ : ∃ L, n0 - k0 = L := ⟨_, rfl⟩
  rw [hL]
  have hLq : L ≤ q - k0 := by omega
  go_wp2_with (fail)
  go_loopw [3, 19] (fun nv i wr => ∃ (k m : Nat), k ≤ L ∧ m < 18446744073709551616 ∧ nv = .int .u64 (m : Nat) ∧ i = .int .i64 (k : Nat) ∧ wr = w2 ∧ Hid (shGo (c.b.drop c.pos) 0 0 = shGo (c.b.drop (c.pos + k)) k m)) (fun _ i _ => L - (intOf i).toNat)
  case atStart => exact ⟨0, 0, Nat.zero_le _, by omega, rfl, rfl, rfl, Lib.hid rfl⟩
  case round =>
    obtain ⟨k, m, hkL, hm, rfl, rfl, rfl, HS⟩ := hrel
    by_cases hlt : k < L
    · have hlen : c.pos + k < c.b.length := by rw [HK.out, HN.out]; omega
      obtain ⟨x, hx⟩ : ∃ x, c.b[c.pos + k] = x := ⟨_, rfl⟩
      have hd : c.b.drop (c.pos + k) = x :: c.b.drop (c.pos + (k + 1)) := by rw [List.drop_eq_getElem_cons hlen, hx]; rfl
      have xc : wr.cell? ⟨b, off + k0 + k, none⟩ = some (.int .u8 (x.toNat : Int)) := by
        have := byte_at H2.out.bytes (c.pos + k) (by omega)
        rw [List.getD_eq_getElem?_getD, List.getElem?_eq_getElem hlen, hx, HK.out] at this
        rw [Nat.add_assoc]
        exact this
      have hS := HS.out
      rw [hd, shGo] at hS
      clear HS hd hx
      have i1 : (k : Int) < (L : Int) := by omega
      by_cases hk0 : k = 0
      · subst hk0
        rw [Nat.add_zero] at xc
        by_cases hx1 : x.toNat = 128
        · have e1 : (x.toNat : Int) = 128 := by omega
          rw [if_pos (.inl ⟨rfl, hx1⟩)] at hS
          have HB := Lib.hid hS
          clear hS hx1
          go_wp2_with (fail)
          refine (cneeds_bad H2.out 5 (c.pos + _) (Nat.le_of_lt hlen) (by omega) (by omega) 5 _ rfl (by rw [HK.out]; omega)).mono ?_
          rintro e w5 ⟨rfl, h5, c5⟩
          go_wp2
          go_ret
          refine ⟨?_, ?_, (Chg.of_pure C2.out).trans' c5⟩
          · rw [shortC_form hw HB.out]; rfl
          · rw [shortC_form hw HB.out]; exact h5
        have e1 : ((x.toNat : Int) = 128) = False := eq_false (by omega)
        have e2 : ((x.toNat : Int) == 128) = false := by rw [beq_eq_false_iff_ne]; omega
        by_cases hm1 : 144115188075855872 ≤ m
        · have e5 : (0 : Int) < (m : Int) / 144115188075855872 := by omega
          have e6 : ((m : Int) / 144115188075855872 = 0) = False := eq_false (by omega)
          have e7 : ((m : Int) / 144115188075855872 != 0) = true := by rw [bne_iff_ne]; omega
          rw [if_pos (.inr (.inr hm1))] at hS
          have HB := Lib.hid hS
          clear hS hm1
          go_wp2_with (fail)
          refine (cneeds_bad H2.out 5 (c.pos + _) (Nat.le_of_lt hlen) (by omega) (by omega) 5 _ rfl (by rw [HK.out]; omega)).mono ?_
          rintro e w5 ⟨rfl, h5, c5⟩
          go_wp2
          go_ret
          refine ⟨?_, ?_, (Chg.of_pure C2.out).trans' c5⟩
          · rw [shortC_form hw HB.out]; rfl
          · rw [shortC_form hw HB.out]; exact h5
        have e5 : ((0 : Int) < (m : Int) / 144115188075855872) = False := eq_false (by omega)
        have e7 : ((m : Int) / 144115188075855872 != 0) = false := by rw [bne_eq_false_iff_eq]; omega
        rw [if_neg (by rintro (h | h | h) <;> omega)] at hS
        have hor := or_low7 m x (by omega)
        have hm5 : (m : Int) * 128 < 18446744073709551616 := by omega
        obtain ⟨m2, hm2⟩ : ∃ m2, m * 128 + x.toNat % 128 = m2 := ⟨_, rfl⟩
        have hm6 : m2 < 18446744073709551616 := by omega
        rw [hm2] at hS hor
        clear hm2 hm1
        by_cases hx2 : x.toNat < 128
        · have e8 : (x.toNat : Int) < 128 := by omega
          rw [if_pos hx2] at hS
          have HB := Lib.hid hS
          clear hS hx2
          try clear e9b
          go_wp2_with (fail)
          go_ret
          obtain ⟨h5, c5⟩ := H2.out.goes (c.pos + (0 + 1)) hlen _ (by rw [HK.out] <;> first | done | rfl | omega)
          rw [hw] at h5
          refine ⟨?_, ?_, (Chg.of_pure C2.out).trans' c5⟩
          · rw [shortC_good hw HB.out]; rfl
          · rw [shortC_good hw HB.out]; exact h5
        · have e8 : ((x.toNat : Int) < 128) = False := eq_false (by omega)
          rw [if_neg hx2] at hS
          have HB := Lib.hid hS
          clear hS hx2
          try clear e9b
          go_wp2_with (fail)
          go_roundw
          case rel => exact ⟨0 + 1, m2, by omega, hm6, rfl, by go_num, (by first | rfl | trivial), HB⟩
          case measure => simp [intOf]; omega
      by_cases hk9 : k = 9
      · have e4 : ((k : Int) == 9) = true := by rw [hk9]; rfl
        have e2 : ((k : Int) == 0) = false := by rw [hk9]; rfl
        have HK9 := Lib.hid hk9
        clear hk0 hk9
        by_cases hx1 : 128 ≤ x.toNat
        · have e9a : (127 : Int) < (x.toNat : Int) := by omega
          have e9b : (128 : Int) ≤ (x.toNat : Int) := by omega
          rw [if_pos (.inr (.inl ⟨HK9.out, hx1⟩))] at hS
          have HB := Lib.hid hS
          clear hS hx1
          go_wp2_with (fail)
          refine (cneeds_bad H2.out 5 (c.pos + _) (Nat.le_of_lt hlen) (by omega) (by omega) 5 _ rfl (by rw [HK.out]; omega)).mono ?_
          rintro e w5 ⟨rfl, h5, c5⟩
          go_wp2
          go_ret
          refine ⟨?_, ?_, (Chg.of_pure C2.out).trans' c5⟩
          · rw [shortC_form hw HB.out]; rfl
          · rw [shortC_form hw HB.out]; exact h5
        have e9a : ((127 : Int) < (x.toNat : Int)) = False := eq_false (by omega)
        have e9b : ((128 : Int) ≤ (x.toNat : Int)) = False := eq_false (by omega)
        have e9c : (x.toNat : Int) ≤ 127 := by omega
        by_cases hm1 : 144115188075855872 ≤ m
        · have e5 : (0 : Int) < (m : Int) / 144115188075855872 := by omega
          have e6 : ((m : Int) / 144115188075855872 = 0) = False := eq_false (by omega)
          have e7 : ((m : Int) / 144115188075855872 != 0) = true := by rw [bne_iff_ne]; omega
          rw [if_pos (.inr (.inr hm1))] at hS
          have HB := Lib.hid hS
          clear hS hm1
          go_wp2_with (fail)
          refine (cneeds_bad H2.out 5 (c.pos + _) (Nat.le_of_lt hlen) (by omega) (by omega) 5 _ rfl (by rw [HK.out]; omega)).mono ?_
          rintro e w5 ⟨rfl, h5, c5⟩
          go_wp2
          go_ret
          refine ⟨?_, ?_, (Chg.of_pure C2.out).trans' c5⟩
          · rw [shortC_form hw HB.out]; rfl
          · rw [shortC_form hw HB.out]; exact h5
        have e5 : ((0 : Int) < (m : Int) / 144115188075855872) = False := eq_false (by omega)
        have e7 : ((m : Int) / 144115188075855872 != 0) = false := by rw [bne_eq_false_iff_eq]; omega
        rw [if_neg (by have := HK9.out; rintro (h | h | h) <;> omega)] at hS
        have hor := or_low7 m x (by omega)
        have hm5 : (m : Int) * 128 < 18446744073709551616 := by omega
        obtain ⟨m2, hm2⟩ : ∃ m2, m * 128 + x.toNat % 128 = m2 := ⟨_, rfl⟩
        have hm6 : m2 < 18446744073709551616 := by omega
        rw [hm2] at hS hor
        clear hm2 hm1
        have hx2 : x.toNat < 128 := by omega
        rw [if_pos hx2] at hS
        have HB := Lib.hid hS
        obtain ⟨xi, hxi⟩ : ∃ xi : Int, (x.toNat : Int) = xi := ⟨_, rfl⟩
        rw [hxi] at xc hor
        have e8 : xi < 128 := by omega
        clear hS e9a e9b hx1 e9c
        have e9a : (127 < xi) = False := eq_false (by omega)
        have e9b : (128 ≤ xi) = False := eq_false (by omega)
        clear hxi hx2
        try clear e9b
        go_wp2_with (fail)
        go_ret
        obtain ⟨h5, c5⟩ := H2.out.goes (c.pos + (k + 1)) hlen _ (by rw [HK.out] <;> first | done | rfl | omega)
        rw [hw] at h5
        refine ⟨?_, ?_, (Chg.of_pure C2.out).trans' c5⟩
        · rw [shortC_good hw HB.out]; rfl
        · rw [shortC_good hw HB.out]; exact h5
      have e1 : ((k : Int) = 0) = False := eq_false (by omega)
      have e2 : ((k : Int) == 0) = false := by rw [beq_eq_false_iff_ne]; omega
      have e3 : ((k : Int) = 9) = False := eq_false (by omega)
      have e4 : ((k : Int) == 9) = false := by rw [beq_eq_false_iff_ne]; omega
      by_cases hm1 : 144115188075855872 ≤ m
      · have e5 : (0 : Int) < (m : Int) / 144115188075855872 := by omega
        have e6 : ((m : Int) / 144115188075855872 = 0) = False := eq_false (by omega)
        have e7 : ((m : Int) / 144115188075855872 != 0) = true := by rw [bne_iff_ne]; omega
        rw [if_pos (.inr (.inr hm1))] at hS
        have HB := Lib.hid hS
        clear hS hm1
        go_wp2_with (fail)
        refine (cneeds_bad H2.out 5 (c.pos + _) (Nat.le_of_lt hlen) (by omega) (by omega) 5 _ rfl (by rw [HK.out]; omega)).mono ?_
        rintro e w5 ⟨rfl, h5, c5⟩
        go_wp2
        go_ret
        refine ⟨?_, ?_, (Chg.of_pure C2.out).trans' c5⟩
        · rw [shortC_form hw HB.out]; rfl
        · rw [shortC_form hw HB.out]; exact h5
      have e5 : ((0 : Int) < (m : Int) / 144115188075855872) = False := eq_false (by omega)
      have e7 : ((m : Int) / 144115188075855872 != 0) = false := by rw [bne_eq_false_iff_eq]; omega
      rw [if_neg (by rintro (h | h | h) <;> omega)] at hS
      have hor := or_low7 m x (by omega)
      have hm5 : (m : Int) * 128 < 18446744073709551616 := by omega
      obtain ⟨m2, hm2⟩ : ∃ m2, m * 128 + x.toNat % 128 = m2 := ⟨_, rfl⟩
      have hm6 : m2 < 18446744073709551616 := by omega
      rw [hm2] at hS hor
      clear hm2 hm1
      by_cases hx2 : x.toNat < 128
      · have e8 : (x.toNat : Int) < 128 := by omega
        rw [if_pos hx2] at hS
        have HB := Lib.hid hS
        clear hS hx2
        try clear e9b
        go_wp2_with (fail)
        go_ret
        obtain ⟨h5, c5⟩ := H2.out.goes (c.pos + (k + 1)) hlen _ (by rw [HK.out] <;> first | done | rfl | omega)
        rw [hw] at h5
        refine ⟨?_, ?_, (Chg.of_pure C2.out).trans' c5⟩
        · rw [shortC_good hw HB.out]; rfl
        · rw [shortC_good hw HB.out]; exact h5
      · have e8 : ((x.toNat : Int) < 128) = False := eq_false (by omega)
        rw [if_neg hx2] at hS
        have HB := Lib.hid hS
        clear hS hx2
        try clear e9b
        go_wp2_with (fail)
        go_roundw
        case rel => exact ⟨k + 1, m2, by omega, hm6, rfl, by go_num, (by first | rfl | trivial), HB⟩
        case measure => simp [intOf]; omega
    · have hkn : k = L := by omega
      have s3 : ((k : Int) < (L : Int)) = False := eq_false (by omega)
      have hnil : c.b.drop (c.pos + k) = [] := by rw [List.drop_eq_nil_iff, HK.out, HN.out]; omega
      have hS := HS.out
      rw [hnil] at hS
      have HB := Lib.hid hS
      clear hS HS hnil hkn
      go_wp2_with (fail)
      refine (cneeds_bad H2.out 3 c.b.length (Nat.le_refl _) (by omega) (by omega) 3 _ rfl (by rw [HN.out])).mono ?_
      rintro e w5 ⟨rfl, h5, c5⟩
      go_wp2
      go_ret
      refine ⟨?_, ?_, (Chg.of_pure C2.out).trans' c5⟩
      · rw [shortC_short hw HB.out]; rfl
      · rw [shortC_short hw HB.out]; exact h5
theorem cshort_any {w : World} {p : Nat} {A : Option Addr} {q : Nat} {c : Cr} (h : CurAt w p A q c) :
    Calls Try.prog 39 #[.pointer (some ⟨p, 0, none⟩)] w (shortPost w p A q c) := by
  by_cases hw : c.why = 0
  · by_cases he : c.pos = c.b.length
    · exact cshort_end h hw he
    · have hp := h.ok.pos
      obtain ⟨b, off, rfl, -⟩ := h.bytes.cells (by omega)
      exact cshort_more h hw (by omega)
  · exact cshort_fault h hw
end Go.Proofs.Ytnpkpfcljkekfaa
namespace Go.Proofs.Ytnpkpfcljkekfaa
open Go Go.RowKit
set_option linter.unusedVariables false
set_option maxRecDepth 100000
set_option linter.unusedSimpArgs false

/-- A cursor of the document's at p. -/
structure RCurAt (w : World) (p : Nat) (A : Option Addr) (q : Nat) (c : Cr) : Prop where
  blk : ∃ cs, w.heap[p]? = some (.cells cs 84 (0, 0)) ∧ cs.size = 4
  c1 : w.cell? ⟨p, 0, none⟩ = some (.slice A c.b.length q)
  c2 : w.cell? ⟨p, 1, none⟩ = some (.int .i64 (c.pos : Nat))
  c3 : w.cell? ⟨p, 2, none⟩ = some (.int .i64 (c.why : Nat))
  c4 : w.cell? ⟨p, 3, none⟩ = some (.int .i64 (c.fat : Nat))
  bytes : Bytes w A c.b.length c.b
  far : Off A (fun k => k = p)
  hq : c.b.length ≤ q
  ok : c.Ok c.b
  big : c.b.length ≤ 1200
theorem RCurAt.lt {w : World} {p : Nat} {A : Option Addr} {q : Nat} {c : Cr} (h : RCurAt w p A q c) : p < w.heap.size := by
  obtain ⟨cs, h1, -⟩ := h.blk
  exact (Array.getElem?_eq_some_iff.1 h1).1
theorem RCurAt.frame {S : Nat → Prop} {w w' : World} {p : Nat} {A : Option Addr} {q : Nat} {c : Cr} (h : RCurAt w p A q c) (hc : Chg S w w') (hp : ¬ S p) (hA : Off A S) : RCurAt w' p A q c := by
  obtain ⟨cs, h1, h2⟩ := h.blk
  exact ⟨⟨cs, (hc.block p h.lt hp).trans h1, h2⟩, hc.cell h.c1 hp, hc.cell h.c2 hp, hc.cell h.c3 hp, hc.cell h.c4 hp, h.bytes.chg hc hA, h.far, h.hq, h.ok, h.big⟩
theorem RCurAt.pure {w w' : World} {p : Nat} {A : Option Addr} {q : Nat} {c : Cr} (h : RCurAt w p A q c) (hc : Chg Pure' w w') : RCurAt w' p A q c := h.frame hc (fun h => h) (Off.pure A)
/-- Another place. -/
theorem RCurAt.goes {w : World} {p : Nat} {A : Option Addr} {q : Nat} {c : Cr} (h : RCurAt w p A q c) (k : Nat) (hk : k ≤ c.b.length) (v : Int) (hv : v = (k : Int)) :
    RCurAt (w.setCell ⟨p, 1, none⟩ (.int .i64 v)) p A q ⟨c.b, k, c.why, c.fat⟩ ∧ Chg (fun k => k = p) w (w.setCell ⟨p, 1, none⟩ (.int .i64 v)) := by
  subst hv
  have hc : Chg (fun k => k = p) w (w.setCell ⟨p, 1, none⟩ (.int .i64 (k : Int))) := Chg.setCell (S := fun k => k = p) (Chg.refl _ w) (p := ⟨p, 1, none⟩) (.inr rfl) _
  obtain ⟨cs, h1, h2⟩ := h.blk
  refine ⟨⟨⟨_, heap_setCell_same w p 1 _ _ _ h1, by simpa using h2⟩, (set_far (by omega)).trans h.c1, set_at h.c2, (set_far (by omega)).trans h.c3, (set_far (by omega)).trans h.c4, h.bytes.chg hc h.far, h.far, h.hq, ?_, h.big⟩, hc⟩
  exact ⟨rfl, hk, h.ok.fat, h.ok.why, h.ok.zero⟩
/-- A fault. -/
theorem RCurAt.fails {w : World} {p : Nat} {A : Option Addr} {q : Nat} {c : Cr} (h : RCurAt w p A q c) (e k : Nat) (hk : k ≤ c.b.length) (he : 1 ≤ e) (he5 : e ≤ 5) (v u : Int) (hv : v = (e : Int)) (hu : u = (k : Int)) :
    RCurAt ((w.setCell ⟨p, 2, none⟩ (.int .i64 v)).setCell ⟨p, 3, none⟩ (.int .i64 u)) p A q ⟨c.b, c.pos, e, k⟩ ∧ Chg (fun k => k = p) w ((w.setCell ⟨p, 2, none⟩ (.int .i64 v)).setCell ⟨p, 3, none⟩ (.int .i64 u)) := by
  subst hv hu
  have c1 : Chg (fun k => k = p) w (w.setCell ⟨p, 2, none⟩ (.int .i64 (e : Int))) := Chg.setCell (S := fun k => k = p) (Chg.refl _ w) (p := ⟨p, 2, none⟩) (.inr rfl) _
  have hc : Chg (fun k => k = p) w ((w.setCell ⟨p, 2, none⟩ (.int .i64 (e : Int))).setCell ⟨p, 3, none⟩ (.int .i64 (k : Int))) := Chg.setCell (S := fun k => k = p) c1 (p := ⟨p, 3, none⟩) (.inr rfl) _
  obtain ⟨cs, h1, h2⟩ := h.blk
  have h3 := heap_setCell_same w p 2 cs _ (.int .i64 (e : Int)) h1
  refine ⟨⟨⟨_, heap_setCell_same _ p 3 _ _ _ h3, by simpa using h2⟩, (set_far (by omega)).trans ((set_far (by omega)).trans h.c1), (set_far (by omega)).trans ((set_far (by omega)).trans h.c2),
    (set_far (by omega)).trans (set_at h.c3), set_at ((set_far (by omega)).trans h.c4), h.bytes.chg hc h.far, h.far, h.hq, ?_, h.big⟩, hc⟩
  exact ⟨rfl, h.ok.pos, hk, he5, fun h0 => by simp only at h0; omega⟩
theorem rfails_any {w : World} {p : Nat} {A : Option Addr} {q : Nat} {c : Cr} (h : RCurAt w p A q c) (hw : c.why = 0) (e k : Nat) (hk : k ≤ c.b.length) (he : 1 ≤ e) (he5 : e ≤ 5) (v u : Int) (hv : v = (e : Int)) (hu : u = (k : Int)) :
    Calls Try.prog 77 #[.pointer (some ⟨p, 0, none⟩), .int .i64 v, .int .i64 u] w fun e' w' => e' = .returned (.tuple #[]) ∧ RCurAt w' p A q ⟨c.b, c.pos, e, k⟩ ∧ Chg (fun k => k = p) w w' := by
  obtain ⟨cs, b1, b2⟩ := h.blk
  have x3 := h.c3
  have x4 := h.c4
  rw [hw] at x3
  have f3 : w.frozen? ⟨p, 2, none⟩ = false := free_at b1
  have f4 : w.frozen? ⟨p, 3, none⟩ = false := free_at b1
  have HF := Lib.hid (h.fails e k hk he he5 v u hv hu)
  clear h b1 b2 hv hu
  go_enter Try.func77, Try.ntmps77
  go_wp2_with (fail)
  first | go_end0 | (refine bodyPost_ret (results_none rfl _ _ _) rfl ?_)
  exact ⟨rfl, HF.out⟩
/-- What a read of a short number leaves. -/
def rshortPost (w : World) (p : Nat) (A : Option Addr) (q : Nat) (c : Cr) (e : Ending) (w' : World) : Prop :=
  e = .returned (.int .u64 ((shortC c).1 : Nat)) ∧ RCurAt w' p A q (shortC c).2 ∧ Chg (fun k => k = p) w w'
theorem rshort_fault {w : World} {p : Nat} {A : Option Addr} {q : Nat} {c : Cr} (h : RCurAt w p A q c) (hw : c.why ≠ 0) :
    Calls Try.prog 45 #[.pointer (some ⟨p, 0, none⟩)] w (rshortPost w p A q c) := by
  have HR := Lib.hid (shortC_why hw)
  have x3 := h.c3
  have i1 : ((c.why : Int) != 0) = true := by rw [bne_iff_ne]; omega
  have i2 : ((c.why : Int) = 0) = False := eq_false (by omega)
  go_enter Try.func45, Try.ntmps45
  go_wp2
  go_ret
  refine ⟨?_, ?_, Chg.refl _ _⟩
  · rw [HR.out]; rfl
  · rw [HR.out]; exact h
theorem rshort_more {w : World} {p : Nat} {A : Option Addr} {q : Nat} {c : Cr} (h : RCurAt w p A q c) (hw : c.why = 0) :
    Calls Try.prog 45 #[.pointer (some ⟨p, 0, none⟩)] w (rshortPost w p A q c) := by
  have x3 := h.c3
  rw [hw] at x3
  have hbig := h.big
  have hpos := h.ok.pos
  have H1 := Lib.hid h
  clear h
  obtain ⟨k0, hk0⟩ : ∃ k0, c.pos = k0 := ⟨_, rfl⟩
  obtain ⟨n0, hn0⟩ : ∃ n0, c.b.length = n0 := ⟨_, rfl⟩
  rw [hk0] at hpos
  rw [hn0] at hpos hbig
  have HK := Lib.hid hk0
  have HN := Lib.hid hn0
  clear hk0 hn0
  go_enter Try.func45, Try.ntmps45
  go_wp2_with (fail)
  clear x3
  go_loopw [3, 4] (fun nv i wr => ∃ (k m : Nat), k0 + k ≤ n0 ∧ m < 18446744073709551616 ∧ nv = .int .u64 (m : Nat) ∧ i = .int .i64 (k : Nat) ∧ Hid (Chg Pure' w wr) ∧ Hid (shGo (c.b.drop c.pos) 0 0 = shGo (c.b.drop (c.pos + k)) k m)) (fun _ i _ => n0 - (intOf i).toNat)
  case atStart => exact ⟨0, 0, by omega, by omega, rfl, rfl, Lib.hid (Chg.refl _ _), Lib.hid rfl⟩
  case round =>
    obtain ⟨k, m, hkL, hm, rfl, rfl, HC, HS⟩ := hrel
    have H2 := Lib.hid (H1.out.pure HC.out)
    have x1 := H2.out.c1
    have x2 := H2.out.c2
    rw [HK.out] at x2
    rw [HN.out] at x1
    by_cases hlt : k0 + k < n0
    · have hlen : c.pos + k < c.b.length := by rw [HK.out, HN.out]; omega
      obtain ⟨b, off, rfl, -⟩ := H2.out.bytes.cells (by omega)
      obtain ⟨x, hx⟩ : ∃ x, c.b[c.pos + k] = x := ⟨_, rfl⟩
      have hd : c.b.drop (c.pos + k) = x :: c.b.drop (c.pos + (k + 1)) := by rw [List.drop_eq_getElem_cons hlen, hx]; rfl
      have xc : wr.cell? ⟨b, off + (k0 + k), none⟩ = some (.int .u8 (x.toNat : Int)) := by
        have := byte_at H2.out.bytes (c.pos + k) (by omega)
        rw [List.getD_eq_getElem?_getD, List.getElem?_eq_getElem hlen, hx, HK.out] at this
        exact this
      have hS := HS.out
      rw [hd, shGo] at hS
      clear HS hd hx
      have i1 : (k0 : Int) + (k : Int) < (n0 : Int) := by omega
      have i2 : ((n0 : Int) ≤ (k0 : Int) + (k : Int)) = False := eq_false (by omega)
      go_wp2_with (fail)
      go_quiet (fail)
      go_wp2_with (fail)
      have cq : Chg Pure' wr (wr.drewN nq) := (Chg.refl _ wr).drewN _
      have HC2 := Lib.hid (HC.out.pure cq)
      have H3 := Lib.hid (H2.out.pure cq)
      have xc2 := cq.cell xc (fun h => h)
      have x3 := H3.out.c1
      have x4 := H3.out.c2
      rw [HK.out] at x4
      rw [HN.out] at x3
      clear cq x1 x2 xc HC H2
      generalize wr.drewN nq = w2 at *
      go_quiet (fail)
      have cq : Chg Pure' w2 (w2.drewN nq) := (Chg.refl _ w2).drewN _
      have HC4 := Lib.hid (HC2.out.pure cq)
      have H4 := Lib.hid (H3.out.pure cq)
      clear cq x3 x4 xc2 HC2 H3
      generalize w2.drewN nq = w4 at *
      have x2 := H4.out.c2
      rw [HK.out] at x2
      obtain ⟨cs, hb1, hb2⟩ := H4.out.blk
      have f2 : w4.frozen? ⟨p, 1, none⟩ = false := free_at hb1
      clear hb1 hb2
      have xc : True := trivial
      by_cases hk0 : k = 0
      · subst hk0
        try rw [Nat.add_zero] at xc
        by_cases hx1 : x.toNat = 128
        · have e1 : (x.toNat : Int) = 128 := by omega
          rw [if_pos (.inl ⟨rfl, hx1⟩)] at hS
          have HB := Lib.hid hS
          clear hS hx1
          try clear e9a
          try clear e5
          go_wp2_with (fail)
          refine (rfails_any H4.out hw 5 (c.pos + _) (Nat.le_of_lt hlen) (by omega) (by omega) 5 _ rfl (by rw [HK.out]; omega)).mono ?_
          rintro e w5 ⟨rfl, h5, c5⟩
          go_wp2
          go_ret
          refine ⟨?_, ?_, (Chg.of_pure HC4.out).trans' c5⟩
          · rw [shortC_form hw HB.out]; rfl
          · rw [shortC_form hw HB.out]; exact h5
        have e1 : ((x.toNat : Int) = 128) = False := eq_false (by omega)
        have e2 : ((x.toNat : Int) == 128) = false := by rw [beq_eq_false_iff_ne]; omega
        by_cases hm1 : 144115188075855872 ≤ m
        · have e5 : (0 : Int) < (m : Int) / 144115188075855872 := by omega
          have e6 : ((m : Int) / 144115188075855872 = 0) = False := eq_false (by omega)
          have e7 : ((m : Int) / 144115188075855872 != 0) = true := by rw [bne_iff_ne]; omega
          rw [if_pos (.inr (.inr hm1))] at hS
          have HB := Lib.hid hS
          clear hS hm1
          try clear e9a
          try clear e5
          go_wp2_with (fail)
          refine (rfails_any H4.out hw 5 (c.pos + _) (Nat.le_of_lt hlen) (by omega) (by omega) 5 _ rfl (by rw [HK.out]; omega)).mono ?_
          rintro e w5 ⟨rfl, h5, c5⟩
          go_wp2
          go_ret
          refine ⟨?_, ?_, (Chg.of_pure HC4.out).trans' c5⟩
          · rw [shortC_form hw HB.out]; rfl
          · rw [shortC_form hw HB.out]; exact h5
        have e5 : ((0 : Int) < (m : Int) / 144115188075855872) = False := eq_false (by omega)
        have e7 : ((m : Int) / 144115188075855872 != 0) = false := by rw [bne_eq_false_iff_eq]; omega
        rw [if_neg (by rintro (h | h | h) <;> omega)] at hS
        have hor := or_low7 m x (by omega)
        have hm5 : (m : Int) * 128 < 18446744073709551616 := by omega
        obtain ⟨m2, hm2⟩ : ∃ m2, m * 128 + x.toNat % 128 = m2 := ⟨_, rfl⟩
        have hm6 : m2 < 18446744073709551616 := by omega
        rw [hm2] at hS hor
        clear hm2 hm1
        by_cases hx2 : x.toNat < 128
        · have e8 : (x.toNat : Int) < 128 := by omega
          rw [if_pos hx2] at hS
          have HB := Lib.hid hS
          clear hS hx2
          try clear e9a
          try clear e5
          go_wp2_with (fail)
          go_ret
          obtain ⟨h5, c5⟩ := H4.out.goes (c.pos + (0 + 1)) hlen _ (by rw [HK.out] <;> first | done | rfl | omega)
          rw [hw] at h5
          refine ⟨?_, ?_, (Chg.of_pure HC4.out).trans' c5⟩
          · rw [shortC_good hw HB.out]; rfl
          · rw [shortC_good hw HB.out]; exact h5
        · have e8 : ((x.toNat : Int) < 128) = False := eq_false (by omega)
          rw [if_neg hx2] at hS
          have HB := Lib.hid hS
          clear hS hx2
          try clear e9a
          try clear e5
          go_wp2_with (fail)
          go_roundw
          case rel => exact ⟨0 + 1, m2, by omega, hm6, rfl, by go_num, HC4, HB⟩
          case measure => simp [intOf]; omega
      by_cases hk9 : k = 9
      · have e4 : ((k : Int) == 9) = true := by rw [hk9]; rfl
        have e2 : ((k : Int) == 0) = false := by rw [hk9]; rfl
        have HK9 := Lib.hid hk9
        clear hk0 hk9
        by_cases hx1 : 128 ≤ x.toNat
        · have e9a : (127 : Int) < (x.toNat : Int) := by omega
          have e9b : (128 : Int) ≤ (x.toNat : Int) := by omega
          rw [if_pos (.inr (.inl ⟨HK9.out, hx1⟩))] at hS
          have HB := Lib.hid hS
          clear hS hx1
          try clear e9a
          try clear e5
          go_wp2_with (fail)
          refine (rfails_any H4.out hw 5 (c.pos + _) (Nat.le_of_lt hlen) (by omega) (by omega) 5 _ rfl (by rw [HK.out]; omega)).mono ?_
          rintro e w5 ⟨rfl, h5, c5⟩
          go_wp2
          go_ret
          refine ⟨?_, ?_, (Chg.of_pure HC4.out).trans' c5⟩
          · rw [shortC_form hw HB.out]; rfl
          · rw [shortC_form hw HB.out]; exact h5
        have e9a : ((127 : Int) < (x.toNat : Int)) = False := eq_false (by omega)
        have e9b : ((128 : Int) ≤ (x.toNat : Int)) = False := eq_false (by omega)
        have e9c : (x.toNat : Int) ≤ 127 := by omega
        by_cases hm1 : 144115188075855872 ≤ m
        · have e5 : (0 : Int) < (m : Int) / 144115188075855872 := by omega
          have e6 : ((m : Int) / 144115188075855872 = 0) = False := eq_false (by omega)
          have e7 : ((m : Int) / 144115188075855872 != 0) = true := by rw [bne_iff_ne]; omega
          rw [if_pos (.inr (.inr hm1))] at hS
          have HB := Lib.hid hS
          clear hS hm1
          try clear e9a
          try clear e5
          go_wp2_with (fail)
          refine (rfails_any H4.out hw 5 (c.pos + _) (Nat.le_of_lt hlen) (by omega) (by omega) 5 _ rfl (by rw [HK.out]; omega)).mono ?_
          rintro e w5 ⟨rfl, h5, c5⟩
          go_wp2
          go_ret
          refine ⟨?_, ?_, (Chg.of_pure HC4.out).trans' c5⟩
          · rw [shortC_form hw HB.out]; rfl
          · rw [shortC_form hw HB.out]; exact h5
        have e5 : ((0 : Int) < (m : Int) / 144115188075855872) = False := eq_false (by omega)
        have e7 : ((m : Int) / 144115188075855872 != 0) = false := by rw [bne_eq_false_iff_eq]; omega
        rw [if_neg (by have := HK9.out; rintro (h | h | h) <;> omega)] at hS
        have hor := or_low7 m x (by omega)
        have hm5 : (m : Int) * 128 < 18446744073709551616 := by omega
        obtain ⟨m2, hm2⟩ : ∃ m2, m * 128 + x.toNat % 128 = m2 := ⟨_, rfl⟩
        have hm6 : m2 < 18446744073709551616 := by omega
        rw [hm2] at hS hor
        clear hm2 hm1
        have hx2 : x.toNat < 128 := by omega
        rw [if_pos hx2] at hS
        have HB := Lib.hid hS
        obtain ⟨xi, hxi⟩ : ∃ xi : Int, (x.toNat : Int) = xi := ⟨_, rfl⟩
        rw [hxi] at hor
        try rw [hxi] at xc
        try rw [hxi]
        have e8 : xi < 128 := by omega
        clear hS e9a e9b hx1 e9c
        have e9a : (127 < xi) = False := eq_false (by omega)
        have e9b : (128 ≤ xi) = False := eq_false (by omega)
        clear hxi hx2
        try clear e9a
        try clear e5
        go_wp2_with (fail)
        go_ret
        obtain ⟨h5, c5⟩ := H4.out.goes (c.pos + (k + 1)) hlen _ (by rw [HK.out] <;> first | done | rfl | omega)
        rw [hw] at h5
        refine ⟨?_, ?_, (Chg.of_pure HC4.out).trans' c5⟩
        · rw [shortC_good hw HB.out]; rfl
        · rw [shortC_good hw HB.out]; exact h5
      have e1 : ((k : Int) = 0) = False := eq_false (by omega)
      have e2 : ((k : Int) == 0) = false := by rw [beq_eq_false_iff_ne]; omega
      have e3 : ((k : Int) = 9) = False := eq_false (by omega)
      have e4 : ((k : Int) == 9) = false := by rw [beq_eq_false_iff_ne]; omega
      by_cases hm1 : 144115188075855872 ≤ m
      · have e5 : (0 : Int) < (m : Int) / 144115188075855872 := by omega
        have e6 : ((m : Int) / 144115188075855872 = 0) = False := eq_false (by omega)
        have e7 : ((m : Int) / 144115188075855872 != 0) = true := by rw [bne_iff_ne]; omega
        rw [if_pos (.inr (.inr hm1))] at hS
        have HB := Lib.hid hS
        clear hS hm1
        try clear e9a
        try clear e5
        go_wp2_with (fail)
        refine (rfails_any H4.out hw 5 (c.pos + _) (Nat.le_of_lt hlen) (by omega) (by omega) 5 _ rfl (by rw [HK.out]; omega)).mono ?_
        rintro e w5 ⟨rfl, h5, c5⟩
        go_wp2
        go_ret
        refine ⟨?_, ?_, (Chg.of_pure HC4.out).trans' c5⟩
        · rw [shortC_form hw HB.out]; rfl
        · rw [shortC_form hw HB.out]; exact h5
      have e5 : ((0 : Int) < (m : Int) / 144115188075855872) = False := eq_false (by omega)
      have e7 : ((m : Int) / 144115188075855872 != 0) = false := by rw [bne_eq_false_iff_eq]; omega
      rw [if_neg (by rintro (h | h | h) <;> omega)] at hS
      have hor := or_low7 m x (by omega)
      have hm5 : (m : Int) * 128 < 18446744073709551616 := by omega
      obtain ⟨m2, hm2⟩ : ∃ m2, m * 128 + x.toNat % 128 = m2 := ⟨_, rfl⟩
      have hm6 : m2 < 18446744073709551616 := by omega
      rw [hm2] at hS hor
      clear hm2 hm1
      by_cases hx2 : x.toNat < 128
      · have e8 : (x.toNat : Int) < 128 := by omega
        rw [if_pos hx2] at hS
        have HB := Lib.hid hS
        clear hS hx2
        try clear e9a
        try clear e5
        go_wp2_with (fail)
        go_ret
        obtain ⟨h5, c5⟩ := H4.out.goes (c.pos + (k + 1)) hlen _ (by rw [HK.out] <;> first | done | rfl | omega)
        rw [hw] at h5
        refine ⟨?_, ?_, (Chg.of_pure HC4.out).trans' c5⟩
        · rw [shortC_good hw HB.out]; rfl
        · rw [shortC_good hw HB.out]; exact h5
      · have e8 : ((x.toNat : Int) < 128) = False := eq_false (by omega)
        rw [if_neg hx2] at hS
        have HB := Lib.hid hS
        clear hS hx2
        try clear e9a
        try clear e5
        go_wp2_with (fail)
        go_roundw
        case rel => exact ⟨k + 1, m2, by omega, hm6, rfl, by go_num, HC4, HB⟩
        case measure => simp [intOf]; omega
    · have hkn : k0 + k = n0 := by omega
      have s3 : (n0 : Int) ≤ (k0 : Int) + (k : Int) := by omega
      have hnil : c.b.drop (c.pos + k) = [] := by rw [List.drop_eq_nil_iff, HK.out, HN.out]; omega
      have hS := HS.out
      rw [hnil] at hS
      have HB := Lib.hid hS
      clear hS HS hnil hkn
      go_wp2_with (fail)
      go_quiet (fail)
      have cq : Chg Pure' wr (wr.drewN nq) := (Chg.refl _ wr).drewN _
      have HC2 := Lib.hid (HC.out.pure cq)
      have H3 := Lib.hid (H2.out.pure cq)
      have x3 := H3.out.c1
      rw [HN.out] at x3
      clear cq x1 x2 HC H2
      generalize wr.drewN nq = w2 at *
      go_wp2_with (fail)
      refine (rfails_any H3.out hw 3 c.b.length (Nat.le_refl _) (by omega) (by omega) 3 _ rfl (by rw [HN.out])).mono ?_
      rintro e w5 ⟨rfl, h5, c5⟩
      go_wp2
      go_ret
      refine ⟨?_, ?_, (Chg.of_pure HC2.out).trans' c5⟩
      · rw [shortC_short hw HB.out]; rfl
      · rw [shortC_short hw HB.out]; exact h5
theorem rshort_any {w : World} {p : Nat} {A : Option Addr} {q : Nat} {c : Cr} (h : RCurAt w p A q c) :
    Calls Try.prog 45 #[.pointer (some ⟨p, 0, none⟩)] w (rshortPost w p A q c) := by
  by_cases hw : c.why = 0
  · exact rshort_more h hw
  · exact rshort_fault h hw
end Go.Proofs.Ytnpkpfcljkekfaa
namespace Go.Proofs.Ytnpkpfcljkekfaa
open Go Go.RowKit
set_option linter.unusedVariables false
set_option maxRecDepth 100000
set_option linter.unusedSimpArgs false

theorem zero_cursor (w : World) : (zeroValue 122).run Try.prog w = .ok (.agg #[.bool false, .slice none 0 0, .int .i64 0, .int .i64 0, .int .i64 0]) w := by kernel_rfl
theorem cnew_any (B : Option Addr) (d : Nat) (xs : List UInt8) (w : World) (hB : Bytes w B xs.length xs) (hx : xs.length ≤ 1200) :
    Calls Try.prog 37 #[.slice B xs.length d] w fun e w' => ∃ p A q, e = .returned (.pointer (some ⟨p, 0, none⟩)) ∧ CurAt w' p A q ⟨xs, 0, 0, 0⟩ ∧ w.heap.size ≤ p ∧ From A w.heap.size ∧ (∀ a, A = some a → a.block < w'.heap.size) ∧ Chg Pure' w w' := by
  have H := Lib.hid (clone_own B d xs.length xs w hB (by omega))
  have hz := zero_cursor
  clear hB
  go_enter Try.func37, Try.ntmps37
  go_wp2_with (fail)
  refine H.out.mono ?_
  rintro e w1 ⟨v, rfl, ho, c1⟩
  obtain ⟨A, q, rfl, hq, -, hA⟩ := own_slice ho
  obtain ⟨A', q', hv, -, hb, -⟩ := Bytes.of_own ho
  cases hv
  have ca : Chg Pure' w1 (w1.alloc (.cells #[.bool true, .slice A xs.length q, .int .i64 0, .int .i64 0, .int .i64 0] 122)) := (Chg.refl _ w1).alloc _
  have hF : CurAt (w1.alloc (.cells #[.bool true, .slice A xs.length q, .int .i64 0, .int .i64 0, .int .i64 0] 122)) w1.heap.size A q ⟨xs, 0, 0, 0⟩ := by
    have lit := fun j => cellAt_alloc_lit w1 #[.bool true, .slice A xs.length q, .int .i64 0, .int .i64 0, .int .i64 0] 122 j
    refine ⟨⟨_, heap_alloc_new w1 _, rfl⟩, lit 0, lit 1, lit 2, lit 3, lit 4, hb.pure ca, ?_, hq, ⟨rfl, Nat.zero_le _, Nat.zero_le _, by simp, fun _ => rfl⟩, hx⟩
    intro a ha e
    have := (hA a ha).2
    have e : a.block = w1.heap.size := e
    omega
  have hs := c1.size
  have HF := Lib.hid hF
  have hfr : From A w.heap.size := fun a ha => (hA a ha).1
  have hlt : ∀ a, A = some a → a.block < (w1.alloc (.cells #[.bool true, .slice A xs.length q, .int .i64 0, .int .i64 0, .int .i64 0] 122)).heap.size := fun a ha => by have := (hA a ha).2; have := ca.size; omega
  clear hF hb ho H hA
  go_wp2
  go_ret
  exact ⟨w1.heap.size, A, q, rfl, HF.out, hs, hfr, hlt, c1.pure ca⟩
theorem cleft_any {w : World} {p : Nat} {A : Option Addr} {q : Nat} {c : Cr} (h : CurAt w p A q c) :
    Calls Try.prog 41 #[.pointer (some ⟨p, 0, none⟩)] w fun e w' => e = .returned (.int .i64 ((c.b.length : Int) - c.pos)) ∧ Chg Pure' w w' := by
  have x1 := h.c1
  have x2 := h.c2
  have hbig := h.big
  have hpos := h.ok.pos
  generalize c.b.length = n at *
  generalize c.pos = k at *
  clear h
  go_enter Try.func41, Try.ntmps41
  go_wp2_with (fail)
  go_quiet (fail)
  go_wp2
  go_ret
  exact ⟨rfl, (Chg.refl _ w).drewN _⟩
/-- What is behind a Take of all that is left. -/
def takeC (c : Cr) : Cr := if c.why = 0 then ⟨c.b, c.b.length, 0, c.fat⟩ else c
set_option maxHeartbeats 4000000 in
theorem ctake0_fault {w : World} {p : Nat} {A : Option Addr} {q : Nat} {c : Cr} (h : CurAt w p A q c) (hw : c.why ≠ 0) (n : Int) :
    Calls Try.prog 75 #[.pointer (some ⟨p, 0, none⟩), .int .i64 n] w fun e w' => e = .returned (.slice none 0 0) ∧ Chg Pure' w w' := by
  have hd := h.pure ((Chg.refl Pure' w).drew)
  have H := Lib.hid (cwell_any hd false (by simp [hw]))
  clear h hd
  go_enter Try.func75, Try.ntmps75
  go_wp2_with (fail)
  refine reg_begin (Pure') (by kernel_rfl) ?_
  refine reg_take 0 (v := ?_) rfl (by kernel_rfl) (by kernel_rfl) (by kernel_rfl) (fun _ _ _ h => h) (by kernel_rfl) ?_ ?_
  rotate_left
  · (intro w' hS; go_simp; (try go_bits); (try with_reducible rfl))
  try simp only [Act.put, List.getElem_toArray, List.getElem_cons_zero, List.getElem_cons_succ, List.setIfInBounds_toArray, List.set_cons_zero, List.set_cons_succ]
  refine reg_do 1 rfl (by kernel_rfl) (by kernel_rfl) ?_
  intro K hK
  go_simp
  refine H.out.mono ?_
  rintro e w1 ⟨rfl, c1⟩
  refine hK _ _ (c1) ?_
  clear hK K
  try simp only [Act.put, List.getElem_toArray, List.getElem_cons_zero, List.getElem_cons_succ, List.setIfInBounds_toArray, List.set_cons_zero, List.set_cons_succ]
  refine reg_take 2 (v := ?_) rfl (by kernel_rfl) (by kernel_rfl) (by kernel_rfl) (fun _ _ _ h => h) (by kernel_rfl) ?_ ?_
  rotate_left
  · (intro w' hS; go_simp; (try go_bits); (try with_reducible rfl))
  try simp only [Act.put, List.getElem_toArray, List.getElem_cons_zero, List.getElem_cons_succ, List.setIfInBounds_toArray, List.set_cons_zero, List.set_cons_succ]
  refine reg_take 3 (v := ?_) rfl (by kernel_rfl) (by kernel_rfl) (by kernel_rfl) (fun _ _ _ h => h) (by kernel_rfl) ?_ ?_
  rotate_left
  · (intro w' hS; go_simp; (try go_bits); (try with_reducible rfl))
  try simp only [Act.put, List.getElem_toArray, List.getElem_cons_zero, List.getElem_cons_succ, List.setIfInBounds_toArray, List.set_cons_zero, List.set_cons_succ]
  refine reg_off 4 rfl (by kernel_rfl) (by kernel_rfl) (by kernel_rfl) (fun _ _ _ h => h) (by kernel_rfl) ?_
  try simp only [Act.put, List.getElem_toArray, List.getElem_cons_zero, List.getElem_cons_succ, List.setIfInBounds_toArray, List.set_cons_zero, List.set_cons_succ]
  refine reg_off 5 rfl (by kernel_rfl) (by kernel_rfl) (by kernel_rfl) (fun _ _ _ h => h) (by kernel_rfl) ?_
  try simp only [Act.put, List.getElem_toArray, List.getElem_cons_zero, List.getElem_cons_succ, List.setIfInBounds_toArray, List.set_cons_zero, List.set_cons_succ]
  refine reg_off 6 rfl (by kernel_rfl) (by kernel_rfl) (by kernel_rfl) (fun _ _ _ h => h) (by kernel_rfl) ?_
  try simp only [Act.put, List.getElem_toArray, List.getElem_cons_zero, List.getElem_cons_succ, List.setIfInBounds_toArray, List.set_cons_zero, List.set_cons_succ]
  refine reg_off 7 rfl (by kernel_rfl) (by kernel_rfl) (by kernel_rfl) (fun _ _ _ h => h) (by kernel_rfl) ?_
  try simp only [Act.put, List.getElem_toArray, List.getElem_cons_zero, List.getElem_cons_succ, List.setIfInBounds_toArray, List.set_cons_zero, List.set_cons_succ]
  refine reg_off 8 rfl (by kernel_rfl) (by kernel_rfl) (by kernel_rfl) (fun _ _ _ h => h) (by kernel_rfl) ?_
  try simp only [Act.put, List.getElem_toArray, List.getElem_cons_zero, List.getElem_cons_succ, List.setIfInBounds_toArray, List.set_cons_zero, List.set_cons_succ]
  refine reg_off 9 rfl (by kernel_rfl) (by kernel_rfl) (by kernel_rfl) (fun _ _ _ h => h) (by kernel_rfl) ?_
  try simp only [Act.put, List.getElem_toArray, List.getElem_cons_zero, List.getElem_cons_succ, List.setIfInBounds_toArray, List.set_cons_zero, List.set_cons_succ]
  refine reg_off 10 rfl (by kernel_rfl) (by kernel_rfl) (by kernel_rfl) (fun _ _ _ h => h) (by kernel_rfl) ?_
  try simp only [Act.put, List.getElem_toArray, List.getElem_cons_zero, List.getElem_cons_succ, List.setIfInBounds_toArray, List.set_cons_zero, List.set_cons_succ]
  refine reg_off 11 rfl (by kernel_rfl) (by kernel_rfl) (by kernel_rfl) (fun _ _ _ h => h) (by kernel_rfl) ?_
  try simp only [Act.put, List.getElem_toArray, List.getElem_cons_zero, List.getElem_cons_succ, List.setIfInBounds_toArray, List.set_cons_zero, List.set_cons_succ]
  refine reg_off 12 rfl (by kernel_rfl) (by kernel_rfl) (by kernel_rfl) (fun _ _ _ h => h) (by kernel_rfl) ?_
  try simp only [Act.put, List.getElem_toArray, List.getElem_cons_zero, List.getElem_cons_succ, List.setIfInBounds_toArray, List.set_cons_zero, List.set_cons_succ]
  refine reg_take 13 (v := ?_) rfl (by kernel_rfl) (by kernel_rfl) (by kernel_rfl) (fun _ _ _ h => h) (by kernel_rfl) ?_ ?_
  rotate_left
  · (intro w' hS; go_simp; (try go_bits); (try with_reducible rfl))
  try simp only [Act.put, List.getElem_toArray, List.getElem_cons_zero, List.getElem_cons_succ, List.setIfInBounds_toArray, List.set_cons_zero, List.set_cons_succ]
  refine reg_take 14 (v := ?_) rfl (by kernel_rfl) (by kernel_rfl) (by kernel_rfl) (fun _ _ _ h => h) (by kernel_rfl) ?_ ?_
  rotate_left
  · (intro w' hS; go_simp; (try go_bits); (try with_reducible rfl))
  try simp only [Act.put, List.getElem_toArray, List.getElem_cons_zero, List.getElem_cons_succ, List.setIfInBounds_toArray, List.set_cons_zero, List.set_cons_succ]
  refine reg_off 15 rfl (by kernel_rfl) (by kernel_rfl) (by kernel_rfl) (fun _ _ _ h => h) (by kernel_rfl) ?_
  try simp only [Act.put, List.getElem_toArray, List.getElem_cons_zero, List.getElem_cons_succ, List.setIfInBounds_toArray, List.set_cons_zero, List.set_cons_succ]
  refine reg_off 16 rfl (by kernel_rfl) (by kernel_rfl) (by kernel_rfl) (fun _ _ _ h => h) (by kernel_rfl) ?_
  try simp only [Act.put, List.getElem_toArray, List.getElem_cons_zero, List.getElem_cons_succ, List.setIfInBounds_toArray, List.set_cons_zero, List.set_cons_succ]
  refine reg_off 17 rfl (by kernel_rfl) (by kernel_rfl) (by kernel_rfl) (fun _ _ _ h => h) (by kernel_rfl) ?_
  try simp only [Act.put, List.getElem_toArray, List.getElem_cons_zero, List.getElem_cons_succ, List.setIfInBounds_toArray, List.set_cons_zero, List.set_cons_succ]
  refine reg_off 18 rfl (by kernel_rfl) (by kernel_rfl) (by kernel_rfl) (fun _ _ _ h => h) (by kernel_rfl) ?_
  try simp only [Act.put, List.getElem_toArray, List.getElem_cons_zero, List.getElem_cons_succ, List.setIfInBounds_toArray, List.set_cons_zero, List.set_cons_succ]
  refine reg_off 19 rfl (by kernel_rfl) (by kernel_rfl) (by kernel_rfl) (fun _ _ _ h => h) (by kernel_rfl) ?_
  try simp only [Act.put, List.getElem_toArray, List.getElem_cons_zero, List.getElem_cons_succ, List.setIfInBounds_toArray, List.set_cons_zero, List.set_cons_succ]
  refine reg_off 20 rfl (by kernel_rfl) (by kernel_rfl) (by kernel_rfl) (fun _ _ _ h => h) (by kernel_rfl) ?_
  try simp only [Act.put, List.getElem_toArray, List.getElem_cons_zero, List.getElem_cons_succ, List.setIfInBounds_toArray, List.set_cons_zero, List.set_cons_succ]
  refine reg_off 21 rfl (by kernel_rfl) (by kernel_rfl) (by kernel_rfl) (fun _ _ _ h => h) (by kernel_rfl) ?_
  try simp only [Act.put, List.getElem_toArray, List.getElem_cons_zero, List.getElem_cons_succ, List.setIfInBounds_toArray, List.set_cons_zero, List.set_cons_succ]
  refine reg_off 22 rfl (by kernel_rfl) (by kernel_rfl) (by kernel_rfl) (fun _ _ _ h => h) (by kernel_rfl) ?_
  try simp only [Act.put, List.getElem_toArray, List.getElem_cons_zero, List.getElem_cons_succ, List.setIfInBounds_toArray, List.set_cons_zero, List.set_cons_succ]
  refine reg_off 23 rfl (by kernel_rfl) (by kernel_rfl) (by kernel_rfl) (fun _ _ _ h => h) (by kernel_rfl) ?_
  try simp only [Act.put, List.getElem_toArray, List.getElem_cons_zero, List.getElem_cons_succ, List.setIfInBounds_toArray, List.set_cons_zero, List.set_cons_succ]
  refine reg_off 24 rfl (by kernel_rfl) (by kernel_rfl) (by kernel_rfl) (fun _ _ _ h => h) (by kernel_rfl) ?_
  try simp only [Act.put, List.getElem_toArray, List.getElem_cons_zero, List.getElem_cons_succ, List.setIfInBounds_toArray, List.set_cons_zero, List.set_cons_succ]
  refine reg_off 25 rfl (by kernel_rfl) (by kernel_rfl) (by kernel_rfl) (fun _ _ _ h => h) (by kernel_rfl) ?_
  try simp only [Act.put, List.getElem_toArray, List.getElem_cons_zero, List.getElem_cons_succ, List.setIfInBounds_toArray, List.set_cons_zero, List.set_cons_succ]
  refine reg_off 26 rfl (by kernel_rfl) (by kernel_rfl) (by kernel_rfl) (fun _ _ _ h => h) (by kernel_rfl) ?_
  try simp only [Act.put, List.getElem_toArray, List.getElem_cons_zero, List.getElem_cons_succ, List.setIfInBounds_toArray, List.set_cons_zero, List.set_cons_succ]
  refine reg_off 27 rfl (by kernel_rfl) (by kernel_rfl) (by kernel_rfl) (fun _ _ _ h => h) (by kernel_rfl) ?_
  try simp only [Act.put, List.getElem_toArray, List.getElem_cons_zero, List.getElem_cons_succ, List.setIfInBounds_toArray, List.set_cons_zero, List.set_cons_succ]
  refine reg_off 28 rfl (by kernel_rfl) (by kernel_rfl) (by kernel_rfl) (fun _ _ _ h => h) (by kernel_rfl) ?_
  try simp only [Act.put, List.getElem_toArray, List.getElem_cons_zero, List.getElem_cons_succ, List.setIfInBounds_toArray, List.set_cons_zero, List.set_cons_succ]
  refine reg_off 29 rfl (by kernel_rfl) (by kernel_rfl) (by kernel_rfl) (fun _ _ _ h => h) (by kernel_rfl) ?_
  try simp only [Act.put, List.getElem_toArray, List.getElem_cons_zero, List.getElem_cons_succ, List.setIfInBounds_toArray, List.set_cons_zero, List.set_cons_succ]
  refine reg_off 30 rfl (by kernel_rfl) (by kernel_rfl) (by kernel_rfl) (fun _ _ _ h => h) (by kernel_rfl) ?_
  try simp only [Act.put, List.getElem_toArray, List.getElem_cons_zero, List.getElem_cons_succ, List.setIfInBounds_toArray, List.set_cons_zero, List.set_cons_succ]
  refine reg_off 31 rfl (by kernel_rfl) (by kernel_rfl) (by kernel_rfl) (fun _ _ _ h => h) (by kernel_rfl) ?_
  try simp only [Act.put, List.getElem_toArray, List.getElem_cons_zero, List.getElem_cons_succ, List.setIfInBounds_toArray, List.set_cons_zero, List.set_cons_succ]
  refine reg_off 32 rfl (by kernel_rfl) (by kernel_rfl) (by kernel_rfl) (fun _ _ _ h => h) (by kernel_rfl) ?_
  try simp only [Act.put, List.getElem_toArray, List.getElem_cons_zero, List.getElem_cons_succ, List.setIfInBounds_toArray, List.set_cons_zero, List.set_cons_succ]
  refine reg_off 33 rfl (by kernel_rfl) (by kernel_rfl) (by kernel_rfl) (fun _ _ _ h => h) (by kernel_rfl) ?_
  try simp only [Act.put, List.getElem_toArray, List.getElem_cons_zero, List.getElem_cons_succ, List.setIfInBounds_toArray, List.set_cons_zero, List.set_cons_succ]
  refine reg_off 34 rfl (by kernel_rfl) (by kernel_rfl) (by kernel_rfl) (fun _ _ _ h => h) (by kernel_rfl) ?_
  try simp only [Act.put, List.getElem_toArray, List.getElem_cons_zero, List.getElem_cons_succ, List.setIfInBounds_toArray, List.set_cons_zero, List.set_cons_succ]
  refine reg_take 35 (v := ?_) rfl (by kernel_rfl) (by kernel_rfl) (by kernel_rfl) (fun _ _ _ h => h) (by kernel_rfl) ?_ ?_
  rotate_left
  · (intro w' hS; go_simp; (try go_bits); (try with_reducible rfl))
  try simp only [Act.put, List.getElem_toArray, List.getElem_cons_zero, List.getElem_cons_succ, List.setIfInBounds_toArray, List.set_cons_zero, List.set_cons_succ]
  refine wpAnyH_done (by kernel_rfl) ?_ _
  have C1 := ((Chg.refl Pure' w).drew).pure c1
  go_wp2
  go_ret
  exact ⟨rfl, C1⟩
/-- What the inner take leaves. -/
def take0Post (w : World) (p : Nat) (A : Option Addr) (q : Nat) (c : Cr) (e : Ending) (w' : World) : Prop :=
  ∃ B m d, e = .returned (.slice B m d) ∧ m = c.b.length - c.pos ∧ Bytes w' B m (c.b.drop c.pos) ∧ CurAt w' p A q (takeC c) ∧ Chg (fun k => k = p) w w'
set_option maxHeartbeats 4000000 in
theorem ctake0_rest {w : World} {p : Nat} {A : Option Addr} {q : Nat} {c : Cr} (h : CurAt w p A q c) (hw : c.why = 0) (n : Int) (hn : n = (c.b.length : Int) - c.pos) :
    Calls Try.prog 75 #[.pointer (some ⟨p, 0, none⟩), .int .i64 n] w (take0Post w p A q c) := by
  have hd := h.pure ((Chg.refl Pure' w).drew)
  have H := Lib.hid (cwell_any hd true (by simp [hw]))
  have HD := Lib.hid hd
  have hpos := h.ok.pos
  have hbig := h.big
  have hq := h.hq
  subst hn
  clear h hd
  go_enter Try.func75, Try.ntmps75
  go_wp2_with (fail)
  refine reg_begin (Pure') (by kernel_rfl) ?_
  refine reg_take 0 (v := ?_) rfl (by kernel_rfl) (by kernel_rfl) (by kernel_rfl) (fun _ _ _ h => h) (by kernel_rfl) ?_ ?_
  rotate_left
  · (intro w' hS; go_simp; (try go_bits); (try with_reducible rfl))
  try simp only [Act.put, List.getElem_toArray, List.getElem_cons_zero, List.getElem_cons_succ, List.setIfInBounds_toArray, List.set_cons_zero, List.set_cons_succ]
  refine reg_do 1 rfl (by kernel_rfl) (by kernel_rfl) ?_
  intro K hK
  go_simp
  refine H.out.mono ?_
  rintro e w1 ⟨rfl, c1⟩
  refine hK _ _ (c1) ?_
  clear hK K
  try simp only [Act.put, List.getElem_toArray, List.getElem_cons_zero, List.getElem_cons_succ, List.setIfInBounds_toArray, List.set_cons_zero, List.set_cons_succ]
  have H1 := Lib.hid (HD.out.pure c1)
  have C1 := ((Chg.refl Pure' w).drew).pure c1
  clear HD H c1
  have x1 := H1.out.c1
  have x2 := H1.out.c2
  generalize hn0 : c.b.length = n0 at *
  generalize hk0 : c.pos = k0 at *
  have i1 : (0 : Int) ≤ (n0 : Int) - k0 := by omega
  refine reg_take 2 (v := ?_) rfl (by kernel_rfl) (by kernel_rfl) (by kernel_rfl) (fun _ _ _ h => h) (by kernel_rfl) ?_ ?_
  rotate_left
  · (intro w' hS; go_simp; (try go_bits); (try with_reducible rfl))
  try simp only [Act.put, List.getElem_toArray, List.getElem_cons_zero, List.getElem_cons_succ, List.setIfInBounds_toArray, List.set_cons_zero, List.set_cons_succ]
  refine reg_take 3 (v := ?_) rfl (by kernel_rfl) (by kernel_rfl) (by kernel_rfl) (fun _ _ _ h => h) (by kernel_rfl) ?_ ?_
  rotate_left
  · (intro w' hS; go_simp; (try go_bits); (try with_reducible rfl))
  try simp only [Act.put, List.getElem_toArray, List.getElem_cons_zero, List.getElem_cons_succ, List.setIfInBounds_toArray, List.set_cons_zero, List.set_cons_succ]
  refine reg_take 4 (v := ?_) rfl (by kernel_rfl) (by kernel_rfl) (by kernel_rfl) (fun _ _ _ h => h) (by kernel_rfl) ?_ ?_
  rotate_left
  · (intro w' hS; go_simp; (try go_bits); (try with_reducible rfl))
  try simp only [Act.put, List.getElem_toArray, List.getElem_cons_zero, List.getElem_cons_succ, List.setIfInBounds_toArray, List.set_cons_zero, List.set_cons_succ]
  refine reg_take 5 (v := ?_) rfl (by kernel_rfl) (by kernel_rfl) (by kernel_rfl) (fun _ _ _ h => h) (by kernel_rfl) ?_ ?_
  rotate_left
  · (intro w' hS; go_simp; (try go_bits); (try with_reducible rfl))
  try simp only [Act.put, List.getElem_toArray, List.getElem_cons_zero, List.getElem_cons_succ, List.setIfInBounds_toArray, List.set_cons_zero, List.set_cons_succ]
  refine reg_take 6 (v := ?_) rfl (by kernel_rfl) (by kernel_rfl) (by kernel_rfl) (fun _ _ _ h => h) (by kernel_rfl) ?_ ?_
  rotate_left
  · (intro w' hS; go_simp; (try go_bits); (try with_reducible rfl))
  try simp only [Act.put, List.getElem_toArray, List.getElem_cons_zero, List.getElem_cons_succ, List.setIfInBounds_toArray, List.set_cons_zero, List.set_cons_succ]
  refine reg_take 7 (v := ?_) rfl (by kernel_rfl) (by kernel_rfl) (by kernel_rfl) (fun _ _ _ h => h) (by kernel_rfl) ?_ ?_
  rotate_left
  · (intro w' hS; go_simp; (try go_bits); (try with_reducible rfl))
  try simp only [Act.put, List.getElem_toArray, List.getElem_cons_zero, List.getElem_cons_succ, List.setIfInBounds_toArray, List.set_cons_zero, List.set_cons_succ]
  refine reg_take 8 (v := ?_) rfl (by kernel_rfl) (by kernel_rfl) (by kernel_rfl) (fun _ _ _ h => h) (by kernel_rfl) ?_ ?_
  rotate_left
  · (intro w' hS; go_simp; (try go_bits); (try with_reducible rfl))
  try simp only [Act.put, List.getElem_toArray, List.getElem_cons_zero, List.getElem_cons_succ, List.setIfInBounds_toArray, List.set_cons_zero, List.set_cons_succ]
  refine reg_take 9 (v := ?_) rfl (by kernel_rfl) (by kernel_rfl) (by kernel_rfl) (fun _ _ _ h => h) (by kernel_rfl) ?_ ?_
  rotate_left
  · (intro w' hS; go_simp; (try go_bits); (try with_reducible rfl))
  try simp only [Act.put, List.getElem_toArray, List.getElem_cons_zero, List.getElem_cons_succ, List.setIfInBounds_toArray, List.set_cons_zero, List.set_cons_succ]
  refine reg_take 10 (v := ?_) rfl (by kernel_rfl) (by kernel_rfl) (by kernel_rfl) (fun _ _ _ h => h) (by kernel_rfl) ?_ ?_
  rotate_left
  · (intro w' hS; have hz := hS.cell (w := w1) x2 (fun h => h); go_simp; (try go_bits); (try with_reducible rfl))
  try simp only [Act.put, List.getElem_toArray, List.getElem_cons_zero, List.getElem_cons_succ, List.setIfInBounds_toArray, List.set_cons_zero, List.set_cons_succ]
  refine reg_do 11 rfl (by kernel_rfl) (by kernel_rfl) ?_
  intro K hK
  go_simp
  refine (cneeds_ok (w := w1) (p := p) 1 _).mono ?_
  rintro e w2 ⟨rfl, rfl⟩
  refine hK _ _ (Chg.refl _ _) ?_
  clear hK K
  try simp only [Act.put, List.getElem_toArray, List.getElem_cons_zero, List.getElem_cons_succ, List.setIfInBounds_toArray, List.set_cons_zero, List.set_cons_succ]
  refine reg_take 12 (v := ?_) rfl (by kernel_rfl) (by kernel_rfl) (by kernel_rfl) (fun _ _ _ h => h) (by kernel_rfl) ?_ ?_
  rotate_left
  · (intro w' hS; go_simp; (try go_bits); (try with_reducible rfl))
  try simp only [Act.put, List.getElem_toArray, List.getElem_cons_zero, List.getElem_cons_succ, List.setIfInBounds_toArray, List.set_cons_zero, List.set_cons_succ]
  refine reg_take 13 (v := ?_) rfl (by kernel_rfl) (by kernel_rfl) (by kernel_rfl) (fun _ _ _ h => h) (by kernel_rfl) ?_ ?_
  rotate_left
  · (intro w' hS; go_simp; (try go_bits); (try with_reducible rfl))
  try simp only [Act.put, List.getElem_toArray, List.getElem_cons_zero, List.getElem_cons_succ, List.setIfInBounds_toArray, List.set_cons_zero, List.set_cons_succ]
  refine reg_take 14 (v := ?_) rfl (by kernel_rfl) (by kernel_rfl) (by kernel_rfl) (fun _ _ _ h => h) (by kernel_rfl) ?_ ?_
  rotate_left
  · (intro w' hS; go_simp; (try go_bits); (try with_reducible rfl))
  try simp only [Act.put, List.getElem_toArray, List.getElem_cons_zero, List.getElem_cons_succ, List.setIfInBounds_toArray, List.set_cons_zero, List.set_cons_succ]
  refine reg_take 15 (v := ?_) rfl (by kernel_rfl) (by kernel_rfl) (by kernel_rfl) (fun _ _ _ h => h) (by kernel_rfl) ?_ ?_
  rotate_left
  · (intro w' hS; go_simp; (try go_bits); (try with_reducible rfl))
  try simp only [Act.put, List.getElem_toArray, List.getElem_cons_zero, List.getElem_cons_succ, List.setIfInBounds_toArray, List.set_cons_zero, List.set_cons_succ]
  refine reg_take 16 (v := ?_) rfl (by kernel_rfl) (by kernel_rfl) (by kernel_rfl) (fun _ _ _ h => h) (by kernel_rfl) ?_ ?_
  rotate_left
  · (intro w' hS; go_simp; (try go_bits); (try with_reducible rfl))
  try simp only [Act.put, List.getElem_toArray, List.getElem_cons_zero, List.getElem_cons_succ, List.setIfInBounds_toArray, List.set_cons_zero, List.set_cons_succ]
  refine reg_take 17 (v := ?_) rfl (by kernel_rfl) (by kernel_rfl) (by kernel_rfl) (fun _ _ _ h => h) (by kernel_rfl) ?_ ?_
  rotate_left
  · (intro w' hS; go_simp; (try go_bits); (try with_reducible rfl))
  try simp only [Act.put, List.getElem_toArray, List.getElem_cons_zero, List.getElem_cons_succ, List.setIfInBounds_toArray, List.set_cons_zero, List.set_cons_succ]
  refine reg_take 18 (v := ?_) rfl (by kernel_rfl) (by kernel_rfl) (by kernel_rfl) (fun _ _ _ h => h) (by kernel_rfl) ?_ ?_
  rotate_left
  · (intro w' hS; go_simp; (try go_bits); (try with_reducible rfl))
  try simp only [Act.put, List.getElem_toArray, List.getElem_cons_zero, List.getElem_cons_succ, List.setIfInBounds_toArray, List.set_cons_zero, List.set_cons_succ]
  refine reg_take 19 (v := ?_) rfl (by kernel_rfl) (by kernel_rfl) (by kernel_rfl) (fun _ _ _ h => h) (by kernel_rfl) ?_ ?_
  rotate_left
  · (intro w' hS; go_simp; (try go_bits); (try with_reducible rfl))
  try simp only [Act.put, List.getElem_toArray, List.getElem_cons_zero, List.getElem_cons_succ, List.setIfInBounds_toArray, List.set_cons_zero, List.set_cons_succ]
  refine reg_take 20 (v := ?_) rfl (by kernel_rfl) (by kernel_rfl) (by kernel_rfl) (fun _ _ _ h => h) (by kernel_rfl) ?_ ?_
  rotate_left
  · (intro w' hS; have hz := hS.cell (w := w1) x1 (fun h => h); go_simp; (try go_bits); (try with_reducible rfl))
  try simp only [Act.put, List.getElem_toArray, List.getElem_cons_zero, List.getElem_cons_succ, List.setIfInBounds_toArray, List.set_cons_zero, List.set_cons_succ]
  refine reg_take 21 (v := ?_) rfl (by kernel_rfl) (by kernel_rfl) (by kernel_rfl) (fun _ _ _ h => h) (by kernel_rfl) ?_ ?_
  rotate_left
  · (intro w' hS; go_simp; (try go_bits); (try with_reducible rfl))
  try simp only [Act.put, List.getElem_toArray, List.getElem_cons_zero, List.getElem_cons_succ, List.setIfInBounds_toArray, List.set_cons_zero, List.set_cons_succ]
  refine reg_take 22 (v := ?_) rfl (by kernel_rfl) (by kernel_rfl) (by kernel_rfl) (fun _ _ _ h => h) (by kernel_rfl) ?_ ?_
  rotate_left
  · (intro w' hS; go_simp; (try go_bits); (try with_reducible rfl))
  try simp only [Act.put, List.getElem_toArray, List.getElem_cons_zero, List.getElem_cons_succ, List.setIfInBounds_toArray, List.set_cons_zero, List.set_cons_succ]
  refine reg_take 23 (v := ?_) rfl (by kernel_rfl) (by kernel_rfl) (by kernel_rfl) (fun _ _ _ h => h) (by kernel_rfl) ?_ ?_
  rotate_left
  · (intro w' hS; go_simp; (try go_bits); (try with_reducible rfl))
  try simp only [Act.put, List.getElem_toArray, List.getElem_cons_zero, List.getElem_cons_succ, List.setIfInBounds_toArray, List.set_cons_zero, List.set_cons_succ]
  refine reg_take 24 (v := ?_) rfl (by kernel_rfl) (by kernel_rfl) (by kernel_rfl) (fun _ _ _ h => h) (by kernel_rfl) ?_ ?_
  rotate_left
  · (intro w' hS; go_simp; (try go_bits); (try with_reducible rfl))
  try simp only [Act.put, List.getElem_toArray, List.getElem_cons_zero, List.getElem_cons_succ, List.setIfInBounds_toArray, List.set_cons_zero, List.set_cons_succ]
  refine reg_take 25 (v := ?_) rfl (by kernel_rfl) (by kernel_rfl) (by kernel_rfl) (fun _ _ _ h => h) (by kernel_rfl) ?_ ?_
  rotate_left
  · (intro w' hS; have hz := hS.cell (w := w1) x2 (fun h => h); go_simp; (try go_bits); (try with_reducible rfl))
  try simp only [Act.put, List.getElem_toArray, List.getElem_cons_zero, List.getElem_cons_succ, List.setIfInBounds_toArray, List.set_cons_zero, List.set_cons_succ]
  refine reg_take 26 (v := ?_) rfl (by kernel_rfl) (by kernel_rfl) (by kernel_rfl) (fun _ _ _ h => h) (by kernel_rfl) ?_ ?_
  rotate_left
  · (intro w' hS; go_simp; (try go_bits); (try with_reducible rfl))
  try simp only [Act.put, List.getElem_toArray, List.getElem_cons_zero, List.getElem_cons_succ, List.setIfInBounds_toArray, List.set_cons_zero, List.set_cons_succ]
  refine reg_take 27 (v := ?_) rfl (by kernel_rfl) (by kernel_rfl) (by kernel_rfl) (fun _ _ _ h => h) (by kernel_rfl) ?_ ?_
  rotate_left
  · (intro w' hS; go_simp; (try go_bits); (try with_reducible rfl))
  try simp only [Act.put, List.getElem_toArray, List.getElem_cons_zero, List.getElem_cons_succ, List.setIfInBounds_toArray, List.set_cons_zero, List.set_cons_succ]
  refine reg_take 28 (v := ?_) rfl (by kernel_rfl) (by kernel_rfl) (by kernel_rfl) (fun _ _ _ h => h) (by kernel_rfl) ?_ ?_
  rotate_left
  · (intro w' hS; go_simp; (try go_bits); (try with_reducible rfl))
  try simp only [Act.put, List.getElem_toArray, List.getElem_cons_zero, List.getElem_cons_succ, List.setIfInBounds_toArray, List.set_cons_zero, List.set_cons_succ]
  refine reg_take 29 (v := ?_) rfl (by kernel_rfl) (by kernel_rfl) (by kernel_rfl) (fun _ _ _ h => h) (by kernel_rfl) ?_ ?_
  rotate_left
  · (intro w' hS; go_simp; (try go_bits); (try with_reducible rfl))
  try simp only [Act.put, List.getElem_toArray, List.getElem_cons_zero, List.getElem_cons_succ, List.setIfInBounds_toArray, List.set_cons_zero, List.set_cons_succ]
  refine reg_take 30 (v := ?_) rfl (by kernel_rfl) (by kernel_rfl) (by kernel_rfl) (fun _ _ _ h => h) (by kernel_rfl) ?_ ?_
  rotate_left
  · (intro w' hS; go_simp; (try go_bits); (try with_reducible rfl))
  try simp only [Act.put, List.getElem_toArray, List.getElem_cons_zero, List.getElem_cons_succ, List.setIfInBounds_toArray, List.set_cons_zero, List.set_cons_succ]
  refine reg_take 31 (v := ?_) rfl (by kernel_rfl) (by kernel_rfl) (by kernel_rfl) (fun _ _ _ h => h) (by kernel_rfl) ?_ ?_
  rotate_left
  · (intro w' hS; have hz := hS.cell (w := w1) x1 (fun h => h); go_simp; (try go_bits); (try with_reducible rfl))
  try simp only [Act.put, List.getElem_toArray, List.getElem_cons_zero, List.getElem_cons_succ, List.setIfInBounds_toArray, List.set_cons_zero, List.set_cons_succ]
  refine reg_take 32 (v := ?_) rfl (by kernel_rfl) (by kernel_rfl) (by kernel_rfl) (fun _ _ _ h => h) (by kernel_rfl) ?_ ?_
  rotate_left
  · (intro w' hS; go_simp; (try go_bits); (try with_reducible rfl))
  try simp only [Act.put, List.getElem_toArray, List.getElem_cons_zero, List.getElem_cons_succ, List.setIfInBounds_toArray, List.set_cons_zero, List.set_cons_succ]
  refine reg_do 33 rfl (by kernel_rfl) (by kernel_rfl) ?_
  intro K hK
  go_simp
  refine (cneeds_ok (w := w1) (p := p) 3 _).mono ?_
  rintro e w2 ⟨rfl, rfl⟩
  refine hK _ _ (Chg.refl _ _) ?_
  clear hK K
  try simp only [Act.put, List.getElem_toArray, List.getElem_cons_zero, List.getElem_cons_succ, List.setIfInBounds_toArray, List.set_cons_zero, List.set_cons_succ]
  refine reg_take 34 (v := ?_) rfl (by kernel_rfl) (by kernel_rfl) (by kernel_rfl) (fun _ _ _ h => h) (by kernel_rfl) ?_ ?_
  rotate_left
  · (intro w' hS; go_simp; (try go_bits); (try with_reducible rfl))
  try simp only [Act.put, List.getElem_toArray, List.getElem_cons_zero, List.getElem_cons_succ, List.setIfInBounds_toArray, List.set_cons_zero, List.set_cons_succ]
  refine reg_take 35 (v := ?_) rfl (by kernel_rfl) (by kernel_rfl) (by kernel_rfl) (fun _ _ _ h => h) (by kernel_rfl) ?_ ?_
  rotate_left
  · (intro w' hS; go_simp; (try go_bits); (try with_reducible rfl))
  try simp only [Act.put, List.getElem_toArray, List.getElem_cons_zero, List.getElem_cons_succ, List.setIfInBounds_toArray, List.set_cons_zero, List.set_cons_succ]
  refine wpAnyH_done (by kernel_rfl) ?_ _
  obtain ⟨h3, c3⟩ := H1.out.goes n0 (by omega) ((k0 : Int) + ((n0 : Int) - k0)) (by omega)
  obtain ⟨cs, hb1, hb2⟩ := H1.out.blk
  have f2 : w1.frozen? ⟨p, 2, none⟩ = false := free_at hb1
  clear hb1 hb2
  have H3 := Lib.hid h3
  have C3 := (Chg.of_pure (S := fun k => k = p) C1).trans' c3
  clear h3 c3
  go_upto_region 5 with (fail)
  clear x1 x2 f2
  generalize (w1.setCell ⟨p, 2, none⟩ (Value.int IntKind.i64 ((k0 : Int) + ((n0 : Int) - k0)))) = w3 at *
  have x1 : w3.cell? ⟨p, 1, none⟩ = some (.slice A n0 q) := by rw [← hn0]; exact H3.out.c1
  have x2 : w3.cell? ⟨p, 2, none⟩ = some (.int .i64 (n0 : Nat)) := H3.out.c2
  have i2 : (k0 : Int) ≤ (n0 : Int) := by omega
  have i3 : (n0 : Int) ≤ (q : Int) := by omega
  go_quiet (fail)
  have cq : Chg Pure' w3 (w3.drewN nq) := (Chg.refl _ w3).drewN _
  have hb0 : Bytes w3 A n0 c.b := by have := H3.out.bytes; rwa [show (⟨c.b, n0, c.why, c.fat⟩ : Cr).b.length = n0 from hn0] at this
  have hb := (hb0.sliced (c := n0) (lo := k0) (hi := n0) (by omega) (Nat.le_refl _) (Nat.le_refl _) _ rfl).pure cq
  rw [List.take_of_length_le (by omega)] at hb
  generalize (if n0 = k0 then A else Option.map (fun x => x.add k0) A) = A' at *
  have HB := Lib.hid hb
  have H4 := Lib.hid (H3.out.pure cq)
  have C4 := C3.pure cq
  clear hb hb0 cq x1 x2 H3 C3
  go_wp2
  go_ret
  refine ⟨A', n0 - k0, n0 - k0, rfl, by rw [hn0, hk0], by rw [hk0]; exact HB.out, ?_, C4⟩
  unfold takeC
  rw [if_pos hw, hn0]
  have := H4.out
  rwa [hw] at this
/-- What a Take of all that is left leaves. -/
def takePost (w : World) (p : Nat) (A : Option Addr) (q : Nat) (c : Cr) (e : Ending) (w' : World) : Prop :=
  ∃ B m d, e = .returned (.slice B m d) ∧ m ≤ d ∧ (c.why = 0 → m = c.b.length - c.pos ∧ Bytes w' B m (c.b.drop c.pos)) ∧ From B w.heap.size ∧ CurAt w' p A q (takeC c) ∧ Chg (fun k => k = p) w w'
theorem ctake_any {w : World} {p : Nat} {A : Option Addr} {q : Nat} {c : Cr} (h : CurAt w p A q c) (n : Int) (hn : n = (c.b.length : Int) - c.pos) :
    Calls Try.prog 40 #[.pointer (some ⟨p, 0, none⟩), .int .i64 n] w (takePost w p A q c) := by
  by_cases hw : c.why = 0
  · have H := Lib.hid (ctake0_rest h hw n hn)
    have hbig := h.big
    clear h hn
    go_enter Try.func40, Try.ntmps40
    go_wp2_with (fail)
    refine H.out.mono ?_
    rintro e w1 ⟨B, m, d, rfl, hm, hb, h1, c1⟩
    have HC := Lib.hid (clone_any B d _ _ w1 hb (by omega))
    have HL := Lib.hid h1
    have HM := Lib.hid hm
    clear h1 hb H hm
    go_wp2_with (fail)
    refine HC.out.mono ?_
    rintro e w2 ⟨A', c', rfl, hle, hb2, hf2, c2⟩
    have H2 := Lib.hid (HL.out.pure c2)
    have hs := c1.size
    clear HC HL
    go_wp2
    go_ret
    exact ⟨A', m, c', rfl, hle, fun _ => ⟨HM.out, hb2⟩, fun a ha => Nat.le_trans hs (hf2 a ha), H2.out, c1.pure c2⟩
  · have H := Lib.hid (ctake0_fault h hw n)
    clear hn
    have HC := fun w1 => Lib.hid (clone_any none 0 0 [] w1 (Bytes.nil _ _) (by omega))
    go_enter Try.func40, Try.ntmps40
    go_wp2_with (fail)
    refine H.out.mono ?_
    rintro e w1 ⟨rfl, c1⟩
    go_wp2_with (fail)
    refine (HC w1).out.mono ?_
    rintro e w2 ⟨A', c', rfl, hle, hb2, hf2, c2⟩
    have hs := c1.size
    have C2 := c1.pure c2
    have H2 := Lib.hid (h.pure C2)
    clear h H HC
    go_wp2
    go_ret
    exact ⟨A', 0, c', rfl, hle, fun h => absurd h hw, fun a ha => Nat.le_trans hs (hf2 a ha), by unfold takeC; rw [if_neg hw]; exact H2.out, Chg.of_pure C2⟩
end Go.Proofs.Ytnpkpfcljkekfaa
namespace Go.Proofs.Ytnpkpfcljkekfaa
open Go Go.RowKit
set_option linter.unusedVariables false
set_option maxRecDepth 100000
set_option linter.unusedSimpArgs false

/-- What a Take of all that is left leaves. -/
def rtakePost (w : World) (p : Nat) (A : Option Addr) (q : Nat) (c : Cr) (e : Ending) (w' : World) : Prop :=
  ∃ B m d, e = .returned (.slice B m d) ∧ m ≤ d ∧ (c.why = 0 → m = c.b.length - c.pos ∧ Bytes w' B m (c.b.drop c.pos)) ∧ From B w.heap.size ∧ RCurAt w' p A q (takeC c) ∧ Chg (fun k => k = p) w w'
set_option maxHeartbeats 4000000 in
theorem rtake_any {w : World} {p : Nat} {A : Option Addr} {q : Nat} {c : Cr} (h : RCurAt w p A q c) (n : Int) (hn : n = (c.b.length : Int) - c.pos) :
    Calls Try.prog 46 #[.pointer (some ⟨p, 0, none⟩), .int .i64 n] w (rtakePost w p A q c) := by
  by_cases hw : c.why = 0
  · have x1 := h.c1
    have x2 := h.c2
    have x3 := h.c3
    rw [hw] at x3
    have hpos := h.ok.pos
    have hbig := h.big
    have hq := h.hq
    have H1 := Lib.hid h
    have HP := Lib.hid h.lt
    subst hn
    clear h
    obtain ⟨k0, hk0⟩ : ∃ k0, c.pos = k0 := ⟨_, rfl⟩
    obtain ⟨n0, hn0⟩ : ∃ n0, c.b.length = n0 := ⟨_, rfl⟩
    rw [hn0] at x1 hpos hbig hq
    rw [hk0] at x2 hpos
    rw [hn0, hk0]
    have HK := Lib.hid hk0
    have HN := Lib.hid hn0
    clear hk0 hn0
    have i1 : ((n0 : Int) - k0 < 0) = False := eq_false (by omega)
    have i2 : (k0 : Int) ≤ (n0 : Int) := by omega
    have i3 : (n0 : Int) ≤ (q : Int) := by omega
    go_enter Try.func46, Try.ntmps46
    go_wp2_with (fail)
    go_quiet (fail)
    have cq : Chg Pure' w (w.drewN nq) := (Chg.refl _ w).drewN _
    have CC := Lib.hid cq
    have H3 := Lib.hid (H1.out.pure cq)
    have x1 := cq.cell x1 (fun h => h)
    have x2 := cq.cell x2 (fun h => h)
    clear cq H1 x3
    generalize w.drewN nq = w2 at *
    go_wp2_with (fail)
    have hA : Bytes w2.drew A n0 c.b := by have := H3.out.bytes.pure ((Chg.refl Pure' w2).drew); rwa [HN.out] at this
    have hb := hA.sliced (c := q) (lo := k0) (hi := n0) (by omega) (Nat.le_refl _) (by omega) _ rfl
    rw [List.take_of_length_le (by rw [HN.out]; omega)] at hb
    obtain ⟨A', hA'⟩ : ∃ A', (if q = k0 then A else Option.map (fun x => x.add k0) A) = A' := ⟨_, rfl⟩
    rw [hA'] at hb
    obtain ⟨v5, w5, hr5, ho5, c5⟩ := own_cat8 (n := 0) (c := q - k0) (xs := []) (World.ownsRow_nil w2.drew w2.drew.heap.size 5 1 : w2.drew.ownsRow w2.drew.heap.size 5 1 (.slice none 0 0) 0 (enc [])) hb (Nat.le_refl _) (by omega)
    have c5 : Chg Pure' w2.drew w5 := c5.mono (fun k hk e => by cases e)
    have C5 := Lib.hid c5
    rw [Nat.zero_add, List.nil_append] at ho5
    have HO5 := Lib.hid ho5
    have HA' := Lib.hid hA'
    clear hb hA ho5 c5 hA'
    refine reg_begin (Pure') (by kernel_rfl) ?_
    refine reg_take 0 (v := ?_) rfl (by kernel_rfl) (by kernel_rfl) (by kernel_rfl) (fun _ _ _ h => h) (by kernel_rfl) ?_ ?_
    rotate_left
    · (intro w' hS; go_simp; (try go_bits); (try with_reducible rfl))
    try simp only [Act.put, List.getElem_toArray, List.getElem_cons_zero, List.getElem_cons_succ, List.setIfInBounds_toArray, List.set_cons_zero, List.set_cons_succ]
    refine reg_take 1 (v := ?_) rfl (by kernel_rfl) (by kernel_rfl) (by kernel_rfl) (fun _ _ _ h => h) (by kernel_rfl) ?_ ?_
    rotate_left
    · (intro w' hS; go_simp; (try go_bits); (try with_reducible rfl))
    try simp only [Act.put, List.getElem_toArray, List.getElem_cons_zero, List.getElem_cons_succ, List.setIfInBounds_toArray, List.set_cons_zero, List.set_cons_succ]
    refine reg_take 2 (v := ?_) rfl (by kernel_rfl) (by kernel_rfl) (by kernel_rfl) (fun _ _ _ h => h) (by kernel_rfl) ?_ ?_
    rotate_left
    · (intro w' hS; go_simp; (try go_bits); (try with_reducible rfl))
    try simp only [Act.put, List.getElem_toArray, List.getElem_cons_zero, List.getElem_cons_succ, List.setIfInBounds_toArray, List.set_cons_zero, List.set_cons_succ]
    refine reg_take 3 (v := ?_) rfl (by kernel_rfl) (by kernel_rfl) (by kernel_rfl) (fun _ _ _ h => h) (by kernel_rfl) ?_ ?_
    rotate_left
    · (intro w' hS; have hz := hS.cell (w := w2.drew) x1 (fun h => h); go_simp; (try go_bits); (try with_reducible rfl))
    try simp only [Act.put, List.getElem_toArray, List.getElem_cons_zero, List.getElem_cons_succ, List.setIfInBounds_toArray, List.set_cons_zero, List.set_cons_succ]
    refine reg_take 4 (v := ?_) rfl (by kernel_rfl) (by kernel_rfl) (by kernel_rfl) (fun _ _ _ h => h) (by kernel_rfl) ?_ ?_
    rotate_left
    · (intro w' hS; go_simp; (try go_bits); (try with_reducible rfl))
    try simp only [Act.put, List.getElem_toArray, List.getElem_cons_zero, List.getElem_cons_succ, List.setIfInBounds_toArray, List.set_cons_zero, List.set_cons_succ]
    refine reg_take 5 (v := ?_) rfl (by kernel_rfl) (by kernel_rfl) (by kernel_rfl) (fun _ _ _ h => h) (by kernel_rfl) ?_ ?_
    rotate_left
    · (intro w' hS; go_simp; (try go_bits); (try with_reducible rfl))
    try simp only [Act.put, List.getElem_toArray, List.getElem_cons_zero, List.getElem_cons_succ, List.setIfInBounds_toArray, List.set_cons_zero, List.set_cons_succ]
    refine reg_take 6 (v := ?_) rfl (by kernel_rfl) (by kernel_rfl) (by kernel_rfl) (fun _ _ _ h => h) (by kernel_rfl) ?_ ?_
    rotate_left
    · (intro w' hS; go_simp; (try go_bits); (try with_reducible rfl))
    try simp only [Act.put, List.getElem_toArray, List.getElem_cons_zero, List.getElem_cons_succ, List.setIfInBounds_toArray, List.set_cons_zero, List.set_cons_succ]
    refine reg_take 7 (v := ?_) rfl (by kernel_rfl) (by kernel_rfl) (by kernel_rfl) (fun _ _ _ h => h) (by kernel_rfl) ?_ ?_
    rotate_left
    · (intro w' hS; have hz := hS.cell (w := w2.drew) x2 (fun h => h); go_simp; (try go_bits); (try with_reducible rfl))
    try simp only [Act.put, List.getElem_toArray, List.getElem_cons_zero, List.getElem_cons_succ, List.setIfInBounds_toArray, List.set_cons_zero, List.set_cons_succ]
    refine reg_take 8 (v := ?_) rfl (by kernel_rfl) (by kernel_rfl) (by kernel_rfl) (fun _ _ _ h => h) (by kernel_rfl) ?_ ?_
    rotate_left
    · (intro w' hS; go_simp; (try go_bits); (try with_reducible rfl))
    try simp only [Act.put, List.getElem_toArray, List.getElem_cons_zero, List.getElem_cons_succ, List.setIfInBounds_toArray, List.set_cons_zero, List.set_cons_succ]
    refine reg_take 9 (v := ?_) rfl (by kernel_rfl) (by kernel_rfl) (by kernel_rfl) (fun _ _ _ h => h) (by kernel_rfl) ?_ ?_
    rotate_left
    · (intro w' hS; go_simp; (try go_bits); (try with_reducible rfl))
    try simp only [Act.put, List.getElem_toArray, List.getElem_cons_zero, List.getElem_cons_succ, List.setIfInBounds_toArray, List.set_cons_zero, List.set_cons_succ]
    refine reg_take 10 (v := ?_) rfl (by kernel_rfl) (by kernel_rfl) (by kernel_rfl) (fun _ _ _ h => h) (by kernel_rfl) ?_ ?_
    rotate_left
    · (intro w' hS; go_simp; (try go_bits); (try with_reducible rfl))
    try simp only [Act.put, List.getElem_toArray, List.getElem_cons_zero, List.getElem_cons_succ, List.setIfInBounds_toArray, List.set_cons_zero, List.set_cons_succ]
    refine reg_take 11 (v := ?_) rfl (by kernel_rfl) (by kernel_rfl) (by kernel_rfl) (fun _ _ _ h => h) (by kernel_rfl) ?_ ?_
    rotate_left
    · (intro w' hS; have hz := hS.cell (w := w2.drew) x2 (fun h => h); go_simp; (try go_bits); (try with_reducible rfl))
    try simp only [Act.put, List.getElem_toArray, List.getElem_cons_zero, List.getElem_cons_succ, List.setIfInBounds_toArray, List.set_cons_zero, List.set_cons_succ]
    refine reg_take 12 (v := ?_) rfl (by kernel_rfl) (by kernel_rfl) (by kernel_rfl) (fun _ _ _ h => h) (by kernel_rfl) ?_ ?_
    rotate_left
    · (intro w' hS; go_simp; (try go_bits); (try with_reducible rfl))
    try simp only [Act.put, List.getElem_toArray, List.getElem_cons_zero, List.getElem_cons_succ, List.setIfInBounds_toArray, List.set_cons_zero, List.set_cons_succ]
    refine reg_take 13 (v := ?_) rfl (by kernel_rfl) (by kernel_rfl) (by kernel_rfl) (fun _ _ _ h => h) (by kernel_rfl) ?_ ?_
    rotate_left
    · (intro w' hS; go_simp; (try go_bits); (try with_reducible rfl))
    try simp only [Act.put, List.getElem_toArray, List.getElem_cons_zero, List.getElem_cons_succ, List.setIfInBounds_toArray, List.set_cons_zero, List.set_cons_succ]
    rw [show (k0 : Int) + ((n0 : Int) - (k0 : Int)) = (n0 : Int) from by omega]
    refine reg_take 14 (v := ?_) rfl (by kernel_rfl) (by kernel_rfl) (by kernel_rfl) (fun _ _ _ h => h) (by kernel_rfl) ?_ ?_
    rotate_left
    · (intro w' hS; go_simp; (try go_bits); (try with_reducible rfl))
    try simp only [Act.put, List.getElem_toArray, List.getElem_cons_zero, List.getElem_cons_succ, List.setIfInBounds_toArray, List.set_cons_zero, List.set_cons_succ]
    rw [HA'.out]
    refine reg_do 15 rfl (by kernel_rfl) (by kernel_rfl) ?_
    intro K hK
    refine Lib.wp_append_run _ _ _ _ _ rfl _ _ rfl rfl _ _ hr5 ?_
    refine hK _ _ (C5.out) ?_
    clear hK K
    try simp only [Act.put, List.getElem_toArray, List.getElem_cons_zero, List.getElem_cons_succ, List.setIfInBounds_toArray, List.set_cons_zero, List.set_cons_succ]
    refine reg_take 16 (v := ?_) rfl (by kernel_rfl) (by kernel_rfl) (by kernel_rfl) (fun _ _ _ h => h) (by kernel_rfl) ?_ ?_
    rotate_left
    · (intro w' hS; go_simp; (try go_bits); (try with_reducible rfl))
    try simp only [Act.put, List.getElem_toArray, List.getElem_cons_zero, List.getElem_cons_succ, List.setIfInBounds_toArray, List.set_cons_zero, List.set_cons_succ]
    refine wpAnyH_done (by kernel_rfl) ?_ _
    have H5 := Lib.hid (H3.out.pure (((Chg.refl Pure' w2).drew).trans' C5.out))
    have C6 := Lib.hid (CC.out.pure (((Chg.refl Pure' w2).drew).trans' C5.out))
    obtain ⟨B, d, rfl, hd, hB, hBF⟩ := Bytes.of_own HO5.out
    have HB := Lib.hid hB
    have hs : w.heap.size ≤ w2.drew.heap.size := CC.out.size
    have hBf : From B w.heap.size := fun a ha => Nat.le_trans hs (hBF a ha)
    have HBF := Lib.hid hBf
    clear hB hBF hBf HO5 C5 CC HA' H3 hs c5 hr5 x1 x2
    have x2 := H5.out.c2
    rw [HK.out] at x2
    obtain ⟨cs, hb1, hb2⟩ := H5.out.blk
    have f2 : w5.frozen? ⟨p, 1, none⟩ = false := free_at hb1
    clear hb1 hb2
    obtain ⟨h7, c7⟩ := H5.out.goes c.b.length (Nat.le_refl _) ((k0 : Int) + ((n0 : Int) - k0)) (by rw [HN.out]; omega)
    have hfar : Off B (fun k => k = p) := fun a ha e => by
      have h1 := HBF.out a ha
      have h2 := HP.out
      have e : a.block = p := e
      omega
    have hb7 := HB.out.chg c7 hfar
    have H7 := Lib.hid h7
    have HB7 := Lib.hid hb7
    have C7 := (Chg.of_pure (S := fun k => k = p) C6.out).trans' c7
    clear h7 hb7 c7 HB C6
    go_wp2
    go_ret
    refine ⟨B, n0 - k0, d, rfl, hd, fun _ => ⟨by rw [HN.out, HK.out], by rw [HK.out]; exact HB7.out⟩, HBF.out, ?_, C7⟩
    unfold takeC
    rw [if_pos hw]
    have := H7.out
    rwa [hw] at this
  · have x3 := h.c3
    have i1 : ((c.why : Int) != 0) = true := by rw [bne_iff_ne]; omega
    have i2 : ((c.why : Int) = 0) = False := eq_false (by omega)
    go_enter Try.func46, Try.ntmps46
    clear hn
    go_wp2
    go_ret
    exact ⟨none, 0, 0, rfl, Nat.le_refl _, fun h => absurd h hw, (fun a ha => by cases ha), (by unfold takeC; rw [if_neg hw]; exact h), Chg.refl _ _⟩
end Go.Proofs.Ytnpkpfcljkekfaa
