/- A datagram is turned. -/
import Derived.Test.YtnpkpfcljkekfaaLinkU
import Derived.Test.YtnpkpfcljkekfaaRegL
import Derived.Test.YtnpkpfcljkekfaaTurned
namespace Go.Proofs.Ytnpkpfcljkekfaa
open Go Go.RowKit
set_option linter.unusedVariables false
set_option maxRecDepth 100000
set_option linter.unusedSimpArgs false

theorem gcells_put : ∀ (G : List Gd) (i : Nat) (d : Gd), i < G.length → ((gcells G).set (i * 2) (.slice d.A d.xs.length d.c)).set (i * 2 + 1) (.bool d.sp) = gcells (G.set i d)
  | [], i, d, h => by simp at h
  | x :: G, 0, d, h => by simp [gcells]
  | x :: G, i + 1, d, h => by
    have ih := gcells_put G i d (by simpa using h)
    have e : gcells (x :: G) = .slice x.A x.xs.length x.c :: .bool x.sp :: gcells G := by simp [gcells]
    have e2 : gcells ((x :: G).set (i + 1) d) = .slice x.A x.xs.length x.c :: .bool x.sp :: gcells (G.set i d) := by simp [gcells]
    rw [e, e2, ← ih, show (i + 1) * 2 = i * 2 + 1 + 1 from by omega]
    rfl
theorem byteK_xor (z : UInt8) (b : UInt32) (k : Nat) (hk : k < 4) : bits .xor .u8 (z.toNat : Int) ((b.toNat : Int) / ((2 ^ (8 * k) : Nat) : Int) % 256) = ((z ^^^ byteK b k).toNat : Int) := by
  have e : ((b.toNat : Int) / ((2 ^ (8 * k) : Nat) : Int) % 256) = ((byteK b k).toNat : Int) := by
    unfold byteK
    rw [UInt8.toNat_ofNat']
    generalize 2 ^ (8 * k) = m
    have h1 : ((b.toNat / m % 256 : Nat) : Int) = (b.toNat : Int) / (m : Int) % 256 := by simp
    rw [← h1]
    congr 1
    omega
  rw [e, bits_xor_u8]
/-- One datagram of net I has other bytes, new ones. -/
theorem LinkAt.turn0 {w w' : World} {B : Base} {col : Nat → Nat} {m : Lm} (h : LinkAt w B col m) (i : Nat) (d : Gd) (hr : w'.ownsRow B 109 2 m.v0 m.G0.length (gcells (m.G0.set i d))) (hc : Chg (fun k => m.v0.ownBlock = some k) w w')
    (hb : Bytes w' d.A d.xs.length d.xs) (hcap : d.xs.length ≤ d.c) (hbig : d.xs.length ≤ 1208) (hn : ∀ a, d.A = some a → w.heap.size ≤ a.block ∧ a.block < w'.heap.size) :
    LinkAt w' B (paint col w.heap.size w'.heap.size 9) { m with G0 := m.G0.set i d } := by
  have hS : ∀ k, k < w.heap.size → m.v0.ownBlock = some k → col k = 7 := fun k _ hk => h.gr0.cv k hk
  have s := h.stays (col' := paint col w.heap.size w'.heap.size 9) (fun c => c = 7) hc hS (by decide) (fun k hk => paint_old _ _ _ _ _ hk)
  have hG : GramsAt w' B (paint col w.heap.size w'.heap.size 9) m.v0 7 (m.G0.set i d) := by
    refine ⟨by rw [List.length_set]; exact hr, ?_, ?_⟩
    · intro g hg
      rw [paint_old _ _ _ _ _ (by rw [h.gr0.cv g hg]; decide), h.gr0.cv g hg]
    · intro x hx
      rcases List.mem_or_eq_of_mem_set hx with hx | rfl
      · exact s.ds0 x hx
      · exact ⟨hb, hcap, hbig, fun a ha => paint_new h _ 9 _ (hn a ha).1 (hn a ha).2⟩
  exact ⟨paint_own h 9 h.base_le hc.size, (s.lk (by decide)).of rfl rfl rfl rfl rfl rfl rfl rfl rfl, (s.nbk (by decide)).of rfl rfl rfl, s.n0 (by decide), s.n1 (by decide), s.snd (by decide), s.rcv (by decide), hG, s.gr1 (by decide), s.k3, s.k4, s.k5, s.k6, s.k1, s.k2, by rw [List.length_set]; exact h.l0, h.l1, h.now⟩
set_option maxHeartbeats 16000000 in
theorem lturn_ok0 {w : World} {B : Base} {col : Nat → Nat} {L : Lm} (h : LinkAt w B col L) (i : Nat) (hi : i < L.G0.length) (at_ : Int) (hat : -9223372036854775808 ≤ at_ ∧ at_ ≤ 9223372036854775807) (by_ : UInt32) (h8 : (L.G0[i]).sp = false → 8 ≤ (L.G0[i]).xs.length) :
    Calls Try.prog 55 #[.pointer (some ⟨L.p, 0, none⟩), .int .i64 0, .int .i64 (i : Nat), .int .i64 at_, .int .u32 (by_.toNat : Int)] w (outPost w B L.p (if (L.G0[i]).sp = true then (18, L.pl) else (0, { L.pl with G0 := L.pl.G0.set i (turnB (L.G0[i]).xs at_ by_, by_ != 0) }))) := by
  have H := Lib.hid (lfind_ok0 h i hi)
  have y0 := h.n0.c0
  have hrow := h.gr0.row
  have hd := h.gr0.ds _ (List.getElem_mem hi)
  obtain ⟨d, hdE⟩ : ∃ d, L.G0[i] = d := ⟨_, rfl⟩
  have hget := gcells_getU L.G0 i hi
  have hget2 := gcells_getV L.G0 i hi
  rw [hdE] at hd hget hget2 h8 ⊢
  obtain ⟨V, q, hv, hnq, hV, -⟩ := own_slice hrow
  obtain ⟨g, rfl, -⟩ := hV (by omega)
  rw [hv] at y0 hrow
  have xg := (hrow.cellAt (i * 2) (by omega)).trans hget
  have xh := (hrow.cellAt (i * 2 + 1) (by omega)).trans hget2
  have HH := Lib.hid h
  have HGD := Lib.hid hd
  have HV := Lib.hid hv
  have HROW := Lib.hid hrow
  have HDE := Lib.hid hdE
  have fg : ∀ j, w.frozen? ⟨g, j, none⟩ = false := fun j => hrow.frozenAt j
  clear h hv hget hget2 hrow hdE
  have i1 : (i : Int) < (L.G0.length : Int) := by omega
  obtain ⟨n, hn⟩ : ∃ n, L.G0.length = n := ⟨_, rfl⟩
  have HN := Lib.hid hn
  rw [hn] at i1 y0 hnq hi
  clear hn
  cases hsp : d.sp with
  | true =>
    rw [if_pos rfl]
    rw [hsp] at xh
    clear h8 hd hat
    go_enter Try.func55, Try.ntmps55
    go_wp2_with (fail)
    refine H.out.mono ?_
    rintro e w1 ⟨rfl, rfl⟩
    go_wp2
    go_ret
    exact ⟨rfl, LinkIn.mk HH.out rfl rfl, Chg.refl _ _⟩
  | false =>
    rw [if_neg (by simp)]
    rw [hsp] at xh h8
    have hn8 := h8 rfl
    have hbig := hd.big
    have HCL := Lib.hid (clone_own d.A d.c d.xs.length d.xs w hd.bytes (by omega))
    obtain ⟨ln, hln⟩ : ∃ ln, d.xs.length = ln := ⟨_, rfl⟩
    rw [hln] at xg HCL hn8 hbig
    have HLN := Lib.hid hln
    clear hln h8 hd
    go_enter Try.func55, Try.ntmps55
    go_wp2_with (fail)
    refine H.out.mono ?_
    rintro e w1 ⟨rfl, rfl⟩
    go_wp2_with (fail)
    refine HCL.out.mono ?_
    rintro e w1 ⟨v1, rfl, ho1, c1⟩
    obtain ⟨V1, q1, rfl, hq1, hV1, -⟩ := own_slice ho1
    obtain ⟨r, rfl, hrB⟩ := hV1 (by omega)
    have hgr : g < w.heap.size := (HROW.out.lt g rfl).2
    have xg1 := c1.cell xg (fun h => h)
    have xh1 := c1.cell xh (fun h => h)
    have hr1 := own_keep HROW.out c1 (fun _ _ h => h)
    have f1 : ∀ j, w1.frozen? ⟨g, j, none⟩ = false := fun j => hr1.frozenAt j
    obtain ⟨hr2, -⟩ := hr1.stored (i * 2) (.slice (some ⟨r, 0, none⟩) ln q1)
    have cs2 : Chg (fun k => k = g) w1 (w1.setCell ⟨g, i * 2, none⟩ (.slice (some ⟨r, 0, none⟩) ln q1)) := Chg.setCell (S := fun k => k = g) (Chg.refl _ w1) (p := ⟨g, i * 2, none⟩) (.inr rfl) _
    have hrg : r ≠ g := by omega
    have ho2 := own_keep ho1 cs2 (fun k hk e => by
      have e1 : r = k := by simpa [Value.ownBlock] using hk
      have e : k = g := e
      omega)
    have xg2 := set_at (v := .slice (some ⟨r, 0, none⟩) ln q1) xg1
    have xh2 := (set_far (w := w1) (p := g) (i := i * 2) (j := i * 2 + 1) (v := .slice (some ⟨r, 0, none⟩) ln q1) (by omega)).trans xh1
    have C2 := (Chg.of_pure (S := fun k => k = g) c1).trans' cs2
    have HR2 := Lib.hid hr2
    have HO2 := Lib.hid ho2
    have HC2 := Lib.hid C2
    have hs1 := c1.size
    clear hr1 hr2 cs2 ho1 ho2 C2 c1 fg xg xh HCL y0 H
    have k1 : (ln : Int) - 3 ≠ 0 := by omega
    have k2 : (0 : Int) < (ln : Int) - 3 := by omega
    go_upto_region 9 with (fail)
    generalize (w1.setCell ⟨g, i * 2, none⟩ (.slice (some ⟨r, 0, none⟩) ln q1)) = w2 at *
    clear xg1 xh1 f1
    obtain ⟨pl, hpl⟩ : ∃ pl : Nat, (ln : Int) - 3 = (pl : Int) := ⟨ln - 3, by omega⟩
    rw [hpl] at k1 k2 ⊢
    have hplN : pl = ln - 3 := by omega
    have HPL := Lib.hid hplN
    clear hplN hpl
    have b1 := Int.tmod_lt_of_pos at_ k2
    have b2 : -(pl : Int) < at_.tmod pl := Int.lt_tmod_of_pos at_ k2
    have b3 : 0 ≤ (at_.tmod pl + pl).tmod pl := Int.tmod_nonneg _ (by omega)
    have b4 := Int.tmod_lt_of_pos (at_.tmod pl + pl) k2
    obtain ⟨a, ha⟩ : ∃ a : Nat, (at_.tmod pl + pl).tmod pl = (a : Int) := ⟨((at_.tmod pl + pl).tmod pl).toNat, by omega⟩
    have hTA : turnAt d.xs.length at_ = a := by
      unfold turnAt
      rw [HLN.out, ← HPL.out, ha]
      exact Int.toNat_natCast a
    have HTA := Lib.hid hTA
    clear hTA
    have hal : a + 4 ≤ ln := by have := HPL.out; omega
    have HA := Lib.hid ha
    go_upto_region 10 with (fail)
    have hwr : wrap64 (at_.tmod pl + pl) = at_.tmod pl + pl := by
      have := HPL.out
      unfold wrap64
      omega
    rw [hwr, HA.out]
    clear HA ha b3 b4 hwr b1 b2 k1 k2 HPL
    have hrB2 : w.heap.size ≤ r := hrB
    have HX0 : Hid (w2.ownsRow w.heap.size 5 1 (.slice (some ⟨r, 0, none⟩) ln q1) ln (enc (xorAt d.xs a by_ 0))) := HO2
    go_wp2_with (fail)
    go_loopw [57] (fun i57 wr => ∃ k : Nat, k ≤ 4 ∧ i57 = .int .i64 k ∧ Hid (wr.ownsRow w.heap.size 5 1 (.slice (some ⟨r, 0, none⟩) ln q1) ln (enc (xorAt d.xs a by_ k))) ∧ Hid (Chg (fun k => k = r) w2 wr)) (fun i57 _ => 4 - (intOf i57).toNat)
    case atStart => exact ⟨0, by omega, rfl, HX0, Lib.hid (Chg.refl _ _)⟩
    case round =>
      obtain ⟨k, hk, rfl, HO, HC⟩ := hrel
      have xg3 := HC.out.cell xg2 (fun e : g = r => hrg e.symm)
      have xh3 := HC.out.cell xh2 (fun e : g = r => hrg e.symm)
      have hxl : (xorAt d.xs a by_ k).length = ln := by rw [xorAt_length]; exact HLN.out
      by_cases hlt : k < 4
      · obtain ⟨x0, f0⟩ := own_cell8 HO.out (i := a + k) (by omega)
        obtain ⟨z, hz⟩ : ∃ z, (xorAt d.xs a by_ k).getD (a + k) 0 = z := ⟨_, rfl⟩
        rw [hz] at x0
        have hx := byteK_xor z by_ k hlt
        obtain ⟨ho2, -⟩ := HO.out.stored (a + k) (.int .u8 ((z ^^^ byteK by_ k).toNat : Int))
        rw [enc_set] at ho2
        have HO3 : Hid (_) := Lib.hid ho2
        have hs : xorAt d.xs a by_ (k + 1) = (xorAt d.xs a by_ k).set (a + k) (z ^^^ byteK by_ k) := by rw [xorAt, hz]
        rw [← hs] at HO3
        have cs : Chg (fun k => k = r) wr (wr.setCell ⟨r, a + k, none⟩ (.int .u8 ((z ^^^ byteK by_ k).toNat : Int))) := Chg.setCell (S := fun k => k = r) (Chg.refl _ wr) (p := ⟨r, a + k, none⟩) (.inr rfl) _
        have HC3 := Lib.hid (HC.out.trans' cs)
        have j1 : (k : Int) < 4 := by omega
        clear ho2 cs HO HC hs hz hxl
        have k4 : k = 0 ∨ k = 1 ∨ k = 2 ∨ k = 3 := by omega
        clear hlt hk
        obtain ⟨zz, hzz⟩ : ∃ zz : UInt8, z ^^^ byteK by_ k = zz := ⟨_, rfl⟩
        rw [hzz] at hx HO3 HC3
        clear hzz
        obtain ⟨m, hm⟩ : ∃ m, a + k = m := ⟨_, rfl⟩
        rw [hm] at x0 f0 HO3 HC3
        rcases k4 with rfl | rfl | rfl | rfl
        · have jm : (m : Int) < (ln : Int) := by omega
          obtain rfl : m = a := by omega
          have hx2 : bits .xor .u8 (z.toNat : Int) ((by_.toNat : Int) % 256) = (zz.toNat : Int) := by
            rw [show ((2 ^ (8 * 0) : Nat) : Int) = 1 from rfl] at hx
            rw [Int.ediv_one] at hx; exact hx
          clear hx
          go_wp2_with (fail)
          refine regL_begin 16 (Pure') (by kernel_rfl) ?_
          refine regL_take 0 (v := ?_) rfl (by kernel_rfl) (by kernel_rfl) (by kernel_rfl) (by kernel_rfl) (fun _ _ _ h => h) (by kernel_rfl) ?_ ?_
          rotate_left
          · (intro w' hS; go_simp; (try go_bits); (try with_reducible rfl))
          try simp only [Act.put, List.getElem_toArray, List.getElem_cons_zero, List.getElem_cons_succ, List.setIfInBounds_toArray, List.set_cons_zero, List.set_cons_succ]
          refine regL_take 1 (v := ?_) rfl (by kernel_rfl) (by kernel_rfl) (by kernel_rfl) (by kernel_rfl) (fun _ _ _ h => h) (by kernel_rfl) ?_ ?_
          rotate_left
          · (intro w' hS; go_simp; (try go_bits); (try with_reducible rfl))
          try simp only [Act.put, List.getElem_toArray, List.getElem_cons_zero, List.getElem_cons_succ, List.setIfInBounds_toArray, List.set_cons_zero, List.set_cons_succ]
          refine regL_take 2 (v := ?_) rfl (by kernel_rfl) (by kernel_rfl) (by kernel_rfl) (by kernel_rfl) (fun _ _ _ h => h) (by kernel_rfl) ?_ ?_
          rotate_left
          · (intro w' hS; go_simp; (try go_bits); (try with_reducible rfl))
          try simp only [Act.put, List.getElem_toArray, List.getElem_cons_zero, List.getElem_cons_succ, List.setIfInBounds_toArray, List.set_cons_zero, List.set_cons_succ]
          refine regL_take 3 (v := ?_) rfl (by kernel_rfl) (by kernel_rfl) (by kernel_rfl) (by kernel_rfl) (fun _ _ _ h => h) (by kernel_rfl) ?_ ?_
          rotate_left
          · (intro w' hS; have hz := hS.cell (w := wr.drew) xg3 (fun h => h); go_simp; (try go_bits); (try with_reducible rfl))
          try simp only [Act.put, List.getElem_toArray, List.getElem_cons_zero, List.getElem_cons_succ, List.setIfInBounds_toArray, List.set_cons_zero, List.set_cons_succ]
          refine regL_take 4 (v := ?_) rfl (by kernel_rfl) (by kernel_rfl) (by kernel_rfl) (by kernel_rfl) (fun _ _ _ h => h) (by kernel_rfl) ?_ ?_
          rotate_left
          · (intro w' hS; go_simp; (try go_bits); (try with_reducible rfl))
          try simp only [Act.put, List.getElem_toArray, List.getElem_cons_zero, List.getElem_cons_succ, List.setIfInBounds_toArray, List.set_cons_zero, List.set_cons_succ]
          refine regL_take 5 (v := ?_) rfl (by kernel_rfl) (by kernel_rfl) (by kernel_rfl) (by kernel_rfl) (fun _ _ _ h => h) (by kernel_rfl) ?_ ?_
          rotate_left
          · (intro w' hS; go_simp; (try go_bits); (try with_reducible rfl))
          try simp only [Act.put, List.getElem_toArray, List.getElem_cons_zero, List.getElem_cons_succ, List.setIfInBounds_toArray, List.set_cons_zero, List.set_cons_succ]
          refine regL_take 6 (v := ?_) rfl (by kernel_rfl) (by kernel_rfl) (by kernel_rfl) (by kernel_rfl) (fun _ _ _ h => h) (by kernel_rfl) ?_ ?_
          rotate_left
          · (intro w' hS; go_simp; (try go_bits); (try with_reducible rfl))
          try simp only [Act.put, List.getElem_toArray, List.getElem_cons_zero, List.getElem_cons_succ, List.setIfInBounds_toArray, List.set_cons_zero, List.set_cons_succ]
          refine regL_take 7 (v := ?_) rfl (by kernel_rfl) (by kernel_rfl) (by kernel_rfl) (by kernel_rfl) (fun _ _ _ h => h) (by kernel_rfl) ?_ ?_
          rotate_left
          · (intro w' hS; go_simp; (try go_bits); (try with_reducible rfl))
          try simp only [Act.put, List.getElem_toArray, List.getElem_cons_zero, List.getElem_cons_succ, List.setIfInBounds_toArray, List.set_cons_zero, List.set_cons_succ]
          refine regL_take 8 (v := ?_) rfl (by kernel_rfl) (by kernel_rfl) (by kernel_rfl) (by kernel_rfl) (fun _ _ _ h => h) (by kernel_rfl) ?_ ?_
          rotate_left
          · (intro w' hS; have hz := hS.cell (w := wr.drew) x0 (fun h => h); go_simp; (try go_bits); (try with_reducible rfl))
          try simp only [Act.put, List.getElem_toArray, List.getElem_cons_zero, List.getElem_cons_succ, List.setIfInBounds_toArray, List.set_cons_zero, List.set_cons_succ]
          refine regL_take 9 (v := ?_) rfl (by kernel_rfl) (by kernel_rfl) (by kernel_rfl) (by kernel_rfl) (fun _ _ _ h => h) (by kernel_rfl) ?_ ?_
          rotate_left
          · (intro w' hS; go_simp; (try go_bits); (try with_reducible rfl))
          try simp only [Act.put, List.getElem_toArray, List.getElem_cons_zero, List.getElem_cons_succ, List.setIfInBounds_toArray, List.set_cons_zero, List.set_cons_succ]
          refine regL_take 10 (v := ?_) rfl (by kernel_rfl) (by kernel_rfl) (by kernel_rfl) (by kernel_rfl) (fun _ _ _ h => h) (by kernel_rfl) ?_ ?_
          rotate_left
          · (intro w' hS; go_simp; (try go_bits); (try with_reducible rfl))
          try simp only [Act.put, List.getElem_toArray, List.getElem_cons_zero, List.getElem_cons_succ, List.setIfInBounds_toArray, List.set_cons_zero, List.set_cons_succ]
          refine regL_take 11 (v := ?_) rfl (by kernel_rfl) (by kernel_rfl) (by kernel_rfl) (by kernel_rfl) (fun _ _ _ h => h) (by kernel_rfl) ?_ ?_
          rotate_left
          · (intro w' hS; go_simp; (try go_bits); (try with_reducible rfl))
          try simp only [Act.put, List.getElem_toArray, List.getElem_cons_zero, List.getElem_cons_succ, List.setIfInBounds_toArray, List.set_cons_zero, List.set_cons_succ]
          refine regL_take 12 (v := ?_) rfl (by kernel_rfl) (by kernel_rfl) (by kernel_rfl) (by kernel_rfl) (fun _ _ _ h => h) (by kernel_rfl) ?_ ?_
          rotate_left
          · (intro w' hS; go_simp; (try go_bits); (try with_reducible rfl))
          try simp only [Act.put, List.getElem_toArray, List.getElem_cons_zero, List.getElem_cons_succ, List.setIfInBounds_toArray, List.set_cons_zero, List.set_cons_succ]
          refine regL_take 13 (v := ?_) rfl (by kernel_rfl) (by kernel_rfl) (by kernel_rfl) (by kernel_rfl) (fun _ _ _ h => h) (by kernel_rfl) ?_ ?_
          rotate_left
          · (intro w' hS; go_simp; (try go_bits); (try with_reducible rfl))
          try simp only [Act.put, List.getElem_toArray, List.getElem_cons_zero, List.getElem_cons_succ, List.setIfInBounds_toArray, List.set_cons_zero, List.set_cons_succ]
          refine regL_take 14 (v := ?_) rfl (by kernel_rfl) (by kernel_rfl) (by kernel_rfl) (by kernel_rfl) (fun _ _ _ h => h) (by kernel_rfl) ?_ ?_
          rotate_left
          · (intro w' hS; go_simp; (try go_bits); (try with_reducible rfl))
          try simp only [Act.put, List.getElem_toArray, List.getElem_cons_zero, List.getElem_cons_succ, List.setIfInBounds_toArray, List.set_cons_zero, List.set_cons_succ]
          refine regL_take 15 (v := ?_) rfl (by kernel_rfl) (by kernel_rfl) (by kernel_rfl) (by kernel_rfl) (fun _ _ _ h => h) (by kernel_rfl) ?_ ?_
          rotate_left
          · (intro w' hS; go_simp; (try go_bits); (try with_reducible rfl))
          try simp only [Act.put, List.getElem_toArray, List.getElem_cons_zero, List.getElem_cons_succ, List.setIfInBounds_toArray, List.set_cons_zero, List.set_cons_succ]
          refine regL_last rfl (by kernel_rfl) (by kernel_rfl) ?_
          intro K hK
          go_simp
          refine hK _ _ ?_
          clear hK K
          try simp only [Act.put, List.getElem_toArray, List.getElem_cons_zero, List.getElem_cons_succ, List.setIfInBounds_toArray, List.set_cons_zero, List.set_cons_succ]
          refine wpAnyL_done (by kernel_rfl) ?_ _
          go_wp2
          go_roundw
          case rel => exact ⟨1, by omega, by go_num, Lib.hid HO3.out.drew, Lib.hid HC3.out.drew⟩
          case measure => simp [intOf]
        · have jm : (m : Int) < (ln : Int) := by omega
          have e3 : wrap64 ((a : Int) + 1) = (m : Int) := by unfold wrap64; omega
          have hx2 : bits .xor .u8 (z.toNat : Int) ((by_.toNat : Int) / 256 % 256) = (zz.toNat : Int) := by
            rw [show ((2 ^ (8 * 1) : Nat) : Int) = 256 from rfl] at hx
            exact hx
          clear hx hm hal
          go_wp2_with (fail)
          refine regL_begin 16 (Pure') (by kernel_rfl) ?_
          refine regL_take 0 (v := ?_) rfl (by kernel_rfl) (by kernel_rfl) (by kernel_rfl) (by kernel_rfl) (fun _ _ _ h => h) (by kernel_rfl) ?_ ?_
          rotate_left
          · (intro w' hS; go_simp; (try go_bits); (try with_reducible rfl))
          try simp only [Act.put, List.getElem_toArray, List.getElem_cons_zero, List.getElem_cons_succ, List.setIfInBounds_toArray, List.set_cons_zero, List.set_cons_succ]
          refine regL_take 1 (v := ?_) rfl (by kernel_rfl) (by kernel_rfl) (by kernel_rfl) (by kernel_rfl) (fun _ _ _ h => h) (by kernel_rfl) ?_ ?_
          rotate_left
          · (intro w' hS; go_simp; (try go_bits); (try with_reducible rfl))
          try simp only [Act.put, List.getElem_toArray, List.getElem_cons_zero, List.getElem_cons_succ, List.setIfInBounds_toArray, List.set_cons_zero, List.set_cons_succ]
          refine regL_take 2 (v := ?_) rfl (by kernel_rfl) (by kernel_rfl) (by kernel_rfl) (by kernel_rfl) (fun _ _ _ h => h) (by kernel_rfl) ?_ ?_
          rotate_left
          · (intro w' hS; go_simp; (try go_bits); (try with_reducible rfl))
          try simp only [Act.put, List.getElem_toArray, List.getElem_cons_zero, List.getElem_cons_succ, List.setIfInBounds_toArray, List.set_cons_zero, List.set_cons_succ]
          refine regL_take 3 (v := ?_) rfl (by kernel_rfl) (by kernel_rfl) (by kernel_rfl) (by kernel_rfl) (fun _ _ _ h => h) (by kernel_rfl) ?_ ?_
          rotate_left
          · (intro w' hS; have hz := hS.cell (w := wr.drew) xg3 (fun h => h); go_simp; (try go_bits); (try with_reducible rfl))
          try simp only [Act.put, List.getElem_toArray, List.getElem_cons_zero, List.getElem_cons_succ, List.setIfInBounds_toArray, List.set_cons_zero, List.set_cons_succ]
          refine regL_take 4 (v := ?_) rfl (by kernel_rfl) (by kernel_rfl) (by kernel_rfl) (by kernel_rfl) (fun _ _ _ h => h) (by kernel_rfl) ?_ ?_
          rotate_left
          · (intro w' hS; go_simp; (try go_bits); (try with_reducible rfl))
          try simp only [Act.put, List.getElem_toArray, List.getElem_cons_zero, List.getElem_cons_succ, List.setIfInBounds_toArray, List.set_cons_zero, List.set_cons_succ]
          refine regL_take 5 (v := ?_) rfl (by kernel_rfl) (by kernel_rfl) (by kernel_rfl) (by kernel_rfl) (fun _ _ _ h => h) (by kernel_rfl) ?_ ?_
          rotate_left
          · (intro w' hS; go_simp; (try go_bits); (try with_reducible rfl))
          try simp only [Act.put, List.getElem_toArray, List.getElem_cons_zero, List.getElem_cons_succ, List.setIfInBounds_toArray, List.set_cons_zero, List.set_cons_succ]
          refine regL_take 6 (v := ?_) rfl (by kernel_rfl) (by kernel_rfl) (by kernel_rfl) (by kernel_rfl) (fun _ _ _ h => h) (by kernel_rfl) ?_ ?_
          rotate_left
          · (intro w' hS; go_simp; (try go_bits); (try with_reducible rfl))
          try simp only [Act.put, List.getElem_toArray, List.getElem_cons_zero, List.getElem_cons_succ, List.setIfInBounds_toArray, List.set_cons_zero, List.set_cons_succ]
          refine regL_take 7 (v := ?_) rfl (by kernel_rfl) (by kernel_rfl) (by kernel_rfl) (by kernel_rfl) (fun _ _ _ h => h) (by kernel_rfl) ?_ ?_
          rotate_left
          · (intro w' hS; go_simp; (try go_bits); (try with_reducible rfl))
          try simp only [Act.put, List.getElem_toArray, List.getElem_cons_zero, List.getElem_cons_succ, List.setIfInBounds_toArray, List.set_cons_zero, List.set_cons_succ]
          refine regL_take 8 (v := ?_) rfl (by kernel_rfl) (by kernel_rfl) (by kernel_rfl) (by kernel_rfl) (fun _ _ _ h => h) (by kernel_rfl) ?_ ?_
          rotate_left
          · (intro w' hS; have hz := hS.cell (w := wr.drew) x0 (fun h => h); go_simp; (try go_bits); (try with_reducible rfl))
          try simp only [Act.put, List.getElem_toArray, List.getElem_cons_zero, List.getElem_cons_succ, List.setIfInBounds_toArray, List.set_cons_zero, List.set_cons_succ]
          refine regL_take 9 (v := ?_) rfl (by kernel_rfl) (by kernel_rfl) (by kernel_rfl) (by kernel_rfl) (fun _ _ _ h => h) (by kernel_rfl) ?_ ?_
          rotate_left
          · (intro w' hS; go_simp; (try go_bits); (try with_reducible rfl))
          try simp only [Act.put, List.getElem_toArray, List.getElem_cons_zero, List.getElem_cons_succ, List.setIfInBounds_toArray, List.set_cons_zero, List.set_cons_succ]
          refine regL_take 10 (v := ?_) rfl (by kernel_rfl) (by kernel_rfl) (by kernel_rfl) (by kernel_rfl) (fun _ _ _ h => h) (by kernel_rfl) ?_ ?_
          rotate_left
          · (intro w' hS; go_simp; (try go_bits); (try with_reducible rfl))
          try simp only [Act.put, List.getElem_toArray, List.getElem_cons_zero, List.getElem_cons_succ, List.setIfInBounds_toArray, List.set_cons_zero, List.set_cons_succ]
          refine regL_take 11 (v := ?_) rfl (by kernel_rfl) (by kernel_rfl) (by kernel_rfl) (by kernel_rfl) (fun _ _ _ h => h) (by kernel_rfl) ?_ ?_
          rotate_left
          · (intro w' hS; go_simp; (try go_bits); (try with_reducible rfl))
          try simp only [Act.put, List.getElem_toArray, List.getElem_cons_zero, List.getElem_cons_succ, List.setIfInBounds_toArray, List.set_cons_zero, List.set_cons_succ]
          refine regL_take 12 (v := ?_) rfl (by kernel_rfl) (by kernel_rfl) (by kernel_rfl) (by kernel_rfl) (fun _ _ _ h => h) (by kernel_rfl) ?_ ?_
          rotate_left
          · (intro w' hS; go_simp; (try go_bits); (try with_reducible rfl))
          try simp only [Act.put, List.getElem_toArray, List.getElem_cons_zero, List.getElem_cons_succ, List.setIfInBounds_toArray, List.set_cons_zero, List.set_cons_succ]
          refine regL_take 13 (v := ?_) rfl (by kernel_rfl) (by kernel_rfl) (by kernel_rfl) (by kernel_rfl) (fun _ _ _ h => h) (by kernel_rfl) ?_ ?_
          rotate_left
          · (intro w' hS; go_simp; (try go_bits); (try with_reducible rfl))
          try simp only [Act.put, List.getElem_toArray, List.getElem_cons_zero, List.getElem_cons_succ, List.setIfInBounds_toArray, List.set_cons_zero, List.set_cons_succ]
          refine regL_take 14 (v := ?_) rfl (by kernel_rfl) (by kernel_rfl) (by kernel_rfl) (by kernel_rfl) (fun _ _ _ h => h) (by kernel_rfl) ?_ ?_
          rotate_left
          · (intro w' hS; go_simp; (try go_bits); (try with_reducible rfl))
          try simp only [Act.put, List.getElem_toArray, List.getElem_cons_zero, List.getElem_cons_succ, List.setIfInBounds_toArray, List.set_cons_zero, List.set_cons_succ]
          refine regL_take 15 (v := ?_) rfl (by kernel_rfl) (by kernel_rfl) (by kernel_rfl) (by kernel_rfl) (fun _ _ _ h => h) (by kernel_rfl) ?_ ?_
          rotate_left
          · (intro w' hS; go_simp; (try go_bits); (try with_reducible rfl))
          try simp only [Act.put, List.getElem_toArray, List.getElem_cons_zero, List.getElem_cons_succ, List.setIfInBounds_toArray, List.set_cons_zero, List.set_cons_succ]
          refine regL_last rfl (by kernel_rfl) (by kernel_rfl) ?_
          intro K hK
          go_simp
          refine hK _ _ ?_
          clear hK K
          try simp only [Act.put, List.getElem_toArray, List.getElem_cons_zero, List.getElem_cons_succ, List.setIfInBounds_toArray, List.set_cons_zero, List.set_cons_succ]
          refine wpAnyL_done (by kernel_rfl) ?_ _
          go_wp2
          go_roundw
          case rel => exact ⟨2, by omega, by go_num, Lib.hid HO3.out.drew, Lib.hid HC3.out.drew⟩
          case measure => simp [intOf]
        · have jm : (m : Int) < (ln : Int) := by omega
          have e3 : wrap64 ((a : Int) + 2) = (m : Int) := by unfold wrap64; omega
          have hx2 : bits .xor .u8 (z.toNat : Int) ((by_.toNat : Int) / 65536 % 256) = (zz.toNat : Int) := by
            rw [show ((2 ^ (8 * 2) : Nat) : Int) = 65536 from rfl] at hx
            exact hx
          clear hx hm hal
          go_wp2_with (fail)
          refine regL_begin 16 (Pure') (by kernel_rfl) ?_
          refine regL_take 0 (v := ?_) rfl (by kernel_rfl) (by kernel_rfl) (by kernel_rfl) (by kernel_rfl) (fun _ _ _ h => h) (by kernel_rfl) ?_ ?_
          rotate_left
          · (intro w' hS; go_simp; (try go_bits); (try with_reducible rfl))
          try simp only [Act.put, List.getElem_toArray, List.getElem_cons_zero, List.getElem_cons_succ, List.setIfInBounds_toArray, List.set_cons_zero, List.set_cons_succ]
          refine regL_take 1 (v := ?_) rfl (by kernel_rfl) (by kernel_rfl) (by kernel_rfl) (by kernel_rfl) (fun _ _ _ h => h) (by kernel_rfl) ?_ ?_
          rotate_left
          · (intro w' hS; go_simp; (try go_bits); (try with_reducible rfl))
          try simp only [Act.put, List.getElem_toArray, List.getElem_cons_zero, List.getElem_cons_succ, List.setIfInBounds_toArray, List.set_cons_zero, List.set_cons_succ]
          refine regL_take 2 (v := ?_) rfl (by kernel_rfl) (by kernel_rfl) (by kernel_rfl) (by kernel_rfl) (fun _ _ _ h => h) (by kernel_rfl) ?_ ?_
          rotate_left
          · (intro w' hS; go_simp; (try go_bits); (try with_reducible rfl))
          try simp only [Act.put, List.getElem_toArray, List.getElem_cons_zero, List.getElem_cons_succ, List.setIfInBounds_toArray, List.set_cons_zero, List.set_cons_succ]
          refine regL_take 3 (v := ?_) rfl (by kernel_rfl) (by kernel_rfl) (by kernel_rfl) (by kernel_rfl) (fun _ _ _ h => h) (by kernel_rfl) ?_ ?_
          rotate_left
          · (intro w' hS; have hz := hS.cell (w := wr.drew) xg3 (fun h => h); go_simp; (try go_bits); (try with_reducible rfl))
          try simp only [Act.put, List.getElem_toArray, List.getElem_cons_zero, List.getElem_cons_succ, List.setIfInBounds_toArray, List.set_cons_zero, List.set_cons_succ]
          refine regL_take 4 (v := ?_) rfl (by kernel_rfl) (by kernel_rfl) (by kernel_rfl) (by kernel_rfl) (fun _ _ _ h => h) (by kernel_rfl) ?_ ?_
          rotate_left
          · (intro w' hS; go_simp; (try go_bits); (try with_reducible rfl))
          try simp only [Act.put, List.getElem_toArray, List.getElem_cons_zero, List.getElem_cons_succ, List.setIfInBounds_toArray, List.set_cons_zero, List.set_cons_succ]
          refine regL_take 5 (v := ?_) rfl (by kernel_rfl) (by kernel_rfl) (by kernel_rfl) (by kernel_rfl) (fun _ _ _ h => h) (by kernel_rfl) ?_ ?_
          rotate_left
          · (intro w' hS; go_simp; (try go_bits); (try with_reducible rfl))
          try simp only [Act.put, List.getElem_toArray, List.getElem_cons_zero, List.getElem_cons_succ, List.setIfInBounds_toArray, List.set_cons_zero, List.set_cons_succ]
          refine regL_take 6 (v := ?_) rfl (by kernel_rfl) (by kernel_rfl) (by kernel_rfl) (by kernel_rfl) (fun _ _ _ h => h) (by kernel_rfl) ?_ ?_
          rotate_left
          · (intro w' hS; go_simp; (try go_bits); (try with_reducible rfl))
          try simp only [Act.put, List.getElem_toArray, List.getElem_cons_zero, List.getElem_cons_succ, List.setIfInBounds_toArray, List.set_cons_zero, List.set_cons_succ]
          refine regL_take 7 (v := ?_) rfl (by kernel_rfl) (by kernel_rfl) (by kernel_rfl) (by kernel_rfl) (fun _ _ _ h => h) (by kernel_rfl) ?_ ?_
          rotate_left
          · (intro w' hS; go_simp; (try go_bits); (try with_reducible rfl))
          try simp only [Act.put, List.getElem_toArray, List.getElem_cons_zero, List.getElem_cons_succ, List.setIfInBounds_toArray, List.set_cons_zero, List.set_cons_succ]
          refine regL_take 8 (v := ?_) rfl (by kernel_rfl) (by kernel_rfl) (by kernel_rfl) (by kernel_rfl) (fun _ _ _ h => h) (by kernel_rfl) ?_ ?_
          rotate_left
          · (intro w' hS; have hz := hS.cell (w := wr.drew) x0 (fun h => h); go_simp; (try go_bits); (try with_reducible rfl))
          try simp only [Act.put, List.getElem_toArray, List.getElem_cons_zero, List.getElem_cons_succ, List.setIfInBounds_toArray, List.set_cons_zero, List.set_cons_succ]
          refine regL_take 9 (v := ?_) rfl (by kernel_rfl) (by kernel_rfl) (by kernel_rfl) (by kernel_rfl) (fun _ _ _ h => h) (by kernel_rfl) ?_ ?_
          rotate_left
          · (intro w' hS; go_simp; (try go_bits); (try with_reducible rfl))
          try simp only [Act.put, List.getElem_toArray, List.getElem_cons_zero, List.getElem_cons_succ, List.setIfInBounds_toArray, List.set_cons_zero, List.set_cons_succ]
          refine regL_take 10 (v := ?_) rfl (by kernel_rfl) (by kernel_rfl) (by kernel_rfl) (by kernel_rfl) (fun _ _ _ h => h) (by kernel_rfl) ?_ ?_
          rotate_left
          · (intro w' hS; go_simp; (try go_bits); (try with_reducible rfl))
          try simp only [Act.put, List.getElem_toArray, List.getElem_cons_zero, List.getElem_cons_succ, List.setIfInBounds_toArray, List.set_cons_zero, List.set_cons_succ]
          refine regL_take 11 (v := ?_) rfl (by kernel_rfl) (by kernel_rfl) (by kernel_rfl) (by kernel_rfl) (fun _ _ _ h => h) (by kernel_rfl) ?_ ?_
          rotate_left
          · (intro w' hS; go_simp; (try go_bits); (try with_reducible rfl))
          try simp only [Act.put, List.getElem_toArray, List.getElem_cons_zero, List.getElem_cons_succ, List.setIfInBounds_toArray, List.set_cons_zero, List.set_cons_succ]
          refine regL_take 12 (v := ?_) rfl (by kernel_rfl) (by kernel_rfl) (by kernel_rfl) (by kernel_rfl) (fun _ _ _ h => h) (by kernel_rfl) ?_ ?_
          rotate_left
          · (intro w' hS; go_simp; (try go_bits); (try with_reducible rfl))
          try simp only [Act.put, List.getElem_toArray, List.getElem_cons_zero, List.getElem_cons_succ, List.setIfInBounds_toArray, List.set_cons_zero, List.set_cons_succ]
          refine regL_take 13 (v := ?_) rfl (by kernel_rfl) (by kernel_rfl) (by kernel_rfl) (by kernel_rfl) (fun _ _ _ h => h) (by kernel_rfl) ?_ ?_
          rotate_left
          · (intro w' hS; go_simp; (try go_bits); (try with_reducible rfl))
          try simp only [Act.put, List.getElem_toArray, List.getElem_cons_zero, List.getElem_cons_succ, List.setIfInBounds_toArray, List.set_cons_zero, List.set_cons_succ]
          refine regL_take 14 (v := ?_) rfl (by kernel_rfl) (by kernel_rfl) (by kernel_rfl) (by kernel_rfl) (fun _ _ _ h => h) (by kernel_rfl) ?_ ?_
          rotate_left
          · (intro w' hS; go_simp; (try go_bits); (try with_reducible rfl))
          try simp only [Act.put, List.getElem_toArray, List.getElem_cons_zero, List.getElem_cons_succ, List.setIfInBounds_toArray, List.set_cons_zero, List.set_cons_succ]
          refine regL_take 15 (v := ?_) rfl (by kernel_rfl) (by kernel_rfl) (by kernel_rfl) (by kernel_rfl) (fun _ _ _ h => h) (by kernel_rfl) ?_ ?_
          rotate_left
          · (intro w' hS; go_simp; (try go_bits); (try with_reducible rfl))
          try simp only [Act.put, List.getElem_toArray, List.getElem_cons_zero, List.getElem_cons_succ, List.setIfInBounds_toArray, List.set_cons_zero, List.set_cons_succ]
          refine regL_last rfl (by kernel_rfl) (by kernel_rfl) ?_
          intro K hK
          go_simp
          refine hK _ _ ?_
          clear hK K
          try simp only [Act.put, List.getElem_toArray, List.getElem_cons_zero, List.getElem_cons_succ, List.setIfInBounds_toArray, List.set_cons_zero, List.set_cons_succ]
          refine wpAnyL_done (by kernel_rfl) ?_ _
          go_wp2
          go_roundw
          case rel => exact ⟨3, by omega, by go_num, Lib.hid HO3.out.drew, Lib.hid HC3.out.drew⟩
          case measure => simp [intOf]
        · have jm : (m : Int) < (ln : Int) := by omega
          have e3 : wrap64 ((a : Int) + 3) = (m : Int) := by unfold wrap64; omega
          have hx2 : bits .xor .u8 (z.toNat : Int) ((by_.toNat : Int) / 16777216 % 256) = (zz.toNat : Int) := by
            rw [show ((2 ^ (8 * 3) : Nat) : Int) = 16777216 from rfl] at hx
            exact hx
          clear hx hm hal
          go_wp2_with (fail)
          refine regL_begin 16 (Pure') (by kernel_rfl) ?_
          refine regL_take 0 (v := ?_) rfl (by kernel_rfl) (by kernel_rfl) (by kernel_rfl) (by kernel_rfl) (fun _ _ _ h => h) (by kernel_rfl) ?_ ?_
          rotate_left
          · (intro w' hS; go_simp; (try go_bits); (try with_reducible rfl))
          try simp only [Act.put, List.getElem_toArray, List.getElem_cons_zero, List.getElem_cons_succ, List.setIfInBounds_toArray, List.set_cons_zero, List.set_cons_succ]
          refine regL_take 1 (v := ?_) rfl (by kernel_rfl) (by kernel_rfl) (by kernel_rfl) (by kernel_rfl) (fun _ _ _ h => h) (by kernel_rfl) ?_ ?_
          rotate_left
          · (intro w' hS; go_simp; (try go_bits); (try with_reducible rfl))
          try simp only [Act.put, List.getElem_toArray, List.getElem_cons_zero, List.getElem_cons_succ, List.setIfInBounds_toArray, List.set_cons_zero, List.set_cons_succ]
          refine regL_take 2 (v := ?_) rfl (by kernel_rfl) (by kernel_rfl) (by kernel_rfl) (by kernel_rfl) (fun _ _ _ h => h) (by kernel_rfl) ?_ ?_
          rotate_left
          · (intro w' hS; go_simp; (try go_bits); (try with_reducible rfl))
          try simp only [Act.put, List.getElem_toArray, List.getElem_cons_zero, List.getElem_cons_succ, List.setIfInBounds_toArray, List.set_cons_zero, List.set_cons_succ]
          refine regL_take 3 (v := ?_) rfl (by kernel_rfl) (by kernel_rfl) (by kernel_rfl) (by kernel_rfl) (fun _ _ _ h => h) (by kernel_rfl) ?_ ?_
          rotate_left
          · (intro w' hS; have hz := hS.cell (w := wr.drew) xg3 (fun h => h); go_simp; (try go_bits); (try with_reducible rfl))
          try simp only [Act.put, List.getElem_toArray, List.getElem_cons_zero, List.getElem_cons_succ, List.setIfInBounds_toArray, List.set_cons_zero, List.set_cons_succ]
          refine regL_take 4 (v := ?_) rfl (by kernel_rfl) (by kernel_rfl) (by kernel_rfl) (by kernel_rfl) (fun _ _ _ h => h) (by kernel_rfl) ?_ ?_
          rotate_left
          · (intro w' hS; go_simp; (try go_bits); (try with_reducible rfl))
          try simp only [Act.put, List.getElem_toArray, List.getElem_cons_zero, List.getElem_cons_succ, List.setIfInBounds_toArray, List.set_cons_zero, List.set_cons_succ]
          refine regL_take 5 (v := ?_) rfl (by kernel_rfl) (by kernel_rfl) (by kernel_rfl) (by kernel_rfl) (fun _ _ _ h => h) (by kernel_rfl) ?_ ?_
          rotate_left
          · (intro w' hS; go_simp; (try go_bits); (try with_reducible rfl))
          try simp only [Act.put, List.getElem_toArray, List.getElem_cons_zero, List.getElem_cons_succ, List.setIfInBounds_toArray, List.set_cons_zero, List.set_cons_succ]
          refine regL_take 6 (v := ?_) rfl (by kernel_rfl) (by kernel_rfl) (by kernel_rfl) (by kernel_rfl) (fun _ _ _ h => h) (by kernel_rfl) ?_ ?_
          rotate_left
          · (intro w' hS; go_simp; (try go_bits); (try with_reducible rfl))
          try simp only [Act.put, List.getElem_toArray, List.getElem_cons_zero, List.getElem_cons_succ, List.setIfInBounds_toArray, List.set_cons_zero, List.set_cons_succ]
          refine regL_take 7 (v := ?_) rfl (by kernel_rfl) (by kernel_rfl) (by kernel_rfl) (by kernel_rfl) (fun _ _ _ h => h) (by kernel_rfl) ?_ ?_
          rotate_left
          · (intro w' hS; go_simp; (try go_bits); (try with_reducible rfl))
          try simp only [Act.put, List.getElem_toArray, List.getElem_cons_zero, List.getElem_cons_succ, List.setIfInBounds_toArray, List.set_cons_zero, List.set_cons_succ]
          refine regL_take 8 (v := ?_) rfl (by kernel_rfl) (by kernel_rfl) (by kernel_rfl) (by kernel_rfl) (fun _ _ _ h => h) (by kernel_rfl) ?_ ?_
          rotate_left
          · (intro w' hS; have hz := hS.cell (w := wr.drew) x0 (fun h => h); go_simp; (try go_bits); (try with_reducible rfl))
          try simp only [Act.put, List.getElem_toArray, List.getElem_cons_zero, List.getElem_cons_succ, List.setIfInBounds_toArray, List.set_cons_zero, List.set_cons_succ]
          refine regL_take 9 (v := ?_) rfl (by kernel_rfl) (by kernel_rfl) (by kernel_rfl) (by kernel_rfl) (fun _ _ _ h => h) (by kernel_rfl) ?_ ?_
          rotate_left
          · (intro w' hS; go_simp; (try go_bits); (try with_reducible rfl))
          try simp only [Act.put, List.getElem_toArray, List.getElem_cons_zero, List.getElem_cons_succ, List.setIfInBounds_toArray, List.set_cons_zero, List.set_cons_succ]
          refine regL_take 10 (v := ?_) rfl (by kernel_rfl) (by kernel_rfl) (by kernel_rfl) (by kernel_rfl) (fun _ _ _ h => h) (by kernel_rfl) ?_ ?_
          rotate_left
          · (intro w' hS; go_simp; (try go_bits); (try with_reducible rfl))
          try simp only [Act.put, List.getElem_toArray, List.getElem_cons_zero, List.getElem_cons_succ, List.setIfInBounds_toArray, List.set_cons_zero, List.set_cons_succ]
          refine regL_take 11 (v := ?_) rfl (by kernel_rfl) (by kernel_rfl) (by kernel_rfl) (by kernel_rfl) (fun _ _ _ h => h) (by kernel_rfl) ?_ ?_
          rotate_left
          · (intro w' hS; go_simp; (try go_bits); (try with_reducible rfl))
          try simp only [Act.put, List.getElem_toArray, List.getElem_cons_zero, List.getElem_cons_succ, List.setIfInBounds_toArray, List.set_cons_zero, List.set_cons_succ]
          refine regL_take 12 (v := ?_) rfl (by kernel_rfl) (by kernel_rfl) (by kernel_rfl) (by kernel_rfl) (fun _ _ _ h => h) (by kernel_rfl) ?_ ?_
          rotate_left
          · (intro w' hS; go_simp; (try go_bits); (try with_reducible rfl))
          try simp only [Act.put, List.getElem_toArray, List.getElem_cons_zero, List.getElem_cons_succ, List.setIfInBounds_toArray, List.set_cons_zero, List.set_cons_succ]
          refine regL_take 13 (v := ?_) rfl (by kernel_rfl) (by kernel_rfl) (by kernel_rfl) (by kernel_rfl) (fun _ _ _ h => h) (by kernel_rfl) ?_ ?_
          rotate_left
          · (intro w' hS; go_simp; (try go_bits); (try with_reducible rfl))
          try simp only [Act.put, List.getElem_toArray, List.getElem_cons_zero, List.getElem_cons_succ, List.setIfInBounds_toArray, List.set_cons_zero, List.set_cons_succ]
          refine regL_take 14 (v := ?_) rfl (by kernel_rfl) (by kernel_rfl) (by kernel_rfl) (by kernel_rfl) (fun _ _ _ h => h) (by kernel_rfl) ?_ ?_
          rotate_left
          · (intro w' hS; go_simp; (try go_bits); (try with_reducible rfl))
          try simp only [Act.put, List.getElem_toArray, List.getElem_cons_zero, List.getElem_cons_succ, List.setIfInBounds_toArray, List.set_cons_zero, List.set_cons_succ]
          refine regL_take 15 (v := ?_) rfl (by kernel_rfl) (by kernel_rfl) (by kernel_rfl) (by kernel_rfl) (fun _ _ _ h => h) (by kernel_rfl) ?_ ?_
          rotate_left
          · (intro w' hS; go_simp; (try go_bits); (try with_reducible rfl))
          try simp only [Act.put, List.getElem_toArray, List.getElem_cons_zero, List.getElem_cons_succ, List.setIfInBounds_toArray, List.set_cons_zero, List.set_cons_succ]
          refine regL_last rfl (by kernel_rfl) (by kernel_rfl) ?_
          intro K hK
          go_simp
          refine hK _ _ ?_
          clear hK K
          try simp only [Act.put, List.getElem_toArray, List.getElem_cons_zero, List.getElem_cons_succ, List.setIfInBounds_toArray, List.set_cons_zero, List.set_cons_succ]
          refine wpAnyL_done (by kernel_rfl) ?_ _
          go_wp2
          go_roundw
          case rel => exact ⟨4, by omega, by go_num, Lib.hid HO3.out.drew, Lib.hid HC3.out.drew⟩
          case measure => simp [intOf]
      · obtain rfl : k = 4 := by omega
        have hr3 := own_keep HR2.out HC.out (fun k hk (e : k = r) => hrg (by have : g = k := by simpa [Value.ownBlock] using hk
                                                                             omega))
        have f3 : wr.frozen? ⟨g, i * 2 + 1, none⟩ = false := hr3.frozenAt _
        obtain ⟨hr4, -⟩ := hr3.stored (i * 2 + 1) (.bool (by_ != 0))
        have hbn : ((by_.toNat : Int) != 0) = (by_ != 0) := by
          by_cases hb : by_ = 0
          · subst hb; rfl
          · have : by_.toNat ≠ 0 := fun e => hb (UInt32.toNat_inj.1 e)
            rw [show (by_ != 0) = true from by simpa using hb, bne_iff_ne]
            omega
        have cs4 : Chg (fun k => k = g) wr (wr.setCell ⟨g, i * 2 + 1, none⟩ (.bool (by_ != 0))) := Chg.setCell (S := fun k => k = g) (Chg.refl _ wr) (p := ⟨g, i * 2 + 1, none⟩) (.inr rfl) _
        have ho4 := own_keep HO.out cs4 (fun k hk (e : k = g) => hrg (by have : r = k := by simpa [Value.ownBlock] using hk
                                                                         omega))
        have C4 : Chg (fun k => k = g) w (wr.setCell ⟨g, i * 2 + 1, none⟩ (.bool (by_ != 0))) := (HC2.out.trans HC.out (fun k hk (e : k = r) => by omega)).trans' cs4
        have hset : ((gcells L.G0).set (i * 2) (.slice (some ⟨r, 0, none⟩) ln q1)).set (i * 2 + 1) (.bool (by_ != 0)) = gcells (L.G0.set i ⟨some ⟨r, 0, none⟩, q1, xorAt d.xs a by_ 4, by_ != 0⟩) := by
          rw [← gcells_put _ _ _ (by rw [HN.out]; exact hi)]
          simp only [hxl]
        rw [hset] at hr4
        obtain ⟨A9, q9, hv9, hq9, hb9, -⟩ := Bytes.of_own ho4
        cases hv9
        have hL4 := HH.out.turn0 i ⟨some ⟨r, 0, none⟩, q1, xorAt d.xs a by_ 4, by_ != 0⟩ (by rw [HV.out]; exact hr4) (C4.mono (fun k _ (e : k = g) => by rw [HV.out, e]; rfl)) (by simp only [hxl]; exact hb9) (by simp only [hxl]; exact hq9) (by simp only [hxl]; exact hbig) (fun x hx => by
          have hx : (⟨r, 0, none⟩ : Addr) = x := by simpa using hx
          rw [← hx]
          exact ⟨hrB, (ho4.lt r rfl).2⟩)
        have HL4 := Lib.hid hL4
        have CC4 : Chg (fun k => B.ok k) w _ := C4.mono (fun k _ (e : k = g) => (HH.out.own k (by rw [e, HH.out.gr0.cv g (by rw [HV.out]; rfl)]; decide)).1)
        have HC4 := Lib.hid CC4
        clear hL4 CC4 C4 ho4 cs4 hr4 hr3 hset hxl hb9 HO HC HX0 HO2 HR2 HC2 xg2 xh2 hlt
        go_wp2
        go_ret
        refine ⟨rfl, LinkIn.mk HL4.out rfl ?_, HC4.out⟩
        unfold Lm.pl turnB
        rw [HTA.out]
        simp only [List.map_set]
/-- One datagram of net I has other bytes, new ones. -/
theorem LinkAt.turn1 {w w' : World} {B : Base} {col : Nat → Nat} {m : Lm} (h : LinkAt w B col m) (i : Nat) (d : Gd) (hr : w'.ownsRow B 109 2 m.v1 m.G1.length (gcells (m.G1.set i d))) (hc : Chg (fun k => m.v1.ownBlock = some k) w w')
    (hb : Bytes w' d.A d.xs.length d.xs) (hcap : d.xs.length ≤ d.c) (hbig : d.xs.length ≤ 1208) (hn : ∀ a, d.A = some a → w.heap.size ≤ a.block ∧ a.block < w'.heap.size) :
    LinkAt w' B (paint col w.heap.size w'.heap.size 9) { m with G1 := m.G1.set i d } := by
  have hS : ∀ k, k < w.heap.size → m.v1.ownBlock = some k → col k = 8 := fun k _ hk => h.gr1.cv k hk
  have s := h.stays (col' := paint col w.heap.size w'.heap.size 9) (fun c => c = 8) hc hS (by decide) (fun k hk => paint_old _ _ _ _ _ hk)
  have hG : GramsAt w' B (paint col w.heap.size w'.heap.size 9) m.v1 8 (m.G1.set i d) := by
    refine ⟨by rw [List.length_set]; exact hr, ?_, ?_⟩
    · intro g hg
      rw [paint_old _ _ _ _ _ (by rw [h.gr1.cv g hg]; decide), h.gr1.cv g hg]
    · intro x hx
      rcases List.mem_or_eq_of_mem_set hx with hx | rfl
      · exact s.ds1 x hx
      · exact ⟨hb, hcap, hbig, fun a ha => paint_new h _ 9 _ (hn a ha).1 (hn a ha).2⟩
  exact ⟨paint_own h 9 h.base_le hc.size, (s.lk (by decide)).of rfl rfl rfl rfl rfl rfl rfl rfl rfl, (s.nbk (by decide)).of rfl rfl rfl, s.n0 (by decide), s.n1 (by decide), s.snd (by decide), s.rcv (by decide), s.gr0 (by decide), hG, s.k3, s.k4, s.k5, s.k6, s.k1, s.k2, h.l0, by rw [List.length_set]; exact h.l1, h.now⟩
set_option maxHeartbeats 16000000 in
theorem lturn_ok1 {w : World} {B : Base} {col : Nat → Nat} {L : Lm} (h : LinkAt w B col L) (i : Nat) (hi : i < L.G1.length) (at_ : Int) (hat : -9223372036854775808 ≤ at_ ∧ at_ ≤ 9223372036854775807) (by_ : UInt32) (h8 : (L.G1[i]).sp = false → 8 ≤ (L.G1[i]).xs.length) :
    Calls Try.prog 55 #[.pointer (some ⟨L.p, 0, none⟩), .int .i64 1, .int .i64 (i : Nat), .int .i64 at_, .int .u32 (by_.toNat : Int)] w (outPost w B L.p (if (L.G1[i]).sp = true then (18, L.pl) else (0, { L.pl with G1 := L.pl.G1.set i (turnB (L.G1[i]).xs at_ by_, by_ != 0) }))) := by
  have H := Lib.hid (lfind_ok1 h i hi)
  have y0 := h.n1.c0
  have hrow := h.gr1.row
  have hd := h.gr1.ds _ (List.getElem_mem hi)
  obtain ⟨d, hdE⟩ : ∃ d, L.G1[i] = d := ⟨_, rfl⟩
  have hget := gcells_getU L.G1 i hi
  have hget2 := gcells_getV L.G1 i hi
  rw [hdE] at hd hget hget2 h8 ⊢
  obtain ⟨V, q, hv, hnq, hV, -⟩ := own_slice hrow
  obtain ⟨g, rfl, -⟩ := hV (by omega)
  rw [hv] at y0 hrow
  have xg := (hrow.cellAt (i * 2) (by omega)).trans hget
  have xh := (hrow.cellAt (i * 2 + 1) (by omega)).trans hget2
  have HH := Lib.hid h
  have HGD := Lib.hid hd
  have HV := Lib.hid hv
  have HROW := Lib.hid hrow
  have HDE := Lib.hid hdE
  have fg : ∀ j, w.frozen? ⟨g, j, none⟩ = false := fun j => hrow.frozenAt j
  clear h hv hget hget2 hrow hdE
  have i1 : (i : Int) < (L.G1.length : Int) := by omega
  obtain ⟨n, hn⟩ : ∃ n, L.G1.length = n := ⟨_, rfl⟩
  have HN := Lib.hid hn
  rw [hn] at i1 y0 hnq hi
  clear hn
  cases hsp : d.sp with
  | true =>
    rw [if_pos rfl]
    rw [hsp] at xh
    clear h8 hd hat
    go_enter Try.func55, Try.ntmps55
    go_wp2_with (fail)
    refine H.out.mono ?_
    rintro e w1 ⟨rfl, rfl⟩
    go_wp2
    go_ret
    exact ⟨rfl, LinkIn.mk HH.out rfl rfl, Chg.refl _ _⟩
  | false =>
    rw [if_neg (by simp)]
    rw [hsp] at xh h8
    have hn8 := h8 rfl
    have hbig := hd.big
    have HCL := Lib.hid (clone_own d.A d.c d.xs.length d.xs w hd.bytes (by omega))
    obtain ⟨ln, hln⟩ : ∃ ln, d.xs.length = ln := ⟨_, rfl⟩
    rw [hln] at xg HCL hn8 hbig
    have HLN := Lib.hid hln
    clear hln h8 hd
    go_enter Try.func55, Try.ntmps55
    go_wp2_with (fail)
    refine H.out.mono ?_
    rintro e w1 ⟨rfl, rfl⟩
    go_wp2_with (fail)
    refine HCL.out.mono ?_
    rintro e w1 ⟨v1, rfl, ho1, c1⟩
    obtain ⟨V1, q1, rfl, hq1, hV1, -⟩ := own_slice ho1
    obtain ⟨r, rfl, hrB⟩ := hV1 (by omega)
    have hgr : g < w.heap.size := (HROW.out.lt g rfl).2
    have xg1 := c1.cell xg (fun h => h)
    have xh1 := c1.cell xh (fun h => h)
    have hr1 := own_keep HROW.out c1 (fun _ _ h => h)
    have f1 : ∀ j, w1.frozen? ⟨g, j, none⟩ = false := fun j => hr1.frozenAt j
    obtain ⟨hr2, -⟩ := hr1.stored (i * 2) (.slice (some ⟨r, 0, none⟩) ln q1)
    have cs2 : Chg (fun k => k = g) w1 (w1.setCell ⟨g, i * 2, none⟩ (.slice (some ⟨r, 0, none⟩) ln q1)) := Chg.setCell (S := fun k => k = g) (Chg.refl _ w1) (p := ⟨g, i * 2, none⟩) (.inr rfl) _
    have hrg : r ≠ g := by omega
    have ho2 := own_keep ho1 cs2 (fun k hk e => by
      have e1 : r = k := by simpa [Value.ownBlock] using hk
      have e : k = g := e
      omega)
    have xg2 := set_at (v := .slice (some ⟨r, 0, none⟩) ln q1) xg1
    have xh2 := (set_far (w := w1) (p := g) (i := i * 2) (j := i * 2 + 1) (v := .slice (some ⟨r, 0, none⟩) ln q1) (by omega)).trans xh1
    have C2 := (Chg.of_pure (S := fun k => k = g) c1).trans' cs2
    have HR2 := Lib.hid hr2
    have HO2 := Lib.hid ho2
    have HC2 := Lib.hid C2
    have hs1 := c1.size
    clear hr1 hr2 cs2 ho1 ho2 C2 c1 fg xg xh HCL y0 H
    have k1 : (ln : Int) - 3 ≠ 0 := by omega
    have k2 : (0 : Int) < (ln : Int) - 3 := by omega
    go_upto_region 9 with (fail)
    generalize (w1.setCell ⟨g, i * 2, none⟩ (.slice (some ⟨r, 0, none⟩) ln q1)) = w2 at *
    clear xg1 xh1 f1
    obtain ⟨pl, hpl⟩ : ∃ pl : Nat, (ln : Int) - 3 = (pl : Int) := ⟨ln - 3, by omega⟩
    rw [hpl] at k1 k2 ⊢
    have hplN : pl = ln - 3 := by omega
    have HPL := Lib.hid hplN
    clear hplN hpl
    have b1 := Int.tmod_lt_of_pos at_ k2
    have b2 : -(pl : Int) < at_.tmod pl := Int.lt_tmod_of_pos at_ k2
    have b3 : 0 ≤ (at_.tmod pl + pl).tmod pl := Int.tmod_nonneg _ (by omega)
    have b4 := Int.tmod_lt_of_pos (at_.tmod pl + pl) k2
    obtain ⟨a, ha⟩ : ∃ a : Nat, (at_.tmod pl + pl).tmod pl = (a : Int) := ⟨((at_.tmod pl + pl).tmod pl).toNat, by omega⟩
    have hTA : turnAt d.xs.length at_ = a := by
      unfold turnAt
      rw [HLN.out, ← HPL.out, ha]
      exact Int.toNat_natCast a
    have HTA := Lib.hid hTA
    clear hTA
    have hal : a + 4 ≤ ln := by have := HPL.out; omega
    have HA := Lib.hid ha
    go_upto_region 10 with (fail)
    have hwr : wrap64 (at_.tmod pl + pl) = at_.tmod pl + pl := by
      have := HPL.out
      unfold wrap64
      omega
    rw [hwr, HA.out]
    clear HA ha b3 b4 hwr b1 b2 k1 k2 HPL
    have hrB2 : w.heap.size ≤ r := hrB
    have HX0 : Hid (w2.ownsRow w.heap.size 5 1 (.slice (some ⟨r, 0, none⟩) ln q1) ln (enc (xorAt d.xs a by_ 0))) := HO2
    go_wp2_with (fail)
    go_loopw [57] (fun i57 wr => ∃ k : Nat, k ≤ 4 ∧ i57 = .int .i64 k ∧ Hid (wr.ownsRow w.heap.size 5 1 (.slice (some ⟨r, 0, none⟩) ln q1) ln (enc (xorAt d.xs a by_ k))) ∧ Hid (Chg (fun k => k = r) w2 wr)) (fun i57 _ => 4 - (intOf i57).toNat)
    case atStart => exact ⟨0, by omega, rfl, HX0, Lib.hid (Chg.refl _ _)⟩
    case round =>
      obtain ⟨k, hk, rfl, HO, HC⟩ := hrel
      have xg3 := HC.out.cell xg2 (fun e : g = r => hrg e.symm)
      have xh3 := HC.out.cell xh2 (fun e : g = r => hrg e.symm)
      have hxl : (xorAt d.xs a by_ k).length = ln := by rw [xorAt_length]; exact HLN.out
      by_cases hlt : k < 4
      · obtain ⟨x0, f0⟩ := own_cell8 HO.out (i := a + k) (by omega)
        obtain ⟨z, hz⟩ : ∃ z, (xorAt d.xs a by_ k).getD (a + k) 0 = z := ⟨_, rfl⟩
        rw [hz] at x0
        have hx := byteK_xor z by_ k hlt
        obtain ⟨ho2, -⟩ := HO.out.stored (a + k) (.int .u8 ((z ^^^ byteK by_ k).toNat : Int))
        rw [enc_set] at ho2
        have HO3 : Hid (_) := Lib.hid ho2
        have hs : xorAt d.xs a by_ (k + 1) = (xorAt d.xs a by_ k).set (a + k) (z ^^^ byteK by_ k) := by rw [xorAt, hz]
        rw [← hs] at HO3
        have cs : Chg (fun k => k = r) wr (wr.setCell ⟨r, a + k, none⟩ (.int .u8 ((z ^^^ byteK by_ k).toNat : Int))) := Chg.setCell (S := fun k => k = r) (Chg.refl _ wr) (p := ⟨r, a + k, none⟩) (.inr rfl) _
        have HC3 := Lib.hid (HC.out.trans' cs)
        have j1 : (k : Int) < 4 := by omega
        clear ho2 cs HO HC hs hz hxl
        have k4 : k = 0 ∨ k = 1 ∨ k = 2 ∨ k = 3 := by omega
        clear hlt hk
        obtain ⟨zz, hzz⟩ : ∃ zz : UInt8, z ^^^ byteK by_ k = zz := ⟨_, rfl⟩
        rw [hzz] at hx HO3 HC3
        clear hzz
        obtain ⟨m, hm⟩ : ∃ m, a + k = m := ⟨_, rfl⟩
        rw [hm] at x0 f0 HO3 HC3
        rcases k4 with rfl | rfl | rfl | rfl
        · have jm : (m : Int) < (ln : Int) := by omega
          obtain rfl : m = a := by omega
          have hx2 : bits .xor .u8 (z.toNat : Int) ((by_.toNat : Int) % 256) = (zz.toNat : Int) := by
            rw [show ((2 ^ (8 * 0) : Nat) : Int) = 1 from rfl] at hx
            rw [Int.ediv_one] at hx; exact hx
          clear hx
          go_wp2_with (fail)
          refine regL_begin 16 (Pure') (by kernel_rfl) ?_
          refine regL_take 0 (v := ?_) rfl (by kernel_rfl) (by kernel_rfl) (by kernel_rfl) (by kernel_rfl) (fun _ _ _ h => h) (by kernel_rfl) ?_ ?_
          rotate_left
          · (intro w' hS; go_simp; (try go_bits); (try with_reducible rfl))
          try simp only [Act.put, List.getElem_toArray, List.getElem_cons_zero, List.getElem_cons_succ, List.setIfInBounds_toArray, List.set_cons_zero, List.set_cons_succ]
          refine regL_take 1 (v := ?_) rfl (by kernel_rfl) (by kernel_rfl) (by kernel_rfl) (by kernel_rfl) (fun _ _ _ h => h) (by kernel_rfl) ?_ ?_
          rotate_left
          · (intro w' hS; go_simp; (try go_bits); (try with_reducible rfl))
          try simp only [Act.put, List.getElem_toArray, List.getElem_cons_zero, List.getElem_cons_succ, List.setIfInBounds_toArray, List.set_cons_zero, List.set_cons_succ]
          refine regL_take 2 (v := ?_) rfl (by kernel_rfl) (by kernel_rfl) (by kernel_rfl) (by kernel_rfl) (fun _ _ _ h => h) (by kernel_rfl) ?_ ?_
          rotate_left
          · (intro w' hS; go_simp; (try go_bits); (try with_reducible rfl))
          try simp only [Act.put, List.getElem_toArray, List.getElem_cons_zero, List.getElem_cons_succ, List.setIfInBounds_toArray, List.set_cons_zero, List.set_cons_succ]
          refine regL_take 3 (v := ?_) rfl (by kernel_rfl) (by kernel_rfl) (by kernel_rfl) (by kernel_rfl) (fun _ _ _ h => h) (by kernel_rfl) ?_ ?_
          rotate_left
          · (intro w' hS; have hz := hS.cell (w := wr.drew) xg3 (fun h => h); go_simp; (try go_bits); (try with_reducible rfl))
          try simp only [Act.put, List.getElem_toArray, List.getElem_cons_zero, List.getElem_cons_succ, List.setIfInBounds_toArray, List.set_cons_zero, List.set_cons_succ]
          refine regL_take 4 (v := ?_) rfl (by kernel_rfl) (by kernel_rfl) (by kernel_rfl) (by kernel_rfl) (fun _ _ _ h => h) (by kernel_rfl) ?_ ?_
          rotate_left
          · (intro w' hS; go_simp; (try go_bits); (try with_reducible rfl))
          try simp only [Act.put, List.getElem_toArray, List.getElem_cons_zero, List.getElem_cons_succ, List.setIfInBounds_toArray, List.set_cons_zero, List.set_cons_succ]
          refine regL_take 5 (v := ?_) rfl (by kernel_rfl) (by kernel_rfl) (by kernel_rfl) (by kernel_rfl) (fun _ _ _ h => h) (by kernel_rfl) ?_ ?_
          rotate_left
          · (intro w' hS; go_simp; (try go_bits); (try with_reducible rfl))
          try simp only [Act.put, List.getElem_toArray, List.getElem_cons_zero, List.getElem_cons_succ, List.setIfInBounds_toArray, List.set_cons_zero, List.set_cons_succ]
          refine regL_take 6 (v := ?_) rfl (by kernel_rfl) (by kernel_rfl) (by kernel_rfl) (by kernel_rfl) (fun _ _ _ h => h) (by kernel_rfl) ?_ ?_
          rotate_left
          · (intro w' hS; go_simp; (try go_bits); (try with_reducible rfl))
          try simp only [Act.put, List.getElem_toArray, List.getElem_cons_zero, List.getElem_cons_succ, List.setIfInBounds_toArray, List.set_cons_zero, List.set_cons_succ]
          refine regL_take 7 (v := ?_) rfl (by kernel_rfl) (by kernel_rfl) (by kernel_rfl) (by kernel_rfl) (fun _ _ _ h => h) (by kernel_rfl) ?_ ?_
          rotate_left
          · (intro w' hS; go_simp; (try go_bits); (try with_reducible rfl))
          try simp only [Act.put, List.getElem_toArray, List.getElem_cons_zero, List.getElem_cons_succ, List.setIfInBounds_toArray, List.set_cons_zero, List.set_cons_succ]
          refine regL_take 8 (v := ?_) rfl (by kernel_rfl) (by kernel_rfl) (by kernel_rfl) (by kernel_rfl) (fun _ _ _ h => h) (by kernel_rfl) ?_ ?_
          rotate_left
          · (intro w' hS; have hz := hS.cell (w := wr.drew) x0 (fun h => h); go_simp; (try go_bits); (try with_reducible rfl))
          try simp only [Act.put, List.getElem_toArray, List.getElem_cons_zero, List.getElem_cons_succ, List.setIfInBounds_toArray, List.set_cons_zero, List.set_cons_succ]
          refine regL_take 9 (v := ?_) rfl (by kernel_rfl) (by kernel_rfl) (by kernel_rfl) (by kernel_rfl) (fun _ _ _ h => h) (by kernel_rfl) ?_ ?_
          rotate_left
          · (intro w' hS; go_simp; (try go_bits); (try with_reducible rfl))
          try simp only [Act.put, List.getElem_toArray, List.getElem_cons_zero, List.getElem_cons_succ, List.setIfInBounds_toArray, List.set_cons_zero, List.set_cons_succ]
          refine regL_take 10 (v := ?_) rfl (by kernel_rfl) (by kernel_rfl) (by kernel_rfl) (by kernel_rfl) (fun _ _ _ h => h) (by kernel_rfl) ?_ ?_
          rotate_left
          · (intro w' hS; go_simp; (try go_bits); (try with_reducible rfl))
          try simp only [Act.put, List.getElem_toArray, List.getElem_cons_zero, List.getElem_cons_succ, List.setIfInBounds_toArray, List.set_cons_zero, List.set_cons_succ]
          refine regL_take 11 (v := ?_) rfl (by kernel_rfl) (by kernel_rfl) (by kernel_rfl) (by kernel_rfl) (fun _ _ _ h => h) (by kernel_rfl) ?_ ?_
          rotate_left
          · (intro w' hS; go_simp; (try go_bits); (try with_reducible rfl))
          try simp only [Act.put, List.getElem_toArray, List.getElem_cons_zero, List.getElem_cons_succ, List.setIfInBounds_toArray, List.set_cons_zero, List.set_cons_succ]
          refine regL_take 12 (v := ?_) rfl (by kernel_rfl) (by kernel_rfl) (by kernel_rfl) (by kernel_rfl) (fun _ _ _ h => h) (by kernel_rfl) ?_ ?_
          rotate_left
          · (intro w' hS; go_simp; (try go_bits); (try with_reducible rfl))
          try simp only [Act.put, List.getElem_toArray, List.getElem_cons_zero, List.getElem_cons_succ, List.setIfInBounds_toArray, List.set_cons_zero, List.set_cons_succ]
          refine regL_take 13 (v := ?_) rfl (by kernel_rfl) (by kernel_rfl) (by kernel_rfl) (by kernel_rfl) (fun _ _ _ h => h) (by kernel_rfl) ?_ ?_
          rotate_left
          · (intro w' hS; go_simp; (try go_bits); (try with_reducible rfl))
          try simp only [Act.put, List.getElem_toArray, List.getElem_cons_zero, List.getElem_cons_succ, List.setIfInBounds_toArray, List.set_cons_zero, List.set_cons_succ]
          refine regL_take 14 (v := ?_) rfl (by kernel_rfl) (by kernel_rfl) (by kernel_rfl) (by kernel_rfl) (fun _ _ _ h => h) (by kernel_rfl) ?_ ?_
          rotate_left
          · (intro w' hS; go_simp; (try go_bits); (try with_reducible rfl))
          try simp only [Act.put, List.getElem_toArray, List.getElem_cons_zero, List.getElem_cons_succ, List.setIfInBounds_toArray, List.set_cons_zero, List.set_cons_succ]
          refine regL_take 15 (v := ?_) rfl (by kernel_rfl) (by kernel_rfl) (by kernel_rfl) (by kernel_rfl) (fun _ _ _ h => h) (by kernel_rfl) ?_ ?_
          rotate_left
          · (intro w' hS; go_simp; (try go_bits); (try with_reducible rfl))
          try simp only [Act.put, List.getElem_toArray, List.getElem_cons_zero, List.getElem_cons_succ, List.setIfInBounds_toArray, List.set_cons_zero, List.set_cons_succ]
          refine regL_last rfl (by kernel_rfl) (by kernel_rfl) ?_
          intro K hK
          go_simp
          refine hK _ _ ?_
          clear hK K
          try simp only [Act.put, List.getElem_toArray, List.getElem_cons_zero, List.getElem_cons_succ, List.setIfInBounds_toArray, List.set_cons_zero, List.set_cons_succ]
          refine wpAnyL_done (by kernel_rfl) ?_ _
          go_wp2
          go_roundw
          case rel => exact ⟨1, by omega, by go_num, Lib.hid HO3.out.drew, Lib.hid HC3.out.drew⟩
          case measure => simp [intOf]
        · have jm : (m : Int) < (ln : Int) := by omega
          have e3 : wrap64 ((a : Int) + 1) = (m : Int) := by unfold wrap64; omega
          have hx2 : bits .xor .u8 (z.toNat : Int) ((by_.toNat : Int) / 256 % 256) = (zz.toNat : Int) := by
            rw [show ((2 ^ (8 * 1) : Nat) : Int) = 256 from rfl] at hx
            exact hx
          clear hx hm hal
          go_wp2_with (fail)
          refine regL_begin 16 (Pure') (by kernel_rfl) ?_
          refine regL_take 0 (v := ?_) rfl (by kernel_rfl) (by kernel_rfl) (by kernel_rfl) (by kernel_rfl) (fun _ _ _ h => h) (by kernel_rfl) ?_ ?_
          rotate_left
          · (intro w' hS; go_simp; (try go_bits); (try with_reducible rfl))
          try simp only [Act.put, List.getElem_toArray, List.getElem_cons_zero, List.getElem_cons_succ, List.setIfInBounds_toArray, List.set_cons_zero, List.set_cons_succ]
          refine regL_take 1 (v := ?_) rfl (by kernel_rfl) (by kernel_rfl) (by kernel_rfl) (by kernel_rfl) (fun _ _ _ h => h) (by kernel_rfl) ?_ ?_
          rotate_left
          · (intro w' hS; go_simp; (try go_bits); (try with_reducible rfl))
          try simp only [Act.put, List.getElem_toArray, List.getElem_cons_zero, List.getElem_cons_succ, List.setIfInBounds_toArray, List.set_cons_zero, List.set_cons_succ]
          refine regL_take 2 (v := ?_) rfl (by kernel_rfl) (by kernel_rfl) (by kernel_rfl) (by kernel_rfl) (fun _ _ _ h => h) (by kernel_rfl) ?_ ?_
          rotate_left
          · (intro w' hS; go_simp; (try go_bits); (try with_reducible rfl))
          try simp only [Act.put, List.getElem_toArray, List.getElem_cons_zero, List.getElem_cons_succ, List.setIfInBounds_toArray, List.set_cons_zero, List.set_cons_succ]
          refine regL_take 3 (v := ?_) rfl (by kernel_rfl) (by kernel_rfl) (by kernel_rfl) (by kernel_rfl) (fun _ _ _ h => h) (by kernel_rfl) ?_ ?_
          rotate_left
          · (intro w' hS; have hz := hS.cell (w := wr.drew) xg3 (fun h => h); go_simp; (try go_bits); (try with_reducible rfl))
          try simp only [Act.put, List.getElem_toArray, List.getElem_cons_zero, List.getElem_cons_succ, List.setIfInBounds_toArray, List.set_cons_zero, List.set_cons_succ]
          refine regL_take 4 (v := ?_) rfl (by kernel_rfl) (by kernel_rfl) (by kernel_rfl) (by kernel_rfl) (fun _ _ _ h => h) (by kernel_rfl) ?_ ?_
          rotate_left
          · (intro w' hS; go_simp; (try go_bits); (try with_reducible rfl))
          try simp only [Act.put, List.getElem_toArray, List.getElem_cons_zero, List.getElem_cons_succ, List.setIfInBounds_toArray, List.set_cons_zero, List.set_cons_succ]
          refine regL_take 5 (v := ?_) rfl (by kernel_rfl) (by kernel_rfl) (by kernel_rfl) (by kernel_rfl) (fun _ _ _ h => h) (by kernel_rfl) ?_ ?_
          rotate_left
          · (intro w' hS; go_simp; (try go_bits); (try with_reducible rfl))
          try simp only [Act.put, List.getElem_toArray, List.getElem_cons_zero, List.getElem_cons_succ, List.setIfInBounds_toArray, List.set_cons_zero, List.set_cons_succ]
          refine regL_take 6 (v := ?_) rfl (by kernel_rfl) (by kernel_rfl) (by kernel_rfl) (by kernel_rfl) (fun _ _ _ h => h) (by kernel_rfl) ?_ ?_
          rotate_left
          · (intro w' hS; go_simp; (try go_bits); (try with_reducible rfl))
          try simp only [Act.put, List.getElem_toArray, List.getElem_cons_zero, List.getElem_cons_succ, List.setIfInBounds_toArray, List.set_cons_zero, List.set_cons_succ]
          refine regL_take 7 (v := ?_) rfl (by kernel_rfl) (by kernel_rfl) (by kernel_rfl) (by kernel_rfl) (fun _ _ _ h => h) (by kernel_rfl) ?_ ?_
          rotate_left
          · (intro w' hS; go_simp; (try go_bits); (try with_reducible rfl))
          try simp only [Act.put, List.getElem_toArray, List.getElem_cons_zero, List.getElem_cons_succ, List.setIfInBounds_toArray, List.set_cons_zero, List.set_cons_succ]
          refine regL_take 8 (v := ?_) rfl (by kernel_rfl) (by kernel_rfl) (by kernel_rfl) (by kernel_rfl) (fun _ _ _ h => h) (by kernel_rfl) ?_ ?_
          rotate_left
          · (intro w' hS; have hz := hS.cell (w := wr.drew) x0 (fun h => h); go_simp; (try go_bits); (try with_reducible rfl))
          try simp only [Act.put, List.getElem_toArray, List.getElem_cons_zero, List.getElem_cons_succ, List.setIfInBounds_toArray, List.set_cons_zero, List.set_cons_succ]
          refine regL_take 9 (v := ?_) rfl (by kernel_rfl) (by kernel_rfl) (by kernel_rfl) (by kernel_rfl) (fun _ _ _ h => h) (by kernel_rfl) ?_ ?_
          rotate_left
          · (intro w' hS; go_simp; (try go_bits); (try with_reducible rfl))
          try simp only [Act.put, List.getElem_toArray, List.getElem_cons_zero, List.getElem_cons_succ, List.setIfInBounds_toArray, List.set_cons_zero, List.set_cons_succ]
          refine regL_take 10 (v := ?_) rfl (by kernel_rfl) (by kernel_rfl) (by kernel_rfl) (by kernel_rfl) (fun _ _ _ h => h) (by kernel_rfl) ?_ ?_
          rotate_left
          · (intro w' hS; go_simp; (try go_bits); (try with_reducible rfl))
          try simp only [Act.put, List.getElem_toArray, List.getElem_cons_zero, List.getElem_cons_succ, List.setIfInBounds_toArray, List.set_cons_zero, List.set_cons_succ]
          refine regL_take 11 (v := ?_) rfl (by kernel_rfl) (by kernel_rfl) (by kernel_rfl) (by kernel_rfl) (fun _ _ _ h => h) (by kernel_rfl) ?_ ?_
          rotate_left
          · (intro w' hS; go_simp; (try go_bits); (try with_reducible rfl))
          try simp only [Act.put, List.getElem_toArray, List.getElem_cons_zero, List.getElem_cons_succ, List.setIfInBounds_toArray, List.set_cons_zero, List.set_cons_succ]
          refine regL_take 12 (v := ?_) rfl (by kernel_rfl) (by kernel_rfl) (by kernel_rfl) (by kernel_rfl) (fun _ _ _ h => h) (by kernel_rfl) ?_ ?_
          rotate_left
          · (intro w' hS; go_simp; (try go_bits); (try with_reducible rfl))
          try simp only [Act.put, List.getElem_toArray, List.getElem_cons_zero, List.getElem_cons_succ, List.setIfInBounds_toArray, List.set_cons_zero, List.set_cons_succ]
          refine regL_take 13 (v := ?_) rfl (by kernel_rfl) (by kernel_rfl) (by kernel_rfl) (by kernel_rfl) (fun _ _ _ h => h) (by kernel_rfl) ?_ ?_
          rotate_left
          · (intro w' hS; go_simp; (try go_bits); (try with_reducible rfl))
          try simp only [Act.put, List.getElem_toArray, List.getElem_cons_zero, List.getElem_cons_succ, List.setIfInBounds_toArray, List.set_cons_zero, List.set_cons_succ]
          refine regL_take 14 (v := ?_) rfl (by kernel_rfl) (by kernel_rfl) (by kernel_rfl) (by kernel_rfl) (fun _ _ _ h => h) (by kernel_rfl) ?_ ?_
          rotate_left
          · (intro w' hS; go_simp; (try go_bits); (try with_reducible rfl))
          try simp only [Act.put, List.getElem_toArray, List.getElem_cons_zero, List.getElem_cons_succ, List.setIfInBounds_toArray, List.set_cons_zero, List.set_cons_succ]
          refine regL_take 15 (v := ?_) rfl (by kernel_rfl) (by kernel_rfl) (by kernel_rfl) (by kernel_rfl) (fun _ _ _ h => h) (by kernel_rfl) ?_ ?_
          rotate_left
          · (intro w' hS; go_simp; (try go_bits); (try with_reducible rfl))
          try simp only [Act.put, List.getElem_toArray, List.getElem_cons_zero, List.getElem_cons_succ, List.setIfInBounds_toArray, List.set_cons_zero, List.set_cons_succ]
          refine regL_last rfl (by kernel_rfl) (by kernel_rfl) ?_
          intro K hK
          go_simp
          refine hK _ _ ?_
          clear hK K
          try simp only [Act.put, List.getElem_toArray, List.getElem_cons_zero, List.getElem_cons_succ, List.setIfInBounds_toArray, List.set_cons_zero, List.set_cons_succ]
          refine wpAnyL_done (by kernel_rfl) ?_ _
          go_wp2
          go_roundw
          case rel => exact ⟨2, by omega, by go_num, Lib.hid HO3.out.drew, Lib.hid HC3.out.drew⟩
          case measure => simp [intOf]
        · have jm : (m : Int) < (ln : Int) := by omega
          have e3 : wrap64 ((a : Int) + 2) = (m : Int) := by unfold wrap64; omega
          have hx2 : bits .xor .u8 (z.toNat : Int) ((by_.toNat : Int) / 65536 % 256) = (zz.toNat : Int) := by
            rw [show ((2 ^ (8 * 2) : Nat) : Int) = 65536 from rfl] at hx
            exact hx
          clear hx hm hal
          go_wp2_with (fail)
          refine regL_begin 16 (Pure') (by kernel_rfl) ?_
          refine regL_take 0 (v := ?_) rfl (by kernel_rfl) (by kernel_rfl) (by kernel_rfl) (by kernel_rfl) (fun _ _ _ h => h) (by kernel_rfl) ?_ ?_
          rotate_left
          · (intro w' hS; go_simp; (try go_bits); (try with_reducible rfl))
          try simp only [Act.put, List.getElem_toArray, List.getElem_cons_zero, List.getElem_cons_succ, List.setIfInBounds_toArray, List.set_cons_zero, List.set_cons_succ]
          refine regL_take 1 (v := ?_) rfl (by kernel_rfl) (by kernel_rfl) (by kernel_rfl) (by kernel_rfl) (fun _ _ _ h => h) (by kernel_rfl) ?_ ?_
          rotate_left
          · (intro w' hS; go_simp; (try go_bits); (try with_reducible rfl))
          try simp only [Act.put, List.getElem_toArray, List.getElem_cons_zero, List.getElem_cons_succ, List.setIfInBounds_toArray, List.set_cons_zero, List.set_cons_succ]
          refine regL_take 2 (v := ?_) rfl (by kernel_rfl) (by kernel_rfl) (by kernel_rfl) (by kernel_rfl) (fun _ _ _ h => h) (by kernel_rfl) ?_ ?_
          rotate_left
          · (intro w' hS; go_simp; (try go_bits); (try with_reducible rfl))
          try simp only [Act.put, List.getElem_toArray, List.getElem_cons_zero, List.getElem_cons_succ, List.setIfInBounds_toArray, List.set_cons_zero, List.set_cons_succ]
          refine regL_take 3 (v := ?_) rfl (by kernel_rfl) (by kernel_rfl) (by kernel_rfl) (by kernel_rfl) (fun _ _ _ h => h) (by kernel_rfl) ?_ ?_
          rotate_left
          · (intro w' hS; have hz := hS.cell (w := wr.drew) xg3 (fun h => h); go_simp; (try go_bits); (try with_reducible rfl))
          try simp only [Act.put, List.getElem_toArray, List.getElem_cons_zero, List.getElem_cons_succ, List.setIfInBounds_toArray, List.set_cons_zero, List.set_cons_succ]
          refine regL_take 4 (v := ?_) rfl (by kernel_rfl) (by kernel_rfl) (by kernel_rfl) (by kernel_rfl) (fun _ _ _ h => h) (by kernel_rfl) ?_ ?_
          rotate_left
          · (intro w' hS; go_simp; (try go_bits); (try with_reducible rfl))
          try simp only [Act.put, List.getElem_toArray, List.getElem_cons_zero, List.getElem_cons_succ, List.setIfInBounds_toArray, List.set_cons_zero, List.set_cons_succ]
          refine regL_take 5 (v := ?_) rfl (by kernel_rfl) (by kernel_rfl) (by kernel_rfl) (by kernel_rfl) (fun _ _ _ h => h) (by kernel_rfl) ?_ ?_
          rotate_left
          · (intro w' hS; go_simp; (try go_bits); (try with_reducible rfl))
          try simp only [Act.put, List.getElem_toArray, List.getElem_cons_zero, List.getElem_cons_succ, List.setIfInBounds_toArray, List.set_cons_zero, List.set_cons_succ]
          refine regL_take 6 (v := ?_) rfl (by kernel_rfl) (by kernel_rfl) (by kernel_rfl) (by kernel_rfl) (fun _ _ _ h => h) (by kernel_rfl) ?_ ?_
          rotate_left
          · (intro w' hS; go_simp; (try go_bits); (try with_reducible rfl))
          try simp only [Act.put, List.getElem_toArray, List.getElem_cons_zero, List.getElem_cons_succ, List.setIfInBounds_toArray, List.set_cons_zero, List.set_cons_succ]
          refine regL_take 7 (v := ?_) rfl (by kernel_rfl) (by kernel_rfl) (by kernel_rfl) (by kernel_rfl) (fun _ _ _ h => h) (by kernel_rfl) ?_ ?_
          rotate_left
          · (intro w' hS; go_simp; (try go_bits); (try with_reducible rfl))
          try simp only [Act.put, List.getElem_toArray, List.getElem_cons_zero, List.getElem_cons_succ, List.setIfInBounds_toArray, List.set_cons_zero, List.set_cons_succ]
          refine regL_take 8 (v := ?_) rfl (by kernel_rfl) (by kernel_rfl) (by kernel_rfl) (by kernel_rfl) (fun _ _ _ h => h) (by kernel_rfl) ?_ ?_
          rotate_left
          · (intro w' hS; have hz := hS.cell (w := wr.drew) x0 (fun h => h); go_simp; (try go_bits); (try with_reducible rfl))
          try simp only [Act.put, List.getElem_toArray, List.getElem_cons_zero, List.getElem_cons_succ, List.setIfInBounds_toArray, List.set_cons_zero, List.set_cons_succ]
          refine regL_take 9 (v := ?_) rfl (by kernel_rfl) (by kernel_rfl) (by kernel_rfl) (by kernel_rfl) (fun _ _ _ h => h) (by kernel_rfl) ?_ ?_
          rotate_left
          · (intro w' hS; go_simp; (try go_bits); (try with_reducible rfl))
          try simp only [Act.put, List.getElem_toArray, List.getElem_cons_zero, List.getElem_cons_succ, List.setIfInBounds_toArray, List.set_cons_zero, List.set_cons_succ]
          refine regL_take 10 (v := ?_) rfl (by kernel_rfl) (by kernel_rfl) (by kernel_rfl) (by kernel_rfl) (fun _ _ _ h => h) (by kernel_rfl) ?_ ?_
          rotate_left
          · (intro w' hS; go_simp; (try go_bits); (try with_reducible rfl))
          try simp only [Act.put, List.getElem_toArray, List.getElem_cons_zero, List.getElem_cons_succ, List.setIfInBounds_toArray, List.set_cons_zero, List.set_cons_succ]
          refine regL_take 11 (v := ?_) rfl (by kernel_rfl) (by kernel_rfl) (by kernel_rfl) (by kernel_rfl) (fun _ _ _ h => h) (by kernel_rfl) ?_ ?_
          rotate_left
          · (intro w' hS; go_simp; (try go_bits); (try with_reducible rfl))
          try simp only [Act.put, List.getElem_toArray, List.getElem_cons_zero, List.getElem_cons_succ, List.setIfInBounds_toArray, List.set_cons_zero, List.set_cons_succ]
          refine regL_take 12 (v := ?_) rfl (by kernel_rfl) (by kernel_rfl) (by kernel_rfl) (by kernel_rfl) (fun _ _ _ h => h) (by kernel_rfl) ?_ ?_
          rotate_left
          · (intro w' hS; go_simp; (try go_bits); (try with_reducible rfl))
          try simp only [Act.put, List.getElem_toArray, List.getElem_cons_zero, List.getElem_cons_succ, List.setIfInBounds_toArray, List.set_cons_zero, List.set_cons_succ]
          refine regL_take 13 (v := ?_) rfl (by kernel_rfl) (by kernel_rfl) (by kernel_rfl) (by kernel_rfl) (fun _ _ _ h => h) (by kernel_rfl) ?_ ?_
          rotate_left
          · (intro w' hS; go_simp; (try go_bits); (try with_reducible rfl))
          try simp only [Act.put, List.getElem_toArray, List.getElem_cons_zero, List.getElem_cons_succ, List.setIfInBounds_toArray, List.set_cons_zero, List.set_cons_succ]
          refine regL_take 14 (v := ?_) rfl (by kernel_rfl) (by kernel_rfl) (by kernel_rfl) (by kernel_rfl) (fun _ _ _ h => h) (by kernel_rfl) ?_ ?_
          rotate_left
          · (intro w' hS; go_simp; (try go_bits); (try with_reducible rfl))
          try simp only [Act.put, List.getElem_toArray, List.getElem_cons_zero, List.getElem_cons_succ, List.setIfInBounds_toArray, List.set_cons_zero, List.set_cons_succ]
          refine regL_take 15 (v := ?_) rfl (by kernel_rfl) (by kernel_rfl) (by kernel_rfl) (by kernel_rfl) (fun _ _ _ h => h) (by kernel_rfl) ?_ ?_
          rotate_left
          · (intro w' hS; go_simp; (try go_bits); (try with_reducible rfl))
          try simp only [Act.put, List.getElem_toArray, List.getElem_cons_zero, List.getElem_cons_succ, List.setIfInBounds_toArray, List.set_cons_zero, List.set_cons_succ]
          refine regL_last rfl (by kernel_rfl) (by kernel_rfl) ?_
          intro K hK
          go_simp
          refine hK _ _ ?_
          clear hK K
          try simp only [Act.put, List.getElem_toArray, List.getElem_cons_zero, List.getElem_cons_succ, List.setIfInBounds_toArray, List.set_cons_zero, List.set_cons_succ]
          refine wpAnyL_done (by kernel_rfl) ?_ _
          go_wp2
          go_roundw
          case rel => exact ⟨3, by omega, by go_num, Lib.hid HO3.out.drew, Lib.hid HC3.out.drew⟩
          case measure => simp [intOf]
        · have jm : (m : Int) < (ln : Int) := by omega
          have e3 : wrap64 ((a : Int) + 3) = (m : Int) := by unfold wrap64; omega
          have hx2 : bits .xor .u8 (z.toNat : Int) ((by_.toNat : Int) / 16777216 % 256) = (zz.toNat : Int) := by
            rw [show ((2 ^ (8 * 3) : Nat) : Int) = 16777216 from rfl] at hx
            exact hx
          clear hx hm hal
          go_wp2_with (fail)
          refine regL_begin 16 (Pure') (by kernel_rfl) ?_
          refine regL_take 0 (v := ?_) rfl (by kernel_rfl) (by kernel_rfl) (by kernel_rfl) (by kernel_rfl) (fun _ _ _ h => h) (by kernel_rfl) ?_ ?_
          rotate_left
          · (intro w' hS; go_simp; (try go_bits); (try with_reducible rfl))
          try simp only [Act.put, List.getElem_toArray, List.getElem_cons_zero, List.getElem_cons_succ, List.setIfInBounds_toArray, List.set_cons_zero, List.set_cons_succ]
          refine regL_take 1 (v := ?_) rfl (by kernel_rfl) (by kernel_rfl) (by kernel_rfl) (by kernel_rfl) (fun _ _ _ h => h) (by kernel_rfl) ?_ ?_
          rotate_left
          · (intro w' hS; go_simp; (try go_bits); (try with_reducible rfl))
          try simp only [Act.put, List.getElem_toArray, List.getElem_cons_zero, List.getElem_cons_succ, List.setIfInBounds_toArray, List.set_cons_zero, List.set_cons_succ]
          refine regL_take 2 (v := ?_) rfl (by kernel_rfl) (by kernel_rfl) (by kernel_rfl) (by kernel_rfl) (fun _ _ _ h => h) (by kernel_rfl) ?_ ?_
          rotate_left
          · (intro w' hS; go_simp; (try go_bits); (try with_reducible rfl))
          try simp only [Act.put, List.getElem_toArray, List.getElem_cons_zero, List.getElem_cons_succ, List.setIfInBounds_toArray, List.set_cons_zero, List.set_cons_succ]
          refine regL_take 3 (v := ?_) rfl (by kernel_rfl) (by kernel_rfl) (by kernel_rfl) (by kernel_rfl) (fun _ _ _ h => h) (by kernel_rfl) ?_ ?_
          rotate_left
          · (intro w' hS; have hz := hS.cell (w := wr.drew) xg3 (fun h => h); go_simp; (try go_bits); (try with_reducible rfl))
          try simp only [Act.put, List.getElem_toArray, List.getElem_cons_zero, List.getElem_cons_succ, List.setIfInBounds_toArray, List.set_cons_zero, List.set_cons_succ]
          refine regL_take 4 (v := ?_) rfl (by kernel_rfl) (by kernel_rfl) (by kernel_rfl) (by kernel_rfl) (fun _ _ _ h => h) (by kernel_rfl) ?_ ?_
          rotate_left
          · (intro w' hS; go_simp; (try go_bits); (try with_reducible rfl))
          try simp only [Act.put, List.getElem_toArray, List.getElem_cons_zero, List.getElem_cons_succ, List.setIfInBounds_toArray, List.set_cons_zero, List.set_cons_succ]
          refine regL_take 5 (v := ?_) rfl (by kernel_rfl) (by kernel_rfl) (by kernel_rfl) (by kernel_rfl) (fun _ _ _ h => h) (by kernel_rfl) ?_ ?_
          rotate_left
          · (intro w' hS; go_simp; (try go_bits); (try with_reducible rfl))
          try simp only [Act.put, List.getElem_toArray, List.getElem_cons_zero, List.getElem_cons_succ, List.setIfInBounds_toArray, List.set_cons_zero, List.set_cons_succ]
          refine regL_take 6 (v := ?_) rfl (by kernel_rfl) (by kernel_rfl) (by kernel_rfl) (by kernel_rfl) (fun _ _ _ h => h) (by kernel_rfl) ?_ ?_
          rotate_left
          · (intro w' hS; go_simp; (try go_bits); (try with_reducible rfl))
          try simp only [Act.put, List.getElem_toArray, List.getElem_cons_zero, List.getElem_cons_succ, List.setIfInBounds_toArray, List.set_cons_zero, List.set_cons_succ]
          refine regL_take 7 (v := ?_) rfl (by kernel_rfl) (by kernel_rfl) (by kernel_rfl) (by kernel_rfl) (fun _ _ _ h => h) (by kernel_rfl) ?_ ?_
          rotate_left
          · (intro w' hS; go_simp; (try go_bits); (try with_reducible rfl))
          try simp only [Act.put, List.getElem_toArray, List.getElem_cons_zero, List.getElem_cons_succ, List.setIfInBounds_toArray, List.set_cons_zero, List.set_cons_succ]
          refine regL_take 8 (v := ?_) rfl (by kernel_rfl) (by kernel_rfl) (by kernel_rfl) (by kernel_rfl) (fun _ _ _ h => h) (by kernel_rfl) ?_ ?_
          rotate_left
          · (intro w' hS; have hz := hS.cell (w := wr.drew) x0 (fun h => h); go_simp; (try go_bits); (try with_reducible rfl))
          try simp only [Act.put, List.getElem_toArray, List.getElem_cons_zero, List.getElem_cons_succ, List.setIfInBounds_toArray, List.set_cons_zero, List.set_cons_succ]
          refine regL_take 9 (v := ?_) rfl (by kernel_rfl) (by kernel_rfl) (by kernel_rfl) (by kernel_rfl) (fun _ _ _ h => h) (by kernel_rfl) ?_ ?_
          rotate_left
          · (intro w' hS; go_simp; (try go_bits); (try with_reducible rfl))
          try simp only [Act.put, List.getElem_toArray, List.getElem_cons_zero, List.getElem_cons_succ, List.setIfInBounds_toArray, List.set_cons_zero, List.set_cons_succ]
          refine regL_take 10 (v := ?_) rfl (by kernel_rfl) (by kernel_rfl) (by kernel_rfl) (by kernel_rfl) (fun _ _ _ h => h) (by kernel_rfl) ?_ ?_
          rotate_left
          · (intro w' hS; go_simp; (try go_bits); (try with_reducible rfl))
          try simp only [Act.put, List.getElem_toArray, List.getElem_cons_zero, List.getElem_cons_succ, List.setIfInBounds_toArray, List.set_cons_zero, List.set_cons_succ]
          refine regL_take 11 (v := ?_) rfl (by kernel_rfl) (by kernel_rfl) (by kernel_rfl) (by kernel_rfl) (fun _ _ _ h => h) (by kernel_rfl) ?_ ?_
          rotate_left
          · (intro w' hS; go_simp; (try go_bits); (try with_reducible rfl))
          try simp only [Act.put, List.getElem_toArray, List.getElem_cons_zero, List.getElem_cons_succ, List.setIfInBounds_toArray, List.set_cons_zero, List.set_cons_succ]
          refine regL_take 12 (v := ?_) rfl (by kernel_rfl) (by kernel_rfl) (by kernel_rfl) (by kernel_rfl) (fun _ _ _ h => h) (by kernel_rfl) ?_ ?_
          rotate_left
          · (intro w' hS; go_simp; (try go_bits); (try with_reducible rfl))
          try simp only [Act.put, List.getElem_toArray, List.getElem_cons_zero, List.getElem_cons_succ, List.setIfInBounds_toArray, List.set_cons_zero, List.set_cons_succ]
          refine regL_take 13 (v := ?_) rfl (by kernel_rfl) (by kernel_rfl) (by kernel_rfl) (by kernel_rfl) (fun _ _ _ h => h) (by kernel_rfl) ?_ ?_
          rotate_left
          · (intro w' hS; go_simp; (try go_bits); (try with_reducible rfl))
          try simp only [Act.put, List.getElem_toArray, List.getElem_cons_zero, List.getElem_cons_succ, List.setIfInBounds_toArray, List.set_cons_zero, List.set_cons_succ]
          refine regL_take 14 (v := ?_) rfl (by kernel_rfl) (by kernel_rfl) (by kernel_rfl) (by kernel_rfl) (fun _ _ _ h => h) (by kernel_rfl) ?_ ?_
          rotate_left
          · (intro w' hS; go_simp; (try go_bits); (try with_reducible rfl))
          try simp only [Act.put, List.getElem_toArray, List.getElem_cons_zero, List.getElem_cons_succ, List.setIfInBounds_toArray, List.set_cons_zero, List.set_cons_succ]
          refine regL_take 15 (v := ?_) rfl (by kernel_rfl) (by kernel_rfl) (by kernel_rfl) (by kernel_rfl) (fun _ _ _ h => h) (by kernel_rfl) ?_ ?_
          rotate_left
          · (intro w' hS; go_simp; (try go_bits); (try with_reducible rfl))
          try simp only [Act.put, List.getElem_toArray, List.getElem_cons_zero, List.getElem_cons_succ, List.setIfInBounds_toArray, List.set_cons_zero, List.set_cons_succ]
          refine regL_last rfl (by kernel_rfl) (by kernel_rfl) ?_
          intro K hK
          go_simp
          refine hK _ _ ?_
          clear hK K
          try simp only [Act.put, List.getElem_toArray, List.getElem_cons_zero, List.getElem_cons_succ, List.setIfInBounds_toArray, List.set_cons_zero, List.set_cons_succ]
          refine wpAnyL_done (by kernel_rfl) ?_ _
          go_wp2
          go_roundw
          case rel => exact ⟨4, by omega, by go_num, Lib.hid HO3.out.drew, Lib.hid HC3.out.drew⟩
          case measure => simp [intOf]
      · obtain rfl : k = 4 := by omega
        have hr3 := own_keep HR2.out HC.out (fun k hk (e : k = r) => hrg (by have : g = k := by simpa [Value.ownBlock] using hk
                                                                             omega))
        have f3 : wr.frozen? ⟨g, i * 2 + 1, none⟩ = false := hr3.frozenAt _
        obtain ⟨hr4, -⟩ := hr3.stored (i * 2 + 1) (.bool (by_ != 0))
        have hbn : ((by_.toNat : Int) != 0) = (by_ != 0) := by
          by_cases hb : by_ = 0
          · subst hb; rfl
          · have : by_.toNat ≠ 0 := fun e => hb (UInt32.toNat_inj.1 e)
            rw [show (by_ != 0) = true from by simpa using hb, bne_iff_ne]
            omega
        have cs4 : Chg (fun k => k = g) wr (wr.setCell ⟨g, i * 2 + 1, none⟩ (.bool (by_ != 0))) := Chg.setCell (S := fun k => k = g) (Chg.refl _ wr) (p := ⟨g, i * 2 + 1, none⟩) (.inr rfl) _
        have ho4 := own_keep HO.out cs4 (fun k hk (e : k = g) => hrg (by have : r = k := by simpa [Value.ownBlock] using hk
                                                                         omega))
        have C4 : Chg (fun k => k = g) w (wr.setCell ⟨g, i * 2 + 1, none⟩ (.bool (by_ != 0))) := (HC2.out.trans HC.out (fun k hk (e : k = r) => by omega)).trans' cs4
        have hset : ((gcells L.G1).set (i * 2) (.slice (some ⟨r, 0, none⟩) ln q1)).set (i * 2 + 1) (.bool (by_ != 0)) = gcells (L.G1.set i ⟨some ⟨r, 0, none⟩, q1, xorAt d.xs a by_ 4, by_ != 0⟩) := by
          rw [← gcells_put _ _ _ (by rw [HN.out]; exact hi)]
          simp only [hxl]
        rw [hset] at hr4
        obtain ⟨A9, q9, hv9, hq9, hb9, -⟩ := Bytes.of_own ho4
        cases hv9
        have hL4 := HH.out.turn1 i ⟨some ⟨r, 0, none⟩, q1, xorAt d.xs a by_ 4, by_ != 0⟩ (by rw [HV.out]; exact hr4) (C4.mono (fun k _ (e : k = g) => by rw [HV.out, e]; rfl)) (by simp only [hxl]; exact hb9) (by simp only [hxl]; exact hq9) (by simp only [hxl]; exact hbig) (fun x hx => by
          have hx : (⟨r, 0, none⟩ : Addr) = x := by simpa using hx
          rw [← hx]
          exact ⟨hrB, (ho4.lt r rfl).2⟩)
        have HL4 := Lib.hid hL4
        have CC4 : Chg (fun k => B.ok k) w _ := C4.mono (fun k _ (e : k = g) => (HH.out.own k (by rw [e, HH.out.gr1.cv g (by rw [HV.out]; rfl)]; decide)).1)
        have HC4 := Lib.hid CC4
        clear hL4 CC4 C4 ho4 cs4 hr4 hr3 hset hxl hb9 HO HC HX0 HO2 HR2 HC2 xg2 xh2 hlt
        go_wp2
        go_ret
        refine ⟨rfl, LinkIn.mk HL4.out rfl ?_, HC4.out⟩
        unfold Lm.pl turnB
        rw [HTA.out]
        simp only [List.map_set]
end Go.Proofs.Ytnpkpfcljkekfaa
