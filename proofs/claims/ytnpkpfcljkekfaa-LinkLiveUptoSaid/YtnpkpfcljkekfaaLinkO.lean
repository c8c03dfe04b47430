/- A tick of a link. -/
import Derived.Test.YtnpkpfcljkekfaaKF
import Derived.Test.YtnpkpfcljkekfaaKB
namespace Go.Proofs.Ytnpkpfcljkekfaa
open Go Go.RowKit
set_option linter.unusedVariables false
set_option maxRecDepth 100000
set_option linter.unusedSimpArgs false

theorem MsgsAt.cells19 {w : World} {B : Nat} {v : Value} {out : List (Nat × List UInt8)} {vs : List Value} (h : MsgsAt w B v out vs) (hp : 0 < out.length) : ∃ g c, v = .slice (some ⟨g, 0, none⟩) out.length c ∧ B ≤ g ∧ ∀ j, j < out.length * 9 → w.cell? ⟨g, j, none⟩ = (rowCells out vs)[j]? := by
  rcases h.row.2 with ⟨rfl, h0⟩ | ⟨g, cap, cur, rfl, hb, hh, r⟩
  · omega
  · exact ⟨g, cap, rfl, hb, fun j hj => h.row.cellAt j hj⟩
theorem rowCells_at19 : ∀ (out : List (Nat × List UInt8)) (vs : List Value) (i : Nat) (h : i < out.length) (h2 : i < vs.length) (c : Nat), c < 9 → (rowCells out vs)[i * 9 + c]? = (msgCells (out[i]).1 (vs[i]))[c]?
  | [], _, i, h, _, _, _ => by simp at h
  | _ :: _, [], i, _, h2, _, _ => by simp at h2
  | (n, d) :: out, v :: vs, i, h, h2, c, hc => by
    cases i with
    | zero =>
      simp only [rowCells, List.getElem_cons_zero]
      rw [List.getElem?_append_left (by simp [msgCells]; omega)]
      simp
    | succ i =>
      simp only [rowCells, List.getElem_cons_succ]
      rw [List.getElem?_append_right (by simp [msgCells]; omega), show (i + 1) * 9 + c - (msgCells n v).length = i * 9 + c from by simp [msgCells]; omega]
      exact rowCells_at19 out vs i (by simpa using h) (by simpa using h2) c hc
theorem dueOut_small (now : Int) : ∀ (n : Nat) (l : List Ld), (∀ x ∈ l, x.data.length ≤ 1200) → ∀ e ∈ dueOut now n l, e.2.length ≤ 1200
  | _, [], _, e, h => by simp [dueOut] at h
  | n, x :: l, hl, e, h => by
    simp only [dueOut] at h
    split at h
    · rcases List.mem_cons.1 h with rfl | h
      · exact hl x (by simp)
      · exact dueOut_small now (n + 1) l (fun y hy => hl y (by simp [hy])) e h
    · exact dueOut_small now (n + 1) l (fun y hy => hl y (by simp [hy])) e h
theorem MsgsAt.keep2 {w w' : World} {S : Nat → Prop} {B : Nat} {v : Value} {out : List (Nat × List UInt8)} {vs : List Value} (h : MsgsAt w B v out vs) (hc : Chg S w w') (hv : ∀ k, v.ownBlock = some k → ¬ S k) (hvs : ∀ i (h2 : i < vs.length) k, (vs[i]'h2).ownBlock = some k → ¬ S k) : MsgsAt w' B v out vs :=
  ⟨h.len, own_keep h.row hc (fun g hg => hv g hg), fun i h1 h2 => own_keep (h.loads i h1 h2) hc (fun g hg => hvs i h2 g hg)⟩
/-- The message that tells a load. -/
def dueM (n : Nat) (xs : List UInt8) : Ms := ⟨1, 0, 0, n, 0, 0, 0, 0, xs⟩
/-- The message that tells what came. -/
def ackM (T W : Nat) (L : List (Option (List UInt8))) : Ms := ⟨2, 0, 0, 0, ((T + lead L : Nat) : Int), UInt64.ofNat (ackTo L (lead L) W).toNat, ((T + W : Nat) : Int), 0, []⟩
theorem ackTo_in (L : List (Option (List UInt8))) (n : Nat) : ∀ j, 0 ≤ ackTo L n j ∧ ackTo L n j < 18446744073709551616
  | 0 => by unfold ackTo; omega
  | j + 1 => by
    unfold ackTo
    split
    · have e : ∀ a b : Int, bits .or .u64 a b = IntKind.u64.wrap ((BitVec.ofInt 64 a ||| BitVec.ofInt 64 b).toNat : Int) := fun a b => rfl
      rw [e, IntKind.wrap_u64]
      omega
    · exact ackTo_in L n j
theorem ackM_cells (T W : Nat) (L : List (Option (List UInt8))) : (ackM T W L).cells none 0 0 = #[.int .i64 2, .int .u64 0, .int .i64 0, .int .i64 0, .int .i64 ((T + lead L : Nat) : Int), .int .u64 (ackTo L (lead L) W), .int .i64 ((T + W : Nat) : Int), .int .i64 0, .slice none 0 0] := by
  have h := ackTo_in L (lead L) W
  have e : (((UInt64.ofNat (ackTo L (lead L) W).toNat).toNat : Nat) : Int) = ackTo L (lead L) W := by
    rw [UInt64.toNat_ofNat']
    omega
  unfold ackM Ms.cells
  simp only
  rw [e]
  rfl
def toldG (token : UInt64) (epoch : Nat) (G : List (List UInt8 × Bool)) (e : Nat × List UInt8) : List (List UInt8 × Bool) := putG G (packB ((dueM e.1 e.2).sealed token epoch), false)
def tickL (s : Lp) : Lp :=
  if s.now = 1099511627776 then s else
  { s with now := s.now + 1, Ls := (dueOf ((s.now : Int) + 1) s.base s.Ls).2, G0 := (dueOf ((s.now : Int) + 1) s.base s.Ls).1.foldl (toldG s.token s.epoch) s.G0, G1 := putG s.G1 (packB ((ackM s.T s.W s.L).sealed s.token s.epoch), false) }
set_option maxHeartbeats 8000000 in
theorem ltick_any {w : World} {B : Base} {p : Nat} {s : Lp} (h : LinkIn w B p s) (hT : s.T ≤ 4611686018427387904) :
    Calls Try.prog 25 #[.pointer (some ⟨p, 0, none⟩)] w fun e w' => e = .returned (.tuple #[]) ∧ LinkIn w' B p (tickL s) ∧ Chg (fun k => B.ok k) w w' := by
  have h0 := h
  obtain ⟨m, col, rfl, rfl, h⟩ := h
  have H := Lib.hid (lok_any h)
  have x1 := h.lk.c1
  by_cases hmax : m.now = 1099511627776
  · have hR : tickL m.pl = m.pl := by unfold tickL; rw [if_pos (show m.pl.now = 1099511627776 from hmax)]
    have H0 := Lib.hid h0
    have HR := Lib.hid hR
    rw [hmax] at x1
    clear h h0 hmax hR
    go_enter Try.func25, Try.ntmps25
    go_wp2_with (fail)
    refine H.out.mono ?_
    rintro e w1 ⟨rfl, rfl⟩
    go_wp2
    first | go_end0 | (refine bodyPost_ret (results_none rfl _ _ _) rfl ?_)
    exact ⟨rfl, by rw [HR.out]; exact H0.out, Chg.refl _ _⟩
  · have hT : m.T ≤ 4611686018427387904 := hT
    have hnow := h.now
    have i1 : ((m.now : Int) == 1099511627776) = false := by rw [beq_eq_false_iff_ne]; omega
    have i1' : ((m.now : Int) = 1099511627776) = False := eq_false (by omega)
    have hR : tickL m.pl = { m.pl with now := m.now + 1, Ls := (dueOf ((m.now : Int) + 1) m.base m.Ls).2, G0 := (dueOf ((m.now : Int) + 1) m.base m.Ls).1.foldl (toldG m.token m.epoch) (m.G0.map fun g => (g.xs, g.sp)), G1 := putG (m.G1.map fun g => (g.xs, g.sp)) (packB ((ackM m.T m.W m.L).sealed m.token m.epoch), false) } := by
      unfold tickL; rw [if_neg (show ¬ m.pl.now = 1099511627776 from hmax)]; rfl
    have HR := Lib.hid hR
    obtain ⟨h1, c1⟩ := h.lcell 1 (.int .i64 ((m.now : Int) + 1)) (m.now + 1) m.epoch m.sent m.got (by omega) (h.lk.tick (m.now + 1) _ (by omega))
    obtain ⟨cs, hb1, hb2⟩ := h.lk.blk
    have f1 : w.frozen? ⟨m.p, 1, none⟩ = false := free_at hb1
    have H1 := Lib.hid h1
    have C1 := Lib.hid (c1.mono (T := fun k => B.ok k) (fun k _ (e : k = m.p) => by rw [e]; exact (h.own m.p (by rw [h.k3]; decide)).1))
    clear h h0 hR h1 c1 hb1 hb2
    go_enter Try.func25, Try.ntmps25
    go_wp2_with (fail)
    refine H.out.mono ?_
    rintro e w1 ⟨rfl, rfl⟩
    go_upto_region 2 with (fail)
    clear x1 f1 i1 i1' H
    generalize (w.setCell ⟨m.p, 1, none⟩ (.int .i64 ((m.now : Int) + 1))) = w1 at *
    have h1d := H1.out.pure ((Chg.refl Pure' w1).drew)
    have y3 := h1d.lk.c3
    have y1 := h1d.lk.c1
    have np : ¬ Lds m.adr m.base m.Ls.length m.p := fun hl => by
      have := h1d.k1 m.p hl.foot
      have h3 : col m.p = 3 := h1d.k3
      omega
    have HD := Lib.hid (sdue_any h1d.snd ((m.now : Int) + 1))
    have H1D := Lib.hid h1d
    clear h1d H1
    obtain ⟨dd, hdd⟩ : ∃ dd, dueOf ((m.now : Int) + 1) m.base m.Ls = dd := ⟨_, rfl⟩
    have hsmall : ∀ e ∈ dd.1, e.2.length ≤ 1200 := by
      rw [← hdd]
      unfold dueOf
      split
      · refine dueOut_small _ _ _ (fun x hx => ?_)
        obtain ⟨j, hj, rfl⟩ := List.getElem_of_mem hx
        obtain ⟨A, n, c, d1, d2, d3, d4, d5⟩ := (H1D.out.snd.lds j hj).data
        have e : (m.Ls[j]'hj).data.length = n := d4.len
        omega
      · intro e he; simp at he
    have HSM := Lib.hid hsmall
    have hlsl : dd.2.length = m.Ls.length := by rw [← hdd]; unfold dueOf; split <;> simp
    have hout : dd.1.length ≤ 32 := by
      have h32 : m.Ls.length ≤ m.W := H1D.out.snd.len
      have hw32 : m.W ≤ 32 := H1D.out.snd.w32
      have : dd.1.length ≤ m.Ls.length := by rw [← hdd]; unfold dueOf; split; exact dueOut_length _ _ _; simp
      omega
    have HD2 : Hid _ := HD
    have hD := HD.out
    rw [show (({ m with now := m.now + 1, epoch := m.epoch, sent := m.sent, got := m.got } : Lm).base) = m.base from rfl, show (({ m with now := m.now + 1, epoch := m.epoch, sent := m.sent, got := m.got } : Lm).Ls) = m.Ls from rfl, hdd] at hD
    have HD3 := Lib.hid hD
    have HR2 := HR.out
    rw [hdd] at HR2
    have HRR := Lib.hid HR2
    clear HD HD2 hD hsmall HR HR2 hdd
    obtain ⟨out, ls2⟩ := dd
    have hlsl : ls2.length = m.Ls.length := hlsl
    have hout : out.length ≤ 32 := hout
    have HSM : Hid (∀ e ∈ out, e.2.length ≤ 1200) := HSM
    have HRR : Hid (tickL m.pl = { m.pl with now := m.now + 1, Ls := ls2, G0 := out.foldl (toldG m.token m.epoch) (m.G0.map fun g => (g.xs, g.sp)), G1 := putG (m.G1.map fun g => (g.xs, g.sp)) (packB ((ackM m.T m.W m.L).sealed m.token m.epoch), false) }) := HRR
    refine reg_begin (Lds m.adr m.base m.Ls.length) (by kernel_rfl) ?_
    refine reg_take 0 (v := ?_) rfl (by kernel_rfl) (by kernel_rfl) (by kernel_rfl) (fun _ _ _ h => h) (by kernel_rfl) ?_ ?_
    rotate_left
    · (intro w' hS; go_simp; (try go_bits); (try with_reducible rfl))
    try simp only [Act.put, List.getElem_toArray, List.getElem_cons_zero, List.getElem_cons_succ, List.setIfInBounds_toArray, List.set_cons_zero, List.set_cons_succ]
    refine reg_take 1 (v := ?_) rfl (by kernel_rfl) (by kernel_rfl) (by kernel_rfl) (fun _ _ _ h => h) (by kernel_rfl) ?_ ?_
    rotate_left
    · (intro w' hS; go_simp; (try go_bits); (try with_reducible rfl))
    try simp only [Act.put, List.getElem_toArray, List.getElem_cons_zero, List.getElem_cons_succ, List.setIfInBounds_toArray, List.set_cons_zero, List.set_cons_succ]
    refine reg_take 2 (v := ?_) rfl (by kernel_rfl) (by kernel_rfl) (by kernel_rfl) (fun _ _ _ h => h) (by kernel_rfl) ?_ ?_
    rotate_left
    · (intro w' hS; go_simp; (try go_bits); (try with_reducible rfl))
    try simp only [Act.put, List.getElem_toArray, List.getElem_cons_zero, List.getElem_cons_succ, List.setIfInBounds_toArray, List.set_cons_zero, List.set_cons_succ]
    refine reg_take 3 (v := ?_) rfl (by kernel_rfl) (by kernel_rfl) (by kernel_rfl) (fun _ _ _ h => h) (by kernel_rfl) ?_ ?_
    rotate_left
    · (intro w' hS; have hz := hS.cell (w := w1.drew) y3 np; go_simp; (try go_bits); (try with_reducible rfl))
    try simp only [Act.put, List.getElem_toArray, List.getElem_cons_zero, List.getElem_cons_succ, List.setIfInBounds_toArray, List.set_cons_zero, List.set_cons_succ]
    refine reg_take 4 (v := ?_) rfl (by kernel_rfl) (by kernel_rfl) (by kernel_rfl) (fun _ _ _ h => h) (by kernel_rfl) ?_ ?_
    rotate_left
    · (intro w' hS; go_simp; (try go_bits); (try with_reducible rfl))
    try simp only [Act.put, List.getElem_toArray, List.getElem_cons_zero, List.getElem_cons_succ, List.setIfInBounds_toArray, List.set_cons_zero, List.set_cons_succ]
    refine reg_take 5 (v := ?_) rfl (by kernel_rfl) (by kernel_rfl) (by kernel_rfl) (fun _ _ _ h => h) (by kernel_rfl) ?_ ?_
    rotate_left
    · (intro w' hS; go_simp; (try go_bits); (try with_reducible rfl))
    try simp only [Act.put, List.getElem_toArray, List.getElem_cons_zero, List.getElem_cons_succ, List.setIfInBounds_toArray, List.set_cons_zero, List.set_cons_succ]
    refine reg_take 6 (v := ?_) rfl (by kernel_rfl) (by kernel_rfl) (by kernel_rfl) (fun _ _ _ h => h) (by kernel_rfl) ?_ ?_
    rotate_left
    · (intro w' hS; go_simp; (try go_bits); (try with_reducible rfl))
    try simp only [Act.put, List.getElem_toArray, List.getElem_cons_zero, List.getElem_cons_succ, List.setIfInBounds_toArray, List.set_cons_zero, List.set_cons_succ]
    refine reg_take 7 (v := ?_) rfl (by kernel_rfl) (by kernel_rfl) (by kernel_rfl) (fun _ _ _ h => h) (by kernel_rfl) ?_ ?_
    rotate_left
    · (intro w' hS; have hz := hS.cell (w := w1.drew) y1 np; go_simp; (try go_bits); (try with_reducible rfl))
    try simp only [Act.put, List.getElem_toArray, List.getElem_cons_zero, List.getElem_cons_succ, List.setIfInBounds_toArray, List.set_cons_zero, List.set_cons_succ]
    refine reg_take 10 (v := ?_) rfl (by kernel_rfl) (by kernel_rfl) (by kernel_rfl) (fun _ _ _ h => h) (by kernel_rfl) ?_ ?_
    rotate_left
    · (intro w' hS; go_simp; (try go_bits); (try with_reducible rfl))
    try simp only [Act.put, List.getElem_toArray, List.getElem_cons_zero, List.getElem_cons_succ, List.setIfInBounds_toArray, List.set_cons_zero, List.set_cons_succ]
    refine reg_do 8 rfl (by kernel_rfl) (by kernel_rfl) ?_
    intro K hK
    go_simp
    refine HD3.out.mono ?_
    rintro e w2 ⟨vv, vs, rfl, hM, c2, hs2⟩
    obtain ⟨V, q, rfl, -⟩ := own_slice hM.row
    refine hK _ _ (c2) ?_
    clear hK K
    try simp only [Act.put, List.getElem_toArray, List.getElem_cons_zero, List.getElem_cons_succ, List.setIfInBounds_toArray, List.set_cons_zero, List.set_cons_succ]
    refine reg_take 9 (v := ?_) rfl (by kernel_rfl) (by kernel_rfl) (by kernel_rfl) (fun _ _ _ h => h) (by kernel_rfl) ?_ ?_
    rotate_left
    · (intro w' hS; go_simp; (try go_bits); (try with_reducible rfl))
    try simp only [Act.put, List.getElem_toArray, List.getElem_cons_zero, List.getElem_cons_succ, List.setIfInBounds_toArray, List.set_cons_zero, List.set_cons_succ]
    refine wpAnyH_done (by kernel_rfl) ?_ _
    have hL2 := H1D.out.sender c2 (fun k hk => .inl hk.foot) hs2 (fun k hk => .inl (by rw [hlsl] at hk; exact hk))
    obtain ⟨col2, m2, hp2, ht2, he2, hpl2, hL2, hcol⟩ : ∃ (col2 : Nat → Nat) (m2 : Lm), m2.p = m.p ∧ m2.token = m.token ∧ m2.epoch = m.epoch ∧ m2.pl = { m.pl with now := m.now + 1, Ls := ls2 } ∧ LinkAt w2 B col2 m2 ∧ (∀ x, w1.drew.heap.size ≤ x → x < w2.heap.size → col2 x = 1) := by
      refine ⟨_, _, ?_, ?_, ?_, ?_, hL2, fun x h1 h2 => paint_new H1D.out _ 1 x h1 h2⟩ <;> rfl
    have hT2 : m2.T = m.T := congrArg Lp.T hpl2
    have hW2 : m2.W = m.W := congrArg Lp.W hpl2
    have hLL2 : m2.L = m.L := congrArg Lp.L hpl2
    have hG0 : m2.G0.map (fun g => (g.xs, g.sp)) = m.G0.map (fun g => (g.xs, g.sp)) := congrArg Lp.G0 hpl2
    have hG1 : m2.G1.map (fun g => (g.xs, g.sp)) = m.G1.map (fun g => (g.xs, g.sp)) := congrArg Lp.G1 hpl2
    have C2 : Chg (fun k => B.ok k) w w2 := (C1.out.pure ((Chg.refl Pure' w1).drew)).trans' (c2.mono (fun k _ hk => (H1D.out.own k (by rw [H1D.out.k1 k hk.foot]; decide)).1))
    have hOB : (∀ x, (Value.slice V out.length q).ownBlock = some x → w1.drew.heap.size ≤ x ∧ x < w2.heap.size) ∧ ∀ i (h2 : i < vs.length) x, (vs[i]'h2).ownBlock = some x → w1.drew.heap.size ≤ x ∧ x < w2.heap.size :=
      ⟨fun x hx => hM.row.lt x hx, fun i h2 x hx => (hM.loads i (by rw [← hM.len]; exact h2) h2).lt x hx⟩
    have HOB := Lib.hid hOB
    have HM := Lib.hid hM
    have HL2 := Lib.hid hL2
    have HCOL := Lib.hid hcol
    have HC2 := Lib.hid C2
    have HPL := Lib.hid hpl2
    have HG0 := Lib.hid hG0
    have HG1 := Lib.hid hG1
    have HVS := Lib.hid hM.len
    clear hOB hM hL2 hcol C2 hpl2 hG0 hG1 hs2 c2 HD3 H1D y1 y3 np C1 hlsl
    generalize w1.drew.heap.size = n1 at *
    obtain ⟨n2, hn2⟩ : ∃ n2, w2.heap.size = n2 := ⟨_, rfl⟩
    rw [hn2] at HCOL HOB
    clear hn2
    go_wp2_with (fail)
    go_loopw [32] (fun i wr => ∃ (k : Nat) (col' : Nat → Nat) (v : Value) (G : List Gd), k ≤ out.length ∧ i = .int .i64 k ∧ Hid (LinkAt wr B col' { m2 with v0 := v, G0 := G }) ∧ Hid (G.map (fun g => (g.xs, g.sp)) = (out.take k).foldl (toldG m.token m.epoch) (m.G0.map fun g => (g.xs, g.sp))) ∧ Hid (MsgsAt wr n1 (.slice V out.length q) out vs) ∧ Hid (∀ x, n1 ≤ x → x < n2 → col' x = 1) ∧ Hid (Chg (fun k => B.ok k) w wr)) (fun i _ => out.length - (intOf i).toNat)
    case atStart => exact ⟨0, col2, m2.v0, m2.G0, Nat.zero_le _, rfl, HL2, HG0, HM, HCOL, HC2⟩
    case round =>
      clear HL2 HM HCOL HC2
      obtain ⟨k, col', v, G, hk, rfl, HL, HG, HM, HCOL, HC⟩ := hrel
      by_cases hlt : k < out.length
      · have hkv : k < vs.length := by rw [HVS.out]; exact hlt
        obtain ⟨g, cc, hv, -, hcell⟩ := HM.out.cells19 (by omega)
        cases hv
        have hld := HM.out.loads k hlt hkv
        obtain ⟨Ak, ck, hvk, hlk, hbk, -⟩ := Bytes.of_own hld
        have cell := fun (j : Nat) (hj : j < 9) => (hcell (k * 9 + j) (by omega)).trans (rowCells_at19 out vs k hlt hkv j hj)
        obtain ⟨⟨en, ex⟩, he⟩ : ∃ e, out[k] = e := ⟨_, rfl⟩
        have hex : ex.length ≤ 1200 := by have := HSM.out _ (List.getElem_mem hlt); rw [he] at this; exact this
        rw [he] at hlk hbk cell hvk
        rw [hvk] at cell
        have q0 := cell 0 (by decide)
        have q1 := cell 1 (by decide)
        have q2 := cell 2 (by decide)
        have q3 := cell 3 (by decide)
        have q4 := cell 4 (by decide)
        have q5 := cell 5 (by decide)
        have q6 := cell 6 (by decide)
        have q7 := cell 7 (by decide)
        have q8 := cell 8 (by decide)
        simp only [msgCells, List.getElem?_cons_zero, List.getElem?_cons_succ, Nat.add_zero] at q0 q1 q2 q3 q4 q5 q6 q7 q8
        have i1 : (k : Int) < (out.length : Int) := by omega
        have HBK := Lib.hid hbk
        have HE := Lib.hid he
        clear cell hcell hbk hld hvk he
        go_upto_region 5 with (fail)
        obtain ⟨w5, hw5⟩ : ∃ w5, wr.alloc (.cells ((dueM en ex).cells Ak ex.length ck) 25) = w5 := ⟨_, rfl⟩
        have ca : Chg Pure' wr w5 := by rw [← hw5]; exact (Chg.refl _ _).alloc _
        have lit := fun j => cellAt_alloc_lit wr ((dueM en ex).cells Ak ex.length ck) 25 j
        rw [hw5] at lit
        have hL5 := HL.out.pure (ca.drew)
        have hb5 := HBK.out.pure (ca.drew)
        have hM5 := HM.out.keep2 (ca.drew) (fun _ _ h => h) (fun _ _ _ _ h => h)
        have l0 : w5.drew.cell? ⟨wr.heap.size, 0, none⟩ = some (.int .i64 1) := lit 0
        have l1 : w5.drew.cell? ⟨wr.heap.size, 1, none⟩ = some (.int .u64 0) := lit 1
        have l2 : w5.drew.cell? ⟨wr.heap.size, 2, none⟩ = some (.int .i64 0) := lit 2
        have l3 : w5.drew.cell? ⟨wr.heap.size, 3, none⟩ = some (.int .i64 (en : Nat)) := lit 3
        have l4 : w5.drew.cell? ⟨wr.heap.size, 4, none⟩ = some (.int .i64 0) := lit 4
        have l5 : w5.drew.cell? ⟨wr.heap.size, 5, none⟩ = some (.int .u64 0) := lit 5
        have l6 : w5.drew.cell? ⟨wr.heap.size, 6, none⟩ = some (.int .i64 0) := lit 6
        have l7 : w5.drew.cell? ⟨wr.heap.size, 7, none⟩ = some (.int .i64 0) := lit 7
        have l8 : w5.drew.cell? ⟨wr.heap.size, 8, none⟩ = some (.slice Ak ex.length ck) := lit 8
        have y5 := hL5.lk.c5
        have y6 := hL5.nbk.c0
        have k3 := hL5.k3
        have k4 := hL5.k4
        simp only [hp2] at y5 k3
        have np5 : ¬ (col' m.p = 5 ∨ col' m.p = 7) := by have : col' m.p = 3 := k3; omega
        have np6 : ¬ (col' m2.nb = 5 ∨ col' m2.nb = 7) := by have : col' m2.nb = 4 := k4; omega
        have np7 : ¬ (col' wr.heap.size = 5 ∨ col' wr.heap.size = 7) := fun h => by have := (HL.out.own wr.heap.size (by omega)).2; omega
        have htell := tell0_any hL5 (dueM en ex) Ak ck hb5 hlk (by show ex.length ≤ _; omega)
        have C5 : Chg (fun k => B.ok k) w w5.drew := (HC.out.pure ca).drew
        have HT := Lib.hid htell
        have HM5 := Lib.hid hM5
        have HW5 : Hid (wr.alloc (.cells #[.int .i64 1, .int .u64 0, .int .i64 0, .int .i64 (en : Nat), .int .i64 0, .int .u64 0, .int .i64 0, .int .i64 0, .slice Ak ex.length ck] 25) = w5) := Lib.hid hw5
        have HL5 := Lib.hid hL5
        clear lit ca hb5 hM5 hL5 htell hw5 HL HM HC HBK q0 q1 q2 q3 q4 q5 q6 q7 q8 k3 k4
        rw [HW5.out]
        refine reg_begin (fun x => col' x = 5 ∨ col' x = 7) (by kernel_rfl) ?_
        generalize w5.drew = wd at *
        refine reg_take 0 (v := ?_) rfl (by kernel_rfl) (by kernel_rfl) (by kernel_rfl) (fun _ _ _ h => h) (by kernel_rfl) ?_ ?_
        rotate_left
        · (intro w' hS; go_simp; (try go_bits); (try with_reducible rfl))
        try simp only [Act.put, List.getElem_toArray, List.getElem_cons_zero, List.getElem_cons_succ, List.setIfInBounds_toArray, List.set_cons_zero, List.set_cons_succ]
        refine reg_take 1 (v := ?_) rfl (by kernel_rfl) (by kernel_rfl) (by kernel_rfl) (fun _ _ _ h => h) (by kernel_rfl) ?_ ?_
        rotate_left
        · (intro w' hS; go_simp; (try go_bits); (try with_reducible rfl))
        try simp only [Act.put, List.getElem_toArray, List.getElem_cons_zero, List.getElem_cons_succ, List.setIfInBounds_toArray, List.set_cons_zero, List.set_cons_succ]
        refine reg_take 2 (v := ?_) rfl (by kernel_rfl) (by kernel_rfl) (by kernel_rfl) (fun _ _ _ h => h) (by kernel_rfl) ?_ ?_
        rotate_left
        · (intro w' hS; go_simp; (try go_bits); (try with_reducible rfl))
        try simp only [Act.put, List.getElem_toArray, List.getElem_cons_zero, List.getElem_cons_succ, List.setIfInBounds_toArray, List.set_cons_zero, List.set_cons_succ]
        refine reg_take 3 (v := ?_) rfl (by kernel_rfl) (by kernel_rfl) (by kernel_rfl) (fun _ _ _ h => h) (by kernel_rfl) ?_ ?_
        rotate_left
        · (intro w' hS; go_simp; (try go_bits); (try with_reducible rfl))
        try simp only [Act.put, List.getElem_toArray, List.getElem_cons_zero, List.getElem_cons_succ, List.setIfInBounds_toArray, List.set_cons_zero, List.set_cons_succ]
        refine reg_take 4 (v := ?_) rfl (by kernel_rfl) (by kernel_rfl) (by kernel_rfl) (fun _ _ _ h => h) (by kernel_rfl) ?_ ?_
        rotate_left
        · (intro w' hS; have hz := hS.cell (w := wd) y5 np5; go_simp; (try go_bits); (try with_reducible rfl))
        try simp only [Act.put, List.getElem_toArray, List.getElem_cons_zero, List.getElem_cons_succ, List.setIfInBounds_toArray, List.set_cons_zero, List.set_cons_succ]
        refine reg_take 5 (v := ?_) rfl (by kernel_rfl) (by kernel_rfl) (by kernel_rfl) (fun _ _ _ h => h) (by kernel_rfl) ?_ ?_
        rotate_left
        · (intro w' hS; go_simp; (try go_bits); (try with_reducible rfl))
        try simp only [Act.put, List.getElem_toArray, List.getElem_cons_zero, List.getElem_cons_succ, List.setIfInBounds_toArray, List.set_cons_zero, List.set_cons_succ]
        refine reg_take 6 (v := ?_) rfl (by kernel_rfl) (by kernel_rfl) (by kernel_rfl) (fun _ _ _ h => h) (by kernel_rfl) ?_ ?_
        rotate_left
        · (intro w' hS; have hz := hS.cell (w := wd) y6 np6; go_simp; (try go_bits); (try with_reducible rfl))
        try simp only [Act.put, List.getElem_toArray, List.getElem_cons_zero, List.getElem_cons_succ, List.setIfInBounds_toArray, List.set_cons_zero, List.set_cons_succ]
        refine reg_take 7 (v := ?_) rfl (by kernel_rfl) (by kernel_rfl) (by kernel_rfl) (fun _ _ _ h => h) (by kernel_rfl) ?_ ?_
        rotate_left
        · (intro w' hS; have hz := hS.cell (w := wd) l0 np7; have hz1 := hS.cell (w := wd) l1 np7; have hz2 := hS.cell (w := wd) l2 np7; have hz3 := hS.cell (w := wd) l3 np7; have hz4 := hS.cell (w := wd) l4 np7; have hz5 := hS.cell (w := wd) l5 np7; have hz6 := hS.cell (w := wd) l6 np7; have hz7 := hS.cell (w := wd) l7 np7; have hz8 := hS.cell (w := wd) l8 np7; go_simp; (try go_bits); (try with_reducible rfl))
        try simp only [Act.put, List.getElem_toArray, List.getElem_cons_zero, List.getElem_cons_succ, List.setIfInBounds_toArray, List.set_cons_zero, List.set_cons_succ]
        refine reg_do 8 rfl (by kernel_rfl) (by kernel_rfl) ?_
        intro K hK
        go_simp
        rw [← hp2]
        refine HT.out.mono ?_
        rintro e w6 ⟨rfl, c6, col6, v6, d6, hc6, hd6, hs6, hL6⟩
        refine hK _ _ (c6) ?_
        clear hK K
        try simp only [Act.put, List.getElem_toArray, List.getElem_cons_zero, List.getElem_cons_succ, List.setIfInBounds_toArray, List.set_cons_zero, List.set_cons_succ]
        refine wpAnyH_done (by kernel_rfl) ?_ _
        rw [hp2]
        have hM6 := HM5.out.keep2 c6 (fun x hx hc => by
          have := HOB.out.1 x hx
          have := HCOL.out x this.1 this.2
          omega) (fun j h2 x hx hc => by
          have := HOB.out.2 j h2 x hx
          have := HCOL.out x this.1 this.2
          omega)
        have hcol6 : ∀ x, n1 ≤ x → x < n2 → col6 x = 1 := fun x h1 h2 => by rw [hc6 x (by rw [HCOL.out x h1 h2]; decide), HCOL.out x h1 h2]
        have C6 : Chg (fun k => B.ok k) w w6 := C5.trans' (c6.mono (fun x _ hx => (HL5.out.own x (by omega)).1))
        have hG6 : (putG G d6).map (fun g => (g.xs, g.sp)) = (out.take (k + 1)).foldl (toldG m.token m.epoch) (m.G0.map fun g => (g.xs, g.sp)) := by
          rw [foldl_take_succ _ _ _ _ hlt, HE.out, ← HG.out, putG_map, hd6, hs6]
          show putG _ (packB ((dueM en ex).sealed m2.token m2.epoch), false) = _
          rw [ht2, he2]
          rfl
        have HL6 : Hid (LinkAt w6 B col6 { m2 with v0 := v6, G0 := putG G d6 }) := Lib.hid hL6
        have HM6 := Lib.hid hM6
        have HCOL6 := Lib.hid hcol6
        have HC6 := Lib.hid C6
        have HG6 := Lib.hid hG6
        clear hM6 hcol6 C6 hG6 hL6 c6 hc6 HT HM5 HL5 HCOL HG C5 hd6 hs6 y5 y6 l0 l1 l2 l3 l4 l5 l6 l7 l8 np5 np6 np7
        go_wp2
        go_roundw
        case rel => exact ⟨k + 1, col6, v6, putG G d6, by omega, by go_num, HL6, HG6, HM6, HCOL6, HC6⟩
        case measure => simp [intOf]; omega
      · have hkn : k = out.length := by omega
        have s3 : ((k : Int) < (out.length : Int)) = False := eq_false (by omega)
        have hG' := HG.out
        rw [hkn, List.take_length] at hG'
        have HG2 := Lib.hid hG'
        clear HG hG' HM HCOL HOB HVS HSM hkn
        go_upto_region 8 with (fail)
        obtain ⟨wa, hwa⟩ : ∃ wa, wr.alloc (.cells #[.int .i64 2, .int .u64 0, .int .i64 0, .int .i64 0, .int .i64 0, .int .u64 0, .int .i64 0, .int .i64 0, .slice none 0 0] 25) = wa := ⟨_, rfl⟩
        have ca : Chg Pure' wr wa := by rw [← hwa]; exact (Chg.refl _ _).alloc _
        have hma : wa.heap[wr.heap.size]? = some (.cells #[.int .i64 2, .int .u64 0, .int .i64 0, .int .i64 0, .int .i64 0, .int .u64 0, .int .i64 0, .int .i64 0, .slice none 0 0] 25 (0, 0)) := by rw [← hwa]; exact heap_alloc_new wr _
        have hLa := HL.out.pure ca
        have x4 := hLa.lk.c4
        simp only [hp2] at x4
        have hack := ack_any _ _ _ _ _ _ hLa.rcv (by show m2.T ≤ _; rw [hT2]; exact hT)
        simp only [hT2, hW2, hLL2] at hack
        have HA := Lib.hid hack
        have HMA := Lib.hid hma
        have HLA := Lib.hid hLa
        have CA := Lib.hid (HC.out.pure ca)
        have hno : col' wr.heap.size = 0 := by
          apply Classical.byContradiction
          intro h
          have := (HL.out.own _ h).2
          omega
        have hsz : B.ok wr.heap.size := HL.out.ok_new (Nat.le_refl _)
        rw [hwa]
        generalize wr.heap.size = mb at *
        clear hwa ca hma hLa hack HL HC
        go_wp2_with (fail)
        refine HA.out.mono ?_
        rintro e wb ⟨rfl, cb⟩
        have hmb := (cb.block mb (Array.getElem?_eq_some_iff.1 HMA.out).1 (fun h => h)).trans HMA.out
        have z4 := msg_cell hmb 4
        have z5 := msg_cell hmb 5
        have z6 := msg_cell hmb 6
        have ff : ∀ j, wb.frozen? ⟨mb, j, none⟩ = false := fun j => free_at hmb
        have s1 := msg_set hmb 4 (.int .i64 ((m.T : Int) + (lead m.L : Int)))
        have s2 := msg_set s1 5 (.int .u64 (ackTo m.L (lead m.L) m.W))
        have s3 := msg_set s2 6 (.int .i64 ((m.T : Int) + (m.W : Int)))
        have k1 := setC (w := wb) mb 4 (.int .i64 ((m.T : Int) + (lead m.L : Int)))
        have k2 := k1.trans' (setC mb 5 (.int .u64 (ackTo m.L (lead m.L) m.W)))
        have k3 := k2.trans' (setC mb 6 (.int .i64 ((m.T : Int) + (m.W : Int))))
        have HS3 : Hid ((((wb.setCell ⟨mb, 4, none⟩ (.int .i64 ((m.T : Int) + (lead m.L : Int)))).setCell ⟨mb, 5, none⟩ (.int .u64 (ackTo m.L (lead m.L) m.W))).setCell ⟨mb, 6, none⟩ (.int .i64 ((m.T : Int) + (m.W : Int)))).heap[mb]? = some (.cells ((ackM m.T m.W m.L).cells none 0 0) 25 (0, 0))) := Lib.hid (by rw [ackM_cells, Int.natCast_add, Int.natCast_add]; exact s3)
        have hLb := HLA.out.pure cb
        have st := hLb.stays (col' := col') (fun c => c = 0) k3 (fun k hk e => by rw [show k = mb from e]; exact hno) (by decide) (fun _ _ => rfl)
        have HLC : Hid (LinkAt (((wb.setCell ⟨mb, 4, none⟩ (.int .i64 ((m.T : Int) + (lead m.L : Int)))).setCell ⟨mb, 5, none⟩ (.int .u64 (ackTo m.L (lead m.L) m.W))).setCell ⟨mb, 6, none⟩ (.int .i64 ((m.T : Int) + (m.W : Int)))) B col' { m2 with v0 := v, G0 := G }) :=
          Lib.hid ⟨fun k hk => ⟨(hLb.own k hk).1, own_le (hLb.own k hk).2 k3.size⟩, st.lk (by decide), st.nbk (by decide), st.n0 (by decide), st.n1 (by decide), st.snd (by decide), st.rcv (by decide), st.gr0 (by decide), st.gr1 (by decide), st.k3, st.k4, st.k5, st.k6, st.k1, st.k2, hLb.l0, hLb.l1, hLb.now⟩
        have CC := Lib.hid ((CA.out.pure cb).trans' (k3.mono (T := fun k => B.ok k) (fun k _ e => by rw [show k = mb from e]; exact hsz)))
        clear s1 s2 s3 k1 k2 k3 st hLb hmb cb HMA HLA CA HA x4
        go_upto_region 9 with (fail)
        generalize (((wb.setCell ⟨mb, 4, none⟩ (.int .i64 ((m.T : Int) + (lead m.L : Int)))).setCell ⟨mb, 5, none⟩ (.int .u64 (ackTo m.L (lead m.L) m.W))).setCell ⟨mb, 6, none⟩ (.int .i64 ((m.T : Int) + (m.W : Int)))) = wc at *
        clear z4 z5 z6 ff
        have hmc : wc.drew.heap[mb]? = some (.cells ((ackM m.T m.W m.L).cells none 0 0) 25 (0, 0)) := HS3.out
        rw [ackM_cells] at hmc
        have l0 := msg_cell hmc 0
        have l1 := msg_cell hmc 1
        have l2 := msg_cell hmc 2
        have l3 := msg_cell hmc 3
        have l4 := msg_cell hmc 4
        have l5 := msg_cell hmc 5
        have l6 := msg_cell hmc 6
        have l7 := msg_cell hmc 7
        have l8 := msg_cell hmc 8
        have hLd := HLC.out.pure ((Chg.refl Pure' wc).drew)
        have y5 := hLd.lk.c5
        have y6 := hLd.nbk.c1
        have k3 := hLd.k3
        have k4 := hLd.k4
        simp only [hp2] at y5 k3
        have np5 : ¬ (col' m.p = 6 ∨ col' m.p = 8) := by have : col' m.p = 3 := k3; omega
        have np6 : ¬ (col' m2.nb = 6 ∨ col' m2.nb = 8) := by have : col' m2.nb = 4 := k4; omega
        have np7 : ¬ (col' mb = 6 ∨ col' mb = 8) := by rw [hno]; decide
        have htell := tell1_any hLd (ackM m.T m.W m.L) none 0 (Bytes.nil _ _) (Nat.le_refl _) (Nat.zero_le _)
        have hv : (ackM m.T m.W m.L).val none (ackM m.T m.W m.L).load.length 0 = .agg #[.int .i64 2, .int .u64 0, .int .i64 0, .int .i64 0, .int .i64 ((m.T + lead m.L : Nat) : Int), .int .u64 (ackTo m.L (lead m.L) m.W), .int .i64 ((m.T + m.W : Nat) : Int), .int .i64 0, .slice none 0 0] := by
          unfold Ms.val
          rw [show (ackM m.T m.W m.L).load.length = 0 from rfl, ackM_cells]
        rw [hv, Int.natCast_add, Int.natCast_add] at htell
        have HT := Lib.hid htell
        have HLD := Lib.hid hLd
        have CD := Lib.hid (CC.out.pure ((Chg.refl Pure' wc).drew))
        clear hmc hLd k3 k4 htell hv HS3 HLC CC hno
        refine reg_begin (fun x => col' x = 6 ∨ col' x = 8) (by kernel_rfl) ?_
        generalize wc.drew = wd at *
        refine reg_take 0 (v := ?_) rfl (by kernel_rfl) (by kernel_rfl) (by kernel_rfl) (fun _ _ _ h => h) (by kernel_rfl) ?_ ?_
        rotate_left
        · (intro w' hS; go_simp; (try go_bits); (try with_reducible rfl))
        try simp only [Act.put, List.getElem_toArray, List.getElem_cons_zero, List.getElem_cons_succ, List.setIfInBounds_toArray, List.set_cons_zero, List.set_cons_succ]
        refine reg_take 1 (v := ?_) rfl (by kernel_rfl) (by kernel_rfl) (by kernel_rfl) (fun _ _ _ h => h) (by kernel_rfl) ?_ ?_
        rotate_left
        · (intro w' hS; go_simp; (try go_bits); (try with_reducible rfl))
        try simp only [Act.put, List.getElem_toArray, List.getElem_cons_zero, List.getElem_cons_succ, List.setIfInBounds_toArray, List.set_cons_zero, List.set_cons_succ]
        refine reg_take 2 (v := ?_) rfl (by kernel_rfl) (by kernel_rfl) (by kernel_rfl) (fun _ _ _ h => h) (by kernel_rfl) ?_ ?_
        rotate_left
        · (intro w' hS; go_simp; (try go_bits); (try with_reducible rfl))
        try simp only [Act.put, List.getElem_toArray, List.getElem_cons_zero, List.getElem_cons_succ, List.setIfInBounds_toArray, List.set_cons_zero, List.set_cons_succ]
        refine reg_take 3 (v := ?_) rfl (by kernel_rfl) (by kernel_rfl) (by kernel_rfl) (fun _ _ _ h => h) (by kernel_rfl) ?_ ?_
        rotate_left
        · (intro w' hS; go_simp; (try go_bits); (try with_reducible rfl))
        try simp only [Act.put, List.getElem_toArray, List.getElem_cons_zero, List.getElem_cons_succ, List.setIfInBounds_toArray, List.set_cons_zero, List.set_cons_succ]
        refine reg_take 4 (v := ?_) rfl (by kernel_rfl) (by kernel_rfl) (by kernel_rfl) (fun _ _ _ h => h) (by kernel_rfl) ?_ ?_
        rotate_left
        · (intro w' hS; have hz := hS.cell (w := wd) y5 np5; go_simp; (try go_bits); (try with_reducible rfl))
        try simp only [Act.put, List.getElem_toArray, List.getElem_cons_zero, List.getElem_cons_succ, List.setIfInBounds_toArray, List.set_cons_zero, List.set_cons_succ]
        refine reg_take 5 (v := ?_) rfl (by kernel_rfl) (by kernel_rfl) (by kernel_rfl) (fun _ _ _ h => h) (by kernel_rfl) ?_ ?_
        rotate_left
        · (intro w' hS; go_simp; (try go_bits); (try with_reducible rfl))
        try simp only [Act.put, List.getElem_toArray, List.getElem_cons_zero, List.getElem_cons_succ, List.setIfInBounds_toArray, List.set_cons_zero, List.set_cons_succ]
        refine reg_take 6 (v := ?_) rfl (by kernel_rfl) (by kernel_rfl) (by kernel_rfl) (fun _ _ _ h => h) (by kernel_rfl) ?_ ?_
        rotate_left
        · (intro w' hS; have hz := hS.cell (w := wd) y6 np6; go_simp; (try go_bits); (try with_reducible rfl))
        try simp only [Act.put, List.getElem_toArray, List.getElem_cons_zero, List.getElem_cons_succ, List.setIfInBounds_toArray, List.set_cons_zero, List.set_cons_succ]
        refine reg_take 7 (v := ?_) rfl (by kernel_rfl) (by kernel_rfl) (by kernel_rfl) (fun _ _ _ h => h) (by kernel_rfl) ?_ ?_
        rotate_left
        · (intro w' hS; have hz := hS.cell (w := wd) l0 np7; have hz1 := hS.cell (w := wd) l1 np7; have hz2 := hS.cell (w := wd) l2 np7; have hz3 := hS.cell (w := wd) l3 np7; have hz4 := hS.cell (w := wd) l4 np7; have hz5 := hS.cell (w := wd) l5 np7; have hz6 := hS.cell (w := wd) l6 np7; have hz7 := hS.cell (w := wd) l7 np7; have hz8 := hS.cell (w := wd) l8 np7; go_simp; (try go_bits); (try with_reducible rfl))
        try simp only [Act.put, List.getElem_toArray, List.getElem_cons_zero, List.getElem_cons_succ, List.setIfInBounds_toArray, List.set_cons_zero, List.set_cons_succ]
        refine reg_do 8 rfl (by kernel_rfl) (by kernel_rfl) ?_
        intro K hK
        go_simp
        rw [← hp2]
        refine HT.out.mono ?_
        rintro e w6 ⟨rfl, c6, col6, v6, d6, hc6, hd6, hs6, hL6⟩
        refine hK _ _ (c6) ?_
        clear hK K
        try simp only [Act.put, List.getElem_toArray, List.getElem_cons_zero, List.getElem_cons_succ, List.setIfInBounds_toArray, List.set_cons_zero, List.set_cons_succ]
        refine wpAnyH_done (by kernel_rfl) ?_ _
        have C6 : Chg (fun k => B.ok k) w w6 := CD.out.trans' (c6.mono (fun x _ hx => (HLD.out.own x (by omega)).1))
        have HL6 : Hid (LinkAt w6 B col6 { m2 with v0 := v, G0 := G, v1 := v6, G1 := putG m2.G1 d6 }) := Lib.hid hL6
        have hd6' : d6.xs = packB ((ackM m.T m.W m.L).sealed m2.token m2.epoch) := hd6
        have HD6 := Lib.hid hd6'
        have HS6 := Lib.hid hs6
        clear hL6 c6 hc6 HT HLD CD hd6 hd6' hs6 y5 y6 l0 l1 l2 l3 l4 l5 l6 l7 l8 np5 np6 np7
        go_wp2
        first | go_end0 | (refine bodyPost_ret (results_none rfl _ _ _) rfl ?_)
        refine ⟨rfl, ?_, C6⟩
        rw [HRR.out]
        refine LinkIn.mk HL6.out hp2 ?_
        have e2 := HPL.out
        unfold Lm.pl at e2 ⊢
        simp only [Lp.mk.injEq] at e2 ⊢
        obtain ⟨a1, a2, a3, a4, a5, a6, a7, a8, a9, a10, a11, a12, a13, a14⟩ := e2
        refine ⟨a1, a2, a3, a4, a5, a6, a7, a8, a9, a10, HG2.out, ?_, a13, a14⟩
        rw [putG_map, a12, HD6.out, HS6.out, ht2, he2]
end Go.Proofs.Ytnpkpfcljkekfaa
