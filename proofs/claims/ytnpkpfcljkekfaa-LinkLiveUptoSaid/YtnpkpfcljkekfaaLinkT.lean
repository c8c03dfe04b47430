/- A link: Held and Reconnect. -/
import Derived.Test.YtnpkpfcljkekfaaKG
namespace Go.Proofs.Ytnpkpfcljkekfaa
open Go Go.RowKit
set_option linter.unusedVariables false
set_option maxRecDepth 100000
set_option linter.unusedSimpArgs false

theorem lheld_any {w : World} {B : Base} {p : Nat} {s : Lp} (h : LinkIn w B p s) :
    Calls Try.prog 23 #[.pointer (some ⟨p, 0, none⟩)] w fun e w' => e = .returned (.int .i64 (s.L.countP (·.isSome) : Nat)) ∧ w = w' := by
  obtain ⟨m, col, rfl, rfl, h⟩ := h
  have x4 := h.lk.c4
  have H := Lib.hid (lok_any h)
  have HH := Lib.hid (held_any _ _ _ _ _ _ h.rcv)
  clear h
  go_enter Try.func23, Try.ntmps23
  go_wp2_with (fail)
  refine H.out.mono ?_
  rintro e w1 ⟨rfl, rfl⟩
  go_wp2_with (fail)
  refine HH.out.mono ?_
  rintro e w1 ⟨rfl, rfl⟩
  go_wp2
  go_ret
  exact ⟨rfl, rfl⟩
def reconL (s : Lp) : Lp :=
  { s with epoch := s.epoch + 1, base := (resOf s.base s.lim s.Ls ((s.T : Int) + (lead s.L : Int)) ((s.T : Int) + (s.W : Int)) s.now).2.1, lim := (resOf s.base s.lim s.Ls ((s.T : Int) + (lead s.L : Int)) ((s.T : Int) + (s.W : Int)) s.now).2.2.1, Ls := (resOf s.base s.lim s.Ls ((s.T : Int) + (lead s.L : Int)) ((s.T : Int) + (s.W : Int)) s.now).2.2.2 }
theorem res_foot {p b : Nat} {adr : Nat → Nat} {D : Nat → Prop} {base lim : Nat} {Ls : List Ld} {ack credit now : Int} {k : Nat} (h : Foot p b adr D (resOf base lim Ls ack credit now).2.1 (resOf base lim Ls ack credit now).2.2.2.length k) : Foot p b adr D base Ls.length k := by
  unfold resOf at h
  split at h
  · simp only [List.length_drop] at h
    have e : (Ls.mapIdx fun j x => resLd ack now ((base + j : Nat) : Int) x).length = Ls.length := by simp
    have hd := doneN_le (Ls.mapIdx fun j x => resLd ack now ((base + j : Nat) : Int) x)
    rw [e] at h hd
    exact h.drop
  · exact h
set_option maxHeartbeats 4000000 in
theorem lrecon_any {w : World} {B : Base} {p : Nat} {s : Lp} (h : LinkIn w B p s) (hT : s.T ≤ 4611686018427387904) (he : s.epoch ≤ 4611686018427387904) :
    Calls Try.prog 57 #[.pointer (some ⟨p, 0, none⟩)] w fun e w' => e = .returned (.tuple #[]) ∧ LinkIn w' B p (reconL s) ∧ Chg (fun k => B.ok k) w w' := by
  obtain ⟨m, col, rfl, rfl, h⟩ := h
  have hT : m.T ≤ 4611686018427387904 := hT
  have he : m.epoch ≤ 4611686018427387904 := he
  have H := Lib.hid (lok_any h)
  have x2 := h.lk.c2
  obtain ⟨h1, c1⟩ := h.lcell 2 (.int .i64 ((m.epoch : Int) + 1)) m.now (m.epoch + 1) m.sent m.got h.now (h.lk.era (m.epoch + 1) _ (by omega))
  obtain ⟨cs, hb1, hb2⟩ := h.lk.blk
  have f2 : w.frozen? ⟨m.p, 2, none⟩ = false := free_at hb1
  have HSR := Lib.hid (show reconL m.pl = { m.pl with epoch := m.epoch + 1, base := (resOf m.base m.lim m.Ls ((m.T : Int) + (lead m.L : Int)) ((m.T : Int) + (m.W : Int)) m.now).2.1, lim := (resOf m.base m.lim m.Ls ((m.T : Int) + (lead m.L : Int)) ((m.T : Int) + (m.W : Int)) m.now).2.2.1, Ls := (resOf m.base m.lim m.Ls ((m.T : Int) + (lead m.L : Int)) ((m.T : Int) + (m.W : Int)) m.now).2.2.2 } from rfl)
  have H1 := Lib.hid h1
  have C1 := Lib.hid (c1.mono (T := fun k => B.ok k) (fun k _ (e : k = m.p) => by rw [e]; exact (h.own m.p (by rw [h.k3]; decide)).1))
  clear h h1 c1 hb1 hb2
  go_enter Try.func57, Try.ntmps57
  go_wp2_with (fail)
  refine H.out.mono ?_
  rintro e w1 ⟨rfl, rfl⟩
  go_upto_region 2 with (fail)
  clear x2 f2 H
  generalize (w.setCell ⟨m.p, 2, none⟩ (.int .i64 ((m.epoch : Int) + 1))) = w1 at *
  have x4 := H1.out.lk.c4
  have HA := Lib.hid (ack_any _ _ _ _ _ _ H1.out.rcv hT)
  go_wp2_with (fail)
  refine HA.out.mono ?_
  rintro e w2 ⟨rfl, c2⟩
  have h2 := H1.out.pure (c2.drew)
  have C2 := Lib.hid (C1.out.pure (c2.drew))
  have H2 := Lib.hid h2
  have y3 := h2.lk.c3
  have y1 := h2.lk.c1
  have hnp : ¬ Foot m.sp m.sb m.adr m.D m.base m.Ls.length m.p := fun e => by
    have h3 : col m.p = 3 := h2.k3
    have h4 : col m.p = 1 := h2.k1 _ e
    omega
  have HRS := Lib.hid (sres_any h2.snd ((m.T : Int) + (lead m.L : Int)) ((m.T : Int) + (m.W : Int)) (m.now : Int))
  clear h2 c2 C1 H1 HA x4
  go_wp2_with (fail)
  refine reg_begin (Foot m.sp m.sb m.adr m.D m.base m.Ls.length) (by kernel_rfl) ?_
  refine reg_take 0 (v := ?_) rfl (by kernel_rfl) (by kernel_rfl) (by kernel_rfl) (fun _ _ _ h => h) (by kernel_rfl) ?_ ?_
  rotate_left
  · (intro w' hS; go_simp; (try go_bits); (try with_reducible rfl))
  try simp only [Act.put, List.getElem_toArray, List.getElem_cons_zero, List.getElem_cons_succ, List.setIfInBounds_toArray, List.set_cons_zero, List.set_cons_succ]
  refine reg_take 1 (v := ?_) rfl (by kernel_rfl) (by kernel_rfl) (by kernel_rfl) (fun _ _ _ h => h) (by kernel_rfl) ?_ ?_
  rotate_left
  · (intro w' hS; go_simp; (try go_bits); (try with_reducible rfl))
  try simp only [Act.put, List.getElem_toArray, List.getElem_cons_zero, List.getElem_cons_succ, List.setIfInBounds_toArray, List.set_cons_zero, List.set_cons_succ]
  refine reg_take 2 (v := ?_) rfl (by kernel_rfl) (by kernel_rfl) (by kernel_rfl) (fun _ _ _ h => h) (by kernel_rfl) ?_ ?_
  rotate_left
  · (intro w' hS; go_simp; (try go_bits); (try with_reducible rfl))
  try simp only [Act.put, List.getElem_toArray, List.getElem_cons_zero, List.getElem_cons_succ, List.setIfInBounds_toArray, List.set_cons_zero, List.set_cons_succ]
  refine reg_take 3 (v := ?_) rfl (by kernel_rfl) (by kernel_rfl) (by kernel_rfl) (fun _ _ _ h => h) (by kernel_rfl) ?_ ?_
  rotate_left
  · (intro w' hS; have hz := hS.cell (w := w2.drew) y3 hnp; go_simp; (try go_bits); (try with_reducible rfl))
  try simp only [Act.put, List.getElem_toArray, List.getElem_cons_zero, List.getElem_cons_succ, List.setIfInBounds_toArray, List.set_cons_zero, List.set_cons_succ]
  refine reg_take 4 (v := ?_) rfl (by kernel_rfl) (by kernel_rfl) (by kernel_rfl) (fun _ _ _ h => h) (by kernel_rfl) ?_ ?_
  rotate_left
  · (intro w' hS; go_simp; (try go_bits); (try with_reducible rfl))
  try simp only [Act.put, List.getElem_toArray, List.getElem_cons_zero, List.getElem_cons_succ, List.setIfInBounds_toArray, List.set_cons_zero, List.set_cons_succ]
  refine reg_take 5 (v := ?_) rfl (by kernel_rfl) (by kernel_rfl) (by kernel_rfl) (fun _ _ _ h => h) (by kernel_rfl) ?_ ?_
  rotate_left
  · (intro w' hS; go_simp; (try go_bits); (try with_reducible rfl))
  try simp only [Act.put, List.getElem_toArray, List.getElem_cons_zero, List.getElem_cons_succ, List.setIfInBounds_toArray, List.set_cons_zero, List.set_cons_succ]
  refine reg_take 6 (v := ?_) rfl (by kernel_rfl) (by kernel_rfl) (by kernel_rfl) (fun _ _ _ h => h) (by kernel_rfl) ?_ ?_
  rotate_left
  · (intro w' hS; go_simp; (try go_bits); (try with_reducible rfl))
  try simp only [Act.put, List.getElem_toArray, List.getElem_cons_zero, List.getElem_cons_succ, List.setIfInBounds_toArray, List.set_cons_zero, List.set_cons_succ]
  refine reg_take 7 (v := ?_) rfl (by kernel_rfl) (by kernel_rfl) (by kernel_rfl) (fun _ _ _ h => h) (by kernel_rfl) ?_ ?_
  rotate_left
  · (intro w' hS; go_simp; (try go_bits); (try with_reducible rfl))
  try simp only [Act.put, List.getElem_toArray, List.getElem_cons_zero, List.getElem_cons_succ, List.setIfInBounds_toArray, List.set_cons_zero, List.set_cons_succ]
  refine reg_take 8 (v := ?_) rfl (by kernel_rfl) (by kernel_rfl) (by kernel_rfl) (fun _ _ _ h => h) (by kernel_rfl) ?_ ?_
  rotate_left
  · (intro w' hS; go_simp; (try go_bits); (try with_reducible rfl))
  try simp only [Act.put, List.getElem_toArray, List.getElem_cons_zero, List.getElem_cons_succ, List.setIfInBounds_toArray, List.set_cons_zero, List.set_cons_succ]
  refine reg_take 9 (v := ?_) rfl (by kernel_rfl) (by kernel_rfl) (by kernel_rfl) (fun _ _ _ h => h) (by kernel_rfl) ?_ ?_
  rotate_left
  · (intro w' hS; have hz := hS.cell (w := w2.drew) y1 hnp; go_simp; (try go_bits); (try with_reducible rfl))
  try simp only [Act.put, List.getElem_toArray, List.getElem_cons_zero, List.getElem_cons_succ, List.setIfInBounds_toArray, List.set_cons_zero, List.set_cons_succ]
  refine reg_do 10 rfl (by kernel_rfl) (by kernel_rfl) ?_
  intro K hK
  go_simp
  refine HRS.out.mono ?_
  rintro e w3 ⟨rfl, c3, hs3⟩
  refine hK _ _ (c3) ?_
  clear hK K
  try simp only [Act.put, List.getElem_toArray, List.getElem_cons_zero, List.getElem_cons_succ, List.setIfInBounds_toArray, List.set_cons_zero, List.set_cons_succ]
  refine wpAnyH_done (by kernel_rfl) ?_ _
  have hL3 := H2.out.sender c3 (fun k hk => .inl hk) hs3 (fun k hk => .inl (res_foot hk))
  have C3 : Chg (fun k => B.ok k) w w3 := C2.out.trans' (c3.mono (fun k _ hk => (H2.out.own k (by rw [H2.out.k1 k hk]; decide)).1))
  have HL3 := Lib.hid hL3
  clear hL3 hs3 c3 y3 y1 HRS H2 C2
  go_wp2
  first | go_end0 | (refine bodyPost_ret (results_none rfl _ _ _) rfl ?_)
  refine ⟨rfl, ?_, C3⟩
  rw [HSR.out]
  exact LinkIn.mk HL3.out rfl rfl
end Go.Proofs.Ytnpkpfcljkekfaa
