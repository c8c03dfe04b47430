/- Package send, going on: Ack and Resume. -/
import Derived.Test.YtlkpnhfdcljbfaaSendB
namespace Go.Proofs.Ytlkpnhfdcljbfaa
open Go Go.RowKit
set_option linter.unusedVariables false
set_option linter.unusedSimpArgs false

/-- A load whose marks are written. -/
theorem LdAt.write {w w' : World} {D : Nat → Prop} {a : Nat} {x y : Ld} (h : LdAt w D a x) (hc : Chg (fun k => k = a) w w') (hD : ∀ d, D d → d ≠ a) (hb : ∃ cs, w'.heap[a]? = some (.cells cs 56 (0, 0)) ∧ cs.size = 4)
    (h0 : w'.cell? ⟨a, 0, none⟩ = w.cell? ⟨a, 0, none⟩) (e : y.data = x.data) (h1 : w'.cell? ⟨a, 1, none⟩ = some (.bool y.there)) (h2 : w'.cell? ⟨a, 2, none⟩ = some (.int .i64 y.time)) (h3 : w'.cell? ⟨a, 3, none⟩ = some (.int .i64 y.wait))
    (t0 : 0 ≤ y.time ∧ y.time ≤ 1099511627840) (w0 : 1 ≤ y.wait ∧ y.wait ≤ 64) : LdAt w' D a y := by
  obtain ⟨A, n, c, d1, d2, d3, d4, d5⟩ := h.data
  exact ⟨hb, ⟨A, n, c, h0.trans d1, d2, d3, by rw [e]; exact d4.chg hc (fun d hA => hD _ (d5 d hA)), d5⟩, h1, h2, h3, t0, w0⟩
/-- Does an ack tell of number n? -/
def hit (ack : Int) (m : UInt64) (n : Int) : Bool := decide (n - ack - 2 < -1) || (decide (0 ≤ n - ack - 2) && decide (n - ack - 2 < 64) && (bits .and .u64 ((m.toNat : Int) / 2 ^ (n - ack - 2).toNat) 1 != 0))
def ackLd (ack : Int) (m : UInt64) (n : Int) (x : Ld) : Ld := if hit ack m n then { x with there := true } else x
/-- One of them done, as told by the numbers that are still to come. -/
def part (f : Int → Ld → Ld) (left : Int → Bool) (base : Nat) (Ls : List Ld) : List Ld := Ls.mapIdx fun j x => if left ((base + j : Nat) : Int) then x else f ((base + j : Nat) : Int) x
theorem part_length (f : Int → Ld → Ld) (left : Int → Bool) (base : Nat) (Ls : List Ld) : (part f left base Ls).length = Ls.length := by simp [part]
theorem part_all (f : Int → Ld → Ld) (left : Int → Bool) (base : Nat) (Ls : List Ld) (h : ∀ j, j < Ls.length → left ((base + j : Nat) : Int) = true) : part f left base Ls = Ls := by
  apply List.ext_getElem (part_length _ _ _ _)
  intro j h1 h2
  simp only [part, List.getElem_mapIdx]
  rw [if_pos (h j h2)]
theorem part_none (f : Int → Ld → Ld) (left : Int → Bool) (base : Nat) (Ls : List Ld) (h : ∀ i, left i = false) : part f left base Ls = Ls.mapIdx fun j x => f ((base + j : Nat) : Int) x := by
  unfold part
  congr 1
  funext j x
  rw [h, if_neg (by simp)]
theorem part_step (f : Int → Ld → Ld) (left : Int → Bool) (base : Nat) (Ls : List Ld) (j : Nat) (hj : j < Ls.length) (hl : left ((base + j : Nat) : Int) = true) :
    part f (strike left ((base + j : Nat) : Int)) base Ls = (part f left base Ls).set j (f ((base + j : Nat) : Int) (Ls[j]'hj)) ∧ (part f left base Ls)[j]'(by rw [part_length]; exact hj) = Ls[j]'hj := by
  refine ⟨?_, ?_⟩
  · apply List.ext_getElem (by simp [part_length])
    intro i h1 h2
    by_cases hij : i = j
    · subst hij
      rw [List.getElem_set_self]
      simp only [part, List.getElem_mapIdx]
      rw [if_neg (by simp [strike])]
    · rw [List.getElem_set_ne (by omega)]
      simp only [part, List.getElem_mapIdx]
      have hne : ((base + i : Nat) : Int) ≠ ((base + j : Nat) : Int) := by omega
      have hne2 : ¬ (i : Int) = (j : Int) := by omega
      simp [strike, hne2]
  · simp only [part, List.getElem_mapIdx]
    rw [if_pos hl]
/-- The blocks of loads. -/
def Lds (adr : Nat → Nat) (base n : Nat) : Nat → Prop := fun k => ∃ i, i < n ∧ k = adr (base + i)
theorem byM_some {base n : Nat} {adr : Nat → Nat} {x : Int} {c : Value} (h : byM base n adr x = some c) : ∃ j, j < n ∧ x = ((base + j : Nat) : Int) ∧ c = .pointer (some ⟨adr (base + j), 0, none⟩) := by
  unfold byM at h
  split at h
  · rename_i hr
    refine ⟨(x - base).toNat, by omega, by omega, ?_⟩
    have e : x.toNat = base + (x - base).toNat := by omega
    rw [e] at h
    exact (Option.some.inj h).symm
  · cases h

/-- The limit is written. -/
theorem SendAt.limit {w : World} {p b : Nat} {adr : Nat → Nat} {D : Nat → Prop} {W base lim : Nat} {Ls : List Ld} {cnt : Nat} (h : SendAt w p b adr D W base lim Ls cnt) (l2 : Nat) (h1 : base + Ls.length ≤ l2 + 1) (h2 : l2 ≤ 4611686018427387904) {v : Int} (hv : v = (l2 : Int)) :
    SendAt (w.setCell ⟨p, 3, none⟩ (.int .i64 v)) p b adr D W base l2 Ls cnt ∧ Chg (fun k => k = p) w (w.setCell ⟨p, 3, none⟩ (.int .i64 v)) := by
  subst hv
  have kp : Chg (fun k => k = p) w (w.setCell ⟨p, 3, none⟩ (.int .i64 l2)) := Chg.setCell (S := fun k => k = p) (Chg.refl _ w) (p := ⟨p, 3, none⟩) (.inr rfl) _
  obtain ⟨cs, b1, b2⟩ := h.blk
  refine ⟨⟨⟨_, heap_setCell_same w p 3 cs _ _ b1, by simpa using b2⟩, h.w1, h.w32, h.b1, h.len, h1, h2, by rw [set_far (by omega)]; exact h.c0, by rw [set_far (by omega)]; exact h.c1, by rw [set_far (by omega)]; exact h.c2, set_at h.c3, by rw [set_far (by omega)]; exact h.c4,
    h.map.chg kp (fun e => h.pb e.symm), fun j hj => (h.lds j hj).frame kp (fun e => (h.ap j hj).1 e) (fun d hd e => (h.dd d hd).1 e) (fun d hd => hd), h.pb, h.inj, h.ap, fun d hd => ⟨(h.dd d hd).1, (h.dd d hd).2.1, Nat.lt_of_lt_of_le (h.dd d hd).2.2.1 kp.size, (h.dd d hd).2.2.2⟩⟩, kp⟩
theorem Lds.foot {p b : Nat} {adr : Nat → Nat} {D : Nat → Prop} {base n : Nat} {k : Nat} (h : Lds adr base n k) : Foot p b adr D base n k := .inr (.inr (.inl h))
/-- A load is marked as there. -/
theorem SendAt.mark {w : World} {p b : Nat} {adr : Nat → Nat} {D : Nat → Prop} {W base lim : Nat} {Ls : List Ld} {cnt j : Nat} (h : SendAt w p b adr D W base lim Ls cnt) (hj : j < Ls.length) :
    SendAt (w.setCell ⟨adr (base + j), 1, none⟩ (.bool true)) p b adr D W base lim (Ls.set j { (Ls[j]'hj) with there := true }) cnt ∧ Chg (fun k => k = adr (base + j)) w (w.setCell ⟨adr (base + j), 1, none⟩ (.bool true)) := by
  have ka : Chg (fun k => k = adr (base + j)) w (w.setCell ⟨adr (base + j), 1, none⟩ (.bool true)) := Chg.setCell (S := fun k => k = adr (base + j)) (Chg.refl _ w) (p := ⟨adr (base + j), 1, none⟩) (.inr rfl) _
  have hx := h.lds j hj
  obtain ⟨cs, b1, b2⟩ := hx.blk
  exact ⟨h.turn hj (hx.write ka (fun d hd e => (h.dd d hd).2.2.2 j hj e.symm) ⟨_, heap_setCell_same w _ 1 cs _ _ b1, by simpa using b2⟩ (set_far (by omega)) rfl (set_at hx.there) (by rw [set_far (by omega)]; exact hx.time) (by rw [set_far (by omega)]; exact hx.wait) hx.t0 hx.w0) ka, ka⟩

/-- What Ack answers, and what stands behind it. -/
def ackOf (base lim : Nat) (Ls : List Ld) (ack : Int) (m : UInt64) (credit : Int) : Int × Nat × Nat × List Ld :=
  if 0 ≤ ack ∧ ack < ((base + Ls.length : Nat) : Int) ∧ 0 ≤ credit ∧ credit ≤ 4611686018427387904 then
    let Ls1 := Ls.mapIdx fun j x => ackLd ack m ((base + j : Nat) : Int) x
    (0, base + doneN Ls1, max lim credit.toNat, Ls1.drop (doneN Ls1))
  else (1, base, lim, Ls)

set_option maxHeartbeats 2000000 in
theorem sack_any {w : World} {p b : Nat} {adr : Nat → Nat} {D : Nat → Prop} {W base lim : Nat} {Ls : List Ld} {cnt : Nat} (h : SendAt w p b adr D W base lim Ls cnt) (ack : Int) (m : UInt64) (credit : Int) :
    Calls Try.prog 9 #[.pointer (some ⟨p, 0, none⟩), .int .i64 ack, .int .u64 (m.toNat : Int), .int .i64 credit] w fun e w' => e = .returned (.int .i64 (ackOf base lim Ls ack m credit).1) ∧
      Chg (Foot p b adr D base Ls.length) w w' ∧ SendAt w' p b adr D W (ackOf base lim Ls ack m credit).2.1 (ackOf base lim Ls ack m credit).2.2.1 (ackOf base lim Ls ack m credit).2.2.2 cnt := by
  by_cases hmay : 0 ≤ ack ∧ ack < ((base + Ls.length : Nat) : Int) ∧ 0 ≤ credit ∧ credit ≤ 4611686018427387904
  · have hR : ackOf base lim Ls ack m credit = (0, base + doneN (Ls.mapIdx fun j x => ackLd ack m ((base + j : Nat) : Int) x), max lim credit.toNat, (Ls.mapIdx fun j x => ackLd ack m ((base + j : Nat) : Int) x).drop (doneN (Ls.mapIdx fun j x => ackLd ack m ((base + j : Nat) : Int) x))) := by
      unfold ackOf; rw [if_pos hmay]
    rw [hR]
    have HO := Lib.hid (sok_any h)
    have HY := Lib.hid (may_any h ack credit true (by simp; omega))
    have h4 := h.c4
    have hM := h.map
    have hnx := h.nx
    have hlm := h.lm
    have H := Lib.hid h
    clear h hR
    go_enter Try.func9, Try.ntmps9
    go_wp2_with (fail)
    refine HO.out.mono ?_
    rintro e w' ⟨rfl, rfl⟩
    go_wp2_with (fail)
    refine HY.out.mono ?_
    rintro e w' ⟨rfl, rfl⟩
    go_wp2_with (first
      | (at_range; refine wp_range_map _ rfl _ _ rfl 3 54 Try.underlying3 Try.underlying48 b cnt _ rfl hM ?_; intro w1 cn hR1 k1)
      | fail)
    go_frame
    have hS1 := H.out.pure k1
    have hfl : ∀ i, byM base Ls.length adr i ≠ none → True := fun _ _ => trivial
    go_loopw [] (fun wr => ∃ (left : Int → Bool) (cn : Nat), RangeAt wr 3 b w.heap.size cnt (byM base Ls.length adr) left cn ∧ Hid (SendAt wr p b adr D W base lim (part (ackLd ack m) left base Ls) cnt) ∧ Chg (Lds adr base Ls.length) w wr) (fun wr => wr.rangeLeft b w.heap.size)
    case atStart => exact ⟨_, _, hR1, by rw [part_all _ _ _ _ (fun j hj => by rw [byM_in hj]; rfl)]; exact hS1, k1.of_pure⟩
    case round =>
      obtain ⟨left, cn, hR, hS, hc⟩ := hrel
      have hle := hR.left_eq
      go_wp2_with (first
        | (at_next; refine wp_next_map _ rfl _ rfl 3 Try.underlying3 b w.heap.size cnt _ left cn rfl hR ?_ ?_)
        | fail)
      · intro h0 hnone
        rw [part_none _ _ _ _ hnone] at hS
        generalize hL1 : (Ls.mapIdx fun j x => ackLd ack m ((base + j : Nat) : Int) x) = Ls1 at hS ⊢
        have hl1 : Ls1.length = Ls.length := by rw [← hL1]; simp
        have HL1 := Lib.hid hL1
        clear hL1 hR hR1 hS1 hM h4
        have hS2 := hS.out
        have h3 := hS2.c3
        obtain ⟨cs, b1, b2⟩ := hS2.blk
        have fr3 := free_at (i := 3) b1
        have ⟨hm1, hm2, hm3, hm4⟩ := hmay
        clear b1 hS2 hfl
        by_cases hcl : credit ≤ (lim : Int)
        · obtain ⟨g1, g2⟩ := hS.out.limit (max lim credit.toNat) (by omega) (by omega) (v := (lim : Int)) (by omega)
          have HG := Lib.hid (settle_any g1)
          clear g1
          go_wp2_with (fail)
          refine HG.out.mono ?_
          rintro e w4 ⟨rfl, g3, g4⟩
          go_wp2
          go_ret
          exact ⟨rfl, ((hc.mono (fun i _ h => Lds.foot h)).trans g2 (fun i hi e => .inl e)).trans g3 (fun i hi e => e.elim (fun e => .inl e) (fun e => .inr (.inl e))), by rw [HL1.out]; exact g4⟩
        · obtain ⟨g1, g2⟩ := hS.out.limit (max lim credit.toNat) (by omega) (by omega) (v := credit) (by omega)
          have HG := Lib.hid (settle_any g1)
          clear g1
          go_wp2_with (fail)
          refine HG.out.mono ?_
          rintro e w4 ⟨rfl, g3, g4⟩
          go_wp2
          go_ret
          exact ⟨rfl, ((hc.mono (fun i _ h => Lds.foot h)).trans g2 (fun i hi e => .inl e)).trans g3 (fun i hi e => e.elim (fun e => .inl e) (fun e => .inr (.inl e))), by rw [HL1.out]; exact g4⟩
      · intro x c w2 cn2 hwx hlx hmx hR2 hlt k2 hen
        obtain ⟨j, hj, rfl, rfl⟩ := byM_some hmx
        obtain ⟨hps, hpj⟩ := part_step (ackLd ack m) left base Ls j hj hlx
        have hjp : j < (part (ackLd ack m) left base Ls).length := by rw [part_length]; exact hj
        have hS2 := hS.out.frame k2 (fun k hk e => by have := H.out.foot_lt k (by rw [part_length] at hk; exact hk); omega)
        have hlo := hS2.lds j hjp
        have hnb : base + j ≤ 4611686018427387905 := by omega
        have ⟨hm1, hm2, hm3, hm4⟩ := hmay
        obtain ⟨cs, b1, b2⟩ := hlo.blk
        have fr1 := free_at (i := 1) b1
        have e1 := hlo.there
        have haw : adr (base + j) < w.heap.size := H.out.foot_lt _ (.inr (.inr (.inl ⟨j, hj, rfl⟩)))
        have hab : adr (base + j) ≠ b := (H.out.ap j hj).2
        cases hh : hit ack m ((base + j : Nat) : Int) with
        | true =>
          have hM2 := hS2.mark hjp
          rw [hpj] at hM2
          have hps' : part (ackLd ack m) (strike left ((base + j : Nat) : Int)) base Ls = (part (ackLd ack m) left base Ls).set j { (Ls[j]'hj) with there := true } := by
            rw [hps]; unfold ackLd; rw [if_pos hh]
          have HM := Lib.hid (show Hid (SendAt (w2.setCell ⟨adr (base + j), 1, none⟩ (.bool true)) p b adr D W base lim (part (ackLd ack m) (strike left ((base + j : Nat) : Int)) base Ls) cnt) from by rw [hps']; exact hM2.1)
          have k3 := hM2.2
          have hR3 := hR2.chg k3 (fun e => hab e.symm) (fun e => by omega)
          have hc3 : Chg (Lds adr base Ls.length) w (w2.setCell ⟨adr (base + j), 1, none⟩ (.bool true)) :=
            (hc.trans k2 (fun i hi e => by omega)).trans k3 (fun i _ e => ⟨j, hj, e⟩)
          have hle3 := hR3.left_eq
          clear hM2 hps hps' hpj hS2 hlo b1 hR hR2 hS hR1 hS1 hM
          unfold hit at hh
          generalize base + j = n at *
          by_cases d1 : (n : Int) - ack - 2 < -1
          · go_wp2
            go_roundw
            case rel => exact ⟨_, _, hR3, HM.out, hc3⟩
            case measure => rw [hle3, hle]; exact hlt
          · have d2 : (0 ≤ (n : Int) - ack - 2 ∧ (n : Int) - ack - 2 < 64) ∧ (bits .and .u64 ((m.toNat : Int) / 2 ^ ((n : Int) - ack - 2).toNat) 1 != 0) = true := by simpa [d1] using hh
            obtain ⟨⟨d3, d4⟩, d5⟩ := d2
            obtain ⟨q, hq⟩ : ∃ q : Nat, (n : Int) - ack - 2 = q := ⟨((n : Int) - ack - 2).toNat, by omega⟩
            rw [hq, Int.toNat_natCast] at d5
            clear hh
            go_wp2
            go_roundw
            case rel => exact ⟨_, _, hR3, HM.out, hc3⟩
            case measure => rw [hle3, hle]; exact hlt
        | false =>
          have hps' : part (ackLd ack m) (strike left ((base + j : Nat) : Int)) base Ls = part (ackLd ack m) left base Ls := by
            have e0 : ackLd ack m ((base + j : Nat) : Int) (Ls[j]'hj) = Ls[j]'hj := by unfold ackLd; rw [if_neg (by rw [hh]; simp)]
            rw [hps, e0, ← hpj, List.set_getElem_self]
          have HM := Lib.hid (show Hid (SendAt w2 p b adr D W base lim (part (ackLd ack m) (strike left ((base + j : Nat) : Int)) base Ls) cnt) from by rw [hps']; exact hS2)
          have hc3 : Chg (Lds adr base Ls.length) w w2 := hc.trans k2 (fun i hi e => by omega)
          have hle3 := hR2.left_eq
          clear hps hps' hpj hS2 hlo b1 hR hS hR1 hS1 hM
          unfold hit at hh
          generalize base + j = n at *
          have hh' : ¬ ((n : Int) - ack - 2 < -1) ∧ (0 ≤ (n : Int) - ack - 2 → (n : Int) - ack - 2 < 64 → (bits .and .u64 ((m.toNat : Int) / 2 ^ ((n : Int) - ack - 2).toNat) 1 != 0) = false) := by
            rw [Bool.or_eq_false_iff] at hh
            refine ⟨of_decide_eq_false hh.1, fun h1 h2 => ?_⟩
            have := hh.2
            rw [decide_eq_true h1, decide_eq_true h2] at this
            simpa using this
          obtain ⟨d1, d2⟩ := hh'
          clear hh
          by_cases d3 : 0 ≤ (n : Int) - ack - 2
          · obtain ⟨q, hq⟩ : ∃ q : Nat, (n : Int) - ack - 2 = q := ⟨((n : Int) - ack - 2).toNat, by omega⟩
            rw [hq, Int.toNat_natCast] at d2
            by_cases d4 : (q : Int) < 64
            · have d5 := d2 (by omega) d4
              clear d2
              go_wp2
              go_roundw
              case rel => exact ⟨_, _, hR2, HM.out, hc3⟩
              case measure => rw [hle3, hle]; exact hlt
            · clear d2
              go_wp2
              go_roundw
              case rel => exact ⟨_, _, hR2, HM.out, hc3⟩
              case measure => rw [hle3, hle]; exact hlt
          · clear d2
            go_wp2
            go_roundw
            case rel => exact ⟨_, _, hR2, HM.out, hc3⟩
            case measure => rw [hle3, hle]; exact hlt
  · have hR : ackOf base lim Ls ack m credit = (1, base, lim, Ls) := by unfold ackOf; rw [if_neg hmay]
    rw [hR]
    have HO := Lib.hid (sok_any h)
    have HY := Lib.hid (may_any h ack credit false (decide_eq_false hmay))
    have H := Lib.hid h
    clear h hR
    go_enter Try.func9, Try.ntmps9
    go_wp2_with (fail)
    refine HO.out.mono ?_
    rintro e w' ⟨rfl, rfl⟩
    go_wp2_with (fail)
    refine HY.out.mono ?_
    rintro e w' ⟨rfl, rfl⟩
    go_wp2
    go_ret
    exact ⟨rfl, Chg.refl _ _, H.out⟩
/-- What Resume makes of a load. -/
def resLd (ack now : Int) (n : Int) (x : Ld) : Ld := { x with there := decide (n ≤ ack), time := now, wait := 1 }
/-- A load is begun anew. -/
theorem SendAt.anew {w : World} {p b : Nat} {adr : Nat → Nat} {D : Nat → Prop} {W base lim : Nat} {Ls : List Ld} {cnt j : Nat} (h : SendAt w p b adr D W base lim Ls cnt) (hj : j < Ls.length) (t : Bool) (now : Int) (hn : 0 ≤ now ∧ now ≤ 1099511627776) :
    SendAt (((w.setCell ⟨adr (base + j), 1, none⟩ (.bool t)).setCell ⟨adr (base + j), 2, none⟩ (.int .i64 now)).setCell ⟨adr (base + j), 3, none⟩ (.int .i64 1)) p b adr D W base lim (Ls.set j { (Ls[j]'hj) with there := t, time := now, wait := 1 }) cnt ∧
    Chg (fun k => k = adr (base + j)) w (((w.setCell ⟨adr (base + j), 1, none⟩ (.bool t)).setCell ⟨adr (base + j), 2, none⟩ (.int .i64 now)).setCell ⟨adr (base + j), 3, none⟩ (.int .i64 1)) := by
  have hx := h.lds j hj
  generalize ha : adr (base + j) = a at *
  have k1 : Chg (fun k => k = a) w (w.setCell ⟨a, 1, none⟩ (.bool t)) := Chg.setCell (S := fun k => k = a) (Chg.refl _ w) (p := ⟨a, 1, none⟩) (.inr rfl) _
  have k2 := Chg.setCell (S := fun k => k = a) k1 (p := ⟨a, 2, none⟩) (.inr rfl) (.int .i64 now)
  have k3 := Chg.setCell (S := fun k => k = a) k2 (p := ⟨a, 3, none⟩) (.inr rfl) (.int .i64 1)
  obtain ⟨cs, b1, b2⟩ := hx.blk
  have hy : LdAt (((w.setCell ⟨a, 1, none⟩ (.bool t)).setCell ⟨a, 2, none⟩ (.int .i64 now)).setCell ⟨a, 3, none⟩ (.int .i64 1)) D a { (Ls[j]'hj) with there := t, time := now, wait := 1 } :=
    hx.write k3 (fun d hd e => (h.dd d hd).2.2.2 j hj (ha.trans e.symm)) ⟨_, heap_setCell_same _ a 3 _ _ _ (heap_setCell_same _ a 2 _ _ _ (heap_setCell_same w a 1 cs _ _ b1)), by simpa using b2⟩
      (by rw [set_far (by omega), set_far (by omega), set_far (by omega)]) rfl (by rw [set_far (by omega), set_far (by omega)]; exact set_at hx.there) (by rw [set_far (by omega)]; exact set_at (u := .int .i64 (Ls[j]'hj).time) (by rw [set_far (by omega)]; exact hx.time))
      (set_at (u := .int .i64 (Ls[j]'hj).wait) (by rw [set_far (by omega), set_far (by omega)]; exact hx.wait)) ⟨hn.1, by show now ≤ _; omega⟩ ⟨Int.le_refl 1, by show (1 : Int) ≤ 64; decide⟩
  subst ha
  exact ⟨h.turn hj hy k3, k3⟩
/-- What Resume answers, and what stands behind it. -/
def resOf (base lim : Nat) (Ls : List Ld) (ack credit now : Int) : Int × Nat × Nat × List Ld :=
  if (0 ≤ now ∧ now ≤ 1099511627776) ∧ 0 ≤ ack ∧ ack < ((base + Ls.length : Nat) : Int) ∧ 0 ≤ credit ∧ credit ≤ 4611686018427387904 then
    let Ls1 := Ls.mapIdx fun j x => resLd ack now ((base + j : Nat) : Int) x
    (0, base + doneN Ls1, max credit.toNat (base + Ls.length - 1), Ls1.drop (doneN Ls1))
  else (1, base, lim, Ls)

set_option maxHeartbeats 2000000 in
theorem sres_any {w : World} {p b : Nat} {adr : Nat → Nat} {D : Nat → Prop} {W base lim : Nat} {Ls : List Ld} {cnt : Nat} (h : SendAt w p b adr D W base lim Ls cnt) (ack credit now : Int) :
    Calls Try.prog 16 #[.pointer (some ⟨p, 0, none⟩), .int .i64 ack, .int .i64 credit, .int .i64 now] w fun e w' => e = .returned (.int .i64 (resOf base lim Ls ack credit now).1) ∧
      Chg (Foot p b adr D base Ls.length) w w' ∧ SendAt w' p b adr D W (resOf base lim Ls ack credit now).2.1 (resOf base lim Ls ack credit now).2.2.1 (resOf base lim Ls ack credit now).2.2.2 cnt := by
  by_cases hwhen : 0 ≤ now ∧ now ≤ 1099511627776
  · by_cases hmay : 0 ≤ ack ∧ ack < ((base + Ls.length : Nat) : Int) ∧ 0 ≤ credit ∧ credit ≤ 4611686018427387904
    · have hR : resOf base lim Ls ack credit now = (0, base + doneN (Ls.mapIdx fun j x => resLd ack now ((base + j : Nat) : Int) x), max credit.toNat (base + Ls.length - 1), (Ls.mapIdx fun j x => resLd ack now ((base + j : Nat) : Int) x).drop (doneN (Ls.mapIdx fun j x => resLd ack now ((base + j : Nat) : Int) x))) := by
        unfold resOf; rw [if_pos ⟨hwhen, hmay⟩]
      rw [hR]
      obtain ⟨Ls1, hL1⟩ : ∃ l, l = (Ls.mapIdx fun j x => resLd ack now ((base + j : Nat) : Int) x) := ⟨_, rfl⟩
      rw [← hL1]
      have hl1 : Ls1.length = Ls.length := by rw [hL1]; simp
      have HL1 := Lib.hid hL1
      clear hL1
      have HO := Lib.hid (sok_any h)
      have HY := Lib.hid (may_any h ack credit true (by simp; omega))
      have HW := Lib.hid (fun w => when_any now w true (decide_eq_true hwhen))
      have h4 := h.c4
      have hM := h.map
      have hnx := h.nx
      have hlm := h.lm
      have hb1 := h.b1
      have H := Lib.hid h
      clear h hR
      go_enter Try.func16, Try.ntmps16
      go_wp2_with (fail)
      refine HO.out.mono ?_
      rintro e w' ⟨rfl, rfl⟩
      go_wp2_with (fail)
      refine (HW.out _).mono ?_
      rintro e w' ⟨rfl, rfl⟩
      go_wp2_with (fail)
      refine HY.out.mono ?_
      rintro e w' ⟨rfl, rfl⟩
      go_wp2_with (first
        | (at_range; refine wp_range_map _ rfl _ _ rfl 3 54 Try.underlying3 Try.underlying48 b cnt _ rfl hM ?_; intro w1 cn hR1 k1)
        | fail)
      go_frame
      have hS1 := H.out.pure k1
      go_loopw [] (fun wr => ∃ (left : Int → Bool) (cn : Nat), RangeAt wr 3 b w.heap.size cnt (byM base Ls.length adr) left cn ∧ Hid (SendAt wr p b adr D W base lim (part (resLd ack now) left base Ls) cnt) ∧ Chg (Lds adr base Ls.length) w wr) (fun wr => wr.rangeLeft b w.heap.size)
      case atStart => exact ⟨_, _, hR1, by rw [part_all _ _ _ _ (fun j hj => by rw [byM_in hj]; rfl)]; exact hS1, k1.of_pure⟩
      case round =>
        obtain ⟨left, cn, hR, hS, hc⟩ := hrel
        have hle := hR.left_eq
        have ⟨hm1, hm2, hm3, hm4⟩ := hmay
        have ⟨hw1, hw2⟩ := hwhen
        go_wp2_with (first
          | (at_next; refine wp_next_map _ rfl _ rfl 3 Try.underlying3 b w.heap.size cnt _ left cn rfl hR ?_ ?_)
          | fail)
        · intro h0 hnone
          rw [part_none _ _ _ _ hnone, ← HL1.out] at hS
          clear hR hR1 hS1 hM h4
          have HG := Lib.hid (settle_any hS.out)
          go_wp2_with (fail)
          refine HG.out.mono ?_
          rintro e w4 ⟨rfl, g3, g4⟩
          have h2 := g4.c2
          obtain ⟨cs, b1, b2⟩ := g4.blk
          have fr3 := free_at (i := 3) b1
          have hdn := doneN_le Ls1
          have e2 : base + doneN Ls1 + (Ls1.drop (doneN Ls1)).length = base + Ls.length := by rw [List.length_drop]; omega
          rw [e2] at h2
          have h3 := g4.c3
          have hcc := (hc.mono (fun i _ h => Lds.foot (p := p) (b := b) (D := D) h)).trans g3 (fun i hi e => e.elim (fun e => .inl e) (fun e => .inr (.inl e)))
          by_cases hcl : ¬ ((base + Ls.length : Nat) : Int) - 1 ≤ credit
          · obtain ⟨g1, g2⟩ := g4.limit (max credit.toNat (base + Ls.length - 1)) (by rw [e2]; omega) (by omega) (v := ((base + Ls.length : Nat) : Int) - 1) (by omega)
            have HZ := Lib.hid g1
            clear b1 g4 g1 e2
            generalize hnxx : base + Ls.length = nx at *
            have HN := Lib.hid hnxx
            clear hnxx
            go_wp2
            go_ret
            exact ⟨rfl, hcc.trans g2 (fun i hi e => .inl e), by rw [HN.out]; exact HZ.out⟩
          · obtain ⟨g1, g2⟩ := g4.limit (max credit.toNat (base + Ls.length - 1)) (by rw [e2]; omega) (by omega) (v := credit) (by omega)
            have HZ := Lib.hid g1
            clear b1 g4 g1 e2
            generalize hnxx : base + Ls.length = nx at *
            have HN := Lib.hid hnxx
            clear hnxx
            go_wp2
            go_ret
            exact ⟨rfl, hcc.trans g2 (fun i hi e => .inl e), by rw [HN.out]; exact HZ.out⟩
        · intro x c w2 cn2 hwx hlx hmx hR2 hlt k2 hen
          obtain ⟨j, hj, rfl, rfl⟩ := byM_some hmx
          obtain ⟨hps, hpj⟩ := part_step (resLd ack now) left base Ls j hj hlx
          have hjp : j < (part (resLd ack now) left base Ls).length := by rw [part_length]; exact hj
          have hS2 := hS.out.frame k2 (fun k hk e => by have := H.out.foot_lt k (by rw [part_length] at hk; exact hk); omega)
          have hlo := hS2.lds j hjp
          obtain ⟨cs, b1, b2⟩ := hlo.blk
          have frz := fun i => free_at (i := i) b1
          have fr1 := frz 1
          have fr2 := frz 2
          have fr3 := frz 3
          have e1 := hlo.there
          have e2 := hlo.time
          have e3 := hlo.wait
          have haw : adr (base + j) < w.heap.size := H.out.foot_lt _ (.inr (.inr (.inl ⟨j, hj, rfl⟩)))
          have hab : adr (base + j) ≠ b := (H.out.ap j hj).2
          have hM2 := hS2.anew hjp (decide (((base + j : Nat) : Int) ≤ ack)) now hwhen
          rw [hpj] at hM2
          have HM := Lib.hid (show Hid (SendAt (((w2.setCell ⟨adr (base + j), 1, none⟩ (.bool (decide (((base + j : Nat) : Int) ≤ ack)))).setCell ⟨adr (base + j), 2, none⟩ (.int .i64 now)).setCell ⟨adr (base + j), 3, none⟩ (.int .i64 1)) p b adr D W base lim (part (resLd ack now) (strike left ((base + j : Nat) : Int)) base Ls) cnt) from by rw [hps]; exact hM2.1)
          have k3 := hM2.2
          have hR3 := hR2.chg k3 (fun e => hab e.symm) (fun e => by omega)
          have hc3 := (hc.trans k2 (fun i hi e => by omega)).trans k3 (fun i _ e => ⟨j, hj, e⟩)
          have hle3 := hR3.left_eq
          clear hM2 hps hpj hS2 hlo b1 hR hR2 hS hR1 hS1 hM frz
          generalize base + j = n at *
          go_wp2
          go_roundw
          case rel => exact ⟨_, _, hR3, HM.out, hc3⟩
          case measure => rw [hle3, hle]; exact hlt
    · have hR : resOf base lim Ls ack credit now = (1, base, lim, Ls) := by unfold resOf; rw [if_neg (fun hh => hmay hh.2)]
      rw [hR]
      have HO := Lib.hid (sok_any h)
      have HY := Lib.hid (may_any h ack credit false (decide_eq_false hmay))
      have HW := Lib.hid (fun w => when_any now w true (decide_eq_true hwhen))
      have H := Lib.hid h
      clear h hR
      go_enter Try.func16, Try.ntmps16
      go_wp2_with (fail)
      refine HO.out.mono ?_
      rintro e w' ⟨rfl, rfl⟩
      go_wp2_with (fail)
      refine (HW.out _).mono ?_
      rintro e w' ⟨rfl, rfl⟩
      go_wp2_with (fail)
      refine HY.out.mono ?_
      rintro e w' ⟨rfl, rfl⟩
      go_wp2
      go_ret
      exact ⟨rfl, Chg.refl _ _, H.out⟩
  · have hR : resOf base lim Ls ack credit now = (1, base, lim, Ls) := by unfold resOf; rw [if_neg (fun hh => hwhen hh.1)]
    rw [hR]
    have HO := Lib.hid (sok_any h)
    have HW := Lib.hid (fun w => when_any now w false (decide_eq_false hwhen))
    have H := Lib.hid h
    clear h hR
    go_enter Try.func16, Try.ntmps16
    go_wp2_with (fail)
    refine HO.out.mono ?_
    rintro e w' ⟨rfl, rfl⟩
    go_wp2_with (fail)
    refine (HW.out _).mono ?_
    rintro e w' ⟨rfl, rfl⟩
    go_wp2
    go_ret
    exact ⟨rfl, Chg.refl _ _, H.out⟩
end Go.Proofs.Ytlkpnhfdcljbfaa
