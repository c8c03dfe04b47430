/- Package send, going on: a sender of the call's own, and its methods once more in short words. -/
import Derived.Test.YtlkpnhfdcljbfaaSendG
namespace Go.Proofs.Ytlkpnhfdcljbfaa
open Go Go.RowKit
set_option linter.unusedVariables false
set_option linter.unusedSimpArgs false

/-- A sender made since w0; nothing that was there in w0 has turned. -/
def OwnS (w0 w : World) (p b W base lim : Nat) (Ls : List Ld) (cnt : Nat) : Prop :=
  ∃ adr D, SendAt w p b adr D W base lim Ls cnt ∧ (∀ k, Foot p b adr D base Ls.length k → w0.heap.size ≤ k) ∧ Chg Pure' w0 w
theorem Foot.drop {p b : Nat} {adr : Nat → Nat} {D : Nat → Prop} {base n k : Nat} {i : Nat} (h : Foot p b adr D (base + k) (n - k) i) : Foot p b adr D base n i := by
  rcases h with h | h | ⟨j, hj, h⟩ | h
  · exact .inl h
  · exact .inr (.inl h)
  · exact .inr (.inr (.inl ⟨k + j, by omega, by rw [h, Nat.add_assoc]⟩))
  · exact .inr (.inr (.inr h))
theorem OwnS.pure {w0 w w' : World} {p b W base lim : Nat} {Ls : List Ld} {cnt : Nat} (h : OwnS w0 w p b W base lim Ls cnt) (hc : Chg Pure' w w') : OwnS w0 w' p b W base lim Ls cnt := by
  obtain ⟨adr, D, h1, h2, h3⟩ := h
  exact ⟨adr, D, h1.pure hc, h2, h3.pure hc⟩
theorem own_new (W : Nat) (w : World) (h1 : 1 ≤ W) (h2 : W ≤ 32) :
    Calls Try.prog 8 #[.int .i64 W] w fun e w' => e = .returned (.tuple #[.pointer (some ⟨w.heap.size + 1, 0, none⟩), .int .i64 0]) ∧ OwnS w w' (w.heap.size + 1) w.heap.size W 1 0 [] 0 := by
  refine (snew_ok W w h1 h2).mono ?_
  rintro e w' ⟨rfl, hc, hs⟩
  refine ⟨rfl, _, _, hs, ?_, hc⟩
  rintro k (rfl | rfl | ⟨i, hi, _⟩ | h)
  · omega
  · exact Nat.le_refl _
  · simp at hi
  · exact h.elim
theorem own_push {w0 w : World} {p b W base lim : Nat} {Ls : List Ld} {cnt : Nat} (h : OwnS w0 w p b W base lim Ls cnt) (A : Option Addr) (n c : Nat) (xs : List UInt8) (now : Int) (hA : Bytes w A n xs) (hn : n ≤ 140737488351232) (hcnt : cnt ≤ 4611686018427387904) :
    Calls Try.prog 11 #[.pointer (some ⟨p, 0, none⟩), .slice A n c, .int .i64 now] w fun e w' =>
      e = .returned (.tuple #[.int .i64 (pushOf W base lim Ls xs now).1.1, .int .i64 (pushOf W base lim Ls xs now).1.2]) ∧ OwnS w0 w' p b W base lim (pushOf W base lim Ls xs now).2 (cnt + 1) := by
  obtain ⟨adr, D, h1, h2, h3⟩ := h
  refine (spush_any h1 A n c xs now hA hn hcnt).mono ?_
  rintro e w' ⟨he, hc, adr', D', g1, g2⟩
  have hs := h3.size
  exact ⟨he, adr', D', g1, fun k hk => (g2 k hk).elim (fun h => h2 k h) (fun h => by omega), h3.trans hc (fun i hi e => by
    have := h2 i (e.elim (fun e => .inl e) (fun e => .inr (.inl e)))
    omega)⟩
theorem own_due {w0 w : World} {p b W base lim : Nat} {Ls : List Ld} {cnt : Nat} (h : OwnS w0 w p b W base lim Ls cnt) (now : Int) :
    Calls Try.prog 12 #[.pointer (some ⟨p, 0, none⟩), .int .i64 now] w fun e w' => ∃ v vs, e = .returned v ∧ MsgsAt w' w.heap.size v (dueOf now base Ls).1 vs ∧ OwnS w0 w' p b W base lim (dueOf now base Ls).2 cnt ∧ Chg (fun k => w0.heap.size ≤ k) w w' := by
  obtain ⟨adr, D, h1, h2, h3⟩ := h
  refine (sdue_any h1 now).mono ?_
  rintro e w' ⟨v, vs, he, hm, hc, hs⟩
  have hl : (dueOf now base Ls).2.length = Ls.length := by unfold dueOf; split <;> simp
  exact ⟨v, vs, he, hm, ⟨adr, D, hs, by rw [hl]; exact h2, h3.trans hc (fun i hi e => by have := h2 i (Lds.foot e); omega)⟩, hc.mono (fun i _ e => h2 i (Lds.foot e))⟩
theorem own_ack {w0 w : World} {p b W base lim : Nat} {Ls : List Ld} {cnt : Nat} (h : OwnS w0 w p b W base lim Ls cnt) (ack : Int) (m : UInt64) (credit : Int) :
    Calls Try.prog 9 #[.pointer (some ⟨p, 0, none⟩), .int .i64 ack, .int .u64 (m.toNat : Int), .int .i64 credit] w fun e w' => e = .returned (.int .i64 (ackOf base lim Ls ack m credit).1) ∧
      OwnS w0 w' p b W (ackOf base lim Ls ack m credit).2.1 (ackOf base lim Ls ack m credit).2.2.1 (ackOf base lim Ls ack m credit).2.2.2 cnt := by
  obtain ⟨adr, D, h1, h2, h3⟩ := h
  refine (sack_any h1 ack m credit).mono ?_
  rintro e w' ⟨he, hc, hs⟩
  refine ⟨he, adr, D, hs, fun k hk => h2 k ?_, h3.trans hc (fun i hi e => by have := h2 i e; omega)⟩
  unfold ackOf at hk
  split at hk
  · exact Foot.drop (by simpa using hk)
  · exact hk
theorem own_res {w0 w : World} {p b W base lim : Nat} {Ls : List Ld} {cnt : Nat} (h : OwnS w0 w p b W base lim Ls cnt) (ack credit now : Int) :
    Calls Try.prog 16 #[.pointer (some ⟨p, 0, none⟩), .int .i64 ack, .int .i64 credit, .int .i64 now] w fun e w' => e = .returned (.int .i64 (resOf base lim Ls ack credit now).1) ∧
      OwnS w0 w' p b W (resOf base lim Ls ack credit now).2.1 (resOf base lim Ls ack credit now).2.2.1 (resOf base lim Ls ack credit now).2.2.2 cnt := by
  obtain ⟨adr, D, h1, h2, h3⟩ := h
  refine (sres_any h1 ack credit now).mono ?_
  rintro e w' ⟨he, hc, hs⟩
  refine ⟨he, adr, D, hs, fun k hk => h2 k ?_, h3.trans hc (fun i hi e => by have := h2 i e; omega)⟩
  unfold resOf at hk
  split at hk
  · exact Foot.drop (by simpa using hk)
  · exact hk
end Go.Proofs.Ytlkpnhfdcljbfaa
