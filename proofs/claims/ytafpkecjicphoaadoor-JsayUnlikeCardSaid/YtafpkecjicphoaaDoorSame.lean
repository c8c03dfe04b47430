/- Two slices of bytes, told alike or not; and a byte turned over. -/
import Derived.Test.YtafpkecjicphoaaDoorProg
import Derived.Test.YtafpkecjicphoaaDoorBase
namespace Go.Proofs.YtafpkecjicphoaaDoor
open Go Go.RowKit
set_option linter.unusedVariables false
set_option maxRecDepth 100000
set_option linter.unusedSimpArgs false

theorem bits_xor_u8 (a b : UInt8) : bits .xor .u8 (a.toNat : Int) (b.toNat : Int) = (((a ^^^ b).toNat : Nat) : Int) := by
  have ha := a.toNat_lt; have hb := b.toNat_lt
  show IntKind.u8.wrap ((BitVec.ofInt 8 (a.toNat : Int) ^^^ BitVec.ofInt 8 (b.toNat : Int)).toNat : Int) = _
  rw [IntKind.wrap_u8, BitVec.ofInt_natCast, BitVec.ofInt_natCast, BitVec.toNat_xor, BitVec.toNat_ofNat, BitVec.toNat_ofNat, UInt8.toNat_xor, Nat.mod_eq_of_lt ha, Nat.mod_eq_of_lt hb]
  have : a.toNat ^^^ b.toNat < 2 ^ 8 := Nat.xor_lt_two_pow ha hb
  omega
theorem xor255 (z : UInt8) : bits .xor .u8 (z.toNat : Int) 255 = ((z ^^^ 255).toNat : Int) := bits_xor_u8 z 255
theorem enc_set (zs : List UInt8) (k : Nat) (u : UInt8) : (enc zs).set k (.int .u8 (u.toNat : Int)) = enc (zs.set k u) := by
  unfold enc; rw [List.map_set]
theorem own_keep {w w' : World} {S : Nat → Prop} {base size n : Nat} {e : TypeId} {v : Value} {xs : List Value} (h : w.ownsRow base e size v n xs) (hc : Chg S w w') (hd : ∀ g, v.ownBlock = some g → ¬ S g) : w'.ownsRow base e size v n xs := by
  refine ⟨h.1, ?_⟩
  rcases h.2 with h2 | ⟨g, cap, cur, rfl, hb, hh, r⟩
  · exact .inl h2
  · exact .inr ⟨g, cap, cur, rfl, hb, (hc.block g (Array.getElem?_eq_some_iff.1 hh).1 (hd g rfl)).trans hh, r⟩
theorem own_slice {w : World} {base size n : Nat} {e : TypeId} {v : Value} {xs : List Value} (h : w.ownsRow base e size v n xs) : ∃ B q, v = .slice B n q ∧ n ≤ q ∧ (0 < n → ∃ g, B = some ⟨g, 0, none⟩ ∧ base ≤ g) ∧ (∀ a, B = some a → base ≤ a.block ∧ a.block < w.heap.size) := by
  rcases h.2 with ⟨rfl, rfl⟩ | ⟨g, cap, cur, rfl, hb, hh, hq, _⟩
  · exact ⟨_, _, rfl, Nat.le_refl _, fun h => absurd h (by omega), fun a ha => by cases ha⟩
  · exact ⟨_, _, rfl, hq, fun _ => ⟨g, rfl, hb⟩, fun a ha => by cases ha; exact ⟨hb, (Array.getElem?_eq_some_iff.1 hh).1⟩⟩
theorem same_any (A : Option Addr) (c m : Nat) (xs : List UInt8) (B : Option Addr) (d n : Nat) (ys : List UInt8) (w : World) (hA : Bytes w A m xs) (hB : Bytes w B n ys) :
    Calls Tryd.prog 7 #[.slice A m c, .slice B n d] w fun e w' => e = .returned (.bool (decide (xs = ys))) ∧ w = w' := by
  have h1 := hA.run_string 23 9 5 Tryd.underlying23 Tryd.underlying5 Tryd.underlying9 c
  have h2 := hB.run_string 23 9 5 Tryd.underlying23 Tryd.underlying5 Tryd.underlying9 d
  clear hA hB
  go_enter Tryd.func7, Tryd.ntmps7
  go_wp2
  go_ret
  refine ⟨ret_bool ?_, rfl⟩
  rw [Bool.eq_iff_iff]; simp
theorem same_is (r : Bool) (A : Option Addr) (c m : Nat) (xs : List UInt8) (B : Option Addr) (d n : Nat) (ys : List UInt8) (w : World) (hA : Bytes w A m xs) (hB : Bytes w B n ys) (hr : decide (xs = ys) = r) :
    Calls Tryd.prog 7 #[.slice A m c, .slice B n d] w fun e w' => e = .returned (.bool r) ∧ w = w' := by
  subst hr
  exact same_any A c m xs B d n ys w hA hB
end Go.Proofs.YtafpkecjicphoaaDoor
