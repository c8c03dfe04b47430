/- A link that nobody made. -/
import Derived.Test.YtnpkpfcljkekfaaLinkS
namespace Go.Proofs.Ytnpkpfcljkekfaa
open Go Go.RowKit
set_option linter.unusedVariables false
set_option maxRecDepth 100000
set_option linter.unusedSimpArgs false

/-- A link that nobody made: nil, or one without a sender. -/
def NilL (w : World) (v : Value) : Prop := v = .pointer none ∨ ∃ z, v = .pointer (some ⟨z, 0, none⟩) ∧ w.cell? ⟨z, 3, none⟩ = some (.pointer none)
theorem NilL.frame {S : Nat → Prop} {w w' : World} {v : Value} (h : NilL w v) (hc : Chg S w w') (hv : ∀ z, v = .pointer (some ⟨z, 0, none⟩) → ¬ S z) : NilL w' v := by
  rcases h with rfl | ⟨z, rfl, hz⟩
  · exact .inl rfl
  · exact .inr ⟨z, rfl, hc.cell hz (hv z rfl)⟩
theorem nok_any {w : World} {v : Value} (h : NilL w v) : Calls Try.prog 52 #[v] w fun e w' => e = .returned (.bool false) ∧ w = w' := by
  rcases h with rfl | ⟨z, rfl, hz⟩
  · go_enter Try.func52, Try.ntmps52
    go_wp2
    go_ret
    exact ⟨rfl, rfl⟩
  · go_enter Try.func52, Try.ntmps52
    go_wp2
    go_ret
    exact ⟨rfl, rfl⟩
theorem nfind_any {w : World} {v : Value} (h : NilL w v) (n i : Int) : Calls Try.prog 63 #[v, .int .i64 n, .int .i64 i] w fun e w' => e = .returned (.tuple #[.pointer none, .int .i64 2]) ∧ w = w' := by
  have H := Lib.hid (nok_any h)
  clear h
  go_enter Try.func63, Try.ntmps63
  go_wp2_with (fail)
  refine H.out.mono ?_
  rintro e w1 ⟨rfl, rfl⟩
  go_wp2
  go_ret2
  exact ⟨rfl, rfl⟩
theorem nsend_any {w : World} {v : Value} (h : NilL w v) (A : Option Addr) (n c : Nat) : Calls Try.prog 24 #[v, .slice A n c] w fun e w' => e = .returned (.int .i64 2) ∧ w = w' := by
  have H := Lib.hid (nok_any h)
  clear h
  go_enter Try.func24, Try.ntmps24
  go_wp2_with (fail)
  refine H.out.mono ?_
  rintro e w1 ⟨rfl, rfl⟩
  go_wp2
  go_ret
  exact ⟨rfl, rfl⟩
theorem npoll_any {w : World} {v : Value} (h : NilL w v) : Calls Try.prog 27 #[v] w fun e w' => e = .returned (.tuple #[.slice none 0 0, .bool false]) ∧ w = w' := by
  have H := Lib.hid (nok_any h)
  clear h
  go_enter Try.func27, Try.ntmps27
  go_wp2_with (fail)
  refine H.out.mono ?_
  rintro e w1 ⟨rfl, rfl⟩
  go_wp2
  go_ret2
  exact ⟨rfl, rfl⟩
theorem ntick_any {w : World} {v : Value} (h : NilL w v) : Calls Try.prog 25 #[v] w fun e w' => e = .returned (.tuple #[]) ∧ w = w' := by
  have H := Lib.hid (nok_any h)
  clear h
  go_enter Try.func25, Try.ntmps25
  go_wp2_with (fail)
  refine H.out.mono ?_
  rintro e w1 ⟨rfl, rfl⟩
  go_wp2
  first | go_end0 | (refine bodyPost_ret (results_none rfl _ _ _) rfl ?_)
  exact ⟨rfl, rfl⟩
theorem ndeliver_any {w : World} {v : Value} (h : NilL w v) (n i : Int) : Calls Try.prog 26 #[v, .int .i64 n, .int .i64 i] w fun e w' => e = .returned (.int .i64 2) ∧ w = w' := by
  have H := Lib.hid (nfind_any h n i)
  clear h
  go_enter Try.func26, Try.ntmps26
  go_wp2_with (fail)
  refine H.out.mono ?_
  rintro e w1 ⟨rfl, rfl⟩
  go_wp2
  go_ret
  exact ⟨rfl, rfl⟩
theorem ndrop_any {w : World} {v : Value} (h : NilL w v) (n i : Int) : Calls Try.prog 53 #[v, .int .i64 n, .int .i64 i] w fun e w' => e = .returned (.int .i64 2) ∧ w = w' := by
  have H := Lib.hid (nfind_any h n i)
  clear h
  go_enter Try.func53, Try.ntmps53
  go_wp2_with (fail)
  refine H.out.mono ?_
  rintro e w1 ⟨rfl, rfl⟩
  go_wp2
  go_ret
  exact ⟨rfl, rfl⟩
theorem ntwice_any {w : World} {v : Value} (h : NilL w v) (n i : Int) : Calls Try.prog 54 #[v, .int .i64 n, .int .i64 i] w fun e w' => e = .returned (.int .i64 2) ∧ w = w' := by
  have H := Lib.hid (nfind_any h n i)
  clear h
  go_enter Try.func54, Try.ntmps54
  go_wp2_with (fail)
  refine H.out.mono ?_
  rintro e w1 ⟨rfl, rfl⟩
  go_wp2
  go_ret
  exact ⟨rfl, rfl⟩
theorem nturn_any {w : World} {v : Value} (h : NilL w v) (n i a : Int) (b : UInt32) : Calls Try.prog 55 #[v, .int .i64 n, .int .i64 i, .int .i64 a, .int .u32 (b.toNat : Int)] w fun e w' => e = .returned (.int .i64 2) ∧ w = w' := by
  have H := Lib.hid (nfind_any h n i)
  clear h
  go_enter Try.func55, Try.ntmps55
  go_wp2_with (fail)
  refine H.out.mono ?_
  rintro e w1 ⟨rfl, rfl⟩
  go_wp2
  go_ret
  exact ⟨rfl, rfl⟩
theorem nforge_any {w : World} {v : Value} (h : NilL w v) (k : Int) (A : Option Addr) (n c : Nat) : Calls Try.prog 56 #[v, .int .i64 k, .slice A n c] w fun e w' => e = .returned (.int .i64 2) ∧ w = w' := by
  have H := Lib.hid (nok_any h)
  clear h
  go_enter Try.func56, Try.ntmps56
  go_wp2_with (fail)
  refine H.out.mono ?_
  rintro e w1 ⟨rfl, rfl⟩
  go_wp2
  go_ret
  exact ⟨rfl, rfl⟩
theorem nrecon_any {w : World} {v : Value} (h : NilL w v) : Calls Try.prog 57 #[v] w fun e w' => e = .returned (.tuple #[]) ∧ w = w' := by
  have H := Lib.hid (nok_any h)
  clear h
  go_enter Try.func57, Try.ntmps57
  go_wp2_with (fail)
  refine H.out.mono ?_
  rintro e w1 ⟨rfl, rfl⟩
  go_wp2
  first | go_end0 | (refine bodyPost_ret (results_none rfl _ _ _) rfl ?_)
  exact ⟨rfl, rfl⟩
theorem nway_any {w : World} {v : Value} (h : NilL w v) (n : Int) : Calls Try.prog 20 #[v, .int .i64 n] w fun e w' => e = .returned (.int .i64 0) ∧ w = w' := by
  have H := Lib.hid (nok_any h)
  clear h
  go_enter Try.func20, Try.ntmps20
  go_wp2_with (fail)
  refine H.out.mono ?_
  rintro e w1 ⟨rfl, rfl⟩
  go_wp2
  go_ret
  exact ⟨rfl, rfl⟩
theorem nsent_any {w : World} {v : Value} (h : NilL w v) : Calls Try.prog 18 #[v] w fun e w' => e = .returned (.int .i64 0) ∧ w = w' := by
  have H := Lib.hid (nok_any h)
  clear h
  go_enter Try.func18, Try.ntmps18
  go_wp2_with (fail)
  refine H.out.mono ?_
  rintro e w1 ⟨rfl, rfl⟩
  go_wp2
  go_ret
  exact ⟨rfl, rfl⟩
theorem ngot_any {w : World} {v : Value} (h : NilL w v) : Calls Try.prog 19 #[v] w fun e w' => e = .returned (.int .i64 0) ∧ w = w' := by
  have H := Lib.hid (nok_any h)
  clear h
  go_enter Try.func19, Try.ntmps19
  go_wp2_with (fail)
  refine H.out.mono ?_
  rintro e w1 ⟨rfl, rfl⟩
  go_wp2
  go_ret
  exact ⟨rfl, rfl⟩
theorem nheld_any {w : World} {v : Value} (h : NilL w v) : Calls Try.prog 23 #[v] w fun e w' => e = .returned (.int .i64 0) ∧ w = w' := by
  have H := Lib.hid (nok_any h)
  clear h
  go_enter Try.func23, Try.ntmps23
  go_wp2_with (fail)
  refine H.out.mono ?_
  rintro e w1 ⟨rfl, rfl⟩
  go_wp2
  go_ret
  exact ⟨rfl, rfl⟩
/-- What does answers of a link that nobody made. -/
def noRes (k : Nat) : Int := if k = 1 ∨ k = 2 ∨ k = 8 then 0 else 2
def actV (kind net i at_ : Int) (b : UInt32) (A : Option Addr) (n c : Nat) : Array Value := #[.int .i64 kind, .int .i64 net, .int .i64 i, .int .i64 at_, .int .u32 (b.toNat : Int), .slice A n c]
set_option maxHeartbeats 4000000 in
theorem ndoes_0 {w : World} {v : Value} (h : NilL w v) (net i at_ : Int) (b : UInt32) (A : Option Addr) (n c : Nat) :
    Calls Try.prog 22 #[v, .agg (actV 0 net i at_ b A n c)] w fun e w' => e = .returned (.tuple #[.slice none 0 0, .bool false, .int .i64 (noRes 0)]) ∧ Chg Pure' w w' := by
  have ca : Chg Pure' w (w.alloc (.cells (actV 0 net i at_ b A n c) 49)) := (Chg.refl _ _).alloc _
  have h1 := h.frame ca (fun _ _ h => h)
  have H := Lib.hid (nsend_any h1 A n c)
  have HR := Lib.hid (show noRes 0 = 2 from rfl)
  clear h h1
  unfold actV at *
  go_enter Try.func22, Try.ntmps22
  go_wp2_with (fail)
  refine H.out.mono ?_
  rintro e w1 ⟨rfl, rfl⟩
  go_wp2
  go_ret3
  exact ⟨by rw [HR.out]; rfl, ca⟩
set_option maxHeartbeats 4000000 in
theorem ndoes_1 {w : World} {v : Value} (h : NilL w v) (net i at_ : Int) (b : UInt32) (A : Option Addr) (n c : Nat) :
    Calls Try.prog 22 #[v, .agg (actV 1 net i at_ b A n c)] w fun e w' => e = .returned (.tuple #[.slice none 0 0, .bool false, .int .i64 (noRes 1)]) ∧ Chg Pure' w w' := by
  have ca : Chg Pure' w (w.alloc (.cells (actV 1 net i at_ b A n c) 49)) := (Chg.refl _ _).alloc _
  have h1 := h.frame ca (fun _ _ h => h)
  have H := Lib.hid (npoll_any h1)
  have HR := Lib.hid (show noRes 1 = 0 from rfl)
  clear h h1
  unfold actV at *
  go_enter Try.func22, Try.ntmps22
  go_wp2_with (fail)
  refine H.out.mono ?_
  rintro e w1 ⟨rfl, rfl⟩
  go_wp2
  go_ret3
  exact ⟨by rw [HR.out]; rfl, ca⟩
set_option maxHeartbeats 4000000 in
theorem ndoes_2 {w : World} {v : Value} (h : NilL w v) (net i at_ : Int) (b : UInt32) (A : Option Addr) (n c : Nat) :
    Calls Try.prog 22 #[v, .agg (actV 2 net i at_ b A n c)] w fun e w' => e = .returned (.tuple #[.slice none 0 0, .bool false, .int .i64 (noRes 2)]) ∧ Chg Pure' w w' := by
  have ca : Chg Pure' w (w.alloc (.cells (actV 2 net i at_ b A n c) 49)) := (Chg.refl _ _).alloc _
  have h1 := h.frame ca (fun _ _ h => h)
  have H := Lib.hid (ntick_any h1)
  have HR := Lib.hid (show noRes 2 = 0 from rfl)
  clear h h1
  unfold actV at *
  go_enter Try.func22, Try.ntmps22
  go_wp2_with (fail)
  refine H.out.mono ?_
  rintro e w1 ⟨rfl, rfl⟩
  go_wp2
  go_ret3
  exact ⟨by rw [HR.out]; rfl, ca⟩
set_option maxHeartbeats 4000000 in
theorem ndoes_3 {w : World} {v : Value} (h : NilL w v) (net i at_ : Int) (b : UInt32) (A : Option Addr) (n c : Nat) :
    Calls Try.prog 22 #[v, .agg (actV 3 net i at_ b A n c)] w fun e w' => e = .returned (.tuple #[.slice none 0 0, .bool false, .int .i64 (noRes 3)]) ∧ Chg Pure' w w' := by
  have ca : Chg Pure' w (w.alloc (.cells (actV 3 net i at_ b A n c) 49)) := (Chg.refl _ _).alloc _
  have h1 := h.frame ca (fun _ _ h => h)
  have H := Lib.hid (ndeliver_any h1 net i)
  have HR := Lib.hid (show noRes 3 = 2 from rfl)
  clear h h1
  unfold actV at *
  go_enter Try.func22, Try.ntmps22
  go_wp2_with (fail)
  refine H.out.mono ?_
  rintro e w1 ⟨rfl, rfl⟩
  go_wp2
  go_ret3
  exact ⟨by rw [HR.out]; rfl, ca⟩
set_option maxHeartbeats 4000000 in
theorem ndoes_4 {w : World} {v : Value} (h : NilL w v) (net i at_ : Int) (b : UInt32) (A : Option Addr) (n c : Nat) :
    Calls Try.prog 22 #[v, .agg (actV 4 net i at_ b A n c)] w fun e w' => e = .returned (.tuple #[.slice none 0 0, .bool false, .int .i64 (noRes 4)]) ∧ Chg Pure' w w' := by
  have ca : Chg Pure' w (w.alloc (.cells (actV 4 net i at_ b A n c) 49)) := (Chg.refl _ _).alloc _
  have h1 := h.frame ca (fun _ _ h => h)
  have H := Lib.hid (ndrop_any h1 net i)
  have HR := Lib.hid (show noRes 4 = 2 from rfl)
  clear h h1
  unfold actV at *
  go_enter Try.func22, Try.ntmps22
  go_wp2_with (fail)
  refine H.out.mono ?_
  rintro e w1 ⟨rfl, rfl⟩
  go_wp2
  go_ret3
  exact ⟨by rw [HR.out]; rfl, ca⟩
set_option maxHeartbeats 4000000 in
theorem ndoes_5 {w : World} {v : Value} (h : NilL w v) (net i at_ : Int) (b : UInt32) (A : Option Addr) (n c : Nat) :
    Calls Try.prog 22 #[v, .agg (actV 5 net i at_ b A n c)] w fun e w' => e = .returned (.tuple #[.slice none 0 0, .bool false, .int .i64 (noRes 5)]) ∧ Chg Pure' w w' := by
  have ca : Chg Pure' w (w.alloc (.cells (actV 5 net i at_ b A n c) 49)) := (Chg.refl _ _).alloc _
  have h1 := h.frame ca (fun _ _ h => h)
  have H := Lib.hid (ntwice_any h1 net i)
  have HR := Lib.hid (show noRes 5 = 2 from rfl)
  clear h h1
  unfold actV at *
  go_enter Try.func22, Try.ntmps22
  go_wp2_with (fail)
  refine H.out.mono ?_
  rintro e w1 ⟨rfl, rfl⟩
  go_wp2
  go_ret3
  exact ⟨by rw [HR.out]; rfl, ca⟩
set_option maxHeartbeats 4000000 in
theorem ndoes_6 {w : World} {v : Value} (h : NilL w v) (net i at_ : Int) (b : UInt32) (A : Option Addr) (n c : Nat) :
    Calls Try.prog 22 #[v, .agg (actV 6 net i at_ b A n c)] w fun e w' => e = .returned (.tuple #[.slice none 0 0, .bool false, .int .i64 (noRes 6)]) ∧ Chg Pure' w w' := by
  have ca : Chg Pure' w (w.alloc (.cells (actV 6 net i at_ b A n c) 49)) := (Chg.refl _ _).alloc _
  have h1 := h.frame ca (fun _ _ h => h)
  have H := Lib.hid (nturn_any h1 net i at_ b)
  have HR := Lib.hid (show noRes 6 = 2 from rfl)
  clear h h1
  unfold actV at *
  go_enter Try.func22, Try.ntmps22
  go_wp2_with (fail)
  refine H.out.mono ?_
  rintro e w1 ⟨rfl, rfl⟩
  go_wp2
  go_ret3
  exact ⟨by rw [HR.out]; rfl, ca⟩
set_option maxHeartbeats 4000000 in
theorem ndoes_7 {w : World} {v : Value} (h : NilL w v) (net i at_ : Int) (b : UInt32) (A : Option Addr) (n c : Nat) :
    Calls Try.prog 22 #[v, .agg (actV 7 net i at_ b A n c)] w fun e w' => e = .returned (.tuple #[.slice none 0 0, .bool false, .int .i64 (noRes 7)]) ∧ Chg Pure' w w' := by
  have ca : Chg Pure' w (w.alloc (.cells (actV 7 net i at_ b A n c) 49)) := (Chg.refl _ _).alloc _
  have h1 := h.frame ca (fun _ _ h => h)
  have H := Lib.hid (nforge_any h1 net A n c)
  have HR := Lib.hid (show noRes 7 = 2 from rfl)
  clear h h1
  unfold actV at *
  go_enter Try.func22, Try.ntmps22
  go_wp2_with (fail)
  refine H.out.mono ?_
  rintro e w1 ⟨rfl, rfl⟩
  go_wp2
  go_ret3
  exact ⟨by rw [HR.out]; rfl, ca⟩
set_option maxHeartbeats 4000000 in
theorem ndoes_8 {w : World} {v : Value} (h : NilL w v) (net i at_ : Int) (b : UInt32) (A : Option Addr) (n c : Nat) :
    Calls Try.prog 22 #[v, .agg (actV 8 net i at_ b A n c)] w fun e w' => e = .returned (.tuple #[.slice none 0 0, .bool false, .int .i64 (noRes 8)]) ∧ Chg Pure' w w' := by
  have ca : Chg Pure' w (w.alloc (.cells (actV 8 net i at_ b A n c) 49)) := (Chg.refl _ _).alloc _
  have h1 := h.frame ca (fun _ _ h => h)
  have H := Lib.hid (nrecon_any h1)
  have HR := Lib.hid (show noRes 8 = 0 from rfl)
  clear h h1
  unfold actV at *
  go_enter Try.func22, Try.ntmps22
  go_wp2_with (fail)
  refine H.out.mono ?_
  rintro e w1 ⟨rfl, rfl⟩
  go_wp2
  go_ret3
  exact ⟨by rw [HR.out]; rfl, ca⟩
theorem ndoes_any {w : World} {v : Value} (h : NilL w v) (k : Nat) (hk : k < 9) (net i at_ : Int) (b : UInt32) (A : Option Addr) (n c : Nat) :
    Calls Try.prog 22 #[v, .agg (actV k net i at_ b A n c)] w fun e w' => e = .returned (.tuple #[.slice none 0 0, .bool false, .int .i64 (noRes k)]) ∧ Chg Pure' w w' := by
  match k, hk with
  | 0, _ => exact ndoes_0 h net i at_ b A n c
  | 1, _ => exact ndoes_1 h net i at_ b A n c
  | 2, _ => exact ndoes_2 h net i at_ b A n c
  | 3, _ => exact ndoes_3 h net i at_ b A n c
  | 4, _ => exact ndoes_4 h net i at_ b A n c
  | 5, _ => exact ndoes_5 h net i at_ b A n c
  | 6, _ => exact ndoes_6 h net i at_ b A n c
  | 7, _ => exact ndoes_7 h net i at_ b A n c
  | 8, _ => exact ndoes_8 h net i at_ b A n c
end Go.Proofs.Ytnpkpfcljkekfaa
