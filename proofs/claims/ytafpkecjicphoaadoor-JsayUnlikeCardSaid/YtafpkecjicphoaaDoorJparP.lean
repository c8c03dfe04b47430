/- Plainly: a JSON text's tree, out of its tokens. -/
import Derived.Test.YtafpkecjicphoaaDoorJlexL
import Derived.Test.YtafpkecjicphoaaDoorTreeP
namespace Go.Proofs.YtafpkecjicphoaaDoor
open Go Go.RowKit
set_option linter.unusedVariables false
set_option linter.unusedSimpArgs false

def nullT : Tn := .mk 0 0 false [] 0 [] [] [] []
def boolT (n : UInt64) : Tn := .mk 1 n false [] 0 [] [] [] []
def intT (neg : Bool) (dig : List UInt8) : Tn := .mk 2 0 neg dig 0 [] [] [] []
def decT (n : Num) : Tn := .mk 3 0 n.neg n.dig n.exp [] [] [] []
def textT (s : List UInt8) : Tn := .mk 5 0 false [] 0 s [] [] []
def arrT (l : List Tn) : Tn := .mk 7 0 false [] 0 [] [] [] l
def mapT (ks : List (List UInt8)) (l : List Tn) : Tn := .mk 8 0 false [] 0 [] [] (ks.map textT) l
/-- A number's node. -/
def numT (n : Num) : Tn := if (wholeA n).2 then intT n.neg (wholeA n).1 else decT n
/-- A fault: none: the tokens are over. -/
abbrev Er := Option (Int × Nat)
/-- A node begins: its fault, if it has one. -/
def beginE (free : Bool) (deep nodes : Nat) : Int := if free then 0 else if 1024 < nodes then 8 else if 24 < deep then 7 else 0
/-- A leaf's node. -/
def leafP (free : Bool) (t : Tok) : Except Er Tn :=
  if t.kind = 7 then .ok (textT t.text)
  else if t.kind = 8 then
    if (parseA t.text).2.1 ≠ 0 then (if free then .ok nullT else .error (some (11, t.frm))) else .ok (numT (parseA t.text).1)
  else if t.kind = 9 then .ok (boolT 1)
  else if t.kind = 10 then .ok (boolT 0)
  else .ok nullT
mutual
/-- A value, in a depth, so many nodes being behind: its tree, the nodes, and the tokens that are left. -/
def valP (free : Bool) : Nat → Nat → Nat → List Tok → Except Er (Tn × Nat × List Tok)
  | 0, _, _, _ => .error none
  | _ + 1, _, _, [] => .error none
  | f + 1, d, m, t :: l =>
    if t.kind = 2 ∨ t.kind = 4 ∨ t.kind = 5 ∨ t.kind = 6 then .error (some (5, t.frm))
    else if beginE free d (m + 1) ≠ 0 then .error (some (beginE free d (m + 1), t.frm))
    else if t.kind = 1 then
      match l with
      | [] => .error none
      | u :: l2 => if u.kind = 2 then .ok (mapT [] [], m + 1, l2) else
        match memP free f d (m + 1) [] (u :: l2) with
        | .error e => .error e
        | .ok (ks, xs, m2, r) => .ok (mapT ks xs, m2, r)
    else if t.kind = 3 then
      match l with
      | [] => .error none
      | u :: l2 => if u.kind = 4 then .ok (arrT [], m + 1, l2) else
        match itmP free f d (m + 1) (u :: l2) with
        | .error e => .error e
        | .ok (xs, m2, r) => .ok (arrT xs, m2, r)
    else match leafP free t with
      | .error e => .error e
      | .ok x => .ok (x, m + 1, l)
/-- Items, up to the bracket. -/
def itmP (free : Bool) : Nat → Nat → Nat → List Tok → Except Er (List Tn × Nat × List Tok)
  | 0, _, _, _ => .error none
  | f + 1, d, m, l =>
    match valP free f (d + 1) m l with
    | .error e => .error e
    | .ok (_, _, []) => .error none
    | .ok (x, m2, t :: r) =>
      if t.kind = 6 then
        match itmP free f d m2 r with
        | .error e => .error e
        | .ok (xs, m3, r2) => .ok (x :: xs, m3, r2)
      else if t.kind = 4 then .ok ([x], m2, r)
      else .error (some (5, t.frm))
/-- Members, up to the brace; ks: the keys so far. -/
def memP (free : Bool) : Nat → Nat → Nat → List (List UInt8) → List Tok → Except Er (List (List UInt8) × List Tn × Nat × List Tok)
  | 0, _, _, _, _ => .error none
  | _ + 1, _, _, _, [] => .error none
  | f + 1, d, m, ks, t :: l =>
    if t.kind ≠ 7 then .error (some (5, t.frm))
    else if beginE free (d + 1) (m + 1) ≠ 0 then .error (some (beginE free (d + 1) (m + 1), t.frm))
    else if free = false ∧ t.text ∈ ks then .error (some (9, t.frm))
    else match l with
      | [] => .error none
      | c :: l2 =>
        if c.kind ≠ 5 then .error (some (5, c.frm))
        else match valP free f (d + 1) (m + 1) l2 with
          | .error e => .error e
          | .ok (_, _, []) => .error none
          | .ok (x, m2, u :: r) =>
            if u.kind = 6 then
              match memP free f d m2 (ks ++ [t.text]) r with
              | .error e => .error e
              | .ok (ks2, xs, m3, r2) => .ok (t.text :: ks2, x :: xs, m3, r2)
            else if u.kind = 2 then .ok ([t.text], [x], m2, r)
            else .error (some (5, u.frm))
end
/-- What is read of bytes: the tree, and the fault. -/
def readA (free : Bool) (b : List UInt8) : Tn × (Int × Int) :=
  if 4096 < b.length then (nullT, (8, 0))
  else match valP free (2 * (lexA b).1.length + 1) 1 0 (lexA b).1 with
    | .error none => (nullT, if (lexA b).2.1 ≠ 0 then (lexA b).2 else (3, (b.length : Int)))
    | .error (some (e, k)) => (nullT, (e, (k : Int)))
    | .ok (_, _, t :: _) => (nullT, (10, (t.frm : Int)))
    | .ok (x, _, []) => if (lexA b).2.1 ≠ 0 then (nullT, (lexA b).2) else (x, (0, 0))
end Go.Proofs.YtafpkecjicphoaaDoor
