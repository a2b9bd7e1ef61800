/- Walks: what the functions compute. -/
import Derived.Test.YtgdecplonaaahaaDoorP0
set_option linter.unusedVariables false
set_option linter.unusedSimpArgs false
/- Basic patterns, in plain words. -/
namespace Go.Proofs.Tryd.E
open Go.Mv
set_option maxHeartbeats 4000000
set_option maxRecDepth 20000
section
variable (s : List UInt8)
/-- Does a backslash stand next, and that byte behind it? -/
def hasE (r : Rd) (c : UInt8) : Bool := r.nx s == some 92 && s[r.at' + 1]? == some c
def overB (r : Rd) : Bool := r.nx s == none || hasE s r 41
def isRepB (r : Rd) : Bool := r.nx s == some 42 || hasE s r 123
def closeB (q : Nat) : Bool := s[q]? == some 92 && s[q + 1]? == some 125
def bracesB (at' : Nat) : Option (Int × Int × Nat) :=
  let x := digsAt s (at' + 2)
  let p := at' + 2 + x.length
  if x = [] ∨ 255 < numV x then none else
  if s[p]? = some 44 then
    let y := digsAt s (p + 1)
    let q := p + 1 + y.length
    if closeB s q = true ∧ (y = [] ∨ numV y ≤ 255 ∧ numV x ≤ numV y) then some (numV x, if y = [] then -1 else numV y, q + 2) else none
  else if closeB s p = true then some (numV x, numV x, p + 2) else none
def timesB (r : Rd) : Option (Int × Int × Nat) := if r.nx s = some 42 then some (0, -1, r.at' + 1) else bracesB s r.at'
def repB (n : Nd) (r : Rd) : Nd × Rd :=
  if isRepB s r = false then (n, r) else
  if n.kind = 4 ∨ n.kind = 5 then (z0, r.fail) else
  match timesB s r with
  | none => (z0, r.fail)
  | some x => if isRepB s (r.go x.2.2) = true then (z0, (r.go x.2.2).fail) else (.mk 10 0 0 0 0 0 0 x.1 x.2.1 [n], r.go x.2.2)
def itselfB (b : UInt8) : Bool := [46, 91, 93, 42, 94, 36, 47, 92, 38, 45].contains b
def escB (r : Rd) : Nd × Rd :=
  match s[r.at' + 1]? with
  | none => (z0, r.fail)
  | some c =>
    if 49 ≤ c.toNat ∧ c.toNat ≤ 57 then (.mk 7 0 0 0 0 0 (c.toNat - 48) 0 0 [], r.go (r.at' + 2)) else
    if c = 110 then (lit 10, r.go (r.at' + 2)) else
    if itselfB c = true then (lit c.toNat, r.go (r.at' + 2)) else (z0, r.fail)
/-- Is a $ at that place an anchor? -/
def endsB (at' : Nat) : Bool := s[at' + 1]? == none || (s[at' + 1]? == some 92 && s[at' + 2]? == some 41)
variable (rec : Rd → Nd × Rd)
def groupB (r : Rd) : Nd × Rd :=
  if r.g = 9 then (z0, r.fail) else
  let x := rec ⟨r.at' + 2, r.g + 1, r.bad⟩
  if hasE s x.2 41 = true then (.mk 6 0 0 0 0 0 (r.g + 1 : Nat) 0 0 [x.1], x.2.go (x.2.at' + 2)) else (z0, x.2.fail)
def signB (first : Bool) (at' : Nat) (c : UInt8) : Nd :=
  if c = 46 then nd 2 [] else if c = 94 ∧ first = true then nd 4 [] else if c = 36 ∧ endsB s at' = true then nd 5 [] else lit c.toNat
def atomB (first : Bool) (r : Rd) : Nd × Rd :=
  match s[r.at']? with
  | none => (z0, r.fail)
  | some c =>
    if hasE s r 40 = true then groupB s rec r else
    if c = 10 then (z0, r.fail) else
    if c = 92 then escB s r else
    if c = 91 then
      match bracketS (s.drop (r.at' + 1)) with
      | none => (z0, r.fail)
      | some x => (inN x.1, r.go (r.at' + x.2))
    else (signB s first r.at' c, r.go (r.at' + 1))
def pieceB (first : Bool) (r : Rd) : Nd × Rd :=
  let x := atomB s rec first r
  if x.1.kind = 4 ∧ x.2.nx s = some 42 then x else repB s x.1 x.2
/-- e: the node of a sequence that begins with a repeat. -/
def seqB (e : Nd) : Nat → Bool → List Nd → Rd → Nd × Rd
  | 0, _, _, r => (z0, r)
  | n + 1, first, l, r =>
    if overB s r = true then (joinN l, r) else
    if first = true ∧ hasE s r 123 = true then (e, r.fail) else
    let x := pieceB s rec first r
    seqB e n false (l ++ [x.1]) x.2
end
def parB (s : List UInt8) (e : Nd) : Nat → Rd → Nd × Rd
  | 0, r => (z0, r.fail)
  | n + 1, r => seqB s (parB s e n) e (s.length + 1) true [] r
end Go.Proofs.Tryd.E
