/- Walks: what the functions compute. -/
import Derived.Test.YtcgjdgmmnmmifaaGreatDoorE5
set_option linter.unusedVariables false
set_option linter.unusedSimpArgs false
/- What is read, in plain words: sets, brackets, patterns. -/
namespace Go.Proofs.Tryz.E
open Go.Mv

/-! ### Sets -/
def or64 (x y : Int) : Int := IntKind.u64.wrap ((BitVec.ofInt 64 x ||| BitVec.ofInt 64 y).toNat)
def not64 (x : Int) : Int := IntKind.u64.wrap ((BitVec.ofInt 64 18446744073709551615 ^^^ BitVec.ofInt 64 x).toNat)
def bit64 (c : Nat) : Int := IntKind.u64.wrap (1 * 2 ^ (min c 64))
def setB (s : List Int) (c : Nat) : List Int := s.set (c / 64) (or64 (s.getD (c / 64) 0) (bit64 (c % 64)))
def withN (s : List Int) (c : Nat) : Nat → List Int
  | 0 => s
  | n + 1 => withN (setB s c) (c + 1) n
def withS (s : List Int) (a b : Nat) : List Int := withN s a (b + 1 - a)
def orS (s t : List Int) : List Int := List.zipWith or64 s t
def notS (s : List Int) : List Int := s.map not64
def z4 : List Int := [0, 0, 0, 0]
def encS (s : List Int) : List MV := s.map (MV.int .u64)
theorem withN_len : ∀ (n : Nat) (s : List Int) (c : Nat), (withN s c n).length = s.length
  | 0, _, _ => rfl
  | n + 1, s, c => by rw [withN, withN_len n]; simp [setB]
theorem withS_len (s : List Int) (a b : Nat) : (withS s a b).length = s.length := withN_len ..
theorem orS_len {s t : List Int} (h : s.length = 4) (h' : t.length = 4) : (orS s t).length = 4 := by simp [orS, h, h']
theorem notS_len (s : List Int) : (notS s).length = s.length := by simp [notS]

/-- A class's ranges. -/
def rangesS (n : List UInt8) : List UInt8 :=
  if n = [117, 112, 112, 101, 114] then [65, 90] else
  if n = [108, 111, 119, 101, 114] then [97, 122] else
  if n = [97, 108, 112, 104, 97] then [65, 90, 97, 122] else
  if n = [100, 105, 103, 105, 116] then [48, 57] else
  if n = [97, 108, 110, 117, 109] then [65, 90, 97, 122, 48, 57] else
  if n = [120, 100, 105, 103, 105, 116] then [48, 57, 65, 70, 97, 102] else
  if n = [98, 108, 97, 110, 107] then [32, 32, 9, 9] else
  if n = [115, 112, 97, 99, 101] then [32, 32, 9, 13] else
  if n = [99, 110, 116, 114, 108] then [0, 31, 127, 127] else
  if n = [112, 114, 105, 110, 116] then [32, 126] else
  if n = [103, 114, 97, 112, 104] then [33, 126] else
  if n = [112, 117, 110, 99, 116] then [33, 47, 58, 64, 91, 96, 123, 126] else []
def withR (s : List Int) : List UInt8 → List Int
  | a :: b :: r => withR (withS s a.toNat b.toNat) r
  | _ => s
def classS (n : List UInt8) : List Int := withR z4 (rangesS n)

/-! ### Brackets: over what is left of the text; a member's set, and how many bytes it has -/
def namedS (g : UInt8) (t : List UInt8) : Option (UInt8 × Nat) :=
  match t with
  | _ :: _ :: b :: x :: y :: _ => if b ≠ 10 ∧ x = g ∧ y = 93 then some (b, 5) else none
  | _ => none
/-- What begins a text. -/
def preS (s p : List UInt8) : Bool := s.take p.length == p
/-- A byte, as it may stand in a range. -/
def singleS (t : List UInt8) : Option (UInt8 × Nat) :=
  match t with
  | [] => none
  | b :: r => if b == 10 then none else if preS (b :: r) [91, 46] then namedS 46 (b :: r) else if preS (b :: r) [92, 110] then some (10, 2) else some (b, 1)
def signS (t : List UInt8) : Option (UInt8 × Nat) := if preS t [91, 61] || preS t [91, 58] then none else singleS t
def oneS (b : UInt8) : List Int := withS z4 b.toNat b.toNat
def clsS (t : List UInt8) : Option (List Int × Nat) :=
  if idxS (t.drop 2) [58, 93] < 0 then none else
    let n := (t.drop 2).take (idxS (t.drop 2) [58, 93]).toNat
    if rangesS n == [] then none else some (classS n, n.length + 4)
/-- Behind a first byte of a range, or one alone. -/
def rngS (x : UInt8 × Nat) (u : List UInt8) : Option (List Int × Nat) :=
  if !preS u [45] || preS u [45, 93] || decide (u.length < 2) then some (oneS x.1, x.2) else
    (signS (u.drop 1)).bind fun y =>
      if decide (y.1.toNat < x.1.toNat) || preS (u.drop 1) [45] && !preS (u.drop (1 + y.2)) [93] then none else some (withS z4 x.1.toNat y.1.toNat, x.2 + 1 + y.2)
def memberS (t : List UInt8) : Option (List Int × Nat) :=
  if preS t [91, 58] then clsS t
  else if preS t [91, 61] then (namedS 61 t).map fun x => (oneS x.1, x.2)
  else (signS t).bind fun x => rngS x (t.drop x.2)
/-- The members, up to the end; fuel, whether it is the first one, the set so far, the rest of the text. -/
def membersS : Nat → Bool → List Int → List UInt8 → Option (List Int × Nat)
  | 0, _, _, _ => none
  | n + 1, first, acc, t =>
    if !first && preS t [93] then some (acc, 0) else
    (memberS t).bind fun x => (membersS n false (orS acc x.1) (t.drop x.2)).map fun y => (y.1, x.2 + y.2)
/-- Behind the first sign: the set, and how many bytes with both signs. -/
def bracketS (t : List UInt8) : Option (List Int × Nat) :=
  if preS t [94] then (membersS (t.length + 1) true z4 (t.drop 1)).map fun x => (notS x.1, x.2 + 3)
  else (membersS (t.length + 1) true z4 t).map fun x => (x.1, x.2 + 2)

/-! ### Patterns -/
structure Rd where
  at' : Nat
  g : Nat
  bad : Bool
def Rd.fail (r : Rd) : Rd := { r with bad := true }
def Rd.go (r : Rd) (n : Nat) : Rd := { r with at' := n }
def z0 : Nd := .mk 0 0 0 0 0 0 0 0 0 []
def lit (c : Int) : Nd := .mk 1 c 0 0 0 0 0 0 0 []
section
variable (s : List UInt8)
def Rd.nx (r : Rd) : Option UInt8 := if r.bad = true then none else s[r.at']?
def isRep (o : Option UInt8) : Bool := o == some 42 || o == some 43 || o == some 63 || o == some 123
def dig (b : UInt8) : Bool := decide (48 ≤ b.toNat) && decide (b.toNat ≤ 57)
def digsAt (n : Nat) : List UInt8 := (s.drop n).takeWhile dig
def numV (l : List UInt8) : Nat := l.foldl (fun n b => 10 * n + (b.toNat - 48)) 0
def bracesS (at' : Nat) : Option (Int × Int × Nat) :=
  let x := digsAt s (at' + 1)
  let p := at' + 1 + x.length
  if x = [] ∨ 255 < numV x then none else
  if s[p]? = some 44 then
    let y := digsAt s (p + 1)
    let q := p + 1 + y.length
    if s[q]? = some 125 ∧ (y = [] ∨ numV y ≤ 255 ∧ numV x ≤ numV y) then some (numV x, if y = [] then -1 else numV y, q + 1) else none
  else if s[p]? = some 125 then some (numV x, numV x, p + 1) else none
def boundsS (at' : Nat) : Option (Int × Int × Nat) :=
  if s[at']? = some 123 then bracesS s at' else
  if s[at']? = some 43 then some (1, -1, at' + 1) else
  if s[at']? = some 63 then some (0, 1, at' + 1) else some (0, -1, at' + 1)
def itselfS (b : UInt8) : Bool := [46, 91, 93, 40, 41, 42, 43, 63, 123, 125, 124, 94, 36, 47, 92, 38, 45].contains b
def escS (r : Rd) : Nd × Rd :=
  match s[r.at' + 1]? with
  | none => (z0, r.fail)
  | some c =>
    if c = 110 then (lit 10, r.go (r.at' + 2)) else
    if 49 ≤ c.toNat ∧ c.toNat ≤ 57 then (.mk 7 0 0 0 0 0 (c.toNat - 48) 0 0 [], r.go (r.at' + 2)) else
    if itselfS c = true then (lit c.toNat, r.go (r.at' + 2)) else (z0, r.fail)
def simpleS (c : UInt8) : Nd :=
  if c = 46 then nd 2 [] else if c = 94 then nd 4 [] else if c = 36 then nd 5 [] else lit c.toNat
def inN (l : List Int) : Nd := .mk 3 0 (l.getD 0 0) (l.getD 1 0) (l.getD 2 0) (l.getD 3 0) 0 0 0 []
variable (rec : Rd → Nd × Rd)
def groupS (r : Rd) : Nd × Rd :=
  if r.g = 9 then (z0, r.fail) else
  let x := rec ⟨r.at' + 1, r.g + 1, r.bad⟩
  if x.2.nx s = some 41 then (.mk 6 0 0 0 0 0 (r.g + 1 : Nat) 0 0 [x.1], x.2.go (x.2.at' + 1)) else (z0, x.2.fail)
def atomS (r : Rd) : Nd × Rd :=
  match s[r.at']? with
  | none => (z0, r.fail)
  | some c =>
    if c = 40 then groupS s rec r else
    if c = 92 then escS s r else
    if c = 91 then
      match bracketS (s.drop (r.at' + 1)) with
      | none => (z0, r.fail)
      | some x => (inN x.1, r.go (r.at' + x.2))
    else if c = 10 then (z0, r.fail) else
    (simpleS c, r.go (r.at' + 1))
def repS (n : Nd) (r : Rd) : Nd × Rd :=
  if isRep (r.nx s) = false then (n, r) else
  if n.kind = 4 ∨ n.kind = 5 then (z0, r.fail) else
  match boundsS s r.at' with
  | none => (z0, r.fail)
  | some x => if isRep ((r.go x.2.2).nx s) = true then (z0, (r.go x.2.2).fail) else (.mk 10 0 0 0 0 0 0 x.1 x.2.1 [n], r.go x.2.2)
def pieceS (r : Rd) : Nd × Rd :=
  let x := atomS s rec r
  repS s x.1 x.2
def stopS (o : Option UInt8) : Bool := o == none || o == some 124 || o == some 41
def branchS : Nat → List Nd → Rd → Nd × Rd
  | 0, _, r => (z0, r)
  | n + 1, l, r =>
    if stopS (r.nx s) = true then (if l = [] then (z0, r.fail) else (joinN l, r)) else
    if l = [] ∧ isRep (r.nx s) = true then (z0, r.fail) else
    let x := pieceS s rec r
    branchS n (l ++ [x.1]) x.2
def moreS : Nat → List Nd → Rd → Nd × Rd
  | 0, _, r => (z0, r)
  | n + 1, l, r =>
    if r.nx s = some 124 then
      let x := branchS s rec (s.length + 1) [] (r.go (r.at' + 1))
      moreS n (l ++ [x.1]) x.2
    else (eitherN l, r)
def wholeS (r : Rd) : Nd × Rd :=
  let x := branchS s rec (s.length + 1) [] r
  moreS s rec (s.length + 1) [x.1] x.2
end
def parS (s : List UInt8) : Nat → Rd → Nd × Rd
  | 0, r => (z0, r.fail)
  | n + 1, r => wholeS s (parS s n) r

/-! ### Formed -/
def plainB : Nd → Bool
  | .mk kd c s0 s1 s2 s3 n mn mx l =>
    decide (1 ≤ kd) && decide (kd ≤ 10) && (kd == 1 || c == 0) && (kd == 3 || (s0 == 0 && s1 == 0 && s2 == 0 && s3 == 0)) && (kd == 6 || kd == 7 || n == 0) && (kd == 10 || (mn == 0 && mx == 0)) &&
      (if kd = 6 ∨ kd = 10 then l.length == 1 else if kd = 8 ∨ kd = 9 then true else l.length == 0)
def boundsB (mn mx : Int) : Bool := decide (0 ≤ mn) && decide (mn ≤ 255) && (mx == -1 || decide (mn ≤ mx) && decide (mx ≤ 255))
def ownB (x : Nd) (g : Int) (e : List Bool) : Bool := plainB x && match x with
  | .mk kd _ _ _ _ _ n mn mx l =>
    if kd = 6 then decide (g + 1 ≤ 9) && n == g + 1 else
    if kd = 7 then decide (0 < n) && decide (n ≤ 9) && e.getD n.toNat false else
    if kd = 8 then l.length != 1 else
    if kd = 9 then decide (1 < l.length) else
    if kd = 10 then boundsB mn mx && !(match l with
      | y :: _ => y.kind == 4 || y.kind == 5 || y.kind == 10
      | [] => false)
    else true
def ownG (x : Nd) (g : Int) : Int := if plainB x = true ∧ x.kind = 6 then g + 1 else g
def Nd.num : Nd → Int
  | .mk _ _ _ _ _ _ n _ _ _ => n
abbrev Ck := Bool × Int × List Bool
mutual
def chk : Nd → Int → List Bool → Ck
  | .mk kd c s0 s1 s2 s3 n mn mx l, g, e =>
    if ownB (.mk kd c s0 s1 s2 s3 n mn mx l) g e = true then
      let r := chks kd l (ownG (.mk kd c s0 s1 s2 s3 n mn mx l) g) e
      if r.1 = true then (true, r.2.1, if kd = 6 then r.2.2.set n.toNat true else r.2.2) else r
    else (false, ownG (.mk kd c s0 s1 s2 s3 n mn mx l) g, e)
def chks (kd : Int) : List Nd → Int → List Bool → Ck
  | [], g, e => (true, g, e)
  | y :: l, g, e => if y.kind = kd ∧ (kd = 8 ∨ kd = 9) then (false, g, e) else
    let r := chk y g e
    if r.1 = true then chks kd l r.2.1 r.2.2 else r
end
def formedB (x : Nd) : Bool := decide (cnt x ≤ 200) && decide (dep x ≤ 10) && (chk x 0 (List.replicate 10 false)).1
end Go.Proofs.Tryz.E
