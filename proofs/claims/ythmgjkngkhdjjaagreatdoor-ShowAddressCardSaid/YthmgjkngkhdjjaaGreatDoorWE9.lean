/- Walks: what the functions compute. Walks: what the functions compute. Walks: what the functions compute. -/
import Derived.Test.YthmgjkngkhdjjaaGreatDoorWE6
import Derived.Test.YthmgjkngkhdjjaaGreatDoorE7
set_option linter.unusedVariables false
set_option linter.unusedSimpArgs false
/- What is read, in plain words: sets, brackets, patterns. -/
namespace Go.Proofs.Tryz.E
open Go.Mv
/-! ### Sets -/
def or64 (x y : Int) : Int := IntKind.u64.wrap ((BitVec.ofInt 64 x ||| BitVec.ofInt 64 y).toNat)
def not64 (x : Int) : Int := IntKind.u64.wrap ((BitVec.ofInt 64 18446744073709551615 ^^^ BitVec.ofInt 64 x).toNat)
def bit64 (c : Nat) : Int := IntKind.u64.wrap (1 * 2 ^ (min c 64))
def setB (s : List Int) (c : Nat) : List Int := s.set (c / 64) (or64 (s.getD (c / 64) 0) (bit64 (c % 64)))
def withN (s : List Int) (c : Nat) : Nat → List Int
 | 0 => s
 | n + 1 => withN (setB s c) (c + 1) n
def withS (s : List Int) (a b : Nat) : List Int := withN s a (b + 1 - a)
def orS (s t : List Int) : List Int := List.zipWith or64 s t
def notS (s : List Int) : List Int := s.map not64
def z4 : List Int := [0, 0, 0, 0]
def encS (s : List Int) : List MV := s.map (MV.int .u64)
theorem withN_len : ∀ (n : Nat) (s : List Int) (c : Nat), (withN s c n).length = s.length
 | 0, _, _ => rfl
 | n + 1, s, c => by rw [withN, withN_len n]; simp [setB]
theorem withS_len (s : List Int) (a b : Nat) : (withS s a b).length = s.length := withN_len ..
theorem orS_len {s t : List Int} (h : s.length = 4) (h' : t.length = 4) : (orS s t).length = 4 := by simp [orS, h, h']
theorem notS_len (s : List Int) : (notS s).length = s.length := by simp [notS]
def rangesS (n : List UInt8) : List UInt8 :=
 if n = [117, 112, 112, 101, 114] then [65, 90] else
 if n = [108, 111, 119, 101, 114] then [97, 122] else
 if n = [97, 108, 112, 104, 97] then [65, 90, 97, 122] else
 if n = [100, 105, 103, 105, 116] then [48, 57] else
 if n = [97, 108, 110, 117, 109] then [65, 90, 97, 122, 48, 57] else
 if n = [120, 100, 105, 103, 105, 116] then [48, 57, 65, 70, 97, 102] else
 if n = [98, 108, 97, 110, 107] then [32, 32, 9, 9] else
 if n = [115, 112, 97, 99, 101] then [32, 32, 9, 13] else
 if n = [99, 110, 116, 114, 108] then [0, 31, 127, 127] else
 if n = [112, 114, 105, 110, 116] then [32, 126] else
 if n = [103, 114, 97, 112, 104] then [33, 126] else
 if n = [112, 117, 110, 99, 116] then [33, 47, 58, 64, 91, 96, 123, 126] else []
def withR (s : List Int) : List UInt8 → List Int
 | a :: b :: r => withR (withS s a.toNat b.toNat) r
 | _ => s
def classS (n : List UInt8) : List Int := withR z4 (rangesS n)
/-! ### Brackets: over what is left of the text; a member's set, and how many bytes it has -/
def namedS (g : UInt8) (t : List UInt8) : Option (UInt8 × Nat) :=
 match t with
 | _ :: _ :: b :: x :: y :: _ => if b ≠ 10 ∧ x = g ∧ y = 93 then some (b, 5) else none
 | _ => none
def preS (s p : List UInt8) : Bool := s.take p.length == p
def singleS (t : List UInt8) : Option (UInt8 × Nat) :=
 match t with
 | [] => none
 | b :: r => if b == 10 then none else if preS (b :: r) [91, 46] then namedS 46 (b :: r) else if preS (b :: r) [92, 110] then some (10, 2) else some (b, 1)
def signS (t : List UInt8) : Option (UInt8 × Nat) := if preS t [91, 61] || preS t [91, 58] then none else singleS t
def oneS (b : UInt8) : List Int := withS z4 b.toNat b.toNat
def clsS (t : List UInt8) : Option (List Int × Nat) :=
 if idxS (t.drop 2) [58, 93] < 0 then none else
  let n := (t.drop 2).take (idxS (t.drop 2) [58, 93]).toNat
  if rangesS n == [] then none else some (classS n, n.length + 4)
def rngS (x : UInt8 × Nat) (u : List UInt8) : Option (List Int × Nat) :=
 if !preS u [45] || preS u [45, 93] || decide (u.length < 2) then some (oneS x.1, x.2) else
  (signS (u.drop 1)).bind fun y =>
   if decide (y.1.toNat < x.1.toNat) || preS (u.drop 1) [45] && !preS (u.drop (1 + y.2)) [93] then none else some (withS z4 x.1.toNat y.1.toNat, x.2 + 1 + y.2)
def memberS (t : List UInt8) : Option (List Int × Nat) :=
 if preS t [91, 58] then clsS t
 else if preS t [91, 61] then (namedS 61 t).map fun x => (oneS x.1, x.2)
 else (signS t).bind fun x => rngS x (t.drop x.2)
def membersS : Nat → Bool → List Int → List UInt8 → Option (List Int × Nat)
 | 0, _, _, _ => none
 | n + 1, first, acc, t =>
  if !first && preS t [93] then some (acc, 0) else
  (memberS t).bind fun x => (membersS n false (orS acc x.1) (t.drop x.2)).map fun y => (y.1, x.2 + y.2)
def bracketS (t : List UInt8) : Option (List Int × Nat) :=
 if preS t [94] then (membersS (t.length + 1) true z4 (t.drop 1)).map fun x => (notS x.1, x.2 + 3)
 else (membersS (t.length + 1) true z4 t).map fun x => (x.1, x.2 + 2)
/-! ### Patterns -/
structure Rd where
 at' : Nat
 g : Nat
 bad : Bool
def Rd.fail (r : Rd) : Rd := { r with bad := true }
def Rd.go (r : Rd) (n : Nat) : Rd := { r with at' := n }
def z0 : Nd := .mk 0 0 0 0 0 0 0 0 0 []
def lit (c : Int) : Nd := .mk 1 c 0 0 0 0 0 0 0 []
section
variable (s : List UInt8)
def Rd.nx (r : Rd) : Option UInt8 := if r.bad = true then none else s[r.at']?
def isRep (o : Option UInt8) : Bool := o == some 42 || o == some 43 || o == some 63 || o == some 123
def dig (b : UInt8) : Bool := decide (48 ≤ b.toNat) && decide (b.toNat ≤ 57)
def digsAt (n : Nat) : List UInt8 := (s.drop n).takeWhile dig
def numV (l : List UInt8) : Nat := l.foldl (fun n b => 10 * n + (b.toNat - 48)) 0
def bracesS (at' : Nat) : Option (Int × Int × Nat) :=
 let x := digsAt s (at' + 1)
 let p := at' + 1 + x.length
 if x = [] ∨ 255 < numV x then none else
 if s[p]? = some 44 then
  let y := digsAt s (p + 1)
  let q := p + 1 + y.length
  if s[q]? = some 125 ∧ (y = [] ∨ numV y ≤ 255 ∧ numV x ≤ numV y) then some (numV x, if y = [] then -1 else numV y, q + 1) else none
 else if s[p]? = some 125 then some (numV x, numV x, p + 1) else none
def boundsS (at' : Nat) : Option (Int × Int × Nat) :=
 if s[at']? = some 123 then bracesS s at' else
 if s[at']? = some 43 then some (1, -1, at' + 1) else
 if s[at']? = some 63 then some (0, 1, at' + 1) else some (0, -1, at' + 1)
def itselfS (b : UInt8) : Bool := [46, 91, 93, 40, 41, 42, 43, 63, 123, 125, 124, 94, 36, 47, 92, 38, 45].contains b
def escS (r : Rd) : Nd × Rd :=
 match s[r.at' + 1]? with
 | none => (z0, r.fail)
 | some c =>
  if c = 110 then (lit 10, r.go (r.at' + 2)) else
  if 49 ≤ c.toNat ∧ c.toNat ≤ 57 then (.mk 7 0 0 0 0 0 (c.toNat - 48) 0 0 [], r.go (r.at' + 2)) else
  if itselfS c = true then (lit c.toNat, r.go (r.at' + 2)) else (z0, r.fail)
def simpleS (c : UInt8) : Nd :=
 if c = 46 then nd 2 [] else if c = 94 then nd 4 [] else if c = 36 then nd 5 [] else lit c.toNat
def inN (l : List Int) : Nd := .mk 3 0 (l.getD 0 0) (l.getD 1 0) (l.getD 2 0) (l.getD 3 0) 0 0 0 []
variable (rec : Rd → Nd × Rd)
def groupS (r : Rd) : Nd × Rd :=
 if r.g = 9 then (z0, r.fail) else
 let x := rec ⟨r.at' + 1, r.g + 1, r.bad⟩
 if x.2.nx s = some 41 then (.mk 6 0 0 0 0 0 (r.g + 1 : Nat) 0 0 [x.1], x.2.go (x.2.at' + 1)) else (z0, x.2.fail)
def atomS (r : Rd) : Nd × Rd :=
 match s[r.at']? with
 | none => (z0, r.fail)
 | some c =>
  if c = 40 then groupS s rec r else
  if c = 92 then escS s r else
  if c = 91 then
   match bracketS (s.drop (r.at' + 1)) with
   | none => (z0, r.fail)
   | some x => (inN x.1, r.go (r.at' + x.2))
  else if c = 10 then (z0, r.fail) else
  (simpleS c, r.go (r.at' + 1))
def repS (n : Nd) (r : Rd) : Nd × Rd :=
 if isRep (r.nx s) = false then (n, r) else
 if n.kind = 4 ∨ n.kind = 5 then (z0, r.fail) else
 match boundsS s r.at' with
 | none => (z0, r.fail)
 | some x => if isRep ((r.go x.2.2).nx s) = true then (z0, (r.go x.2.2).fail) else (.mk 10 0 0 0 0 0 0 x.1 x.2.1 [n], r.go x.2.2)
def pieceS (r : Rd) : Nd × Rd :=
 let x := atomS s rec r
 repS s x.1 x.2
def stopS (o : Option UInt8) : Bool := o == none || o == some 124 || o == some 41
def branchS : Nat → List Nd → Rd → Nd × Rd
 | 0, _, r => (z0, r)
 | n + 1, l, r =>
  if stopS (r.nx s) = true then (if l = [] then (z0, r.fail) else (joinN l, r)) else
  if l = [] ∧ isRep (r.nx s) = true then (z0, r.fail) else
  let x := pieceS s rec r
  branchS n (l ++ [x.1]) x.2
def moreS : Nat → List Nd → Rd → Nd × Rd
 | 0, _, r => (z0, r)
 | n + 1, l, r =>
  if r.nx s = some 124 then
   let x := branchS s rec (s.length + 1) [] (r.go (r.at' + 1))
   moreS n (l ++ [x.1]) x.2
  else (eitherN l, r)
def wholeS (r : Rd) : Nd × Rd :=
 let x := branchS s rec (s.length + 1) [] r
 moreS s rec (s.length + 1) [x.1] x.2
end
def parS (s : List UInt8) : Nat → Rd → Nd × Rd
 | 0, r => (z0, r.fail)
 | n + 1, r => wholeS s (parS s n) r
/-! ### Formed -/
def plainB : Nd → Bool
 | .mk kd c s0 s1 s2 s3 n mn mx l =>
  decide (1 ≤ kd) && decide (kd ≤ 10) && (kd == 1 || c == 0) && (kd == 3 || (s0 == 0 && s1 == 0 && s2 == 0 && s3 == 0)) && (kd == 6 || kd == 7 || n == 0) && (kd == 10 || (mn == 0 && mx == 0)) &&
   (if kd = 6 ∨ kd = 10 then l.length == 1 else if kd = 8 ∨ kd = 9 then true else l.length == 0)
def boundsB (mn mx : Int) : Bool := decide (0 ≤ mn) && decide (mn ≤ 255) && (mx == -1 || decide (mn ≤ mx) && decide (mx ≤ 255))
def ownB (x : Nd) (g : Int) (e : List Bool) : Bool := plainB x && match x with
 | .mk kd _ _ _ _ _ n mn mx l =>
  if kd = 6 then decide (g + 1 ≤ 9) && n == g + 1 else
  if kd = 7 then decide (0 < n) && decide (n ≤ 9) && e.getD n.toNat false else
  if kd = 8 then l.length != 1 else
  if kd = 9 then decide (1 < l.length) else
  if kd = 10 then boundsB mn mx && !(match l with
   | y :: _ => y.kind == 4 || y.kind == 5 || y.kind == 10
   | [] => false)
  else true
def ownG (x : Nd) (g : Int) : Int := if plainB x = true ∧ x.kind = 6 then g + 1 else g
def Nd.num : Nd → Int
 | .mk _ _ _ _ _ _ n _ _ _ => n
abbrev Ck := Bool × Int × List Bool
mutual
def chk : Nd → Int → List Bool → Ck
 | .mk kd c s0 s1 s2 s3 n mn mx l, g, e =>
  if ownB (.mk kd c s0 s1 s2 s3 n mn mx l) g e = true then
   let r := chks kd l (ownG (.mk kd c s0 s1 s2 s3 n mn mx l) g) e
   if r.1 = true then (true, r.2.1, if kd = 6 then r.2.2.set n.toNat true else r.2.2) else r
  else (false, ownG (.mk kd c s0 s1 s2 s3 n mn mx l) g, e)
def chks (kd : Int) : List Nd → Int → List Bool → Ck
 | [], g, e => (true, g, e)
 | y :: l, g, e => if y.kind = kd ∧ (kd = 8 ∨ kd = 9) then (false, g, e) else
  let r := chk y g e
  if r.1 = true then chks kd l r.2.1 r.2.2 else r
end
def formedB (x : Nd) : Bool := decide (cnt x ≤ 200) && decide (dep x ≤ 10) && (chk x 0 (List.replicate 10 false)).1
set_option maxHeartbeats 4000000
set_option maxRecDepth 20000
theorem w50 (kd c s0 s1 s2 s3 n mn mx : Int) (l : List Nd) (lim d : Nat) (σ : Sto) (hu : σ.Und d) : Ret lim d 96 [.agg (enc (.mk kd c s0 s1 s2 s3 n mn mx l))] σ (.bool (boundsB mn mx)) σ := by
 unfold Ret
 rw [WF_body (C := X) rfl func96 rfl (by kernel_rfl)]; simp only [results96]
 simp -implicitDefEqProofs -dsimp only [go_sem, enc]
 unfold boundsB
 cases decide (0 ≤ mn) <;> cases decide (mn ≤ 255) <;> cases (mx == -1) <;> cases decide (mn ≤ mx) <;> cases decide (mx ≤ 255) <;> simp only [go_sem, cut_und _ _ hu, Bool.or_false, Bool.or_true, Bool.and_false, Bool.false_and]
theorem w61 (a b c k : Int) (lim d : Nat) (σ : Sto) (hu : σ.Und d) (tk : Tok) : Ret lim d 119 [.sl tk [[.int .i64 a], [.int .i64 b], [.int .i64 c]], .int .i64 k] σ (.int .i64 (if (k == a) = true then 0 else if (k == b) = true then 1 else if (k == c) = true then 2 else -1)) σ := by
 have x1 := wr64 1 (by decide) (by decide)
 have x2 := wr64 2 (by decide) (by decide)
 have x3 := wr64 3 (by decide) (by decide)
 unfold Ret
 rw [WF_body (C := X) rfl func119 rfl (by kernel_rfl)]; simp only [results119]
 simp -implicitDefEqProofs -dsimp only [go_sem]
 rw [WL_h]
 simp -implicitDefEqProofs -dsimp only [go_sem, x1, cut_und _ _ hu]
 cases (k == a)
 ·simp -implicitDefEqProofs -dsimp only [go_sem]
  rw [WL_h]
  simp -implicitDefEqProofs -dsimp only [go_sem, x2]
  cases (k == b)
  ·simp -implicitDefEqProofs -dsimp only [go_sem]
   rw [WL_h]
   simp -implicitDefEqProofs -dsimp only [go_sem, x3]
   cases (k == c)
   ·simp -implicitDefEqProofs -dsimp only [go_sem]
    rw [WL_h]
    simp -implicitDefEqProofs -dsimp only [go_sem, cut_und _ _ hu]
   ·simp -implicitDefEqProofs -dsimp only [go_sem, cut_und _ _ hu]
  ·simp -implicitDefEqProofs -dsimp only [go_sem, cut_und _ _ hu]
 ·simp -implicitDefEqProofs -dsimp only [go_sem]
theorem w51 (a b c k : Int) (lim d : Nat) (σ : Sto) (hu : σ.Und d) (tk : Tok) : Ret lim d 97 [.sl tk [[.int .i64 a], [.int .i64 b], [.int .i64 c]], .int .i64 k] σ (.bool (k == a || k == b || k == c)) σ := by
 unfold Ret
 rw [WF_body (C := X) rfl func97 rfl (by kernel_rfl)]; simp only [results97]
 simp -implicitDefEqProofs -dsimp only [go_sem]
 refine (w61 a b c k lim (d + 1) σ (und_succ hu) _).wh ?_
 simp -implicitDefEqProofs -dsimp only [go_sem, cut_und _ _ hu]
 cases (k == a) <;> cases (k == b) <;> cases (k == c) <;> rfl
def needH : Nd → List MV
 | .mk kd c s0 s1 s2 s3 n mn mx l => [.int .i64 kd, .int .u8 (if kd = 1 then c else 0), .int .u64 (if kd = 3 then s0 else 0), .int .u64 (if kd = 3 then s1 else 0), .int .u64 (if kd = 3 then s2 else 0), .int .u64 (if kd = 3 then s3 else 0),
  .int .i64 (if kd = 6 ∨ kd = 7 then n else 0), .int .i64 (if kd = 10 then mn else 0), .int .i64 (if kd = 10 then mx else 0)]
def needK (kd : Int) : Int := if kd = 6 ∨ kd = 10 then 1 else if kd = 8 ∨ kd = 9 then -1 else 0
theorem w49 (kd c s0 s1 s2 s3 n mn mx : Int) (l : List Nd) (lim d : Nat) (σ : Sto) (hu : σ.Und d) : Ret lim d 95 [.agg (enc (.mk kd c s0 s1 s2 s3 n mn mx l))] σ (.tup [.agg (needH (.mk kd c s0 s1 s2 s3 n mn mx l)), .int .i64 (needK kd)]) σ := by
 unfold Ret
 rw [WF_body (C := X) rfl func95 rfl (by kernel_rfl)]; simp only [results95]
 by_cases h1 : kd = 1
 ·subst h1; simp -implicitDefEqProofs -dsimp only [go_sem, enc, cut_und _ _ hu, needH, needK, or_self]
 by_cases h3 : kd = 3
 ·subst h3; simp -implicitDefEqProofs -dsimp only [go_sem, enc, cut_und _ _ hu, needH, needK, or_self]
 by_cases h6 : kd = 6
 ·subst h6; simp -implicitDefEqProofs -dsimp only [go_sem, enc, cut_und _ _ hu, needH, needK, or_false]
 by_cases h7 : kd = 7
 ·subst h7; simp -implicitDefEqProofs -dsimp only [go_sem, enc, cut_und _ _ hu, needH, needK, or_self, or_true]
 by_cases h8 : kd = 8
 ·subst h8; simp -implicitDefEqProofs -dsimp only [go_sem, enc, cut_und _ _ hu, needH, needK, or_false, or_self]
 by_cases h9 : kd = 9
 ·subst h9; simp -implicitDefEqProofs -dsimp only [go_sem, enc, cut_und _ _ hu, needH, needK, or_self, or_true]
 by_cases h10 : kd = 10
 ·subst h10; simp -implicitDefEqProofs -dsimp only [go_sem, enc]
  rw [D_lx [.tmp 39] (by kernel_rfl) (by kernel_rfl)]; simp -implicitDefEqProofs -dsimp only [go_sem, List.takeWhile_cons, List.dropWhile_cons, isTail, evNews, List.mem_cons, List.not_mem_nil, or_false, false_or, not_false_eq_true, not_true_eq_false, decide_true, Bool.not_true, Bool.not_false, forall_eq, ne_eq, ct_lt3, cut_und _ _ hu]
  simp only [needH, needK, Int.reduceEq, or_self, or_true, if_true, if_false]
 simp -implicitDefEqProofs -dsimp only [go_sem, enc, cut_und _ _ hu, needH, needK, or_self, h1, h3, h6, h7, h8, h9, h10, (beq_eq_false_iff_ne.2 h1 : (kd == 1) = false), (beq_eq_false_iff_ne.2 h3 : (kd == 3) = false), (beq_eq_false_iff_ne.2 h6 : (kd == 6) = false), (beq_eq_false_iff_ne.2 h7 : (kd == 7) = false), (beq_eq_false_iff_ne.2 h8 : (kd == 8) = false), (beq_eq_false_iff_ne.2 h9 : (kd == 9) = false), (beq_eq_false_iff_ne.2 h10 : (kd == 10) = false)]
@[go_sem] theorem bin_66n (xs ys : List MV) : binO X.P X.eqT .neq 104 (.agg xs) (.agg ys) = (eqC ([.i .i64, .i .u8] ++ u4 ++ [.i .i64, .i .i64, .i .i64]) xs ys).map fun r => .bool !r := rfl
theorem w27 (kd c s0 s1 s2 s3 n mn mx : Int) (l : List Nd) (lim d : Nat) (σ : Sto) (hu : σ.Und d) : Ret lim d 54 [.agg (enc (.mk kd c s0 s1 s2 s3 n mn mx l))] σ (.agg [.int .i64 kd, .int .u8 c, .int .u64 s0, .int .u64 s1, .int .u64 s2, .int .u64 s3, .int .i64 n, .int .i64 mn, .int .i64 mx]) σ := by
 unfold Ret
 rw [WF_body (C := X) rfl func54 rfl (by kernel_rfl)]; simp only [results54]
 simp -implicitDefEqProofs -dsimp only [go_sem, enc, cut_und _ _ hu]
def encC (g : Int) (e : List Bool) : List MV := .int .i64 g :: e.map MV.bool
theorem ne_my {p : Mv.Loc} {d : Nat} (h : p.d < d) (t c : Nat) : (p = ⟨d, t, c⟩) = False := by
 simp only [eq_iff_iff, iff_false]; rintro rfl; exact Nat.lt_irrefl _ h
theorem my_ne {p : Mv.Loc} {d : Nat} (h : p.d < d) (t c : Nat) : ((⟨d, t, c⟩ : Mv.Loc) = p) = False := by
 simp only [eq_iff_iff, iff_false]; rintro rfl; exact Nat.lt_irrefl _ h
theorem u_tick (σ : Sto) (d : Nat) : (σ.tick d).Und (d + 1) ↔ σ.Und (d + 1) :=
 ⟨fun h => ⟨h.ob, h.ow, fun d' hl => by have := h.ct d' hl; simp only [Sto.tick, upd] at this; rwa [if_neg (by omega)] at this⟩, fun h => und_tick h (Nat.lt_succ_self d)⟩
theorem u_set (σ : Sto) (d : Nat) (l : Mv.Loc) (cs : List MV) (hl : l.d < d) : (σ.set l cs).Und d ↔ σ.Und d :=
 ⟨fun h => ⟨fun l' hl' => by have := h.ob l' hl'; simp only [Sto.set] at this; rwa [if_neg (by rintro rfl; omega)] at this, h.ow, h.ct⟩, fun h => und_set h hl cs⟩
theorem u_mine (σ : Sto) (d t c : Nat) (cs : List MV) : (σ.set ⟨d, t, c⟩ cs).Und (d + 1) ↔ σ.Und (d + 1) := u_set σ _ _ cs (Nat.lt_succ_self d)
theorem u_own (σ : Sto) (d c : Nat) (x : Option (Nat × Nat)) : (σ.own d c x).Und (d + 1) ↔ σ.Und (d + 1) :=
 ⟨fun h => ⟨h.ob, fun d' c' hl => by have := h.ow d' c' hl; simp only [Sto.own] at this; rwa [if_neg (by omega)] at this, h.ct⟩, fun h => und_own h (Nat.lt_succ_self d) _ _⟩
theorem arrA (g : Int) (e : List Bool) (i : Nat) (h : i < e.length) : (encC g e)[i + 1]? = some (.bool (e.getD i false)) := by
 simp [encC, h]
def headE : Nd → Bool
 | .mk kd c s0 s1 s2 s3 n mn mx l => ((if kd = 1 then c else 0) == c && ((if kd = 3 then s0 else 0) == s0 && ((if kd = 3 then s1 else 0) == s1 && ((if kd = 3 then s2 else 0) == s2 && ((if kd = 3 then s3 else 0) == s3 &&
  ((if kd = 6 ∨ kd = 7 then n else 0) == n && ((if kd = 10 then mn else 0) == mn && (if kd = 10 then mx else 0) == mx)))))))
theorem headE_fold (kd c s0 s1 s2 s3 n mn mx : Int) (l : List Nd) : ((if kd = 1 then c else 0) == c && ((if kd = 3 then s0 else 0) == s0 && ((if kd = 3 then s1 else 0) == s1 && ((if kd = 3 then s2 else 0) == s2 && ((if kd = 3 then s3 else 0) == s3 &&
  ((if kd = 6 ∨ kd = 7 then n else 0) == n && ((if kd = 10 then mn else 0) == mn && (if kd = 10 then mx else 0) == mx))))))) = headE (.mk kd c s0 s1 s2 s3 n mn mx l) := rfl
theorem plain_eq (kd c s0 s1 s2 s3 n mn mx : Int) (l : List Nd) : plainB (.mk kd c s0 s1 s2 s3 n mn mx l) = (!decide (kd < 1) && !decide (10 < kd) && headE (.mk kd c s0 s1 s2 s3 n mn mx l) && !(decide (0 ≤ needK kd) && needK kd != l.length)) := by
 rw [Bool.eq_iff_iff]
 simp only [plainB, headE, needK, Bool.and_eq_true, Bool.not_eq_true', decide_eq_true_eq, decide_eq_false_iff_not, Bool.or_eq_true, beq_iff_eq, Bool.and_eq_false_iff, bne_eq_false_iff_eq]
 generalize l.length = k
 by_cases h1 : kd = 1
 ·subst h1; simp; omega
 by_cases h3 : kd = 3
 ·subst h3; simp; omega
 by_cases h6 : kd = 6
 ·subst h6; simp; omega
 by_cases h7 : kd = 7
 ·subst h7; simp; omega
 by_cases h8 : kd = 8
 ·subst h8; simp; omega
 by_cases h9 : kd = 9
 ·subst h9; simp; omega
 by_cases h10 : kd = 10
 ·subst h10; simp; omega
 simp [h1, h3, h6, h7, h8, h9, h10]; omega
def notPlain (kd c s0 s1 s2 s3 n mn mx : Int) (l : List Nd) : Bool := if decide (kd < 1) = true then true else if decide (10 < kd) = true then true else if headE (.mk kd c s0 s1 s2 s3 n mn mx l) = false then true else if 0 ≤ needK kd then needK kd != l.length else false
theorem putC_head (x v : MV) (xs : List MV) : putC (x :: xs) [v] 0 = v :: xs := rfl
theorem w38 (kd c s0 s1 s2 s3 n mn mx : Int) (l : List Nd) (lim d : Nat) (σ : Sto) (hu : σ.Und d) (p : Mv.Loc) (hp : p.d < d) (hlim : lim ≤ p.d) (g : Int) (e : List Bool) (he : e.length = 10) (hg : 0 ≤ g) (hg9 : g ≤ 9) (ho : σ.ob p = some (encC g e)) :
  Ret lim d 71 [.ptr p 0, .agg (enc (.mk kd c s0 s1 s2 s3 n mn mx l))] σ (.bool (ownB (.mk kd c s0 s1 s2 s3 n mn mx l) g e)) (σ.set p (encC (ownG (.mk kd c s0 s1 s2 s3 n mn mx l) g) e)) := by
 have hun := und_succ hu
 have hne := ne_my hp
 have hmy := my_ne hp
 have hset := set_same ho
 have hset' := hset
 rw [encC] at hset'
 unfold Ret
 rw [WF_body (C := X) rfl func71 rfl (by kernel_rfl)]; simp only [results71]
 simp -implicitDefEqProofs -dsimp only [go_sem, enc]
 refine (w49 kd c s0 s1 s2 s3 n mn mx l lim (d + 1) _ ?_).wh ?_
 ·simp only [go_sem, u_tick, u_mine]; exact hun
 have hlen : (needH (.mk kd c s0 s1 s2 s3 n mn mx l)).length = 9 := rfl
 simp -implicitDefEqProofs -dsimp only [go_sem, enc, needH]
 rw [D_dr (by kernel_rfl) rfl]
 have pe := plain_eq kd c s0 s1 s2 s3 n mn mx l
 by_cases k1 : kd < 1
 ·rw [decide_eq_true k1] at pe
  simp only [Bool.not_true, Bool.false_and] at pe
  simp -implicitDefEqProofs -dsimp only [go_sem, k1]
  simp only [ownB, ownG, pe, Bool.false_and, Bool.false_eq_true, false_and, if_false, hset, cut_und _ _ hu, and_self]
 by_cases k2 : 10 < kd
 ·rw [decide_eq_true k2] at pe
  simp only [Bool.not_true, Bool.false_and, Bool.and_false] at pe
  simp -implicitDefEqProofs -dsimp only [go_sem, k1, k2]
  simp only [ownB, ownG, pe, Bool.false_and, Bool.false_eq_true, false_and, if_false, hset, cut_und _ _ hu, and_self]
 simp -implicitDefEqProofs -dsimp only [go_sem, k1, k2]
 refine (w27 kd c s0 s1 s2 s3 n mn mx l (d + 1) (d + 1) _ ?_).wh ?_
 ·simp only [go_sem, u_tick, u_mine]; exact hun
 simp -implicitDefEqProofs -dsimp only [go_sem, headE_fold kd c s0 s1 s2 s3 n mn mx l]
 cases hH : headE (.mk kd c s0 s1 s2 s3 n mn mx l)
 ·rw [hH] at pe
  simp -implicitDefEqProofs -dsimp only [go_sem]
  simp only [Bool.and_false, Bool.false_and] at pe
  simp only [ownB, ownG, pe, Bool.false_and, Bool.false_eq_true, false_and, if_false, hset, cut_und _ _ hu, and_self]
 rw [hH] at pe
 cases hK : decide (0 ≤ needK kd) && needK kd != l.length
 ·rw [hK, decide_eq_false k1, decide_eq_false k2] at pe
  simp only [Bool.not_false, Bool.and_self] at pe
  simp -implicitDefEqProofs -dsimp only [go_sem, encs_len, hK]
  by_cases h6 : kd = 6
  ·subst h6
   simp -implicitDefEqProofs -dsimp only [go_sem, hne, ho, hp, hlim, encC, putC_head]
   rw [D_dr (by kernel_rfl) rfl]
   simp -implicitDefEqProofs -dsimp only [go_sem, hmy, encC]
   simp only [ownB, ownG, pe, Bool.true_and, Nd.kind, and_self, if_true, cut_set _ _ _ _ hp, cut_mine, cut_und _ _ hu, wr64 (g + 1) (by omega) (by omega)]
  by_cases h7 : kd = 7
  ·subst h7
   simp -implicitDefEqProofs -dsimp only [go_sem]
   rw [D_dr (by kernel_rfl) rfl]
   by_cases n1 : 0 < n
   ·by_cases n2 : n ≤ 9
    ·simp -implicitDefEqProofs -dsimp only [go_sem, hne, ho, encC, n1, n2]
     have n3 : n.toNat < e.length := by omega
     have n4 := arrA g e n.toNat n3
     rw [encC] at n4
     have n5 : n < 10 := by omega
     have n6 : 0 ≤ n := by omega
     simp -implicitDefEqProofs -dsimp only [go_sem, Nat.mul_one, Nat.add_comm 1, n4, n5, n6]
     simp only [ownB, ownG, pe, Bool.true_and, Nd.kind, and_self, if_true, if_false, Int.reduceEq, and_false, hset', cut_und _ _ hu, n1, n2, decide_true, Bool.true_and]
    ·simp -implicitDefEqProofs -dsimp only [go_sem, encC, n1, n2]
     simp only [ownB, ownG, pe, Nd.kind, and_self, if_true, if_false, Int.reduceEq, and_false, hset', cut_und _ _ hu, n1, n2, decide_true, decide_false, Bool.false_and, Bool.and_false]
   ·simp -implicitDefEqProofs -dsimp only [go_sem, encC, n1]
    simp only [ownB, ownG, pe, Bool.true_and, Nd.kind, and_self, if_true, if_false, Int.reduceEq, and_false, n1, decide_false, Bool.false_and, hset', cut_und _ _ hu]
  by_cases h8 : kd = 8
  ·subst h8
   simp -implicitDefEqProofs -dsimp only [go_sem]
   simp only [ownB, ownG, pe, Bool.true_and, Nd.kind, if_true, if_false, Int.reduceEq, and_false, hset, cut_und _ _ hu]
   refine ⟨congrArg _ ?_, trivial⟩
   rw [Bool.eq_iff_iff]; simp only [bne_iff_ne]; omega
  by_cases h9 : kd = 9
  ·subst h9
   simp -implicitDefEqProofs -dsimp only [go_sem]
   simp only [ownB, ownG, pe, Bool.true_and, Nd.kind, if_true, if_false, Int.reduceEq, and_false, hset, cut_und _ _ hu]
   refine ⟨congrArg _ ?_, trivial⟩
   rw [Bool.eq_iff_iff]; simp only [decide_eq_true_eq]; omega
  by_cases h10 : kd = 10
  ·subst h10
   have hl1 : l.length = 1 := by
    simp only [needK, Int.reduceEq, or_true, if_true, Int.reduceLE, decide_true, Bool.true_and, bne_eq_false_iff_eq] at hK
    omega
   obtain ⟨y, rfl⟩ := List.length_eq_one_iff.1 hl1
   simp -implicitDefEqProofs -dsimp only [go_sem]
   refine (w50 10 c s0 s1 s2 s3 n mn mx [y] lim (d + 1) _ ?_).wh ?_
   ·simp only [go_sem, u_tick, u_mine]; exact hun
   simp -implicitDefEqProofs -dsimp only [go_sem]
   cases hb : boundsB mn mx
   ·simp -implicitDefEqProofs -dsimp only [go_sem]
    simp only [ownB, ownG, pe, Bool.true_and, Nd.kind, and_self, if_true, if_false, Int.reduceEq, and_false, hset, cut_und _ _ hu, hb, Bool.false_and]
   ·simp -implicitDefEqProofs -dsimp only [go_sem, encs, enc_kind]
    refine (w51 4 5 10 y.kind lim (d + 1) _ ?_ _).wh ?_
    ·simp only [go_sem, u_tick, u_mine, u_own]; exact hun
    simp -implicitDefEqProofs -dsimp only [go_sem]
    simp only [ownB, ownG, pe, Bool.true_and, Nd.kind, and_self, if_true, if_false, Int.reduceEq, and_false, hset, cut_und _ _ hu, hb]
  simp -implicitDefEqProofs -dsimp only [go_sem, (beq_eq_false_iff_ne.2 h6 : (kd == 6) = false), (beq_eq_false_iff_ne.2 h7 : (kd == 7) = false), (beq_eq_false_iff_ne.2 h8 : (kd == 8) = false), (beq_eq_false_iff_ne.2 h9 : (kd == 9) = false), (beq_eq_false_iff_ne.2 h10 : (kd == 10) = false)]
  simp only [ownB, ownG, pe, Bool.true_and, Nd.kind, and_self, if_false, h6, h7, h8, h9, h10, and_false, hset, cut_und _ _ hu]
 ·rw [hK] at pe
  simp -implicitDefEqProofs -dsimp only [go_sem, encs_len, hK]
  simp only [Bool.not_true, Bool.and_false] at pe
  simp only [ownB, ownG, pe, Bool.false_and, Bool.false_eq_true, false_and, if_false, hset, cut_und _ _ hu, and_self]
end Go.Proofs.Tryz.E
