/- The evaluator without memory: a part of its proof. -/
import GoSem.Step
import Derived.StillTail
import Derived.KernelRfl
import Derived.Tactics
import Derived.Laws.Tables
import Derived.Laws.Cells
import Derived.Laws.Rows
set_option linter.unusedVariables false
set_option linter.unusedSimpArgs false
/- The evaluator: Go functions over values without memory. Values of slices are lists; objects (variables whose address is taken, receivers) lie in a store of named places. -/
namespace Go.Mv

/-- The place of an object: made at that depth of calls, by the operation with that temporary, as that one made there. -/
structure Loc where
  d : Nat
  t : Nat
  c : Nat
  deriving DecidableEq

/-- What is known of a slice's spare room. -/
inductive Tok where
  | no
  | nil
  | own (d c : Nat)
  /-- As own; the row's elements are of type q. -/
  | byt (d c q : Nat)
  deriving DecidableEq

inductive MV where
  | junk
  | undef
  | bool (b : Bool)
  | int (k : IntKind) (n : Int)
  | str (s : List UInt8)
  | sl (t : Tok) (xs : List (List MV))
  | agg (cs : List MV)
  | ptr (l : Loc) (off : Nat)
  | rs (l : Loc) (off len s : Nat)
  | ep (cs : List MV) (off : Nat)
  | nilp
  | fn (f : FuncId)
  | tup (vs : List MV)
  deriving Inhabited

/-- The store. -/
structure Sto where
  ob : Loc → Option (List MV)
  ow : Nat → Nat → Option (Nat × Nat)
  ct : Nat → Nat

def upd {α : Type} (a : Nat → α) (d : Nat) (v : α) : Nat → α := fun t => if t = d then v else a t
theorem upd_same {α : Type} (a : Nat → α) (d : Nat) (v : α) : upd a d v d = v := by simp [upd]
theorem upd_ne {α : Type} (a : Nat → α) {d t : Nat} (v : α) (h : t ≠ d) : upd a d v t = a t := by simp [upd, h]

def Sto.set (s : Sto) (l : Loc) (cs : List MV) : Sto := { s with ob := fun l' => if l' = l then some cs else s.ob l' }
def Sto.own (s : Sto) (d c : Nat) (v : Option (Nat × Nat)) : Sto := { s with ow := fun d' c' => if d' = d ∧ c' = c then v else s.ow d' c' }
/-- An object that is no more. -/
def Sto.del (s : Sto) (l : Loc) : Sto := { s with ob := fun l' => if l' = l then none else s.ob l' }
def Sto.tick (s : Sto) (d : Nat) : Sto := { s with ct := upd s.ct d (s.ct d + 1) }
/-- What is left when a call at depth d has ended. -/
def Sto.cut (s : Sto) (d : Nat) : Sto :=
  { ob := fun l => if l.d < d then s.ob l else none, ow := fun d' c => if d' < d then s.ow d' c else none, ct := fun d' => if d' < d then s.ct d' else 0 }

theorem Sto.ext' {s s' : Sto} (h1 : ∀ l, s.ob l = s'.ob l) (h2 : ∀ d c, s.ow d c = s'.ow d c) (h3 : ∀ d, s.ct d = s'.ct d) : s = s' := by
  cases s; cases s'
  simp only [Sto.mk.injEq]
  exact ⟨funext h1, funext fun d => funext fun c => h2 d c, funext h3⟩

/-! ### Types -/
/-- Is it a struct or an array; its cells. -/
def shp (P : Program) (t : TypeId) : Option (Bool × Nat) :=
  match P.underlying t, P.info? t with
  | some (.struct _), some i | some (.array _ _), some i => some (true, i.size)
  | some _, some i => some (false, i.size)
  | _, _ => none
def fldo (P : Program) (t : TypeId) (f : Nat) : Option (Nat × TypeId) :=
  match P.underlying t with
  | some (.struct fs) => (fs[f]?).bind fun x => (P.info? x.type).bind fun i => if i.size = 0 then none else some (x.offset, x.type)
  | _ => none
/-- An array's length; the elements' cells. -/
def arr (P : Program) (t : TypeId) : Option (Nat × TypeId) :=
  match P.underlying t with
  | some (.array n e) => some (n, e)
  | _ => none
/-- A slice's elements: type, cells, bytes. -/
def slc (P : Program) (t : TypeId) : Option (TypeId × Nat × Nat) :=
  match P.underlying t with
  | some (.slice e) => (P.info? e).bind fun i => i.zero.bind fun z => if z.cells.size = i.size then some (e, i.size, i.bytes) else none
  | _ => none

def MV.flat : MV → Bool
  | .junk | .undef | .agg _ | .tup _ | .ep .. => false
  | _ => true
def of1 : Value → MV
  | .bool b => .bool b
  | .int k n => .int k n
  | .string s => .str s.data.toList
  | .slice none 0 0 => .sl .nil []
  | .pointer none => .nilp
  | _ => .junk
def ofV : Value → MV
  | .agg cs => if (cs.toList.map of1).all MV.flat then .agg (cs.toList.map of1) else .junk
  | .func (.func f) fst cap => if fst.size = 0 ∧ cap.size = 0 then .fn f else .junk
  | v => of1 v
def zer (P : Program) (t : TypeId) : Option MV := ((P.info? t).bind (·.zero)).map ofV

/-- A cell of a slice's element. -/
def MV.pur : MV → Bool
  | .bool _ | .int .. | .str _ | .nilp | .fn _ => true
  | .sl .no _ => true
  | _ => false

/-- A cell of an object at depth n leads to nothing that is made later. -/
def MV.top (n : Nat) : MV → Bool
  | .ptr l _ => l.d ≤ n
  | .rs l _ _ _ => l.d ≤ n
  | .sl (.own d _) _ => d ≤ n
  | .sl (.byt d _ _) _ => d ≤ n
  | _ => true

/-- A cell that is data: no place of an object. -/
def MV.data : MV → Bool
  | .bool _ | .int .. | .str _ | .sl .. | .nilp | .fn _ => true
  | _ => false
def MV.era : MV → MV
  | .sl _ xs => .sl .no xs
  | v => v
/-- Its cells. -/
def MV.cells : MV → Option (List MV)
  | .agg cs => some cs
  | .junk | .undef | .tup _ | .ep .. => none
  | v => some [v]
/-- Data alone, its slices' room unknown. -/
def datas (cs : List MV) : Option (List MV) := if cs.all MV.data then some (cs.map MV.era) else none
/-- What is handed to a call. -/
def MV.arg : MV → MV
  | .agg cs => .agg (cs.map MV.era)
  | v => v.era
/-- What a call at depth d may hand back. -/
def okRes1 (d : Nat) : MV → Bool
  | .ptr l _ => l.d < d
  | .rs l _ _ _ => l.d < d
  | .ep .. | .agg _ | .tup _ => false
  | _ => true
/-- A row's elements. -/
def chunks (cs : List MV) (off s : Nat) : Nat → List (List MV)
  | 0 => []
  | n + 1 => (cs.drop off).take s :: chunks cs (off + s) s n
/-- A row that the call has made is handed back as its elements. -/
def MV.frz (σ : Sto) (d : Nat) : MV → Option MV
  | .rs l off len s => if l.d < d then some (.rs l off len s) else (σ.ob l).bind fun cs => if off + len * s ≤ cs.length then ((chunks cs off s len).mapM datas).map fun xs => .sl .no xs else none
  | v => if okRes1 d v then some v.era else none
def MV.res1 (σ : Sto) (d : Nat) : MV → Option MV
  | .agg cs => (cs.mapM (MV.frz σ d)).map .agg
  | v => v.frz σ d
def MV.res (σ : Sto) (d : Nat) : MV → Option MV
  | .tup vs => (vs.mapM (MV.res1 σ d)).map .tup
  | v => v.res1 σ d

/-! ### Operations without memory -/
def cmpI (op : BinOp) (x y : Int) : Option MV :=
  match op with
  | .eql => some (.bool (x == y))
  | .neq => some (.bool (x != y))
  | .lss => some (.bool (x < y))
  | .leq => some (.bool (x ≤ y))
  | .gtr => some (.bool (x > y))
  | .geq => some (.bool (x ≥ y))
  | _ => none
def bitI (op : BinOp) (k : IntKind) (x y : Int) : Option MV :=
  let a := BitVec.ofInt k.bits x
  let b := BitVec.ofInt k.bits y
  match op with
  | .and => some (.int k (k.wrap (a &&& b).toNat))
  | .or => some (.int k (k.wrap (a ||| b).toNat))
  | .xor => some (.int k (k.wrap (a ^^^ b).toNat))
  | .andNot => some (.int k (k.wrap (a &&& ~~~b).toNat))
  | _ => none
def shiftI (op : BinOp) (k : IntKind) (x y : Int) : Option MV :=
  if y < 0 then none else
  match op with
  | .shl => some (.int k (k.wrap (x * 2 ^ (min y.toNat k.bits))))
  | .shr => some (.int k (x.fdiv (2 ^ (min y.toNat k.bits))))
  | _ => none
def arithI (op : BinOp) (k : IntKind) (x y : Int) : Option MV :=
  match op with
  | .add => some (.int k (k.wrap (x + y)))
  | .sub => some (.int k (k.wrap (x - y)))
  | .mul => some (.int k (k.wrap (x * y)))
  | .quo => if y = 0 then none else some (.int k (k.wrap (x.tdiv y)))
  | .rem => if y = 0 then none else some (.int k (x.tmod y))
  | .and | .or | .xor | .andNot => bitI op k x y
  | _ => cmpI op x y
def strO (op : BinOp) (x y : List UInt8) : Option MV :=
  match op with
  | .add => if x.length + y.length ≤ 9223372036854775807 then some (.str (x ++ y)) else none
  | .eql => some (.bool (x == y))
  | .neq => some (.bool !(x == y))
  | .lss => some (.bool (Op.bytesLess x y))
  | .leq => some (.bool (Op.bytesLess x y || x == y))
  | .gtr => some (.bool !(Op.bytesLess x y || x == y))
  | .geq => some (.bool !(Op.bytesLess x y))
  | _ => none
/-- A cell's kind, for equality. -/
inductive Sh where
  | i (k : IntKind)
  | b
  | s
/-- Whether cells of numbers, bools and strings are equal. -/
def eqC : List Sh → List MV → List MV → Option Bool
  | [], [], [] => some true
  | .i q :: sh, .int k a :: xs, .int k' b :: ys => if k = q ∧ k' = q then (eqC sh xs ys).map fun r => a == b && r else none
  | .b :: sh, .bool a :: xs, .bool b :: ys => (eqC sh xs ys).map fun r => a == b && r
  | .s :: sh, .str a :: xs, .str b :: ys => (eqC sh xs ys).map fun r => a == b && r
  | _, _, _ => none
def ptrEq (P : Program) (op : BinOp) (t : TypeId) (r : Bool) : Option MV :=
  match P.underlying t, op with
  | some (.pointer _), .eql => some (.bool r)
  | some (.pointer _), .neq => some (.bool !r)
  | _, _ => none
def binO (P : Program) (eqT : TypeId → Option (List Sh)) (op : BinOp) (t : TypeId) : MV → MV → Option MV
  | .int k a, .int k' b =>
    match op with
    | .shl | .shr => shiftI op k a b
    | _ => if k = k' then arithI op k a b else none
  | .str a, .str b => strO op a b
  | .bool a, .bool b =>
    match P.underlying t, op with
    | some .bool, .eql => some (.bool (a == b))
    | some .bool, .neq => some (.bool !(a == b))
    | _, _ => none
  | .agg a, .agg b =>
    match eqT t, op with
    | some sh, .eql => (eqC sh a b).map .bool
    | some sh, .neq => (eqC sh a b).map fun r => .bool !r
    | _, _ => none
  | .ptr _ _, .nilp | .nilp, .ptr _ _ => ptrEq P op t false
  | .nilp, .nilp => ptrEq P op t true
  | _, _ => none
def unO (op : UnOp) : MV → Option MV
  | .int k n =>
    match op with
    | .neg => some (.int k (k.wrap (0 - n)))
    | .xor => bitI .xor k (if k.signed then -1 else k.max) n
    | _ => none
  | .bool b => if op = .not then some (.bool !b) else none
  | _ => none
def bytesOf : List (List MV) → Option (List UInt8)
  | [] => some []
  | [.int .u8 n] :: xs => (bytesOf xs).map fun r => UInt8.ofNat n.toNat :: r
  | _ => none
def cvtO (P : Program) (src dst : TypeId) : MV → Option MV
  | .int _ n =>
    match P.underlying src, P.underlying dst with
    | some _, some (.int k) => some (.int k (k.wrap n))
    | _, _ => none
  | .str s =>
    match P.underlying src, P.underlying dst with
    | some .string, some .string => some (.str s)
    | _, _ => none
  | .sl _ xs =>
    match P.underlying src, P.underlying dst with
    | some (.slice e), some .string => match P.underlying e with
      | some (.int .u8) => (bytesOf xs).map .str
      | _ => none
    | _, _ => none
  | _ => none

/-! ### Reads -/
def ldC (P : Program) (t : TypeId) (cs : List MV) (off : Nat) : Option MV :=
  match shp P t with
  | some (true, n) => if off + n ≤ cs.length then some (.agg ((cs.drop off).take n)) else none
  | some (false, _) => cs[off]?
  | none => none
def ldO (P : Program) (σ : Sto) (t : TypeId) : MV → Option MV
  | .ptr l off => (σ.ob l).bind fun cs => ldC P t cs off
  | .ep cs off => ldC P t cs off
  | _ => none
def putC (cs new : List MV) (off : Nat) : List MV := cs.take off ++ new ++ cs.drop (off + new.length)
def faO (P : Program) (t : TypeId) (f : Nat) : MV → Option MV
  | .ptr l off => (fldo P t f).map fun x => .ptr l (off + x.1)
  | .ep cs off => (fldo P t f).map fun x => .ep cs (off + x.1)
  | _ => none
def fdO (P : Program) (t : TypeId) (f : Nat) : MV → Option MV
  | .agg cs => (fldo P t f).bind fun x => ldC P x.2 cs x.1
  | _ => none
def iaO (P : Program) (t : TypeId) : MV → MV → Option MV
  | .ptr l off, .int _ i =>
    match arr P t with
    | some (n, e) => match shp P e with
      | some (_, s) => if 0 ≤ i ∧ i < n then some (.ptr l (off + i.toNat * s)) else none
      | none => none
    | none => none
  | .ep cs off, .int _ i =>
    match arr P t with
    | some (n, e) => match shp P e with
      | some (_, s) => if 0 ≤ i ∧ i < n then some (.ep cs (off + i.toNat * s)) else none
      | none => none
    | none => none
  | .sl _ xs, .int _ i =>
    match slc P t with
    | some (_, s, _) => if 0 ≤ i then (xs[i.toNat]?).bind fun cs => if cs.length = s then some (.ep cs 0) else none else none
    | none => none
  | .rs l off len z, .int _ i =>
    match slc P t with
    | some (_, s, _) => if z = s ∧ 0 ≤ i ∧ i < len then some (.ptr l (off + i.toNat * s)) else none
    | none => none
  | _, _ => none
def ixO (P : Program) (t : TypeId) : MV → MV → Option MV
  | .str s, .int _ i =>
    match P.underlying t with
    | some .string => if 0 ≤ i then (s[i.toNat]?).map fun b => .int .u8 b.toNat else none
    | _ => none
  | .agg cs, .int _ i =>
    match arr P t with
    | some (n, e) => match shp P e with
      | some (_, s) => if 0 ≤ i ∧ i < n then ldC P e cs (i.toNat * s) else none
      | none => none
    | none => none
  | _, _ => none
def lenO (P : Program) (t : TypeId) (v : MV) : Option MV :=
  match P.underlying t, v with
  | some .string, .str s => some (.int .i64 s.length)
  | some (.slice _), .sl _ xs => some (.int .i64 xs.length)
  | some (.slice _), .rs _ _ n _ => some (.int .i64 n)
  | some (.array n _), _ => some (.int .i64 n)
  | _, _ => none
def bnd (n : Nat) : Option MV → Nat → Option Nat
  | none, z => some z
  | some (.int _ i), _ => if 0 ≤ i ∧ i ≤ n then some i.toNat else none
  | some _, _ => none
/-- Each element has so many cells. -/
def okz (s : Nat) (xs : List (List MV)) : Bool := xs.all fun x => x.length == s
def cutO (P : Program) (t : TypeId) (lo hi : Option MV) : MV → Option MV
  | .str s =>
    match P.underlying t with
    | some .string => (bnd s.length hi s.length).bind fun h => (bnd h lo 0).map fun l => .str ((s.take h).drop l)
    | _ => none
  | .sl tk xs =>
    match P.underlying t with
    | some (.slice _) => match slc P t with
      | some (_, s, _) => if okz s xs = true then (bnd xs.length hi xs.length).bind fun h => (bnd h lo 0).map fun l => if h = xs.length ∧ l = 0 then .sl tk xs else .sl .no ((xs.take h).drop l) else none
      | none => none
    | _ => none
  | .rs l off len z =>
    match P.underlying t with
    | some (.slice _) => match slc P t with
      | some (_, s, _) => if z = s then (bnd len hi len).bind fun h => (bnd h lo 0).bind fun k => if k = 0 ∨ k < len then some (.rs l (off + k * s) (h - k) z) else none else none
      | none => none
    | _ => none
  | _ => none
def mmGo (mx : Bool) (k : IntKind) : Int → List MV → Option MV
  | x, [] => some (.int k x)
  | x, .int k' y :: r => if k = k' then mmGo mx k (if mx then (if y > x then y else x) else (if y < x then y else x)) r else none
  | _, _ => none
def mm (mx : Bool) : List MV → Option MV
  | .int k x :: r => mmGo mx k x r
  | _ => none
/-- A struct's or an array's parts, one behind the other, laid into its cells. -/
def fillC (place : Nat → Option (Nat × Nat)) (cs : List MV) : List (Nat × MV) → Option (List MV)
  | [] => some cs
  | (i, v) :: r =>
    match place i, v.cells with
    | some (off, n), some new => if new.length = n ∧ off + n ≤ cs.length then fillC place (putC cs new off) r else none
    | _, _ => none
def places (P : Program) (t : TypeId) : Nat → Option (Nat × Nat) := fun i =>
  match P.underlying t with
  | some (.struct _) => (fldo P t i).bind fun x => (shp P x.2).map fun y => (x.1, y.2)
  | some (.array _ e) => (shp P e).map fun y => (i * y.2, y.2)
  | _ => none
/-- The zero cells of a type that is built of parts, all of which are known. -/
def bldz (P : Program) (t : TypeId) : Option (List MV) :=
  match P.underlying t, (P.info? t).bind (·.zero) with
  | some (.struct fs), some z => if fs.toList.all fun f => (P.info? f.type).isSome then (ofV z).cells else none
  | some (.array _ e), some z => if (P.info? e).isSome then (ofV z).cells else none
  | _, _ => none
def buildO (P : Program) (t : TypeId) (parts : List (Nat × MV)) : Option MV :=
  match bldz P t with
  | some z => (fillC (places P t) z parts).map .agg
  | none => none

/-! ### Operations with the store -/
/-- What an evaluation is given: the program; the types whose equality is cell by cell; functions that are not looked into. -/
structure Cfg where
  P : Program
  eqT : TypeId → Option (List Sh)
  prim : FuncId → Option (Nat → Nat → List MV → Sto → Option (MV × Sto))
  /-- Memory that is there, and stays. -/
  kp : Nat → (Obj → Prop) → Prop := fun _ _ => False
  /-- Types whose variables' places tell them. -/
  tg : TypeId → Bool := fun _ => false
  /-- Functions whose calls may do something among the free operations of a region that draws. -/
  hotF : FuncId → Bool := fun _ => false
  /-- Types of slices that keep what is known of their room when they are stored. -/
  kt : TypeId → Bool := fun _ => false
  /-- How many depths ahead of its call's a variable of that type, made at that slot, is made. -/
  up : TypeId → Nat → Nat := fun _ _ => 0
  /-- Types of slices that lie in the store as rows, wherever they are made or appended to, by the slot; and how many depths ahead of the call's. -/
  rw : TypeId → Nat → Option Nat := fun _ _ => none
  /-- Types of which values are stored in objects of a lower depth with the places that they bear. -/
  pt : TypeId → Bool := fun _ => false

/-- The number that a place bears: the slot's; of a type that is told: the type's, and how many cells. -/
def dstT : Option Tmp → Nat
  | some t => if t < 1000000 then t else 0
  | none => 0
def locT (C : Cfg) (t : TypeId) (n : Nat) (o : Option Tmp) : Nat := if C.tg t = true then (if n < 1024 then 1000000 + (t * 1024 + n) else dstT o) else dstT o

def allocO (σ : Sto) (d t : Nat) (cs : List MV) : MV × Sto :=
  (.ptr ⟨d, t, σ.ct d⟩ 0, (σ.set ⟨d, t, σ.ct d⟩ cs).tick d)
/-- A variable, made at its own depth. -/
def allocU (C : Cfg) (lim d : Nat) (t : TypeId) (o : Option Tmp) (lt : Nat) (cs : List MV) (σ : Sto) : Option (MV × Sto) :=
  if C.up t (dstT o) = 0 ∨ (C.up t (dstT o) ≤ d ∧ lim ≤ d - C.up t (dstT o)) then some (allocO σ (d - C.up t (dstT o)) lt cs) else none
def tokO (σ : Sto) (d n s : Nat) (xs : List (List MV)) : MV × Sto :=
  (.sl (.own d (σ.ct d)) xs, (σ.own d (σ.ct d) (some (n, s))).tick d)
/-- A store; objects that were made ahead of depth lim are not written. -/
def stO (P : Program) (lim d : Nat) (t : TypeId) (σ : Sto) : MV → MV → Option Sto
  | .ptr l off, v =>
    match shp P t, v.cells, σ.ob l with
    | some (_, n), some new, some cs =>
      if new.length = n ∧ off + n ≤ cs.length then
        if l.d < d then (if lim ≤ l.d then (datas new).map fun new => σ.set l (putC cs new off) else none)
        else if l.d = d then some (σ.set l (putC cs new off)) else none
      else none
    | _, _, _ => none
  | _, _ => none
/-- A token's row goes over to a new token, at another depth. -/
def Sto.retok (s : Sto) (k c kl : Nat) (v : Nat × Nat) : Sto := ((s.own k c none).own kl (s.ct kl) (some v)).tick kl
/-- It lies in an object of a lower depth. -/
def dep (d : Nat) : MV → Bool
  | .ptr l _ => decide (l.d < d)
  | _ => false
/-- A slice is stored in an object of a lower depth, and what is known of its room stays known. -/
def stK (P : Program) (lim d : Nat) (t : TypeId) (σ : Sto) : MV → MV → Option Sto
  | .ptr l off, .sl tk xs =>
    match shp P t, σ.ob l with
    | some (_, n), some cs =>
      if n = 1 ∧ off + 1 ≤ cs.length ∧ l.d < d ∧ lim ≤ l.d then
        match tk with
        | .nil => some (σ.set l (putC cs [.sl .nil xs] off))
        | .own k c =>
          if k ≤ l.d then some (σ.set l (putC cs [.sl (.own k c) xs] off))
          else if k ≤ d then
            match σ.ow k c with
            | some v => some ((σ.retok k c l.d v).set l (putC cs [.sl (.own l.d (σ.ct l.d)) xs] off))
            | none => none
          else none
        | _ => some (σ.set l (putC cs [.sl .no xs] off))
      else none
    | _, _ => none
  | _, _ => none
/-- What an object of depth n may hold. -/
def keepD (n : Nat) (m : MV) : Option MV :=
  if m.data = true then some m.era else
  match m with
  | .ptr l o => if l.d ≤ n then some (.ptr l o) else none
  | .rs l o k z => if l.d ≤ n then some (.rs l o k z) else none
  | _ => none
/-- A cell that is kept at a depth, with its row's room, if that is known there. -/
def keepU (n : Nat) (m : MV) : Option MV := if (m.flat && m.top n) = true then some m else keepD n m
/-- A variable with a content, made at its own depth. -/
def boxU (C : Cfg) (lim d : Nat) (t : TypeId) (o : Option Tmp) (lt : Nat) (cs : List MV) (σ : Sto) : Option (MV × Sto) :=
  if C.up t (dstT o) = 0 then some (allocO σ d lt cs)
  else if C.up t (dstT o) ≤ d ∧ lim ≤ d - C.up t (dstT o) then (cs.mapM (keepU (d - C.up t (dstT o)))).map fun cs => allocO σ (d - C.up t (dstT o)) lt cs else none
/-- Places are stored in an object of a lower depth. -/
def stP (P : Program) (lim d : Nat) (t : TypeId) (σ : Sto) : MV → MV → Option Sto
  | .ptr l off, v =>
    match shp P t, v.cells, σ.ob l with
    | some (_, n), some new, some cs =>
      if new.length = n ∧ off + n ≤ cs.length ∧ l.d < d ∧ lim ≤ l.d then (new.mapM (keepD l.d)).map fun new => σ.set l (putC cs new off)
      else none
    | _, _, _ => none
  | _, _ => none
/-- A row that is made of cells. -/
def rowO (σ : Sto) (d t n s : Nat) (cs : List MV) : MV × Sto := (.rs ⟨d, t, σ.ct d⟩ 0 n s, (σ.set ⟨d, t, σ.ct d⟩ cs).tick d)
/-- All of a slice literal's elements, in their order. -/
def sliceParts (s : Nat) : Nat → List (Nat × MV) → Option (List (List MV))
  | _, [] => some []
  | i, (j, v) :: r => if j = i then v.cells.bind fun cs => if cs.length = s then (datas cs).bind fun x => (sliceParts s (i + 1) r).map fun xs => x :: xs else none else none
def bslO (P : Program) (d : Nat) (t : TypeId) (n : Nat) (parts : List (Nat × MV)) (σ : Sto) : Option (MV × Sto) :=
  match slc P t with
  | some (_, s, _) => if parts.length = n ∧ n * s ≤ 65536 ∧ 0 < s then (sliceParts s 0 parts).map fun xs => tokO σ d n s xs else none
  | none => none
def appO (P : Program) (lim d : Nat) (t : TypeId) (σ : Sto) : MV → MV → Option (MV × Sto)
  | .sl tk xs, .sl _ ys =>
    match slc P t with
    | some (_, s, b) =>
      if ys = [] then some (.sl tk xs, σ) else
      if okz s xs = true ∧ okz s ys = true ∧ 0 < s ∧ 0 < b ∧ (xs.length + ys.length) * b ≤ 140737488355328 then
        match ys.mapM datas with
        | some ys' =>
          match tk with
          | .nil => if xs = [] then some (tokO σ d ys'.length s ys') else none
          | .own d' c => if lim ≤ d' ∧ σ.ow d' c = some (xs.length, s) then some (.sl (.own d' c) (xs ++ ys'), σ.own d' c (some (xs.length + ys'.length, s))) else none
          | .no | .byt .. => none
        | none => none
      else none
    | none => none
  | _, _ => none

/-- A row is appended to: it lies elsewhere then, and the old one is no more. -/
def appR (P : Program) (lim d up dst : Nat) (t : TypeId) (σ : Sto) : MV → MV → Option (MV × Sto)
  | x, .sl _ ys =>
    match slc P t with
    | some (_, s, b) =>
      if up ≤ d ∧ lim ≤ d - up ∧ okz s ys = true ∧ 0 < s ∧ 0 < b ∧ dst < 500000 ∧ ys ≠ [] then
        match ys.mapM fun y => y.mapM (keepD (d - up)) with
        | some ys' =>
          match x with
          | .sl .nil [] => if ys.length * b ≤ 140737488355328 then some (rowO σ (d - up) (500000 + dst) ys.length s ys'.flatten) else none
          | .rs l off len z =>
            match σ.ob l with
            | some cs => if z = s ∧ off = 0 ∧ len * s = cs.length ∧ 500000 ≤ l.t ∧ d - up ≤ l.d ∧ lim ≤ l.d ∧ cs.all (MV.top (d - up)) = true ∧ (len + ys.length) * b ≤ 140737488355328 then some (rowO (σ.del l) (d - up) (500000 + dst) (len + ys.length) s (cs ++ ys'.flatten)) else none
            | none => none
          | _ => none
        | none => none
      else none
    | none => none
  | _, _ => none
/-- A row of zero cells. -/
def mkR (P : Program) (lim d up dst : Nat) (t : TypeId) (σ : Sto) : MV → MV → Option (MV × Sto)
  | .int .i64 n, .int .i64 c =>
    match slc P t with
    | some (e, s, b) => match (zer P e).bind MV.cells with
      | some z => if up ≤ d ∧ lim ≤ d - up ∧ 0 ≤ n ∧ c = n ∧ z.length = s ∧ 0 < s ∧ n * b ≤ 140737488355328 ∧ n.toNat * s ≤ 65536 ∧ dst < 500000 then some (rowO σ (d - up) (500000 + dst) n.toNat s (List.replicate n.toNat z).flatten) else none
      | none => none
    | none => none
  | _, _ => none

def appX (C : Cfg) (lim d dst : Nat) (t : TypeId) (σ : Sto) (x y : MV) : Option (MV × Sto) :=
  match C.rw t dst with
  | some k => appR C.P lim d k dst t σ x y
  | none => appO C.P lim d t σ x y
def mkX (C : Cfg) (lim d dst : Nat) (t : TypeId) (σ : Sto) (x y : MV) : Option (MV × Sto) :=
  match C.rw t dst with
  | some k => mkR C.P lim d k dst t σ x y
  | none => none

def valO (a : Nat → MV) : Operand → MV
  | .tmp t => a t
  | .const v => ofV v
  | .func f => .fn f
  | .global _ => .junk

abbrev Call := Nat → Nat → FuncId → List MV → Sto → Option (MV × Sto)

def evOp (C : Cfg) (call : Call) (lim d : Nat) (a : Nat → MV) (o : Oper) (σ : Sto) : Option (MV × Sto) :=
  let pure' (r : Option MV) : Option (MV × Sto) := r.map fun v => (v, σ)
  match o.op with
  | .move x | .assign x => some (valO a x, σ)
  | .pick c x y => match valO a c with
    | .bool b => some (if b then valO a x else valO a y, σ)
    | _ => none
  | .alloc t => (zer C.P t).bind fun z => z.cells.bind fun cs => allocU C lim d t o.dst (locT C t cs.length o.dst) cs σ
  | .box t x => (valO a x).cells.bind fun cs => boxU C lim d t o.dst (locT C t cs.length o.dst) cs σ
  | .makeMap _ none => some (.junk, σ)
  | .makeSlice t n c => mkX C lim d (dstT o.dst) t σ (valO a n) (valO a c)
  | .build t parts => pure' (buildO C.P t (parts.toList.map fun p => (p.1, valO a p.2)))
  | .buildSlice t n parts => bslO C.P d t n (parts.toList.map fun p => (p.1, valO a p.2)) σ
  | .load t x => pure' (ldO C.P σ t (valO a x))
  | .store t x v => (if (C.kt t && dep d (valO a x)) = true then stK C.P lim d t σ (valO a x) (valO a v) else if (C.pt t && dep d (valO a x)) = true then stP C.P lim d t σ (valO a x) (valO a v) else stO C.P lim d t σ (valO a x) (valO a v)).map fun σ' => (.undef, σ')
  | .nilCheck x => match valO a x with
    | .ptr l off => some (.ptr l off, σ)
    | .ep cs off => some (.ep cs off, σ)
    | _ => none
  | .binOp op t x y _ => pure' (binO C.P C.eqT op t (valO a x) (valO a y))
  | .unOp op _ x => pure' (unO op (valO a x))
  | .convert s t x => pure' (cvtO C.P s t (valO a x))
  | .slice t x lo hi none => pure' (cutO C.P t (lo.map (valO a)) (hi.map (valO a)) (valO a x))
  | .fieldAddr t x f => pure' (faO C.P t f (valO a x))
  | .field t x f => pure' (fdO C.P t f (valO a x))
  | .indexAddr t x i => pure' (iaO C.P t (valO a x) (valO a i))
  | .index t x i => pure' (ixO C.P t (valO a x) (valO a i))
  | .extract x i => match valO a x with
    | .tup vs => (vs[i]?).map fun v => (v, σ)
    | _ => none
  | .call { callee := .value f, args, .. } => match valO a f with
    | .fn g => call lim (d + 1) g (args.toList.map fun x => (valO a x).arg) σ
    | _ => none
  | .call { callee := .builtin b, args, argTypes } =>
    match b, args.toList, argTypes.toList with
    | .len, [x], [t] => pure' (lenO C.P t (valO a x))
    | .min, xs, _ => pure' (mm false (xs.map (valO a)))
    | .max, xs, _ => pure' (mm true (xs.map (valO a)))
    | .append, [x, y], [t, t'] => if t' = t then appX C lim d (dstT o.dst) t σ (valO a x) (valO a y) else none
    | _, _, _ => none
  | _ => none

def putD (a : Nat → MV) (d : Option Tmp) (v : MV) : Nat → MV :=
  match d with
  | some d => upd a d v
  | none => a
/-- Is an operation to be carried out? -/
def want (ops : Array Oper) (a : Nat → MV) (o : Oper) : Option Bool :=
  match o.guard with
  | none => some true
  | some (j, w) => match (ops[j]?).bind (·.dst) with
    | some t => match a t with
      | .bool b => some (b == w)
      | .undef => some false
      | _ => none
    | none => none
def evOps (C : Cfg) (call : Call) (lim d : Nat) (ops : Array Oper) : List Oper → (Nat → MV) → Sto → Option ((Nat → MV) × Sto)
  | [], a, σ => some (a, σ)
  | o :: r, a, σ => match want ops a o with
    | some true => (evOp C call lim d a o σ).bind fun x => evOps C call lim d ops r (putD a o.dst x.1) x.2
    | some false => evOps C call lim d ops r (putD a o.dst .undef) σ
    | none => none

/-- The operations of a region that draws from which on the order is forced. -/
def isTail (o : Oper) : Bool :=
  match o.op with
  | .store .. | .assign _ => true
  | .box .. => o.guard.isNone
  | .call { callee := .builtin .append, .. } => true
  | .call { callee := .value _, .. } => decide (o.type = 0)
  | _ => false
def isNew (o : Oper) : Bool :=
  match o.op with
  | .alloc _ => true
  | _ => false
/-- An operation whose order is free: it leaves the store as it is. -/
def evFree (C : Cfg) (call : Call) (d : Nat) (a : Nat → MV) (o : Oper) (σ : Sto) : Option MV :=
  match o.op with
  | .buildSlice t n parts => match slc C.P t with
    | some (_, s, _) => if parts.size = n ∧ n * s ≤ 65536 ∧ 0 < s then (sliceParts s 0 (parts.toList.map fun p => (p.1, valO a p.2))).map fun xs => .sl .no xs else none
    | none => none
  | .call { callee := .value f, args, .. } => match valO a f with
    | .fn g => (call (d + 1) (d + 1) g (args.toList.map fun x => (valO a x).arg) σ).map (·.1)
    | _ => none
  | .alloc _ | .box .. | .store .. | .makeMap .. => none
  | .makeSlice t n c => match slc C.P t, (slc C.P t).bind (fun x => (zer C.P x.1).bind MV.cells), valO a n, valO a c with
    | some (_, s, b), some z, .int .i64 n, .int .i64 c => if 0 ≤ n ∧ c = n ∧ z.length = s ∧ 0 < s ∧ n * b ≤ 140737488355328 ∧ n.toNat * s ≤ 65536 ∧ z.all MV.pur = true then some (.sl .no (List.replicate n.toNat z)) else none
    | _, _, _, _ => none
  | .call { callee := .builtin .append, .. } => none
  | _ => (evOp C call 0 d a o σ).map (·.1)
def evOpsF (C : Cfg) (call : Call) (d : Nat) (ops : Array Oper) (σ : Sto) : List Oper → (Nat → MV) → Option (Nat → MV)
  | [], a => some a
  | o :: r, a => match want ops a o with
    | some true => if isNew o then evOpsF C call d ops σ r a else (evFree C call d a o σ).bind fun v => evOpsF C call d ops σ r (putD a o.dst v)
    | some false => evOpsF C call d ops σ r (putD a o.dst .undef)
    | none => none
/-- The variables that are made there. -/
def evNews (C : Cfg) (lim d : Nat) : List Oper → (Nat → MV) → Sto → Option ((Nat → MV) × Sto)
  | [], a, σ => some (a, σ)
  | o :: r, a, σ => match o.op with
    | .alloc t => ((zer C.P t).bind MV.cells).bind fun cs => (allocU C lim d t o.dst (locT C t cs.length o.dst) cs σ).bind fun x => evNews C lim d r (putD a o.dst x.1) x.2
    | _ => evNews C lim d r a σ
def evDraw (C : Cfg) (call : Call) (lim d : Nat) (ops : Array Oper) (a : Nat → MV) (σ : Sto) : Option ((Nat → MV) × Sto) :=
  (evOpsF C call d ops σ (ops.toList.takeWhile fun o => !isTail o) a).bind fun a =>
    (evNews C lim d (ops.toList.takeWhile fun o => !isTail o) a σ).bind fun x => evOps C call lim d ops (ops.toList.dropWhile fun o => !isTail o) x.1 x.2

mutual
/-- Whether two values are one. -/
def MV.same : MV → MV → Bool
  | .junk, .junk => true
  | .undef, .undef => true
  | .bool a, .bool b => a == b
  | .int k a, .int k' b => decide (k = k') && a == b
  | .str a, .str b => a == b
  | .sl t xs, .sl t' ys => decide (t = t') && MV.sames2 xs ys
  | .agg a, .agg b => MV.sames a b
  | .ptr l o, .ptr l' o' => decide (l = l') && o == o'
  | .rs l o n z, .rs l' o' n' z' => decide (l = l') && (o == o' && (n == n' && z == z'))
  | .ep cs o, .ep cs' o' => MV.sames cs cs' && o == o'
  | .nilp, .nilp => true
  | .fn f, .fn g => f == g
  | .tup a, .tup b => MV.sames a b
  | _, _ => false
def MV.sames : List MV → List MV → Bool
  | [], [] => true
  | x :: xs, y :: ys => MV.same x y && MV.sames xs ys
  | _, _ => false
def MV.sames2 : List (List MV) → List (List MV) → Bool
  | [], [] => true
  | x :: xs, y :: ys => MV.sames x y && MV.sames2 xs ys
  | _, _ => false
end
/-! Regions that draw, where one of the free operations does something: all others tell the same ahead of it and behind it. -/
def isHot (C : Cfg) (o : Oper) : Bool :=
  match o.op with
  | .call { callee := .value (.func f), .. } => C.hotF f
  | _ => false
def hotB (C : Cfg) (ops : Array Oper) : Bool := (ops.toList.takeWhile fun o => !isTail o).any (isHot C)
/-- It may do something. -/
def effB (C : Cfg) (o : Oper) : Bool := isTail o || isHot C o
/-- What it tells lies in the store, too. -/
def seesB (o : Oper) : Bool :=
  match o.op with
  | .load .. => true
  | .call { callee := .value _, .. } => true
  | _ => false
/-- A free operation tells, at this store, what it told. -/
def chkH (C : Cfg) (call : Call) (d : Nat) (ops : Array Oper) (σ : Sto) (a : Nat → MV) (o : Oper) : Bool :=
  match want ops a o with
  | some true => match evFree C call d a o σ with
    | some v => match o.dst with
      | some t => MV.same v (a t)
      | none => true
    | none => false
  | some false => true
  | none => false
def chkI (C : Cfg) (call : Call) (d : Nat) (ops : Array Oper) (σ : Sto) (a : Nat → MV) (j : Nat) : Bool :=
  match ops[j]? with
  | some o => chkH C call d ops σ a o
  | none => true
def waitsOn (x : Oper) (j : Nat) : Bool := x.after.any fun e => Region.binds .any e && e.on == j
/-- One by one as they stand; those that do something go in this order, the others may go anywhere: behind each of those that do something what may still be ahead must tell the same. -/
def evOpsV (C : Cfg) (call : Call) (lim d : Nat) (ops : Array Oper) : List Oper → Nat → List Nat → (Nat → MV) → Sto → Option ((Nat → MV) × Sto)
  | [], _, _, a, σ => some (a, σ)
  | o :: r, i, sf, a, σ => match want ops a o with
    | some true =>
      if effB C o = true then
        (evOp C call lim d a o σ).bind fun x => if ((sf.filter fun j => !waitsOn o j).all (chkI C call d ops x.2 (putD a o.dst x.1))) = true then evOpsV C call lim d ops r (i + 1) (sf.filter fun j => !waitsOn o j) (putD a o.dst x.1) x.2 else none
      else (evFree C call d a o σ).bind fun v => evOpsV C call lim d ops r (i + 1) (if seesB o = true then i :: sf else sf) (putD a o.dst v) σ
    | some false => if effB C o = true then evOpsV C call lim d ops r (i + 1) (sf.filter fun j => !waitsOn o j) (putD a o.dst .undef) σ else evOpsV C call lim d ops r (i + 1) sf (putD a o.dst .undef) σ
    | none => none
def evHot (C : Cfg) (call : Call) (lim d : Nat) (ops : Array Oper) (a : Nat → MV) (σ : Sto) : Option ((Nat → MV) × Sto) := evOpsV C call lim d ops ops.toList 0 [] a σ

/-! ### What is asked of code ahead of any evaluation -/
/-- Slots lie in the frame. -/
def okDst (N : Nat) (ops : Array Oper) : Bool := ops.all fun o => match o.dst with | some t => decide (t < N) | none => true
/-- A region that draws: the free operations wait for those that they look at, and no others; the rest goes by one order. -/
def okFree (ops : Array Oper) (n : Nat) : Bool :=
  (List.range n).all fun i => match ops[i]? with
    | some x => (x.after.all fun e => !Region.binds .any e || decide (e.on < i)) && (List.range n).all fun j => match ops[j]? with
      | some y =>
        (i == j || (match x.dst with | some t => y.dst != some t | none => true)) &&
        (match y.dst with
         | some t => !(x.looksAt ops).contains t || (decide (j < i) && !isNew y && x.after.any fun e => Region.binds .any e && e.on == j)
         | none => true)
      | none => false
    | none => false
def okDraw (ops : Array Oper) : Bool :=
  let n := (ops.toList.takeWhile fun o => !isTail o).length
  okFree ops n && Region.noSelect ops && ((ops.toList.takeWhile fun o => !isTail o).all fun o => !isNew o || (o.guard.isNone && o.dst.isSome)) &&
  (if n = ops.size then true else Region.sinkB .any ops n && Region.chainB .any ops n && Region.seqB .any ops (ops.size - n) n ((List.range ops.size).map fun i => decide (i < n)).toArray)
/-- How many that may do something stand ahead of a place. -/
def cntE (C : Cfg) (ops : Array Oper) (i : Nat) : Nat := ((ops.toList.take i).filter (effB C)).length
/-- What is asked of such a region: no new variables; those that do something wait for each other; what sees the store waits for the last one ahead of it that does something. -/
def okHot (C : Cfg) (ops : Array Oper) : Bool :=
  okFree ops ops.size && (ops.toList.all fun o => !isNew o) &&
  (List.range ops.size).all fun i => match ops[i]? with
    | some x => !(effB C x || seesB x) || (List.range i).all fun j => match ops[j]? with
      | some y => !effB C y || (waitsOn x j || decide (cntE C ops j + 1 ≠ cntE C ops i))
      | none => true
    | none => true
/-- A region whose last operations store and assign, in their order, while free ones may still be ahead of them: what these look at is not stored to. -/
def isCallV (o : Oper) : Bool :=
  match o.op with
  | .call { callee := .value _, .. } => true
  | _ => false
/-- The first of the last operations waits for it. -/
def hardB (ops : Array Oper) (n j : Nat) : Bool :=
  match ops[n]? with
  | some y => waitsOn y j
  | none => false
def okLoose (ops : Array Oper) : Bool :=
  let n := (ops.toList.takeWhile fun o => !isTail o).length
  okFree ops n && Region.noSelect ops && ((ops.toList.takeWhile fun o => !isTail o).all fun o => !isNew o || (o.guard.isNone && o.dst.isSome)) &&
  decide (n < ops.size) && Region.chainB .any ops n &&
  (List.range ops.size).all fun t => decide (t < n) || (match ops[t]? with
    | some y => (y.after.all fun e => !Region.binds .any e || decide (e.on < t)) && (List.range n).all fun j => match ops[j]? with
      | some x =>
        (match x.dst with
         | some u => (!(y.looksAt ops).contains u || waitsOn y j) && y.dst != some u
         | none => true) &&
        (match y.dst with
         | some u => hardB ops n j || !(x.looksAt ops).contains u
         | none => true) &&
        (!(isCallV x || isNew x) || hardB ops n j)
      | none => false
    | none => false)
/-- The free operations for which the first of the last ones does not wait. -/
def looseOps (ops : Array Oper) (n : Nat) : List Oper := (List.range n).filterMap fun j => if hardB ops n j = true then none else ops[j]?
/-- The objects that these read. -/
def avoid (a : Nat → MV) (l : List Oper) : List Loc := l.filterMap fun o =>
  match o.op with
  | .load _ x => match valO a x with
    | .ptr l _ => some l
    | _ => none
  | _ => none
/-- The row that is appended to. -/
def lokA (av : List Loc) : List MV → Bool
  | [.rs l _ _ _, _] => decide (l ∉ av)
  | _ => true
def lok (a : Nat → MV) (av : List Loc) (o : Oper) : Bool :=
  match o.op with
  | .store _ x _ => match valO a x with
    | .ptr l _ => decide (l ∉ av)
    | _ => false
  | .assign _ | .move _ | .fieldAddr .. | .load .. | .binOp .. | .nilCheck _ | .extract .. => true
  | .call { callee := .builtin .append, args, .. } => (av.all fun l => decide (l.t < 500000 ∨ 1000000 ≤ l.t)) && lokA av (args.toList.map (valO a))
  | _ => false
def evOpsL (C : Cfg) (call : Call) (lim d : Nat) (ops : Array Oper) (av : List Loc) : List Oper → (Nat → MV) → Sto → Option ((Nat → MV) × Sto)
  | [], a, σ => some (a, σ)
  | o :: r, a, σ => match want ops a o with
    | some true => if lok a av o = true then (evOp C call lim d a o σ).bind fun x => evOpsL C call lim d ops av r (putD a o.dst x.1) x.2 else none
    | some false => evOpsL C call lim d ops av r (putD a o.dst .undef) σ
    | none => none
/-- All variables are made at the call's depth. -/
def upB (C : Cfg) (l : List Oper) : Bool := l.all fun o => match o.op with
  | .alloc t => C.up t (dstT o.dst) == 0
  | _ => true
def evLoose (C : Cfg) (call : Call) (lim d : Nat) (ops : Array Oper) (a : Nat → MV) (σ : Sto) : Option ((Nat → MV) × Sto) :=
  (evOpsF C call d ops σ (ops.toList.takeWhile fun o => !isTail o) a).bind fun a1 =>
    if upB C (ops.toList.takeWhile fun o => !isTail o) = true ∧ ∀ l ∈ avoid a1 (looseOps ops (ops.toList.takeWhile fun o => !isTail o).length), l.d ≠ d ∨ l.c < σ.ct d then
      (evNews C lim d (ops.toList.takeWhile fun o => !isTail o) a1 σ).bind fun x => evOpsL C call lim d ops (avoid a1 (looseOps ops (ops.toList.takeWhile fun o => !isTail o).length)) (ops.toList.dropWhile fun o => !isTail o) x.1 x.2
    else none

inductive Ex where
  | nrm
  | exit (id : Nat)
  | ret
  | goto (l : Nat)
  deriving DecidableEq

abbrev Out := Option (Ex × (Nat → MV) × Sto)

def evLoop (body : (Nat → MV) → Sto → Out) : Nat → (Nat → MV) → Sto → Out
  | 0, _, _ => none
  | n + 1, a, σ => match body a σ with
    | some (.nrm, a', σ') => evLoop body n a' σ'
    | r => r
/-- A scope: its code, and from each label on to which it jumps. -/
def evScope (has : Nat → Bool) (go : Nat → (Nat → MV) → Sto → Out) : Nat → Out → Out
  | 0, some (.goto l, a, σ) => if has l = true then none else some (.goto l, a, σ)
  | n + 1, some (.goto l, a, σ) => if has l = true then evScope has go n (go l a σ) else some (.goto l, a, σ)
  | _, r => r
mutual
def evCode (C : Cfg) (call : Call) (n lim d : Nat) : Code → (Nat → MV) → Sto → Out
  | .skip, a, σ => some (.nrm, a, σ)
  | .label _, a, σ => some (.nrm, a, σ)
  | .region _ ops false, a, σ => (evOps C call lim d ops ops.toList a σ).map fun x => (.nrm, x.1, x.2)
  | .region _ ops true, a, σ => (if hotB C ops = true then (if okHot C ops = true then evHot C call lim d ops a σ else none) else if okDraw ops = true then evDraw C call lim d ops a σ else if okLoose ops = true then evLoose C call lim d ops a σ else none).map fun x => (.nrm, x.1, x.2)
  | .seq x y, a, σ => match evCode C call n lim d x a σ with
    | some (.nrm, a', σ') => evCode C call n lim d y a' σ'
    | r => r
  | .cond c x y, a, σ => match valO a c with
    | .bool b => if b then evCode C call n lim d x a σ else evCode C call n lim d y a σ
    | _ => none
  | .block id c, a, σ => match evCode C call n lim d c a σ with
    | some (.exit id', a', σ') => if id' = id then some (.nrm, a', σ') else some (.exit id', a', σ')
    | r => r
  | .loop c, a, σ => evLoop (fun a σ => evCode C call n lim d c a σ) n a σ
  | .exit id, a, σ => some (.exit id, a, σ)
  | .ret, a, σ => some (.ret, a, σ)
  | .goto l, a, σ => some (.goto l, a, σ)
  | .scope c, a, σ => evScope (fun l => (findLabel c l).isSome) (fun l a σ => evAt C call n lim d c l a σ) n (evCode C call n lim d c a σ)
  | _, _, _ => none
/-- Code from a label on. -/
def evAt (C : Cfg) (call : Call) (n lim d : Nat) : Code → Nat → (Nat → MV) → Sto → Out
  | .seq x y, l, a, σ => if (findLabel x l).isSome = true then (match evAt C call n lim d x l a σ with
      | some (.nrm, a', σ') => evCode C call n lim d y a' σ'
      | r => r) else evAt C call n lim d y l a σ
  | .label l', l, a, σ => if l' = l then some (.nrm, a, σ) else none
  | _, _, _, _ => none
end

def startA (args : List MV) : Nat → MV := fun t => (args[t]?).getD .undef
def resV (P : Program) (σ : Sto) (a : Nat → MV) : ResultVar → Option MV
  | .tmp t => some (a t)
  | .cell x t => ldO P σ t (a x)
def resO (P : Program) (rs : List ResultVar) (a : Nat → MV) (σ : Sto) : Option MV :=
  match rs.mapM (resV P σ a) with
  | some [v] => some v
  | some vs => some (.tup vs)
  | none => none
/-- A call's end. -/
def endO (P : Program) (d : Nat) (rs : List ResultVar) : Out → Option (MV × Sto)
  | some (.nrm, a, σ) | some (.ret, a, σ) => (resO P rs a σ).bind fun v => (v.res σ d).map fun v => (v, σ.cut d)
  | _ => none
def okCode (N : Nat) : Code → Bool
  | .region _ ops _ => okDst N ops
  | .seq x y | .cond _ x y => okCode N x && okCode N y
  | .block _ x | .loop x | .scope x => okCode N x
  | _ => true

/-- The evaluation of a call at depth d, with so many rounds. -/
def mev (C : Cfg) : Nat → Call
  | 0, _, _, _, _, _ => none
  | n + 1, lim, d, f, args, σ =>
    match C.prim f with
    | some p => p lim d args σ
    | none => match C.P.funcs[f]? with
      | some fn => match fn.body with
        | some c => if okCode fn.ntmps c = true then endO C.P d fn.results.toList (evCode C (mev C n) n lim d c (startA args) σ) else none
        | none => none
      | none => none

end Go.Mv
/- What an evaluation comes to, with whatever number of rounds: the rules by which code is gone through. -/
namespace Go.Mv
variable {C : Cfg} {lim d : Nat}

/-! ### More rounds tell the same -/
def Call.le (c c' : Call) : Prop := ∀ lim d f args σ r, c lim d f args σ = some r → c' lim d f args σ = some r

theorem evOp_mono {c c' : Call} (h : Call.le c c') {a : Nat → MV} {o : Oper} {σ : Sto} {r : MV × Sto} (he : evOp C c lim d a o σ = some r) : evOp C c' lim d a o σ = some r := by
  obtain ⟨dst, op, ty, pos, aft, gd⟩ := o
  cases op with
  | call k =>
    obtain ⟨callee, args, ts⟩ := k
    cases callee with
    | value f =>
      simp only [evOp] at *
      split at he
      · exact h _ _ _ _ _ _ he
      · simp at he
    | invoke _ _ => exact he
    | builtin b => exact he
  | slice t x lo hi mx => cases mx <;> exact he
  | makeMap t r => cases r <;> exact he
  | _ => exact he

theorem evOps_mono {c c' : Call} (h : Call.le c c') {ops : Array Oper} : ∀ (l : List Oper) {a : Nat → MV} {σ : Sto} {r : (Nat → MV) × Sto}, evOps C c lim d ops l a σ = some r → evOps C c' lim d ops l a σ = some r
  | [], _, _, _, he => he
  | o :: l, a, σ, r, he => by
    simp only [evOps] at *
    split at he
    · rename_i hw
      cases hx : evOp C c lim d a o σ with
      | none => simp [hx] at he
      | some x =>
        simp only [hx, Option.bind_some] at he
        simp only [evOp_mono h hx, Option.bind_some]
        exact evOps_mono h l he
    · exact evOps_mono h l he
    · simp at he

theorem evFree_mono {c c' : Call} (h : Call.le c c') {a : Nat → MV} {o : Oper} {σ : Sto} {r : MV} (he : evFree C c d a o σ = some r) : evFree C c' d a o σ = some r := by
  have key : ∀ {z : MV}, (evOp C c 0 d a o σ).map (·.1) = some z → (evOp C c' 0 d a o σ).map (·.1) = some z := fun hz => by
    obtain ⟨x, hx, rfl⟩ := Option.map_eq_some_iff.1 hz
    rw [evOp_mono h hx]
    rfl
  obtain ⟨dst, op, ty, pos, aft, gd⟩ := o
  cases op with
  | call k =>
    obtain ⟨callee, args, ts⟩ := k
    cases callee with
    | value f =>
      simp only [evFree] at *
      split at he
      · obtain ⟨x, hx, rfl⟩ := Option.map_eq_some_iff.1 he
        rw [h _ _ _ _ _ _ hx]
        rfl
      · simp at he
    | invoke _ _ => exact key he
    | builtin b => cases b <;> first | exact key he | exact he
  | buildSlice t n ps => exact he
  | alloc t => exact he
  | box t x => exact he
  | store t x v => exact he
  | makeMap t r => exact he
  | makeSlice t n c => exact he
  | _ => exact key he
theorem evOpsF_mono {c c' : Call} (h : Call.le c c') {ops : Array Oper} {σ : Sto} : ∀ (l : List Oper) {a : Nat → MV} {r : Nat → MV}, evOpsF C c d ops σ l a = some r → evOpsF C c' d ops σ l a = some r
  | [], _, _, he => he
  | o :: l, a, r, he => by
    simp only [evOpsF] at *
    split at he
    · split at he
      · rename_i hn
        rw [if_pos hn]
        exact evOpsF_mono h l he
      · rename_i hn
        rw [if_neg hn]
        obtain ⟨v, hv, he⟩ := Option.bind_eq_some_iff.1 he
        rw [evFree_mono h hv]
        exact evOpsF_mono h l he
    · exact evOpsF_mono h l he
    · simp at he
theorem evDraw_mono {c c' : Call} (h : Call.le c c') {ops : Array Oper} {a : Nat → MV} {σ : Sto} {r : (Nat → MV) × Sto} (he : evDraw C c lim d ops a σ = some r) : evDraw C c' lim d ops a σ = some r := by
  simp only [evDraw] at *
  obtain ⟨a1, h1, he⟩ := Option.bind_eq_some_iff.1 he
  obtain ⟨x, h2, he⟩ := Option.bind_eq_some_iff.1 he
  rw [evOpsF_mono h _ h1]
  simp only [Option.bind_some]
  rw [h2]
  exact evOps_mono h _ he

theorem chkH_mono {c c' : Call} (h : Call.le c c') {ops : Array Oper} {σ : Sto} {a : Nat → MV} {o : Oper} (hx : chkH C c d ops σ a o = true) : chkH C c' d ops σ a o = true := by
  unfold chkH at *
  split at hx
  · split at hx
    · rename_i v hv
      rw [evFree_mono h hv]
      exact hx
    · cases hx
  · rfl
  · cases hx
theorem chkI_mono {c c' : Call} (h : Call.le c c') {ops : Array Oper} {σ : Sto} {a : Nat → MV} {j : Nat} (hx : chkI C c d ops σ a j = true) : chkI C c' d ops σ a j = true := by
  unfold chkI at *
  split at hx
  · exact chkH_mono h hx
  · rfl
theorem evOpsV_mono {c c' : Call} (h : Call.le c c') {ops : Array Oper} : ∀ (l : List Oper) {i : Nat} {sf : List Nat} {a : Nat → MV} {σ : Sto} {r : (Nat → MV) × Sto}, evOpsV C c lim d ops l i sf a σ = some r → evOpsV C c' lim d ops l i sf a σ = some r
  | [], _, _, _, _, _, he => he
  | o :: l, i, sf, a, σ, r, he => by
    simp only [evOpsV] at *
    split at he
    · split at he
      · rename_i hf
        rw [if_pos hf]
        obtain ⟨x, hx, he⟩ := Option.bind_eq_some_iff.1 he
        rw [evOp_mono h hx]
        simp only [Option.bind_some]
        split at he
        · rename_i hk
          rw [if_pos (List.all_eq_true.2 fun o ho => chkI_mono h (List.all_eq_true.1 hk o ho))]
          exact evOpsV_mono h l he
        · cases he
      · rename_i hf
        rw [if_neg hf]
        obtain ⟨v, hv, he⟩ := Option.bind_eq_some_iff.1 he
        rw [evFree_mono h hv]
        exact evOpsV_mono h l he
    · split at he
      · rename_i hf
        rw [if_pos hf]
        exact evOpsV_mono h l he
      · rename_i hf
        rw [if_neg hf]
        exact evOpsV_mono h l he
    · cases he
theorem evHot_mono {c c' : Call} (h : Call.le c c') {ops : Array Oper} {a : Nat → MV} {σ : Sto} {r : (Nat → MV) × Sto} (he : evHot C c lim d ops a σ = some r) : evHot C c' lim d ops a σ = some r := evOpsV_mono h _ he

theorem evOpsL_mono {c c' : Call} (h : Call.le c c') {ops : Array Oper} {av : List Loc} : ∀ (l : List Oper) {a : Nat → MV} {σ : Sto} {r : (Nat → MV) × Sto}, evOpsL C c lim d ops av l a σ = some r → evOpsL C c' lim d ops av l a σ = some r
  | [], _, _, _, he => he
  | o :: l, a, σ, r, he => by
    simp only [evOpsL] at *
    split at he
    · split at he
      · rename_i hk
        rw [if_pos hk]
        obtain ⟨x, hx, he⟩ := Option.bind_eq_some_iff.1 he
        rw [evOp_mono h hx]
        exact evOpsL_mono h l he
      · cases he
    · exact evOpsL_mono h l he
    · cases he
theorem evLoose_mono {c c' : Call} (h : Call.le c c') {ops : Array Oper} {a : Nat → MV} {σ : Sto} {r : (Nat → MV) × Sto} (he : evLoose C c lim d ops a σ = some r) : evLoose C c' lim d ops a σ = some r := by
  simp only [evLoose] at *
  obtain ⟨a1, h1, he⟩ := Option.bind_eq_some_iff.1 he
  rw [evOpsF_mono h _ h1]
  simp only [Option.bind_some]
  split at he
  · rename_i hk
    rw [if_pos hk]
    obtain ⟨x, h2, he⟩ := Option.bind_eq_some_iff.1 he
    rw [h2]
    exact evOpsL_mono h _ he
  · cases he

theorem evLoop_mono {b b' : (Nat → MV) → Sto → Out} (h : ∀ a σ r, b a σ = some r → b' a σ = some r) : ∀ (n m : Nat), n ≤ m → ∀ {a : Nat → MV} {σ : Sto} {r : Ex × (Nat → MV) × Sto}, evLoop b n a σ = some r → evLoop b' m a σ = some r
  | 0, _, _, _, _, _, he => by simp [evLoop] at he
  | n + 1, 0, hm, _, _, _, _ => by omega
  | n + 1, m + 1, hm, a, σ, r, he => by
    simp only [evLoop] at *
    cases hx : b a σ with
    | none => simp [hx] at he
    | some x =>
      obtain ⟨e, a', σ'⟩ := x
      simp only [hx] at he
      simp only [h _ _ _ hx]
      cases e with
      | nrm => exact evLoop_mono h n m (by omega) he
      | exit id => exact he
      | ret => exact he
      | goto l => exact he

theorem evScope_none {has : Nat → Bool} {go : Nat → (Nat → MV) → Sto → Out} : ∀ n, evScope has go n none = none
  | 0 => rfl
  | _ + 1 => rfl
theorem evScope_mono {has : Nat → Bool} {go go' : Nat → (Nat → MV) → Sto → Out} (h : ∀ l a σ r, go l a σ = some r → go' l a σ = some r) : ∀ (n m : Nat), n ≤ m → ∀ {x r : Ex × (Nat → MV) × Sto}, evScope has go n (some x) = some r → evScope has go' m (some x) = some r := by
  intro n
  induction n with
  | zero =>
    intro m _ x r he
    obtain ⟨e, a, σ⟩ := x
    cases e with
    | goto l =>
      simp only [evScope] at he
      split at he
      · cases he
      · rename_i hl
        cases m <;> simp only [evScope] <;> rw [if_neg hl] <;> exact he
    | nrm => simp only [evScope] at he; cases m <;> simp only [evScope] <;> exact he
    | exit id => simp only [evScope] at he; cases m <;> simp only [evScope] <;> exact he
    | ret => simp only [evScope] at he; cases m <;> simp only [evScope] <;> exact he
  | succ n ih =>
    intro m hm x r he
    obtain ⟨e, a, σ⟩ := x
    cases m with
    | zero => omega
    | succ m =>
      cases e with
      | goto l =>
        simp only [evScope] at he ⊢
        split at he
        · rename_i hl
          rw [if_pos hl]
          cases hg : go l a σ with
          | none => rw [hg, evScope_none] at he; cases he
          | some y =>
            rw [hg] at he
            rw [h _ _ _ _ hg]
            exact ih m (by omega) he
        · rename_i hl
          rw [if_neg hl]
          exact he
      | nrm => simp only [evScope] at he ⊢; exact he
      | exit id => simp only [evScope] at he ⊢; exact he
      | ret => simp only [evScope] at he ⊢; exact he

mutual
theorem evCode_mono {c c' : Call} (h : Call.le c c') {n m : Nat} (hm : n ≤ m) : ∀ (x : Code) {a : Nat → MV} {σ : Sto} {r : Ex × (Nat → MV) × Sto}, evCode C c n lim d x a σ = some r → evCode C c' m lim d x a σ = some r
  | .skip, _, _, _, he => he
  | .label _, _, _, _, he => he
  | .region _ ops false, a, σ, r, he => by
    simp only [evCode, Option.map_eq_some_iff] at *
    obtain ⟨x, hx, hr⟩ := he
    exact ⟨x, evOps_mono h _ hx, hr⟩
  | .region _ ops true, a, σ, r, he => by
    simp only [evCode, Option.map_eq_some_iff] at *
    obtain ⟨x, hx, hr⟩ := he
    refine ⟨x, ?_, hr⟩
    split at hx
    · rename_i hh
      rw [if_pos hh]
      split at hx
      · rename_i hk; rw [if_pos hk]; exact evHot_mono h hx
      · cases hx
    · rename_i hh
      rw [if_neg hh]
      split at hx
      · rename_i hk; rw [if_pos hk]; exact evDraw_mono h hx
      · rename_i hk
        rw [if_neg hk]
        split at hx
        · rename_i hl; rw [if_pos hl]; exact evLoose_mono h hx
        · cases hx
  | .seq x y, a, σ, r, he => by
    simp only [evCode] at *
    cases hx : evCode C c n lim d x a σ with
    | none => simp [hx] at he
    | some z =>
      obtain ⟨e, a', σ'⟩ := z
      simp only [hx] at he
      simp only [evCode_mono h hm x hx]
      cases e with
      | nrm => exact evCode_mono h hm y he
      | exit id => exact he
      | ret => exact he
      | goto l => exact he
  | .cond v x y, a, σ, r, he => by
    simp only [evCode] at *
    cases hv : valO a v <;> rw [hv] at he <;> try (simp at he; done)
    rename_i b
    cases b
    · exact evCode_mono h hm y he
    · exact evCode_mono h hm x he
  | .block id x, a, σ, r, he => by
    simp only [evCode] at *
    cases hx : evCode C c n lim d x a σ with
    | none => simp [hx] at he
    | some z =>
      rw [hx] at he
      rw [evCode_mono h hm x hx]
      exact he
  | .loop x, a, σ, r, he => evLoop_mono (fun a σ r hr => evCode_mono h hm x hr) n m hm he
  | .exit _, _, _, _, he => he
  | .ret, _, _, _, he => he
  | .goto _, _, _, _, he => by simp only [evCode] at *; exact he
  | .scope x, a, σ, r, he => by
    simp only [evCode] at *
    cases hx : evCode C c n lim d x a σ with
    | none => rw [hx] at he; cases n <;> simp [evScope] at he
    | some z =>
      rw [hx] at he
      rw [evCode_mono h hm x hx]
      exact evScope_mono (fun l a σ r hr => evAt_mono h hm x l hr) n m hm he
  | .rangeFunc .., _, _, _, he => by simp [evCode] at he
  | .refuse _, _, _, _, he => by simp [evCode] at he
theorem evAt_mono {c c' : Call} (h : Call.le c c') {n m : Nat} (hm : n ≤ m) : ∀ (x : Code) (l : Nat) {a : Nat → MV} {σ : Sto} {r : Ex × (Nat → MV) × Sto}, evAt C c n lim d x l a σ = some r → evAt C c' m lim d x l a σ = some r
  | .seq x y, l, a, σ, r, he => by
    simp only [evAt] at *
    split at he
    · rename_i hl
      rw [if_pos hl]
      cases hx : evAt C c n lim d x l a σ with
      | none => simp [hx] at he
      | some z =>
        obtain ⟨e, a', σ'⟩ := z
        simp only [hx] at he
        simp only [evAt_mono h hm x l hx]
        cases e with
        | nrm => exact evCode_mono h hm y he
        | exit id => exact he
        | ret => exact he
        | goto l => exact he
    · rename_i hl
      rw [if_neg hl]
      exact evAt_mono h hm y l he
  | .label l', l, a, σ, r, he => by simp only [evAt] at *; exact he
  | .skip, _, _, _, _, he => by simp [evAt] at he
  | .region .., _, _, _, _, he => by simp [evAt] at he
  | .cond .., _, _, _, _, he => by simp [evAt] at he
  | .block .., _, _, _, _, he => by simp [evAt] at he
  | .loop _, _, _, _, _, he => by simp [evAt] at he
  | .exit _, _, _, _, _, he => by simp [evAt] at he
  | .ret, _, _, _, _, he => by simp [evAt] at he
  | .goto _, _, _, _, _, he => by simp [evAt] at he
  | .scope _, _, _, _, _, he => by simp [evAt] at he
  | .rangeFunc .., _, _, _, _, he => by simp [evAt] at he
  | .refuse _, _, _, _, _, he => by simp [evAt] at he
end

theorem endO_mono {P : Program} {rs : List ResultVar} {x y : Out} (h : ∀ r, x = some r → y = some r) {r : MV × Sto} (he : endO P d rs x = some r) : endO P d rs y = some r := by
  cases hx : x with
  | none => simp [hx, endO] at he
  | some z => rw [h z hx, ← hx]; exact he

theorem mev_step (n : Nat) : Call.le (mev C n) (mev C (n + 1)) := by
  induction n with
  | zero => intro lim d f args σ r h; cases h
  | succ n ih =>
    intro lim d f args σ r h
    simp only [mev] at h ⊢
    split at h
    · rename_i p hp; simp only [hp] at *; exact h
    · rename_i hp
      split at h
      · rename_i fn hf
        split at h
        · rename_i c hc
          split at h
          · rename_i hk
            rw [if_pos hk]
            exact endO_mono (fun r hr => evCode_mono ih (Nat.le_succ n) c hr) h
          · simp at h
        · simp at h
      · simp at h
theorem mev_le {n m : Nat} (h : n ≤ m) : Call.le (mev C n) (mev C m) := by
  induction h with
  | refl => exact fun _ _ _ _ _ _ h => h
  | step _ ih => exact fun lim d f args σ r hr => mev_step _ lim d f args σ r (ih lim d f args σ r hr)

/-! ### What is come to -/
def Opt {α : Type} (r : Option α) (Q : α → Prop) : Prop := ∃ x, r = some x ∧ Q x
theorem Opt_some {α : Type} (x : α) (Q : α → Prop) : Opt (some x) Q ↔ Q x := by simp [Opt]
theorem Opt_none {α : Type} (Q : α → Prop) : Opt (none : Option α) Q ↔ False := by simp [Opt]
theorem Opt_ite {α : Type} (c : Prop) [Decidable c] (x : Option α) (Q : α → Prop) : Opt (if c then x else none) Q ↔ c ∧ Opt x Q := by
  by_cases h : c <;> simp [h, Opt]
theorem Opt_map {α β : Type} (r : Option α) (f : α → β) (Q : β → Prop) : Opt (r.map f) Q ↔ Opt r fun x => Q (f x) := by
  cases r <;> simp [Opt]
theorem Opt_bind {α β : Type} (r : Option α) (f : α → Option β) (Q : β → Prop) : Opt (r.bind f) Q ↔ Opt r fun x => Opt (f x) Q := by
  cases r <;> simp [Opt]
theorem Opt_mono {α : Type} {r : Option α} {Q Q' : α → Prop} (h : Opt r Q) (hq : ∀ x, Q x → Q' x) : Opt r Q' := by
  obtain ⟨x, hx, h⟩ := h; exact ⟨x, hx, hq x h⟩

/-- A call. -/
def WF (C : Cfg) (lim d : Nat) (f : FuncId) (args : List MV) (σ : Sto) (Q : MV → Sto → Prop) : Prop := ∃ n, Opt (mev C n lim d f args σ) fun x => Q x.1 x.2
/-- A piece of code. -/
def W (C : Cfg) (lim d : Nat) (c : Code) (a : Nat → MV) (σ : Sto) (Q : Ex → (Nat → MV) → Sto → Prop) : Prop := ∃ n, Opt (evCode C (mev C n) n lim d c a σ) fun x => Q x.1 x.2.1 x.2.2
def WO (C : Cfg) (lim d : Nat) (ops : Array Oper) (l : List Oper) (a : Nat → MV) (σ : Sto) (Q : (Nat → MV) → Sto → Prop) : Prop := ∃ n, Opt (evOps C (mev C n) lim d ops l a σ) fun x => Q x.1 x.2
def W1 (C : Cfg) (lim d : Nat) (a : Nat → MV) (o : Oper) (σ : Sto) (Q : MV → Sto → Prop) : Prop := ∃ n, Opt (evOp C (mev C n) lim d a o σ) fun x => Q x.1 x.2

theorem WF.mono {f : FuncId} {args : List MV} {σ : Sto} {Q Q' : MV → Sto → Prop} (h : WF C lim d f args σ Q) (hq : ∀ v σ, Q v σ → Q' v σ) : WF C lim d f args σ Q' := by
  obtain ⟨n, h⟩ := h; exact ⟨n, Opt_mono h fun _ h => hq _ _ h⟩
theorem W.mono {c : Code} {a : Nat → MV} {σ : Sto} {Q Q' : Ex → (Nat → MV) → Sto → Prop} (h : W C lim d c a σ Q) (hq : ∀ e a σ, Q e a σ → Q' e a σ) : W C lim d c a σ Q' := by
  obtain ⟨n, h⟩ := h; exact ⟨n, Opt_mono h fun _ h => hq _ _ _ h⟩

section
variable {a : Nat → MV} {σ : Sto} {Q : Ex → (Nat → MV) → Sto → Prop}
theorem W_skip : W C lim d .skip a σ Q ↔ Q .nrm a σ := by simp [W, evCode, Opt]
theorem W_label {l : Nat} : W C lim d (.label l) a σ Q ↔ Q .nrm a σ := by simp [W, evCode, Opt]
theorem W_exit {id : Nat} : W C lim d (.exit id) a σ Q ↔ Q (.exit id) a σ := by simp [W, evCode, Opt]
theorem W_ret : W C lim d .ret a σ Q ↔ Q .ret a σ := by simp [W, evCode, Opt]
theorem W_region {id : Nat} {ops : Array Oper} : W C lim d (.region id ops false) a σ Q ↔ WO C lim d ops ops.toList a σ (Q .nrm) := by
  simp only [W, evCode, WO, Opt_map]
/-- The free operations; the variables that are made; the rest. -/
def WD (C : Cfg) (lim d : Nat) (ops : Array Oper) (a : Nat → MV) (σ : Sto) (Q : (Nat → MV) → Sto → Prop) : Prop := ∃ n, Opt (evDraw C (mev C n) lim d ops a σ) fun x => Q x.1 x.2
theorem W_draw {id : Nat} {ops : Array Oper} (hk : okDraw ops = true) (hh : hotB C ops = false) : W C lim d (.region id ops true) a σ Q ↔ WD C lim d ops a σ (Q .nrm) := by
  simp only [W, evCode, WD, Opt_map, hk, hh, Bool.false_eq_true, if_false, if_true]
def WL (C : Cfg) (lim d : Nat) (ops : Array Oper) (a : Nat → MV) (σ : Sto) (Q : (Nat → MV) → Sto → Prop) : Prop := ∃ n, Opt (evLoose C (mev C n) lim d ops a σ) fun x => Q x.1 x.2
theorem W_loose {id : Nat} {ops : Array Oper} (hk : okDraw ops = false) (hh : hotB C ops = false) (hl : okLoose ops = true) : W C lim d (.region id ops true) a σ Q ↔ WL C lim d ops a σ (Q .nrm) := by
  simp only [W, evCode, WL, Opt_map, hk, hh, hl, Bool.false_eq_true, if_false, if_true]
theorem W_cond {c : Operand} {x y : Code} {b : Bool} (hc : valO a c = .bool b) : W C lim d (.cond c x y) a σ Q ↔ if b = true then W C lim d x a σ Q else W C lim d y a σ Q := by
  simp only [W, evCode, hc]
  cases b <;> simp
/-- What follows, if the code falls through. -/
def andThen (K : (Nat → MV) → Sto → Prop) (Q : Ex → (Nat → MV) → Sto → Prop) : Ex → (Nat → MV) → Sto → Prop
  | .nrm, a, σ => K a σ
  | e, a, σ => Q e a σ
theorem andThen_nrm (K : (Nat → MV) → Sto → Prop) : andThen K Q .nrm a σ = K a σ := rfl
theorem andThen_ret (K : (Nat → MV) → Sto → Prop) : andThen K Q .ret a σ = Q .ret a σ := rfl
theorem andThen_goto (K : (Nat → MV) → Sto → Prop) (l : Nat) : andThen K Q (.goto l) a σ = Q (.goto l) a σ := rfl
theorem andThen_exit (K : (Nat → MV) → Sto → Prop) (id : Nat) : andThen K Q (.exit id) a σ = Q (.exit id) a σ := rfl

theorem W_seq {x y : Code} : W C lim d (.seq x y) a σ Q ↔ W C lim d x a σ (andThen (fun a σ => W C lim d y a σ Q) Q) := by
  constructor
  · rintro ⟨n, r, hr, hq⟩
    simp only [evCode] at hr
    cases hx : evCode C (mev C n) n lim d x a σ with
    | none => simp [hx] at hr
    | some z =>
      obtain ⟨e, a', σ'⟩ := z
      simp only [hx] at hr
      refine ⟨n, _, hx, ?_⟩
      cases e with
      | nrm => exact ⟨n, r, hr, hq⟩
      | exit id => cases hr; exact hq
      | ret => cases hr; exact hq
      | goto l => cases hr; exact hq
  · rintro ⟨n, ⟨e, a', σ'⟩, hx, hq⟩
    cases e with
    | nrm =>
      obtain ⟨m, r, hr, hq⟩ := hq
      refine ⟨max n m, r, ?_, hq⟩
      simp only [evCode]
      rw [evCode_mono (mev_le (Nat.le_max_left n m)) (Nat.le_max_left n m) x hx]
      exact evCode_mono (mev_le (Nat.le_max_right n m)) (Nat.le_max_right n m) y hr
    | exit id => exact ⟨n, _, by simp only [evCode, hx], hq⟩
    | ret => exact ⟨n, _, by simp only [evCode, hx], hq⟩
    | goto l => exact ⟨n, _, by simp only [evCode, hx], hq⟩

def blk (id : Nat) (Q : Ex → (Nat → MV) → Sto → Prop) : Ex → (Nat → MV) → Sto → Prop
  | .exit id', a, σ => if id' = id then Q .nrm a σ else Q (.exit id') a σ
  | e, a, σ => Q e a σ
theorem blk_nrm (id : Nat) : blk id Q .nrm a σ = Q .nrm a σ := rfl
theorem blk_goto (id l : Nat) : blk id Q (.goto l) a σ = Q (.goto l) a σ := rfl
theorem blk_ret (id : Nat) : blk id Q .ret a σ = Q .ret a σ := rfl
theorem blk_exit (id id' : Nat) : blk id Q (.exit id') a σ = if id' = id then Q .nrm a σ else Q (.exit id') a σ := rfl
theorem W_block {id : Nat} {x : Code} : W C lim d (.block id x) a σ Q ↔ W C lim d x a σ (blk id Q) := by
  simp only [W, evCode]
  refine exists_congr fun n => ?_
  cases hx : evCode C (mev C n) n lim d x a σ with
  | none => simp [Opt]
  | some z =>
    obtain ⟨e, a', σ'⟩ := z
    cases e <;> simp only [Opt_some, blk_nrm, blk_ret, blk_exit, blk_goto]
    split <;> simp [Opt_some]
theorem W_loop {x : Code} : W C lim d (.loop x) a σ Q ↔ W C lim d x a σ (andThen (fun a σ => W C lim d (.loop x) a σ Q) Q) := by
  constructor
  · rintro ⟨n, r, hr, hq⟩
    cases n with
    | zero => simp [evCode, evLoop] at hr
    | succ n =>
      simp only [evCode, evLoop] at hr
      cases hx : evCode C (mev C (n + 1)) (n + 1) lim d x a σ with
      | none => simp [hx] at hr
      | some z =>
        obtain ⟨e, a', σ'⟩ := z
        simp only [hx] at hr
        refine ⟨n + 1, _, hx, ?_⟩
        cases e with
        | nrm => exact ⟨n + 1, r, by simp only [evCode]; exact evLoop_mono (fun _ _ _ h => h) n (n + 1) (Nat.le_succ n) hr, hq⟩
        | exit id => cases hr; exact hq
        | ret => cases hr; exact hq
        | goto l => cases hr; exact hq
  · rintro ⟨n, ⟨e, a', σ'⟩, hx, hq⟩
    cases e with
    | nrm =>
      obtain ⟨m, r, hr, hq⟩ := hq
      refine ⟨max n m + 1, r, ?_, hq⟩
      have h1 : n ≤ max n m + 1 := by omega
      have h2 : m ≤ max n m := by omega
      simp only [evCode, evLoop]
      rw [evCode_mono (mev_le h1) h1 x hx]
      simp only [evCode] at hr
      exact evLoop_mono (fun _ _ _ h => evCode_mono (mev_le (by omega)) (by omega) x h) m _ h2 hr
    | exit id => exact ⟨n + 1, _, by simp only [evCode, evLoop, evCode_mono (mev_le (Nat.le_succ n)) (Nat.le_succ n) x hx], hq⟩
    | ret => exact ⟨n + 1, _, by simp only [evCode, evLoop, evCode_mono (mev_le (Nat.le_succ n)) (Nat.le_succ n) x hx], hq⟩
    | goto l => exact ⟨n + 1, _, by simp only [evCode, evLoop, evCode_mono (mev_le (Nat.le_succ n)) (Nat.le_succ n) x hx], hq⟩

/-! Scopes -/
theorem W_goto {l : Nat} : W C lim d (.goto l) a σ Q ↔ Q (.goto l) a σ := by simp [W, evCode, Opt]
def WAt (C : Cfg) (lim d : Nat) (c : Code) (l : Nat) (a : Nat → MV) (σ : Sto) (Q : Ex → (Nat → MV) → Sto → Prop) : Prop := ∃ n, Opt (evAt C (mev C n) n lim d c l a σ) fun x => Q x.1 x.2.1 x.2.2
theorem WAt_label {l l' : Nat} : WAt C lim d (.label l') l a σ Q ↔ l' = l ∧ Q .nrm a σ := by
  simp only [WAt, evAt]
  split <;> simp_all [Opt]
theorem WAt_skip {x y : Code} {l : Nat} (h : (findLabel x l).isSome = false) : WAt C lim d (.seq x y) l a σ Q ↔ WAt C lim d y l a σ Q := by
  simp only [WAt, evAt, h, Bool.false_eq_true, if_false]
theorem WAt_in {x y : Code} {l : Nat} (h : (findLabel x l).isSome = true) : WAt C lim d (.seq x y) l a σ Q ↔ WAt C lim d x l a σ (andThen (fun a σ => W C lim d y a σ Q) Q) := by
  constructor
  · rintro ⟨n, r, hr, hq⟩
    simp only [evAt, if_pos h] at hr
    cases hx : evAt C (mev C n) n lim d x l a σ with
    | none => simp [hx] at hr
    | some z =>
      obtain ⟨e, a', σ'⟩ := z
      simp only [hx] at hr
      refine ⟨n, _, hx, ?_⟩
      cases e with
      | nrm => exact ⟨n, r, hr, hq⟩
      | exit id => cases hr; exact hq
      | ret => cases hr; exact hq
      | goto l => cases hr; exact hq
  · rintro ⟨n, ⟨e, a', σ'⟩, hx, hq⟩
    cases e with
    | nrm =>
      obtain ⟨m, r, hr, hq⟩ := hq
      refine ⟨max n m, r, ?_, hq⟩
      simp only [evAt, if_pos h]
      rw [evAt_mono (mev_le (Nat.le_max_left n m)) (Nat.le_max_left n m) x l hx]
      exact evCode_mono (mev_le (Nat.le_max_right n m)) (Nat.le_max_right n m) y hr
    | exit id => exact ⟨n, _, by simp only [evAt, if_pos h, hx], hq⟩
    | ret => exact ⟨n, _, by simp only [evAt, if_pos h, hx], hq⟩
    | goto l' => exact ⟨n, _, by simp only [evAt, if_pos h, hx], hq⟩
/-- What is asked at an exit within a scope: what is asked behind the scope, or, at a jump to one of its labels, that of the code from there on. -/
inductive Jmp (C : Cfg) (lim d : Nat) (c : Code) (Q : Ex → (Nat → MV) → Sto → Prop) : Ex → (Nat → MV) → Sto → Prop
  | nrm {a : Nat → MV} {σ : Sto} : Q .nrm a σ → Jmp C lim d c Q .nrm a σ
  | ret {a : Nat → MV} {σ : Sto} : Q .ret a σ → Jmp C lim d c Q .ret a σ
  | exit {id : Nat} {a : Nat → MV} {σ : Sto} : Q (.exit id) a σ → Jmp C lim d c Q (.exit id) a σ
  | out {l : Nat} {a : Nat → MV} {σ : Sto} : (findLabel c l).isSome = false → Q (.goto l) a σ → Jmp C lim d c Q (.goto l) a σ
  | go {l : Nat} {a : Nat → MV} {σ : Sto} {n : Nat} {e : Ex} {a' : Nat → MV} {σ' : Sto} : (findLabel c l).isSome = true → evAt C (mev C n) n lim d c l a σ = some (e, a', σ') → Jmp C lim d c Q e a' σ' → Jmp C lim d c Q (.goto l) a σ
theorem Jmp_nrm {c : Code} : Jmp C lim d c Q .nrm a σ ↔ Q .nrm a σ := ⟨fun h => by cases h; assumption, .nrm⟩
theorem Jmp_ret {c : Code} : Jmp C lim d c Q .ret a σ ↔ Q .ret a σ := ⟨fun h => by cases h; assumption, .ret⟩
theorem Jmp_exit {c : Code} {id : Nat} : Jmp C lim d c Q (.exit id) a σ ↔ Q (.exit id) a σ := ⟨fun h => by cases h; assumption, .exit⟩
theorem Jmp_out {c : Code} {l : Nat} (hl : (findLabel c l).isSome = false) : Jmp C lim d c Q (.goto l) a σ ↔ Q (.goto l) a σ :=
  ⟨fun h => (by
    cases h with
    | out _ h => exact h
    | go h => rw [hl] at h; cases h), Jmp.out hl⟩
theorem Jmp_go {c : Code} {l : Nat} (hl : (findLabel c l).isSome = true) : Jmp C lim d c Q (.goto l) a σ ↔ WAt C lim d c l a σ (Jmp C lim d c Q) :=
  ⟨fun h => (by
    cases h with
    | out h => rw [hl] at h; cases h
    | go _ h1 h2 => exact ⟨_, _, h1, h2⟩), fun ⟨_, ⟨_, _, _⟩, h1, h2⟩ => Jmp.go hl h1 h2⟩
theorem W_scope {c : Code} : W C lim d (.scope c) a σ Q ↔ W C lim d c a σ (Jmp C lim d c Q) := by
  constructor
  · rintro ⟨n, ⟨e, a', σ'⟩, hr, hq⟩
    simp only [evCode] at hr
    have key : ∀ (m : Nat) {e0 : Ex} {a0 : Nat → MV} {s0 : Sto}, evScope (fun l => (findLabel c l).isSome) (fun l a σ => evAt C (mev C n) n lim d c l a σ) m (some (e0, a0, s0)) = some (e, a', σ') → Jmp C lim d c Q e0 a0 s0 := by
      intro m
      induction m with
      | zero =>
        intro e0 a0 s0 he
        cases e0 <;> simp only [evScope] at he
        · cases he; exact .nrm hq
        · cases he; exact .exit hq
        · cases he; exact .ret hq
        · split at he
          · cases he
          · rename_i hl
            cases he
            exact .out (by simpa using hl) hq
      | succ m ih =>
        intro e0 a0 s0 he
        cases e0 <;> simp only [evScope] at he
        · cases he; exact .nrm hq
        · cases he; exact .exit hq
        · cases he; exact .ret hq
        · rename_i l
          split at he
          · rename_i hl
            cases hz : evAt C (mev C n) n lim d c l a0 s0 with
            | none => rw [hz, evScope_none] at he; cases he
            | some z =>
              obtain ⟨e1, a1, s1⟩ := z
              rw [hz] at he
              exact .go hl hz (ih he)
          · rename_i hl
            cases he
            exact .out (by simpa using hl) hq
    cases hx : evCode C (mev C n) n lim d c a σ with
    | none => rw [hx, evScope_none] at hr; cases hr
    | some z =>
      obtain ⟨e1, a1, s1⟩ := z
      rw [hx] at hr
      exact ⟨n, _, hx, key n hr⟩
  · rintro ⟨n, ⟨e, a', σ'⟩, hx, hj⟩
    have key : ∀ {e : Ex} {a' : Nat → MV} {σ' : Sto}, Jmp C lim d c Q e a' σ' → ∃ m r, (∀ k, m ≤ k → evScope (fun l => (findLabel c l).isSome) (fun l a σ => evAt C (mev C k) k lim d c l a σ) m (some (e, a', σ')) = some r) ∧ Q r.1 r.2.1 r.2.2 := by
      intro e a' σ' hj
      induction hj with
      | nrm h => exact ⟨0, _, fun _ _ => rfl, h⟩
      | ret h => exact ⟨0, _, fun _ _ => rfl, h⟩
      | exit h => exact ⟨0, _, fun _ _ => rfl, h⟩
      | @out l a σ hl h => exact ⟨0, (.goto l, a, σ), fun _ _ => by simp only [evScope, hl, Bool.false_eq_true, if_false], h⟩
      | @go l _ _ n' _ _ _ hl hz _ ih =>
        obtain ⟨m, r, hr, hq⟩ := ih
        refine ⟨max m n' + 1, r, fun k hk => ?_, hq⟩
        simp only [evScope, hl, if_true]
        rw [evAt_mono (mev_le (by omega)) (by omega) c l hz]
        exact evScope_mono (fun _ _ _ _ h => h) m (max m n') (by omega) (hr k (by omega))
    obtain ⟨m, r, hr, hq⟩ := key hj
    refine ⟨max n m, r, ?_, hq⟩
    simp only [evCode]
    rw [evCode_mono (mev_le (Nat.le_max_left n m)) (Nat.le_max_left n m) c hx]
    exact evScope_mono (fun _ _ _ _ h => h) m (max n m) (by omega) (hr _ (by omega))
end

section
variable {a : Nat → MV} {σ : Sto} {ops : Array Oper} {Q : (Nat → MV) → Sto → Prop} {o : Oper} {l : List Oper}
theorem WO_nil : WO C lim d ops [] a σ Q ↔ Q a σ := by simp [WO, evOps, Opt]
theorem WO_true (hw : want ops a o = some true) : WO C lim d ops (o :: l) a σ Q ↔ W1 C lim d a o σ fun v σ => WO C lim d ops l (putD a o.dst v) σ Q := by
  constructor
  · rintro ⟨n, r, hr, hq⟩
    simp only [evOps, hw] at hr
    cases hx : evOp C (mev C n) lim d a o σ with
    | none => simp [hx] at hr
    | some z =>
      simp only [hx, Option.bind_some] at hr
      exact ⟨n, z, hx, n, r, hr, hq⟩
  · rintro ⟨n, z, hx, m, r, hr, hq⟩
    refine ⟨max n m, r, ?_, hq⟩
    simp only [evOps, hw]
    rw [evOp_mono (mev_le (Nat.le_max_left n m)) hx]
    exact evOps_mono (mev_le (Nat.le_max_right n m)) l hr
theorem WO_false (hw : want ops a o = some false) : WO C lim d ops (o :: l) a σ Q ↔ WO C lim d ops l (putD a o.dst .undef) σ Q := by
  simp only [WO, evOps, hw]
theorem WO_cons : WO C lim d ops (o :: l) a σ Q ↔ Opt (want ops a o) fun b => if b = true then W1 C lim d a o σ (fun v σ => WO C lim d ops l (putD a o.dst v) σ Q) else WO C lim d ops l (putD a o.dst .undef) σ Q := by
  cases hw : want ops a o with
  | none => simp [Opt, WO, evOps, hw]
  | some b => cases b <;> simp [Opt, WO_true, WO_false, hw]
end

section
variable {a : Nat → MV} {σ : Sto} {Q : MV → Sto → Prop} {dst : Option Tmp} {ty : TypeId} {pos : String} {aft : Array Edge} {gd : Option (Nat × Bool)}
theorem W1_of {o : Oper} {r : Option (MV × Sto)} (h : ∀ call, evOp C call lim d a o σ = r) : W1 C lim d a o σ Q ↔ Opt r fun x => Q x.1 x.2 := by
  simp only [W1, h, exists_const]
theorem W1_pure {o : Oper} {r : Option MV} (h : ∀ call, evOp C call lim d a o σ = r.map fun v => (v, σ)) : W1 C lim d a o σ Q ↔ Opt r fun v => Q v σ :=
  (W1_of h).trans (by simp only [Opt_map])
theorem W1_move {x : Operand} : W1 C lim d a ⟨dst, .move x, ty, pos, aft, gd⟩ σ Q ↔ Q (valO a x) σ := (W1_of fun _ => rfl).trans (Opt_some ..)
theorem W1_assign {x : Operand} : W1 C lim d a ⟨dst, .assign x, ty, pos, aft, gd⟩ σ Q ↔ Q (valO a x) σ := (W1_of fun _ => rfl).trans (Opt_some ..)
theorem W1_pick {c x y : Operand} {b : Bool} (hc : valO a c = .bool b) : W1 C lim d a ⟨dst, .pick c x y, ty, pos, aft, gd⟩ σ Q ↔ Q (if b = true then valO a x else valO a y) σ :=
  (W1_of fun _ => by simp only [evOp, hc]; rfl).trans (Opt_some ..)
theorem W1_alloc {t : TypeId} : W1 C lim d a ⟨dst, .alloc t, ty, pos, aft, gd⟩ σ Q ↔ Opt (zer C.P t) fun z => Opt z.cells fun cs => Opt (allocU C lim d t dst (locT C t cs.length dst) cs σ) fun x => Q x.1 x.2 :=
  (W1_of (r := (zer C.P t).bind fun z => z.cells.bind fun cs => allocU C lim d t dst (locT C t cs.length dst) cs σ) fun _ => rfl).trans (by simp only [Opt_bind])
theorem W1_makeMap {t : TypeId} : W1 C lim d a ⟨dst, .makeMap t none, ty, pos, aft, gd⟩ σ Q ↔ Q .junk σ := (W1_of fun _ => rfl).trans (Opt_some ..)
theorem W1_makeSlice {t : TypeId} {n c : Operand} : W1 C lim d a ⟨dst, .makeSlice t n c, ty, pos, aft, gd⟩ σ Q ↔ Opt (mkX C lim d (dstT dst) t σ (valO a n) (valO a c)) fun x => Q x.1 x.2 := W1_of fun _ => rfl
theorem allocU_z {t : TypeId} {o : Option Tmp} {lt : Nat} {cs : List MV} (h : C.up t (dstT o) = 0) : allocU C lim d t o lt cs σ = some (allocO σ d lt cs) := by
  unfold allocU
  rw [h, if_pos (.inl rfl)]
  rfl
theorem boxU_z {t : TypeId} {o : Option Tmp} {lt : Nat} {cs : List MV} {σ : Sto} (h : C.up t (dstT o) = 0) : boxU C lim d t o lt cs σ = some (allocO σ d lt cs) := by
  unfold boxU
  rw [if_pos h]
theorem W1_box {t : TypeId} {x : Operand} : W1 C lim d a ⟨dst, .box t x, ty, pos, aft, gd⟩ σ Q ↔ Opt (valO a x).cells fun cs => Opt (boxU C lim d t dst (locT C t cs.length dst) cs σ) fun x => Q x.1 x.2 :=
  (W1_of (r := (valO a x).cells.bind fun cs => boxU C lim d t dst (locT C t cs.length dst) cs σ) fun _ => rfl).trans (by simp only [Opt_bind])
theorem W1_build {t : TypeId} {ps : Array (Nat × Operand)} : W1 C lim d a ⟨dst, .build t ps, ty, pos, aft, gd⟩ σ Q ↔ Opt (buildO C.P t (ps.toList.map fun p => (p.1, valO a p.2))) fun v => Q v σ := W1_pure fun _ => rfl
theorem W1_buildSlice {t : TypeId} {n : Nat} {ps : Array (Nat × Operand)} : W1 C lim d a ⟨dst, .buildSlice t n ps, ty, pos, aft, gd⟩ σ Q ↔ Opt (bslO C.P d t n (ps.toList.map fun p => (p.1, valO a p.2)) σ) fun x => Q x.1 x.2 :=
  W1_of fun _ => rfl
theorem W1_load {t : TypeId} {x : Operand} : W1 C lim d a ⟨dst, .load t x, ty, pos, aft, gd⟩ σ Q ↔ Opt (ldO C.P σ t (valO a x)) fun v => Q v σ := W1_pure fun _ => rfl
theorem W1_store {t : TypeId} {x v : Operand} : W1 C lim d a ⟨dst, .store t x v, ty, pos, aft, gd⟩ σ Q ↔ Opt (if (C.kt t && dep d (valO a x)) = true then stK C.P lim d t σ (valO a x) (valO a v) else if (C.pt t && dep d (valO a x)) = true then stP C.P lim d t σ (valO a x) (valO a v) else stO C.P lim d t σ (valO a x) (valO a v)) fun σ' => Q .undef σ' :=
  (W1_of (r := (if (C.kt t && dep d (valO a x)) = true then stK C.P lim d t σ (valO a x) (valO a v) else if (C.pt t && dep d (valO a x)) = true then stP C.P lim d t σ (valO a x) (valO a v) else stO C.P lim d t σ (valO a x) (valO a v)).map fun σ' => (.undef, σ')) fun _ => rfl).trans (by simp only [Opt_map])
def nilO : MV → Option MV
  | .ptr l off => some (.ptr l off)
  | .ep cs off => some (.ep cs off)
  | _ => none
theorem W1_nilCheck {x : Operand} : W1 C lim d a ⟨dst, .nilCheck x, ty, pos, aft, gd⟩ σ Q ↔ Opt (nilO (valO a x)) fun v => Q v σ :=
  (W1_of (r := (nilO (valO a x)).map fun v => (v, σ)) fun _ => by simp only [evOp, nilO]; cases valO a x <;> rfl).trans (by simp only [Opt_map])
theorem W1_binOp {op : BinOp} {t t' : TypeId} {x y : Operand} : W1 C lim d a ⟨dst, .binOp op t x y t', ty, pos, aft, gd⟩ σ Q ↔ Opt (binO C.P C.eqT op t (valO a x) (valO a y)) fun v => Q v σ := W1_pure fun _ => rfl
theorem W1_unOp {op : UnOp} {t : TypeId} {x : Operand} : W1 C lim d a ⟨dst, .unOp op t x, ty, pos, aft, gd⟩ σ Q ↔ Opt (unO op (valO a x)) fun v => Q v σ := W1_pure fun _ => rfl
theorem W1_convert {s t : TypeId} {x : Operand} : W1 C lim d a ⟨dst, .convert s t x, ty, pos, aft, gd⟩ σ Q ↔ Opt (cvtO C.P s t (valO a x)) fun v => Q v σ := W1_pure fun _ => rfl
theorem W1_slice {t : TypeId} {x : Operand} {lo hi : Option Operand} : W1 C lim d a ⟨dst, .slice t x lo hi none, ty, pos, aft, gd⟩ σ Q ↔ Opt (cutO C.P t (lo.map (valO a)) (hi.map (valO a)) (valO a x)) fun v => Q v σ := W1_pure fun _ => rfl
theorem W1_fieldAddr {t : TypeId} {x : Operand} {f : Nat} : W1 C lim d a ⟨dst, .fieldAddr t x f, ty, pos, aft, gd⟩ σ Q ↔ Opt (faO C.P t f (valO a x)) fun v => Q v σ := W1_pure fun _ => rfl
theorem W1_field {t : TypeId} {x : Operand} {f : Nat} : W1 C lim d a ⟨dst, .field t x f, ty, pos, aft, gd⟩ σ Q ↔ Opt (fdO C.P t f (valO a x)) fun v => Q v σ := W1_pure fun _ => rfl
theorem W1_indexAddr {t : TypeId} {x i : Operand} : W1 C lim d a ⟨dst, .indexAddr t x i, ty, pos, aft, gd⟩ σ Q ↔ Opt (iaO C.P t (valO a x) (valO a i)) fun v => Q v σ := W1_pure fun _ => rfl
theorem W1_index {t : TypeId} {x i : Operand} : W1 C lim d a ⟨dst, .index t x i, ty, pos, aft, gd⟩ σ Q ↔ Opt (ixO C.P t (valO a x) (valO a i)) fun v => Q v σ := W1_pure fun _ => rfl
def extO (i : Nat) : MV → Option MV
  | .tup vs => vs[i]?
  | _ => none
theorem W1_extract {x : Operand} {i : Nat} : W1 C lim d a ⟨dst, .extract x i, ty, pos, aft, gd⟩ σ Q ↔ Opt (extO i (valO a x)) fun v => Q v σ :=
  (W1_of (r := (extO i (valO a x)).map fun v => (v, σ)) fun _ => by simp only [evOp, extO]; cases valO a x <;> rfl).trans (by simp only [Opt_map])
theorem W1_call {f : Operand} {g : FuncId} {args : Array Operand} {ts : Array TypeId} (hf : valO a f = .fn g) :
    W1 C lim d a ⟨dst, .call ⟨.value f, args, ts⟩, ty, pos, aft, gd⟩ σ Q ↔ WF C lim (d + 1) g (args.toList.map fun x => (valO a x).arg) σ Q := by
  simp only [W1, WF, evOp, hf]
theorem W1_len {x : Operand} {t : TypeId} : W1 C lim d a ⟨dst, .call ⟨.builtin .len, #[x], #[t]⟩, ty, pos, aft, gd⟩ σ Q ↔ Opt (lenO C.P t (valO a x)) fun v => Q v σ := W1_pure fun _ => rfl
theorem W1_min {xs : Array Operand} {ts : Array TypeId} : W1 C lim d a ⟨dst, .call ⟨.builtin .min, xs, ts⟩, ty, pos, aft, gd⟩ σ Q ↔ Opt (mm false (xs.toList.map (valO a))) fun v => Q v σ := W1_pure fun _ => rfl
theorem W1_max {xs : Array Operand} {ts : Array TypeId} : W1 C lim d a ⟨dst, .call ⟨.builtin .max, xs, ts⟩, ty, pos, aft, gd⟩ σ Q ↔ Opt (mm true (xs.toList.map (valO a))) fun v => Q v σ := W1_pure fun _ => rfl
theorem W1_append {x y : Operand} {t : TypeId} : W1 C lim d a ⟨dst, .call ⟨.builtin .append, #[x, y], #[t, t]⟩, ty, pos, aft, gd⟩ σ Q ↔ Opt (appX C lim d (dstT dst) t σ (valO a x) (valO a y)) fun x => Q x.1 x.2 :=
  W1_of fun _ => by simp [evOp]
theorem appX_n {dst' : Nat} {t : TypeId} {x y : MV} (h : C.rw t dst' = none) : appX C lim d dst' t σ x y = appO C.P lim d t σ x y := by
  unfold appX
  rw [h]
end

/-- What is asked at a function's end. -/
def atEnd (P : Program) (d : Nat) (rs : List ResultVar) (Q : MV → Sto → Prop) : Ex → (Nat → MV) → Sto → Prop
  | .exit _, _, _ => False
  | .goto _, _, _ => False
  | _, a, σ => Opt (resO P rs a σ) fun v => Opt (v.res σ d) fun v => Q v (σ.cut d)
section
variable {a : Nat → MV} {σ : Sto} {Q : MV → Sto → Prop} {P : Program} {rs : List ResultVar}
theorem atEnd_nrm : atEnd P d rs Q .nrm a σ = Opt (resO P rs a σ) fun v => Opt (v.res σ d) fun v => Q v (σ.cut d) := rfl
theorem atEnd_ret : atEnd P d rs Q .ret a σ = Opt (resO P rs a σ) fun v => Opt (v.res σ d) fun v => Q v (σ.cut d) := rfl
end

theorem WF_body {f : FuncId} {fn : Func} {c : Code} {args : List MV} {σ : Sto} {Q : MV → Sto → Prop} (hp : C.prim f = none) (hf : C.P.funcs[f]? = some fn) (hc : fn.body = some c) (hk : okCode fn.ntmps c = true) :
    WF C lim d f args σ Q ↔ W C lim d c (startA args) σ (atEnd C.P d fn.results.toList Q) := by
  have key : ∀ n, (Opt (mev C (n + 1) lim d f args σ) fun x => Q x.1 x.2) ↔ Opt (evCode C (mev C n) n lim d c (startA args) σ) fun x => atEnd C.P d fn.results.toList Q x.1 x.2.1 x.2.2 := by
    intro n
    simp only [mev, hp, hf, hc, hk, if_true]
    cases hx : evCode C (mev C n) n lim d c (startA args) σ with
    | none => simp [endO, Opt]
    | some z =>
      obtain ⟨e, a', σ'⟩ := z
      cases e <;> simp [endO, Opt_some, Opt_none, atEnd, Opt_bind, Opt_map]
  constructor
  · rintro ⟨n, h⟩
    cases n with
    | zero => obtain ⟨x, hx, _⟩ := h; simp [mev] at hx
    | succ n => exact ⟨n, (key n).1 h⟩
  · rintro ⟨n, h⟩
    exact ⟨n + 1, (key n).2 h⟩
theorem WF_prim {f : FuncId} {p : Nat → Nat → List MV → Sto → Option (MV × Sto)} {args : List MV} {σ : Sto} {Q : MV → Sto → Prop} (hp : C.prim f = some p) : WF C lim d f args σ Q ↔ Opt (p lim d args σ) fun r => Q r.1 r.2 := by
  constructor
  · rintro ⟨n, h⟩
    cases n with
    | zero => obtain ⟨x, hx, _⟩ := h; simp [mev] at hx
    | succ n => simp only [mev, hp] at h; exact h
  · intro h
    exact ⟨1, by simp only [mev, hp]; exact h⟩

end Go.Mv
/- How values without memory stand to the machine's: VR (a value), St (the store), Ev (what may happen to both). -/
namespace Go.Mv

/-- F: cells that stay as they are; π: the objects' blocks; τ: of a token its row: block, place, capacity. -/
structure Gh where
  F : Nat → Nat → Prop
  π : Loc → Option Nat
  τ : Nat → Nat → Nat × Nat × Nat

def tokR (w : World) (g : Gh) (s : Sto) (t : Tok) (n : Nat) (a : Option Addr) (cap : Nat) : Prop :=
  match t with
  | .no => True
  | .nil => a = none ∧ cap = 0
  | .own d c => c < s.ct d ∧ ∀ m z, s.ow d c = some (m, z) → n ≤ m ∧ (n = m → a = some ⟨(g.τ d c).1, (g.τ d c).2.1, none⟩ ∧ cap = (g.τ d c).2.2)
  | .byt d c q => c < s.ct d ∧ ∀ m z, s.ow d c = some (m, z) → n ≤ m ∧ (n = m → a = some ⟨(g.τ d c).1, (g.τ d c).2.1, none⟩ ∧ cap = (g.τ d c).2.2 ∧ ∃ k, w.shape? (g.τ d c).1 = some (q, k))

/-- Of a row: where it lies in its block. -/
def rowR (w : World) (l : Loc) (b off z cap : Nat) : Prop := l.t < 1000000 ∧ (500000 ≤ l.t → ∃ q, w.shape? b = some (q, off + cap * z))

inductive VR (w : World) (g : Gh) (s : Sto) : MV → Value → Prop
  | junk (v : Value) : VR w g s .junk v
  | undef : VR w g s .undef undef
  | bool (b : Bool) : VR w g s (.bool b) (.bool b)
  | int (k : IntKind) (n : Int) : VR w g s (.int k n) (.int k n)
  | str (x : List UInt8) : VR w g s (.str x) (.string ⟨x.toArray⟩)
  | sl (t : Tok) (xs : List (List MV)) (a : Option Addr) (cap b o z : Nat) (u : Nat → Nat → Value) (hcap : xs.length ≤ cap)
      (htok : tokR w g s t xs.length a cap) (ha : xs ≠ [] → a = some ⟨b, o, none⟩) (hz : ∀ x ∈ xs, x.length = z)
      (hF : ∀ i j, i < xs.length → j < z → g.F b (o + i * z + j) ∧ w.cell? ⟨b, o + i * z + j, none⟩ = some (u i j))
      (hp : ∀ (i : Nat) (x : List MV), xs[i]? = some x → ∀ (j : Nat) (c : MV), x[j]? = some c → c.pur = true)
      (hv : ∀ (i : Nat) (x : List MV), xs[i]? = some x → ∀ (j : Nat) (c : MV), x[j]? = some c → VR w g s c (u i j)) : VR w g s (.sl t xs) (.slice a xs.length cap)
  | agg (cs : List MV) (vs : Array Value) (hl : cs.length = vs.size) (hf : ∀ c ∈ cs, c.flat = true) (hv : ∀ (i : Nat) (c : MV), cs[i]? = some c → VR w g s c (vs[i]?.getD undef)) : VR w g s (.agg cs) (.agg vs)
  | ptr (l : Loc) (off b : Nat) (h : g.π l = some b) (ht : ∀ q n, n < 1024 → l.t = 1000000 + (q * 1024 + n) → w.shape? b = some (q, n)) : VR w g s (.ptr l off) (.pointer (some ⟨b, off, none⟩))
  | rs (l : Loc) (off len z b cap : Nat) (h : g.π l = some b) (hc : len ≤ cap) (hl : rowR w l b off z cap) : VR w g s (.rs l off len z) (.slice (some ⟨b, off, none⟩) len cap)
  | ep (cs : List MV) (off b o : Nat) (u : Nat → Value) (hF : ∀ j, j < cs.length → g.F b (o + j) ∧ w.cell? ⟨b, o + j, none⟩ = some (u j))
      (hp : ∀ c ∈ cs, c.pur = true) (hv : ∀ (j : Nat) (c : MV), cs[j]? = some c → VR w g s c (u j)) : VR w g s (.ep cs off) (.pointer (some ⟨b, o + off, none⟩))
  | nilp : VR w g s .nilp (.pointer none)
  | fn (f : FuncId) : VR w g s (.fn f) (.func (.func f) #[] #[])
  | tup (cs : List MV) (vs : Array Value) (hl : cs.length = vs.size) (hv : ∀ (i : Nat) (c : MV), cs[i]? = some c → VR w g s c (vs[i]?.getD undef)) : VR w g s (.tup cs) (.tuple vs)

/-- What may come to pass. -/
structure Ev (w : World) (g : Gh) (s : Sto) (w' : World) (g' : Gh) (s' : Sto) : Prop where
  F : ∀ b o, g.F b o → g'.F b o ∧ w'.cell? ⟨b, o, none⟩ = w.cell? ⟨b, o, none⟩
  pi : ∀ l b, g.π l = some b → g'.π l = some b
  ct : ∀ d, s.ct d ≤ s'.ct d
  ow : ∀ d c m' z', c < s.ct d → s'.ow d c = some (m', z') → ∃ m z, s.ow d c = some (m, z) ∧ m ≤ m' ∧ (m = m' → g'.τ d c = g.τ d c)
  sh : ∀ b x, w.shape? b = some x → w'.shape? b = some x

section
variable {w w' w'' : World} {g g' g'' : Gh} {s s' s'' : Sto}
theorem Ev.refl (w : World) (g : Gh) (s : Sto) : Ev w g s w g s := ⟨fun _ _ h => ⟨h, rfl⟩, fun _ _ h => h, fun _ => Nat.le_refl _, fun _ _ m z _ h => ⟨m, z, h, Nat.le_refl _, fun _ => rfl⟩, fun _ _ h => h⟩
theorem Ev.trans (h : Ev w g s w' g' s') (k : Ev w' g' s' w'' g'' s'') : Ev w g s w'' g'' s'' :=
  ⟨fun b o hF => ⟨(k.F b o (h.F b o hF).1).1, (k.F b o (h.F b o hF).1).2.trans (h.F b o hF).2⟩, fun l b hp => k.pi l b (h.pi l b hp), fun d => Nat.le_trans (h.ct d) (k.ct d),
   fun d c m z hc ho => by
    obtain ⟨m1, z1, h1, h2, h3⟩ := k.ow d c m z (Nat.lt_of_lt_of_le hc (h.ct d)) ho
    obtain ⟨m2, z2, h4, h5, h6⟩ := h.ow d c m1 z1 hc h1
    exact ⟨m2, z2, h4, Nat.le_trans h5 h2, fun e => (h3 (by omega)).trans (h6 (by omega))⟩, fun b x hx => k.sh b x (h.sh b x hx)⟩

theorem tokR.ev {t : Tok} {n cap : Nat} {a : Option Addr} (h : Ev w g s w' g' s') (k : tokR w g s t n a cap) : tokR w' g' s' t n a cap := by
  cases t with
  | no => exact trivial
  | nil => exact k
  | own d c =>
    refine ⟨Nat.lt_of_lt_of_le k.1 (h.ct d), fun m z hm => ?_⟩
    obtain ⟨m1, z1, h1, h2, h3⟩ := h.ow d c m z k.1 hm
    obtain ⟨k1, k2⟩ := k.2 m1 z1 h1
    refine ⟨Nat.le_trans k1 h2, fun e => ?_⟩
    rw [h3 (by omega)]
    exact k2 (by omega)
  | byt d c q =>
    refine ⟨Nat.lt_of_lt_of_le k.1 (h.ct d), fun m z hm => ?_⟩
    obtain ⟨m1, z1, h1, h2, h3⟩ := h.ow d c m z k.1 hm
    obtain ⟨k1, k2⟩ := k.2 m1 z1 h1
    refine ⟨Nat.le_trans k1 h2, fun e => ?_⟩
    rw [h3 (by omega)]
    obtain ⟨q1, q2, n, q3⟩ := k2 (by omega)
    exact ⟨q1, q2, n, h.sh _ _ q3⟩

theorem VR.ev (h : Ev w g s w' g' s') {m : MV} {v : Value} (k : VR w g s m v) : VR w' g' s' m v := by
  induction k with
  | junk v => exact .junk v
  | undef => exact .undef
  | bool b => exact .bool b
  | int k n => exact .int k n
  | str x => exact .str x
  | sl t xs a cap b o z u hcap htok ha hz hF hp hv ih =>
    exact .sl t xs a cap b o z u hcap (htok.ev h) ha hz (fun i j hi hj => ⟨(h.F _ _ (hF i j hi hj).1).1, (h.F _ _ (hF i j hi hj).1).2.trans (hF i j hi hj).2⟩) hp ih
  | agg cs vs hl hf hv ih => exact .agg cs vs hl hf ih
  | ptr l off b hb ht => exact .ptr l off b (h.pi l b hb) fun q n hn e => h.sh _ _ (ht q n hn e)
  | rs l off len z b cap hb hc hl => exact .rs l off len z b cap (h.pi l b hb) hc ⟨hl.1, fun q => (hl.2 q).imp fun _ e => h.sh _ _ e⟩
  | ep cs off b o u hF hp hv ih => exact .ep cs off b o u (fun j hj => ⟨(h.F _ _ (hF j hj).1).1, (h.F _ _ (hF j hj).1).2.trans (hF j hj).2⟩) hp ih
  | nilp => exact .nilp
  | fn f => exact .fn f
  | tup cs vs hl hv ih => exact .tup cs vs hl ih

/-- What holds no place and no token needs F alone. -/
theorem VR.pure' (h : ∀ b o, g.F b o → g'.F b o ∧ w'.cell? ⟨b, o, none⟩ = w.cell? ⟨b, o, none⟩) {m : MV} {v : Value} (k : VR w g s m v) (hm : m.pur = true) : VR w' g' s' m v := by
  induction k with
  | junk v => cases hm
  | undef => cases hm
  | bool b => exact .bool b
  | int k n => exact .int k n
  | str x => exact .str x
  | sl t xs a cap b o z u hcap htok ha hz hF hp hv ih =>
    have ht : t = .no := by cases t <;> first | rfl | cases hm
    subst ht
    exact .sl .no xs a cap b o z u hcap trivial ha hz (fun i j hi hj => ⟨(h _ _ (hF i j hi hj).1).1, (h _ _ (hF i j hi hj).1).2.trans (hF i j hi hj).2⟩) hp fun i x hx j c hc => ih i x hx j c hc (hp i x hx j c hc)
  | agg cs vs hl hf hv ih => cases hm
  | ptr l off b hb ht => cases hm
  | rs l off len z b cap hb hc hl => cases hm
  | ep cs off b o u hF hp hv ih => cases hm
  | nilp => exact .nilp
  | fn f => exact .fn f
  | tup cs vs hl hv ih => cases hm

theorem VR.era {m : MV} {v : Value} (k : VR w g s m v) : VR w g s m.era v := by
  cases k with
  | sl t xs a cap b o z u hcap htok ha hz hF hp hv => exact .sl .no xs a cap b o z u hcap trivial ha hz hF hp hv
  | junk v => exact .junk v
  | undef => exact .undef
  | bool b => exact .bool b
  | int k n => exact .int k n
  | str x => exact .str x
  | agg cs vs hl hf hv => exact .agg cs vs hl hf hv
  | ptr l off b hb ht => exact .ptr l off b hb ht
  | rs l off len z b cap hb hc hl => exact .rs l off len z b cap hb hc hl
  | ep cs off b o u hF hp hv => exact .ep cs off b o u hF hp hv
  | nilp => exact .nilp
  | fn f => exact .fn f
  | tup cs vs hl hv => exact .tup cs vs hl hv

theorem flat_era (m : MV) : m.era.flat = m.flat := by cases m <;> rfl
theorem pur_of_data {m : MV} (h : m.data = true) : m.era.pur = true := by cases m <;> first | rfl | cases h
theorem flat_of_pur {m : MV} (h : m.pur = true) : m.flat = true := by cases m <;> first | rfl | cases h
theorem flat_of_data {m : MV} (h : m.data = true) : m.flat = true := by cases m <;> first | rfl | cases h

/-- A flat value lies in one cell. -/
theorem VR.one {m : MV} {v : Value} (k : VR w g s m v) (hf : m.flat = true) : v.oneCell' = true ∧ v.cells = #[v] := by
  cases k <;> first | exact ⟨rfl, rfl⟩ | cases hf

/-- A value's cells. -/
theorem VR.cells {m : MV} {v : Value} (k : VR w g s m v) {cs : List MV} (hc : m.cells = some cs) :
    cs.length = v.cells.size ∧ (∀ c ∈ cs, c.flat = true) ∧ ∀ (i : Nat) (c : MV), cs[i]? = some c → VR w g s c (v.cells[i]?.getD Go.undef) := by
  cases k with
  | agg cs' vs hl hf hv =>
    have : cs' = cs := by simpa [MV.cells] using hc
    subst this
    exact ⟨hl, hf, hv⟩
  | junk v => cases hc
  | undef => cases hc
  | ep cs off b o u hF hp hv => cases hc
  | tup cs vs hl hv => cases hc
  | bool b => cases hc; exact ⟨rfl, by simp [MV.flat], fun i c h => by cases i <;> simp at h; subst h; exact .bool b⟩
  | int k n => cases hc; exact ⟨rfl, by simp [MV.flat], fun i c h => by cases i <;> simp at h; subst h; exact .int k n⟩
  | str x => cases hc; exact ⟨rfl, by simp [MV.flat], fun i c h => by cases i <;> simp at h; subst h; exact .str x⟩
  | nilp => cases hc; exact ⟨rfl, by simp [MV.flat], fun i c h => by cases i <;> simp at h; subst h; exact .nilp⟩
  | fn f => cases hc; exact ⟨rfl, by simp [MV.flat], fun i c h => by cases i <;> simp at h; subst h; exact .fn f⟩
  | ptr l off b hb ht => cases hc; exact ⟨rfl, by simp [MV.flat], fun i c h => by cases i <;> simp at h; subst h; exact .ptr l off b hb ht⟩
  | rs l off len z b cap hb hc' hl => cases hc; exact ⟨rfl, by simp [MV.flat], fun i c h => by cases i <;> simp at h; subst h; exact .rs l off len z b cap hb hc' hl⟩
  | sl t xs a cap b o z u hcap htok ha hz hF hp hv => cases hc; exact ⟨rfl, by simp [MV.flat], fun i c h => by cases i <;> simp at h; subst h; exact .sl t xs a cap b o z u hcap htok ha hz hF hp hv⟩
end

/-- Nothing lies at depth d or beyond. -/
structure Sto.Und (s : Sto) (d : Nat) : Prop where
  ob : ∀ l, d ≤ l.d → s.ob l = none
  ow : ∀ d' c, d ≤ d' → s.ow d' c = none
  ct : ∀ d', d ≤ d' → s.ct d' = 0

/-- Blocks that are kept as they are; those among them of which no cell is protected. -/
structure Kp where
  k : Nat → Obj → Prop
  n : Nat → Prop

/-- The machine's world and the store. -/
structure St (w0 : World) (K : Kp) (w : World) (g : Gh) (s : Sto) : Prop where
  os : w.os = w0.os
  tape : w.tape = w0.tape
  output : w.output = w0.output
  old : ∀ k x, K.k k x → w.heap[k]? = some x
  kn : ∀ k, K.n k → (∃ x, K.k k x) ∧ ∀ o, ¬ g.F k o
  obj : ∀ l cs b, s.ob l = some cs → g.π l = some b → ∃ vs T, w.heap[b]? = some (.cells vs T (0, 0)) ∧ cs.length ≤ vs.size ∧ ∀ (i : Nat) (c : MV), cs[i]? = some c → VR w g s c (vs[i]?.getD undef)
  flat : ∀ l cs, s.ob l = some cs → ∀ c ∈ cs, c.flat = true ∧ c.top l.d = true
  piB : ∀ l b, g.π l = some b → b < w.heap.size ∧ ∀ x, ¬ K.k b x
  inj : ∀ l l' b, g.π l = some b → g.π l' = some b → (s.ob l').isSome = true → l'.d ≤ l.d ∧ ((s.ob l).isSome = true → l = l')
  fr : ∀ l, s.ct l.d ≤ l.c → g.π l = none
  FB : ∀ b o, g.F b o → ∃ u, w.cell? ⟨b, o, none⟩ = some u
  Fpi : ∀ b o l, g.F b o → g.π l ≠ some b
  tok : ∀ d c m z, s.ow d c = some (m, z) → ∃ vs T, w.heap[(g.τ d c).1]? = some (.cells vs T (0, 0)) ∧ (∀ x, ¬ K.k (g.τ d c).1 x) ∧ m ≤ (g.τ d c).2.2 ∧ 0 < z ∧
    (g.τ d c).2.1 + (g.τ d c).2.2 * z ≤ vs.size ∧ (∀ i, g.F (g.τ d c).1 i → i < (g.τ d c).2.1 + m * z) ∧ (∀ l, g.π l ≠ some (g.τ d c).1) ∧ (g.τ d c).2.1 = 0
  tin : ∀ d c d' c' x x', s.ow d c = some x → s.ow d' c' = some x' → (g.τ d c).1 = (g.τ d' c').1 → d = d' ∧ c = c'
  tfr : ∀ d c, s.ct d ≤ c → s.ow d c = none

end Go.Mv
/- How the store's relation to the world lives on: new objects, new rows, stores, rows that grow. -/
namespace Go.Mv
section
variable {w0 w w' : World} {K : Kp} {g g' : Gh} {s s' : Sto} {d : Nat}

theorem cell_eq_of_heap {w w' : World} {b : Nat} (h : w'.heap[b]? = w.heap[b]?) (o : Nat) : w'.cell? ⟨b, o, none⟩ = w.cell? ⟨b, o, none⟩ := by
  simp [World.cell?, h]
theorem block_of_cell {w : World} {b o : Nat} {u : Value} (h : w.cell? ⟨b, o, none⟩ = some u) : b < w.heap.size := by
  have := World.block_lt_of_cell? w ⟨b, o, none⟩ h
  simpa using this
theorem cell_of_cells {w : World} {b o : Nat} {vs : Array Value} {T : TypeId} {fr : Nat × Nat} (h : w.heap[b]? = some (.cells vs T fr)) : w.cell? ⟨b, o, none⟩ = vs[o]? := by
  simp [World.cell?, h]
theorem shape_of_heap {w w' : World} {b : Nat} (h : w'.heap[b]? = w.heap[b]?) : w'.shape? b = w.shape? b := by
  simp [World.shape?, h]
theorem block_of_shape {w : World} {b : Nat} {x : TypeId × Nat} (h : w.shape? b = some x) : b < w.heap.size := by
  rcases Nat.lt_or_ge b w.heap.size with q | q
  · exact q
  · simp [World.shape?, Array.getElem?_eq_none q] at h
theorem shape_of_cells {w : World} {b : Nat} {vs : Array Value} {T : TypeId} {fr : Nat × Nat} (h : w.heap[b]? = some (.cells vs T fr)) : w.shape? b = some (T, vs.size) := by
  simp [World.shape?, h]
theorem alloc_heap_old (w : World) (o : Obj) {k : Nat} (h : k < w.heap.size) : (w.alloc o).heap[k]? = w.heap[k]? := heap_alloc_old w o k h
theorem alloc_heap_new (w : World) (o : Obj) : (w.alloc o).heap[w.heap.size]? = some o := heap_alloc_new w o
theorem getElem?_of_some {w : World} {b : Nat} {o : Obj} (h : w.heap[b]? = some o) : b < w.heap.size := (Array.getElem?_eq_some_iff.1 h).1

/-- What is not the heap does not matter. -/
theorem St.same (h : St w0 K w g s) (hh : w'.heap = w.heap) (h1 : w'.os = w.os) (h2 : w'.tape = w.tape) (h3 : w'.output = w.output) : St w0 K w' g s ∧ Ev w g s w' g s := by
  have hc : ∀ b o, w'.cell? ⟨b, o, none⟩ = w.cell? ⟨b, o, none⟩ := fun b o => cell_eq_of_heap (by rw [hh]) o
  have ev : Ev w g s w' g s := ⟨fun b o hF => ⟨hF, hc b o⟩, fun _ _ h => h, fun _ => Nat.le_refl _, fun _ _ m z _ h => ⟨m, z, h, Nat.le_refl _, fun _ => rfl⟩, fun b x hx => (shape_of_heap (w := w) (w' := w') (by rw [hh])).trans hx⟩
  refine ⟨⟨h1.trans h.os, h2.trans h.tape, h3.trans h.output, fun k x hk => by rw [hh]; exact h.old k x hk, h.kn, fun l cs b hl hp => ?_, h.flat, fun l b hp => by rw [hh]; exact h.piB l b hp, h.inj, h.fr,
    fun b o hF => by rw [hc]; exact h.FB b o hF, h.Fpi, fun d c m z ho => by rw [hh]; exact h.tok d c m z ho, h.tin, h.tfr⟩, ev⟩
  obtain ⟨vs, T, e1, e2, e3⟩ := h.obj l cs b hl hp
  exact ⟨vs, T, by rw [hh]; exact e1, e2, fun i c hi => (e3 i c hi).ev ev⟩

theorem St.top (h : St w0 K w g s) (hu : s.Und (d + 1)) {m : MV} {v : Value} (k : VR w g s m v) : m.top d = true := by
  cases k with
  | ptr l off b hb ht =>
    simp only [MV.top, decide_eq_true_eq]
    apply Nat.le_of_not_lt
    intro hlt
    have := h.fr l (by rw [hu.ct l.d hlt]; exact Nat.zero_le _)
    rw [this] at hb
    cases hb
  | rs l off len z b cap hb hc hlt =>
    simp only [MV.top, decide_eq_true_eq]
    apply Nat.le_of_not_lt
    intro hlt
    have := h.fr l (by rw [hu.ct l.d hlt]; exact Nat.zero_le _)
    rw [this] at hb
    cases hb
  | sl t xs a cap b o z u hcap htok ha hz hF hp hv =>
    cases t with
    | no => rfl
    | nil => rfl
    | own d' c =>
      simp only [MV.top, decide_eq_true_eq]
      apply Nat.le_of_not_lt
      intro hlt
      have := htok.1
      rw [hu.ct d' hlt] at this
      omega
    | byt d' c q =>
      simp only [MV.top, decide_eq_true_eq]
      apply Nat.le_of_not_lt
      intro hlt
      have := htok.1
      rw [hu.ct d' hlt] at this
      omega
  | _ => rfl

/-- A new object, at a depth of its own. -/
theorem St.newAt (h : St w0 K w g s) (hu : s.Und (d + 1)) {dd : Nat} (hdd : dd ≤ d) (t : Nat) (cs : List MV) (vs : Array Value) (T : TypeId) (hl : cs.length ≤ vs.size) (hf : ∀ c ∈ cs, c.flat = true) (ht : ∀ c ∈ cs, c.top dd = true)
    (hv : ∀ (i : Nat) (c : MV), cs[i]? = some c → VR w g s c (vs[i]?.getD undef)) :
    let s' := (s.set ⟨dd, t, s.ct dd⟩ cs).tick dd
    let g' := { g with π := fun l => if l = ⟨dd, t, s.ct dd⟩ then some w.heap.size else g.π l }
    St w0 K (w.alloc (.cells vs T)) g' s' ∧ Ev w g s (w.alloc (.cells vs T)) g' s' ∧ s'.Und (d + 1) ∧ g'.π ⟨dd, t, s.ct dd⟩ = some w.heap.size := by
  intro s' g'
  have hfr : g.π ⟨dd, t, s.ct dd⟩ = none := h.fr _ (Nat.le_refl _)
  have hold : ∀ k, k < w.heap.size → (w.alloc (.cells vs T)).heap[k]? = w.heap[k]? := fun k hk => alloc_heap_old w _ hk
  have ev : Ev w g s (w.alloc (.cells vs T)) g' s' := by
    refine ⟨fun b o hF => ⟨hF, ?_⟩, fun l b hp => ?_, fun d' => ?_, fun d' c m z hc ho => ⟨m, z, ho, Nat.le_refl _, fun _ => rfl⟩, fun b x hx => by rw [shape_of_heap (hold b (block_of_shape hx))]; exact hx⟩
    · obtain ⟨u, hu'⟩ := h.FB b o hF
      exact cell_eq_of_heap (hold b (block_of_cell hu')) o
    · show (if l = _ then _ else _) = _
      rw [if_neg (by rintro rfl; rw [hfr] at hp; cases hp)]
      exact hp
    · show s.ct d' ≤ upd s.ct dd (s.ct dd + 1) d'
      unfold upd
      split
      · rename_i e; subst e; omega
      · omega
  refine ⟨⟨h.os, h.tape, h.output, fun k x hk => ?_, h.kn, fun l cs' b hl' hp => ?_, fun l cs' hl' => ?_, fun l b hp => ?_, fun l l' b hp hp' hlv => ?_, fun l hc => ?_, fun b o hF => ?_, fun b o l hF => ?_, fun d' c m z ho => ?_, h.tin, fun d' c hc => ?_⟩, ev, ⟨fun l hd => ?_, hu.ow, fun d' hd => ?_⟩, ?_⟩
  · have := h.old k x hk; rw [hold k (getElem?_of_some this)]; exact this
  · simp only [s', Sto.tick, Sto.set] at hl'
    simp only [g'] at hp
    split at hl'
    · rename_i e
      subst e
      simp only [if_true, Option.some.injEq] at hp hl'
      subst hp; subst hl'
      exact ⟨vs, T, alloc_heap_new w _, hl, fun i c hi => (hv i c hi).ev ev⟩
    · rename_i e
      rw [if_neg e] at hp
      obtain ⟨vs', T', e1, e2, e3⟩ := h.obj l cs' b hl' hp
      exact ⟨vs', T', (hold b (getElem?_of_some e1)).trans e1, e2, fun i c hi => (e3 i c hi).ev ev⟩
  · simp only [s', Sto.tick, Sto.set] at hl'
    split at hl'
    · rename_i e
      subst e
      simp only [Option.some.injEq] at hl'
      subst hl'
      exact fun c hc => ⟨hf c hc, ht c hc⟩
    · exact h.flat l cs' hl'
  · simp only [g'] at hp
    split at hp
    · simp only [Option.some.injEq] at hp
      subst hp
      exact ⟨by simp, fun x hx => by have := getElem?_of_some (h.old _ x hx); omega⟩
    · have := h.piB l b hp
      exact ⟨by simp; omega, this.2⟩
  · simp only [g'] at hp hp'
    split at hp <;> split at hp'
    · rename_i e1 e2
      exact ⟨by rw [e1, e2]; exact Nat.le_refl _, fun _ => e1.trans e2.symm⟩
    · simp only [Option.some.injEq] at hp
      have := (h.piB l' b hp').1
      omega
    · simp only [Option.some.injEq] at hp'
      have := (h.piB l b hp).1
      omega
    · rename_i e1 e2
      simp only [s', Sto.tick, Sto.set, if_neg e2] at hlv
      obtain ⟨q1, q2⟩ := h.inj l l' b hp hp' hlv
      refine ⟨q1, fun hl => q2 ?_⟩
      simpa only [s', Sto.tick, Sto.set, if_neg e1] using hl
  · simp only [s', Sto.tick, Sto.set, upd] at hc
    simp only [g']
    split
    · rename_i e
      subst e
      simp only [if_true] at hc
      omega
    · refine h.fr l ?_
      split at hc
      · rename_i e; rw [e]; omega
      · exact hc
  · obtain ⟨u, hu'⟩ := h.FB b o hF
    exact ⟨u, (ev.F b o hF).2.trans hu'⟩
  · simp only [g']
    split
    · intro e
      simp only [Option.some.injEq] at e
      obtain ⟨u, hu'⟩ := h.FB b o hF
      have := block_of_cell hu'
      omega
    · exact h.Fpi b o l hF
  · obtain ⟨vs', T', e1, e2, e3, e4, e5, e6, e7, e8⟩ := h.tok d' c m z ho
    refine ⟨vs', T', (hold _ (getElem?_of_some e1)).trans e1, e2, e3, e4, e5, e6, fun l => ?_, e8⟩
    simp only [g']
    split
    · intro e
      simp only [Option.some.injEq] at e
      have := getElem?_of_some e1
      omega
    · exact e7 l
  · refine h.tfr d' c ?_
    simp only [s', Sto.tick, Sto.set, upd] at hc
    split at hc
    · rename_i e; rw [e]; omega
    · exact hc
  · simp only [s', Sto.tick, Sto.set]
    rw [if_neg (by rintro rfl; simp at hd; omega)]
    exact hu.ob l hd
  · simp only [s', Sto.tick, Sto.set, upd]
    rw [if_neg (by omega)]
    exact hu.ct d' hd
  · simp [g']

/-- A new object. -/
theorem St.new (h : St w0 K w g s) (hu : s.Und (d + 1)) (t : Nat) (cs : List MV) (vs : Array Value) (T : TypeId) (hl : cs.length ≤ vs.size) (hf : ∀ c ∈ cs, c.flat = true)
    (hv : ∀ (i : Nat) (c : MV), cs[i]? = some c → VR w g s c (vs[i]?.getD undef)) :
    let s' := (s.set ⟨d, t, s.ct d⟩ cs).tick d
    let g' := { g with π := fun l => if l = ⟨d, t, s.ct d⟩ then some w.heap.size else g.π l }
    St w0 K (w.alloc (.cells vs T)) g' s' ∧ Ev w g s (w.alloc (.cells vs T)) g' s' ∧ s'.Und (d + 1) ∧ g'.π ⟨d, t, s.ct d⟩ = some w.heap.size :=
  h.newAt hu (Nat.le_refl d) t cs vs T hl hf (fun c hc => by
    obtain ⟨i, hi⟩ := List.mem_iff_getElem?.1 hc
    exact h.top hu (hv i c hi)) hv

/-- An object that is no more. -/
theorem St.del (h : St w0 K w g s) (l : Loc) : St w0 K w g (s.del l) ∧ Ev w g s w g (s.del l) := by
  have ev : Ev w g s w g (s.del l) := ⟨fun _ _ h => ⟨h, rfl⟩, fun _ _ h => h, fun _ => Nat.le_refl _, fun _ _ m z _ h => ⟨m, z, h, Nat.le_refl _, fun _ => rfl⟩, fun _ _ h => h⟩
  have hob : ∀ l' cs, (s.del l).ob l' = some cs → s.ob l' = some cs := fun l' cs hl => by
    simp only [Sto.del] at hl
    split at hl
    · cases hl
    · exact hl
  have his : ∀ l', ((s.del l).ob l').isSome = true → (s.ob l').isSome = true := fun l' hl => by
    obtain ⟨cs, hcs⟩ := Option.isSome_iff_exists.1 hl
    rw [hob l' cs hcs]; rfl
  refine ⟨⟨h.os, h.tape, h.output, h.old, h.kn, fun l' cs b hl hp => ?_, fun l' cs hl => h.flat l' cs (hob l' cs hl), h.piB, fun l1 l2 b h1 h2 hl => ?_, h.fr, h.FB, h.Fpi, h.tok, h.tin, h.tfr⟩, ev⟩
  · obtain ⟨vs, T, e1, e2, e3⟩ := h.obj l' cs b (hob l' cs hl) hp
    exact ⟨vs, T, e1, e2, fun i c hi => (e3 i c hi).ev ev⟩
  · obtain ⟨q1, q2⟩ := h.inj l1 l2 b h1 h2 (his _ hl)
    exact ⟨q1, fun hl1 => q2 (his _ hl1)⟩
theorem Und.del (hu : s.Und d) (l : Loc) : (s.del l).Und d :=
  ⟨fun l' hd => by
    simp only [Sto.del]
    split
    · rfl
    · exact hu.ob l' hd, hu.ow, hu.ct⟩

/-- A row goes on in its block, under a new name: nothing that is left lies there. -/
theorem St.alias (h : St w0 K w g s) (hu : s.Und (d + 1)) {dd b : Nat} (hdd : dd ≤ d) (hpb : ∃ l, g.π l = some b) (hdead : ∀ l, g.π l = some b → s.ob l = none ∧ dd ≤ l.d) (t : Nat) {vs vs' : Array Value} {T : TypeId} (hb : w.heap[b]? = some (.cells vs T (0, 0))) (cs : List MV)
    (hsz : cs.length ≤ vs'.size) (hvs : vs'.size = vs.size) (hf : ∀ c ∈ cs, c.flat = true) (ht : ∀ c ∈ cs, c.top dd = true) (hv : ∀ (i : Nat) (c : MV), cs[i]? = some c → VR w g s c (vs'[i]?.getD undef)) :
    let s' := (s.set ⟨dd, t, s.ct dd⟩ cs).tick dd
    let g' : Gh := { g with π := fun l => if l = ⟨dd, t, s.ct dd⟩ then some b else g.π l }
    St w0 K (w.setRow b vs') g' s' ∧ Ev w g s (w.setRow b vs') g' s' ∧ s'.Und (d + 1) ∧ g'.π ⟨dd, t, s.ct dd⟩ = some b := by
  intro s' g'
  obtain ⟨l0, hl0⟩ := hpb
  have hfr : g.π ⟨dd, t, s.ct dd⟩ = none := h.fr _ (Nat.le_refl _)
  have hold : ∀ k, k ≠ b → (w.setRow b vs').heap[k]? = w.heap[k]? := fun k hk => setRow_other w b k vs' hk
  have hnew : (w.setRow b vs').heap[b]? = some (.cells vs' T (0, 0)) := setRow_heap w b vs vs' T (0, 0) hb
  have ev : Ev w g s (w.setRow b vs') g' s' := by
    refine ⟨fun k o hF => ⟨hF, cell_eq_of_heap (hold k ?_) o⟩, fun l b' hp => ?_, fun d' => ?_, fun d' c m z hc ho => ⟨m, z, ho, Nat.le_refl _, fun _ => rfl⟩, fun k x hx => ?_⟩
    · rintro rfl
      exact h.Fpi k o l0 hF hl0
    · show (if l = _ then _ else _) = _
      rw [if_neg (by rintro rfl; rw [hfr] at hp; cases hp)]
      exact hp
    · show s.ct d' ≤ upd s.ct dd (s.ct dd + 1) d'
      unfold upd
      split
      · rename_i e; subst e; omega
      · omega
    · by_cases e : k = b
      · subst e
        rw [shape_of_cells hnew, hvs, ← shape_of_cells hb]; exact hx
      · rw [shape_of_heap (hold k e)]; exact hx
  refine ⟨⟨h.os, h.tape, h.output, fun k x hk => ?_, h.kn, fun l cs' b' hl' hp => ?_, fun l cs' hl' => ?_, fun l b' hp => ?_, fun l l' b' hp hp' hlv => ?_, fun l hc => ?_, fun k o hF => ?_, fun k o l hF => ?_, fun d' c m z ho => ?_, h.tin, fun d' c hc => ?_⟩, ev, ⟨fun l hd => ?_, hu.ow, fun d' hd => ?_⟩, ?_⟩
  · rw [hold k (by rintro rfl; exact (h.piB l0 _ hl0).2 x hk)]; exact h.old k x hk
  · simp only [s', Sto.tick, Sto.set] at hl'
    simp only [g'] at hp
    split at hl'
    · rename_i e
      subst e
      simp only [if_true, Option.some.injEq] at hp hl'
      subst hp; subst hl'
      exact ⟨vs', T, hnew, hsz, fun i c hi => (hv i c hi).ev ev⟩
    · rename_i e
      rw [if_neg e] at hp
      have hne : b' ≠ b := by
        rintro rfl
        rw [(hdead l hp).1] at hl'
        cases hl'
      obtain ⟨vs2, T', e1, e2, e3⟩ := h.obj l cs' b' hl' hp
      exact ⟨vs2, T', (hold b' hne).trans e1, e2, fun i c hi => (e3 i c hi).ev ev⟩
  · simp only [s', Sto.tick, Sto.set] at hl'
    split at hl'
    · rename_i e
      subst e
      simp only [Option.some.injEq] at hl'
      subst hl'
      exact fun c hc => ⟨hf c hc, ht c hc⟩
    · exact h.flat l cs' hl'
  · simp only [g'] at hp
    split at hp
    · simp only [Option.some.injEq] at hp
      subst hp
      simpa using h.piB l0 b hl0
    · simpa using h.piB l b' hp
  · simp only [g'] at hp hp'
    split at hp <;> split at hp'
    · rename_i e1 e2
      exact ⟨by rw [e1, e2]; exact Nat.le_refl _, fun _ => e1.trans e2.symm⟩
    · rename_i e1 e2
      simp only [Option.some.injEq] at hp
      subst hp
      simp only [s', Sto.tick, Sto.set, if_neg e2, (hdead l' hp').1] at hlv
      cases hlv
    · rename_i e1 e2
      simp only [Option.some.injEq] at hp'
      subst hp'
      refine ⟨by rw [e2]; exact (hdead l hp).2, fun hl => ?_⟩
      simp only [s', Sto.tick, Sto.set, if_neg e1, (hdead l hp).1] at hl
      cases hl
    · rename_i e1 e2
      simp only [s', Sto.tick, Sto.set, if_neg e2] at hlv
      obtain ⟨q1, q2⟩ := h.inj l l' b' hp hp' hlv
      refine ⟨q1, fun hl => q2 ?_⟩
      simpa only [s', Sto.tick, Sto.set, if_neg e1] using hl
  · simp only [s', Sto.tick, Sto.set, upd] at hc
    simp only [g']
    split
    · rename_i e
      subst e
      simp only [if_true] at hc
      omega
    · refine h.fr l ?_
      split at hc
      · rename_i e; rw [e]; omega
      · exact hc
  · obtain ⟨u, hu'⟩ := h.FB k o hF
    exact ⟨u, (ev.F k o hF).2.trans hu'⟩
  · simp only [g']
    split
    · intro e
      simp only [Option.some.injEq] at e
      subst e
      exact h.Fpi b o l0 hF hl0
    · exact h.Fpi k o l hF
  · obtain ⟨vs2, T2, e1, e2, e3, e4, e5, e6, e7, e8⟩ := h.tok d' c m z ho
    have hne : (g.τ d' c).1 ≠ b := fun e => e7 l0 (by rw [e]; exact hl0)
    refine ⟨vs2, T2, (hold _ hne).trans e1, e2, e3, e4, e5, e6, fun l => ?_, e8⟩
    simp only [g']
    split
    · intro e
      simp only [Option.some.injEq] at e
      exact hne e.symm
    · exact e7 l
  · refine h.tfr d' c ?_
    simp only [s', Sto.tick, Sto.set, upd] at hc
    split at hc
    · rename_i e; rw [e]; omega
    · exact hc
  · simp only [s', Sto.tick, Sto.set]
    rw [if_neg (by rintro rfl; simp at hd; omega)]
    exact hu.ob l hd
  · simp only [s', Sto.tick, Sto.set, upd]
    rw [if_neg (by omega)]
    exact hu.ct d' hd
  · simp [g']

/-- What is made and never seen. -/
theorem St.garb (h : St w0 K w g s) (x : Obj) : St w0 K (w.alloc x) g s ∧ Ev w g s (w.alloc x) g s := by
  have hold : ∀ k, k < w.heap.size → (w.alloc x).heap[k]? = w.heap[k]? := fun k hk => alloc_heap_old w _ hk
  have hFlt : ∀ b o, g.F b o → b < w.heap.size := fun b o hF => by obtain ⟨u, hu⟩ := h.FB b o hF; exact block_of_cell hu
  have ev : Ev w g s (w.alloc x) g s := ⟨fun b o hF => ⟨hF, cell_eq_of_heap (hold b (hFlt b o hF)) o⟩, fun _ _ h => h, fun _ => Nat.le_refl _, fun _ _ m z _ h => ⟨m, z, h, Nat.le_refl _, fun _ => rfl⟩, fun b x hx => by rw [shape_of_heap (hold b (block_of_shape hx))]; exact hx⟩
  refine ⟨⟨h.os, h.tape, h.output, fun k y hk => ?_, h.kn, fun l cs b hl hp => ?_, h.flat, fun l b hp => ?_, h.inj, h.fr, fun b o hF => ?_, h.Fpi, fun d' c m z ho => ?_, h.tin, h.tfr⟩, ev⟩
  · have := h.old k y hk; rw [hold k (getElem?_of_some this)]; exact this
  · obtain ⟨vs', T', e1, e2, e3⟩ := h.obj l cs b hl hp
    exact ⟨vs', T', (hold b (getElem?_of_some e1)).trans e1, e2, fun i c hi => (e3 i c hi).ev ev⟩
  · have := h.piB l b hp
    exact ⟨by simp only [World.size_alloc]; omega, this.2⟩
  · obtain ⟨u, hu'⟩ := h.FB b o hF
    exact ⟨u, (ev.F b o hF).2.trans hu'⟩
  · obtain ⟨vs', T', e1, e2, e3, e4, e5, e6, e7, e8⟩ := h.tok d' c m z ho
    exact ⟨vs', T', (hold _ (getElem?_of_some e1)).trans e1, e2, e3, e4, e5, e6, e7, e8⟩

/-- A store into an object: the block's cells are others now. -/
theorem St.put (h : St w0 K w g s) (hu : s.Und d) {l : Loc} {b : Nat} {cs cs' : List MV} {vs vs' : Array Value} {T : TypeId} (hl : s.ob l = some cs) (hp : g.π l = some b) (hb : w.heap[b]? = some (.cells vs T (0, 0)))
    (hsz : cs'.length ≤ vs'.size) (hvs : vs'.size = vs.size) (hf : ∀ c ∈ cs', c.flat = true ∧ c.top l.d = true) (hv : ∀ (i : Nat) (c : MV), cs'[i]? = some c → VR w g s c (vs'[i]?.getD undef)) :
    St w0 K (w.setRow b vs') g (s.set l cs') ∧ Ev w g s (w.setRow b vs') g (s.set l cs') ∧ (s.set l cs').Und d := by
  have hold : ∀ k, k ≠ b → (w.setRow b vs').heap[k]? = w.heap[k]? := fun k hk => setRow_other w b k vs' hk
  have hnew : (w.setRow b vs').heap[b]? = some (.cells vs' T (0, 0)) := setRow_heap w b vs vs' T (0, 0) hb
  have ev : Ev w g s (w.setRow b vs') g (s.set l cs') := by
    refine ⟨fun k o hF => ⟨hF, cell_eq_of_heap (hold k ?_) o⟩, fun _ _ h => h, fun _ => Nat.le_refl _, fun _ _ m z _ h => ⟨m, z, h, Nat.le_refl _, fun _ => rfl⟩, fun k x hx => ?_⟩
    · rintro rfl
      exact h.Fpi k o l hF hp
    · by_cases e : k = b
      · subst e
        rw [shape_of_cells hnew, hvs, ← shape_of_cells hb]; exact hx
      · rw [shape_of_heap (hold k e)]; exact hx
  refine ⟨⟨h.os, h.tape, h.output, fun k x hk => ?_, h.kn, fun l' cs2 b' hl' hp' => ?_, fun l' cs2 hl' => ?_, fun l' b' hp' => by simpa using h.piB l' b' hp', fun l1 l2 b' h1 h2 hlv => ?_, h.fr, fun k o hF => ?_, h.Fpi, fun d' c m z ho => ?_, h.tin, h.tfr⟩, ev, ⟨fun l' hd => ?_, hu.ow, hu.ct⟩⟩
  · rw [hold k (by rintro rfl; exact (h.piB l _ hp).2 x hk)]; exact h.old k x hk
  · simp only [Sto.set] at hl'
    split at hl'
    · rename_i e
      subst e
      simp only [Option.some.injEq] at hl'
      subst hl'
      rw [hp] at hp'
      cases hp'
      exact ⟨vs', T, hnew, hsz, fun i c hi => (hv i c hi).ev ev⟩
    · rename_i e
      have hne : b' ≠ b := by rintro rfl; exact e ((h.inj l' l b' hp' hp (by rw [hl]; rfl)).2 (by rw [hl']; rfl))
      obtain ⟨vs2, T2, e1, e2, e3⟩ := h.obj l' cs2 b' hl' hp'
      exact ⟨vs2, T2, (hold b' hne).trans e1, e2, fun i c hi => (e3 i c hi).ev ev⟩
  · simp only [Sto.set] at hl'
    split at hl'
    · rename_i e
      subst e
      simp only [Option.some.injEq] at hl'
      subst hl'
      exact hf
    · exact h.flat l' cs2 hl'
  · have his : ∀ l', ((s.set l cs').ob l').isSome = true → (s.ob l').isSome = true := fun l' hq => by
      simp only [Sto.set] at hq
      split at hq
      · rename_i e; rw [e, hl]; rfl
      · exact hq
    obtain ⟨q1, q2⟩ := h.inj l1 l2 b' h1 h2 (his _ hlv)
    exact ⟨q1, fun hq => q2 (his _ hq)⟩
  · obtain ⟨u, hu'⟩ := h.FB k o hF
    exact ⟨u, (ev.F k o hF).2.trans hu'⟩
  · obtain ⟨vs2, T2, e1, e2, e3, e4, e5, e6, e7, e8⟩ := h.tok d' c m z ho
    exact ⟨vs2, T2, (hold _ (fun e => e7 l (by rw [e]; exact hp))).trans e1, e2, e3, e4, e5, e6, e7, e8⟩
  · simp only [Sto.set]
    split
    · rename_i e
      subst e
      rw [hu.ob l' hd] at hl
      cases hl
    · exact hu.ob l' hd

/-- How a token's row may go on. -/
structure TokUp (s s' : Sto) (dd cc M z : Nat) : Prop where
  ob : s'.ob = s.ob
  ow : ∀ d c, s'.ow d c = if d = dd ∧ c = cc then some (M, z) else s.ow d c
  ct : ∀ d, s.ct d ≤ s'.ct d
  lt : cc < s'.ct dd
  up : cc < s.ct dd → ∃ m, s.ow dd cc = some (m, z) ∧ m < M

theorem TokUp.fresh (s : Sto) (d M z : Nat) : TokUp s ((s.own d (s.ct d) (some (M, z))).tick d) d (s.ct d) M z :=
  ⟨rfl, fun _ _ => rfl, fun d' => by simp only [Sto.tick, Sto.own, upd]; split <;> simp_all, by simp [Sto.tick, Sto.own, upd], fun h => by omega⟩
theorem TokUp.grow {s : Sto} {dd cc m M z : Nat} (hc : cc < s.ct dd) (ho : s.ow dd cc = some (m, z)) (hm : m < M) : TokUp s (s.own dd cc (some (M, z))) dd cc M z :=
  ⟨rfl, fun _ _ => rfl, fun _ => Nat.le_refl _, hc, fun _ => ⟨m, ho, hm⟩⟩
theorem Und.fresh {s : Sto} (hu : s.Und (d + 1)) (M z : Nat) : ((s.own d (s.ct d) (some (M, z))).tick d).Und (d + 1) :=
  ⟨hu.ob, fun d' c hd => by simp only [Sto.tick, Sto.own]; rw [if_neg (by omega)]; exact hu.ow d' c hd, fun d' hd => by simp only [Sto.tick, Sto.own, upd]; rw [if_neg (by omega)]; exact hu.ct d' hd⟩
theorem Und.grow {s : Sto} {k : Nat} (hu : s.Und k) {dd cc : Nat} {x : Nat × Nat} (ho : s.ow dd cc = some x) (v : Option (Nat × Nat)) : (s.own dd cc v).Und k :=
  ⟨hu.ob, fun d' c hd => by
    simp only [Sto.own]
    split
    · rename_i e
      obtain ⟨rfl, rfl⟩ := e
      rw [hu.ow d' c hd] at ho
      cases ho
    · exact hu.ow d' c hd, hu.ct⟩

/-- A new row, whose first cells stay as they are; a token owns the rest. -/
theorem St.row (h : St w0 K w g s) {dd cc M z cap : Nat} (hs : TokUp s s' dd cc M z) (vs : Array Value) (T : TypeId) (hz : 0 < z) (hM : M ≤ cap) (hc : cap * z ≤ vs.size) :
    let w' := w.alloc (.cells vs T)
    let g' : Gh := { F := fun b o => g.F b o ∨ (b = w.heap.size ∧ o < M * z), π := g.π, τ := fun d c => if d = dd ∧ c = cc then (w.heap.size, 0, cap) else g.τ d c }
    St w0 K w' g' s' ∧ Ev w g s w' g' s' := by
  intro w' g'
  have hold : ∀ k, k < w.heap.size → w'.heap[k]? = w.heap[k]? := fun k hk => alloc_heap_old w _ hk
  have hMz : M * z ≤ vs.size := Nat.le_trans (Nat.mul_le_mul_right z hM) hc
  have hFlt : ∀ b o, g.F b o → b < w.heap.size := fun b o hF => by obtain ⟨u, hu⟩ := h.FB b o hF; exact block_of_cell hu
  have ev : Ev w g s w' g' s' := by
    refine ⟨fun b o hF => ⟨.inl hF, cell_eq_of_heap (hold b (hFlt b o hF)) o⟩, fun _ _ h => h, hs.ct, fun d' c m z' hc' ho => ?_, fun b x hx => by rw [shape_of_heap (hold b (block_of_shape hx))]; exact hx⟩
    rw [hs.ow] at ho
    split at ho
    · rename_i e
      obtain ⟨rfl, rfl⟩ := e
      obtain ⟨m0, h1, h2⟩ := hs.up hc'
      cases ho
      exact ⟨m0, z, h1, by omega, fun e => by omega⟩
    · rename_i e
      exact ⟨m, z', ho, Nat.le_refl _, fun _ => by simp only [g']; rw [if_neg e]⟩
  refine ⟨⟨h.os, h.tape, h.output, fun k x hk => ?_, fun k hk => ?_, fun l cs b hl hp => ?_, fun l cs hl => ?_, fun l b hp => ?_, by rw [hs.ob]; exact h.inj, fun l hc' => ?_, fun b o hF => ?_, fun b o l hF => ?_, fun d' c m z' ho => ?_, fun d1 c1 d2 c2 x1 x2 h1 h2 he => ?_, fun d' c hc' => ?_⟩, ev⟩
  · have := h.old k x hk; rw [hold k (getElem?_of_some this)]; exact this
  · refine ⟨(h.kn k hk).1, fun o hF => ?_⟩
    rcases hF with hF | ⟨rfl, _⟩
    · exact (h.kn k hk).2 o hF
    · obtain ⟨x, hx⟩ := (h.kn _ hk).1
      have := getElem?_of_some (h.old _ x hx)
      omega
  · rw [hs.ob] at hl
    obtain ⟨vs', T', e1, e2, e3⟩ := h.obj l cs b hl hp
    exact ⟨vs', T', (hold b (getElem?_of_some e1)).trans e1, e2, fun i c hi => (e3 i c hi).ev ev⟩
  · rw [hs.ob] at hl; exact h.flat l cs hl
  · have := h.piB l b hp
    exact ⟨by simp only [w', World.size_alloc]; omega, this.2⟩
  · exact h.fr l (Nat.le_trans (hs.ct l.d) hc')
  · rcases hF with hF | ⟨rfl, ho⟩
    · obtain ⟨u, hu'⟩ := h.FB b o hF
      exact ⟨u, (ev.F b o hF).2.trans hu'⟩
    · refine ⟨vs[o]'(by omega), ?_⟩
      rw [cell_of_cells (alloc_heap_new w _)]
      exact Array.getElem?_eq_getElem (by omega)
  · rcases hF with hF | ⟨rfl, _⟩
    · exact h.Fpi b o l hF
    · intro e
      have := (h.piB l _ e).1
      omega
  · rw [hs.ow] at ho
    split at ho
    · rename_i e
      cases ho
      simp only [g', if_pos e]
      refine ⟨vs, T, alloc_heap_new w _, (fun x hx => by have := getElem?_of_some (h.old _ x hx); omega), hM, hz, by omega, fun i hF => ?_, fun l e' => ?_, trivial⟩
      · rcases hF with hF | ⟨_, hi⟩
        · have := hFlt _ _ hF; omega
        · omega
      · have := (h.piB l _ e').1; omega
    · rename_i e
      simp only [g', if_neg e]
      obtain ⟨vs', T', e1, e2, e3, e4, e5, e6, e7, e8⟩ := h.tok d' c m z' ho
      refine ⟨vs', T', (hold _ (getElem?_of_some e1)).trans e1, e2, e3, e4, e5, fun i hF => ?_, e7, e8⟩
      rcases hF with hF | ⟨hb, _⟩
      · exact e6 i hF
      · have := getElem?_of_some e1; omega
  · rw [hs.ow] at h1 h2
    have key : ∀ d c x, (d = dd ∧ c = cc → False) → s.ow d c = some x → (g.τ d c).1 ≠ w.heap.size := fun d c x _ ho => by
      obtain ⟨vs', T', e1, _⟩ := h.tok d c x.1 x.2 ho
      have := getElem?_of_some e1
      omega
    split at h1 <;> split at h2
    · simp_all
    · rename_i e1 e2
      simp only [g', if_pos e1, if_neg e2] at he
      exact absurd he.symm (key _ _ _ e2 h2)
    · rename_i e1 e2
      simp only [g', if_neg e1, if_pos e2] at he
      exact absurd he (key _ _ _ e1 h1)
    · rename_i e1 e2
      simp only [g', if_neg e1, if_neg e2] at he
      exact h.tin d1 c1 d2 c2 x1 x2 h1 h2 he
  · rw [hs.ow]
    split
    · rename_i e
      obtain ⟨rfl, rfl⟩ := e
      have := hs.lt
      omega
    · exact h.tfr d' c (Nat.le_trans (hs.ct d') hc')

/-- A row that has room goes on in its place. -/
theorem St.ext (h : St w0 K w g s) {dd cc m M z : Nat} (hs : TokUp s s' dd cc M z) (ho : s.ow dd cc = some (m, z)) (hm : m ≤ M) (hM : M ≤ (g.τ dd cc).2.2) {vs vs' : Array Value} {T : TypeId}
    (hb : w.heap[(g.τ dd cc).1]? = some (.cells vs T (0, 0))) (hsz : vs'.size = vs.size) (hsame : ∀ i, i < (g.τ dd cc).2.1 + m * z → vs'[i]? = vs[i]?) :
    let w' := w.setRow (g.τ dd cc).1 vs'
    let g' : Gh := { F := fun b o => g.F b o ∨ (b = (g.τ dd cc).1 ∧ (g.τ dd cc).2.1 + m * z ≤ o ∧ o < (g.τ dd cc).2.1 + M * z), π := g.π, τ := g.τ }
    St w0 K w' g' s' ∧ Ev w g s w' g' s' := by
  intro w' g'
  obtain ⟨vs0, T0, t1, t2, t3, t4, t5, t6, t7, t8⟩ := h.tok dd cc m z ho
  rw [hb] at t1
  cases t1
  have hcc : cc < s.ct dd := by
    apply Nat.lt_of_not_le
    intro hle
    rw [h.tfr dd cc hle] at ho
    cases ho
  have hold : ∀ k, k ≠ (g.τ dd cc).1 → w'.heap[k]? = w.heap[k]? := fun k hk => setRow_other w _ k vs' hk
  have hnew : w'.heap[(g.τ dd cc).1]? = some (.cells vs' T (0, 0)) := setRow_heap w _ vs vs' T (0, 0) hb
  have hMz : M * z ≤ (g.τ dd cc).2.2 * z := Nat.mul_le_mul_right z hM
  have ev : Ev w g s w' g' s' := by
    refine ⟨fun b o hF => ⟨.inl hF, ?_⟩, fun _ _ h => h, hs.ct, fun d' c m' z' hc' ho' => ?_, fun b x hx => ?_⟩
    rotate_left 2
    · by_cases e : b = (g.τ dd cc).1
      · subst e
        rw [shape_of_cells hnew, hsz, ← shape_of_cells hb]; exact hx
      · rw [shape_of_heap (hold b e)]; exact hx
    · by_cases e : b = (g.τ dd cc).1
      · subst e
        rw [cell_of_cells hnew, cell_of_cells hb]
        exact hsame o (t6 o hF)
      · exact cell_eq_of_heap (hold b e) o
    · rw [hs.ow] at ho'
      split at ho'
      · rename_i e
        obtain ⟨rfl, rfl⟩ := e
        cases ho'
        exact ⟨m, z, ho, hm, fun _ => rfl⟩
      · exact ⟨m', z', ho', Nat.le_refl _, fun _ => rfl⟩
  refine ⟨⟨h.os, h.tape, h.output, fun k x hk => ?_, fun k hk => ?_, fun l cs b hl hp => ?_, fun l cs hl => ?_, fun l b hp => ?_, by rw [hs.ob]; exact h.inj, fun l hc' => ?_, fun b o hF => ?_, fun b o l hF => ?_, fun d' c m' z' ho' => ?_, fun d1 c1 d2 c2 x1 x2 h1 h2 he => ?_, fun d' c hc' => ?_⟩, ev⟩
  · rw [hold k (by rintro rfl; exact t2 x hk)]; exact h.old k x hk
  · refine ⟨(h.kn k hk).1, fun o hF => ?_⟩
    rcases hF with hF | ⟨rfl, _⟩
    · exact (h.kn k hk).2 o hF
    · obtain ⟨x, hx⟩ := (h.kn _ hk).1
      exact t2 x hx
  · rw [hs.ob] at hl
    obtain ⟨vs2, T2, e1, e2, e3⟩ := h.obj l cs b hl hp
    exact ⟨vs2, T2, (hold b (fun e => t7 l (by rw [← e]; exact hp))).trans e1, e2, fun i c hi => (e3 i c hi).ev ev⟩
  · rw [hs.ob] at hl; exact h.flat l cs hl
  · simpa [w'] using h.piB l b hp
  · exact h.fr l (Nat.le_trans (hs.ct l.d) hc')
  · rcases hF with hF | ⟨rfl, h1, h2⟩
    · obtain ⟨u, hu'⟩ := h.FB b o hF
      exact ⟨u, (ev.F b o hF).2.trans hu'⟩
    · refine ⟨vs'[o]'(by omega), ?_⟩
      rw [cell_of_cells hnew]
      exact Array.getElem?_eq_getElem (by omega)
  · rcases hF with hF | ⟨rfl, _⟩
    · exact h.Fpi b o l hF
    · exact t7 l
  · rw [hs.ow] at ho'
    split at ho'
    · rename_i e
      obtain ⟨rfl, rfl⟩ := e
      cases ho'
      simp only [g']
      refine ⟨vs', T, hnew, t2, hM, t4, by omega, fun i hF => ?_, t7, t8⟩
      rcases hF with hF | ⟨_, _, hi⟩
      · have := t6 i hF
        have : m * z ≤ M * z := Nat.mul_le_mul_right z hm
        omega
      · exact hi
    · rename_i e
      obtain ⟨vs2, T2, e1, e2, e3, e4, e5, e6, e7, e8⟩ := h.tok d' c m' z' ho'
      have hne : (g.τ d' c).1 ≠ (g.τ dd cc).1 := fun e' => e (h.tin d' c dd cc _ _ ho' ho e')
      refine ⟨vs2, T2, (hold _ hne).trans e1, e2, e3, e4, e5, fun i hF => ?_, e7, e8⟩
      rcases hF with hF | ⟨hb', _⟩
      · exact e6 i hF
      · exact absurd hb' hne
  · have key : ∀ d c x, s'.ow d c = some x → ∃ y, s.ow d c = some y := fun d c x hx => by
      rw [hs.ow] at hx
      split at hx
      · rename_i e
        obtain ⟨rfl, rfl⟩ := e
        exact ⟨_, ho⟩
      · exact ⟨_, hx⟩
    obtain ⟨y1, k1⟩ := key _ _ _ h1
    obtain ⟨y2, k2⟩ := key _ _ _ h2
    exact h.tin d1 c1 d2 c2 y1 y2 k1 k2 he
  · rw [hs.ow]
    split
    · rename_i e
      obtain ⟨rfl, rfl⟩ := e
      have := hs.lt
      omega
    · exact h.tfr d' c (Nat.le_trans (hs.ct d') hc')
end
end Go.Mv
/- A token's row goes over to a new token, at another depth. -/
namespace Go.Mv
def Gh.retok (g : Gh) (k c kl c' : Nat) : Gh := { g with τ := fun d' x => if d' = kl ∧ x = c' then g.τ k c else g.τ d' x }
theorem retok_ow {s : Sto} {k c kl : Nat} {v : Nat × Nat} {d' c' : Nat} {x : Nat × Nat} (h : (s.retok k c kl v).ow d' c' = some x) : (d' = kl ∧ c' = s.ct kl ∧ x = v) ∨ (¬ (d' = kl ∧ c' = s.ct kl) ∧ ¬ (d' = k ∧ c' = c) ∧ s.ow d' c' = some x) := by
  simp only [Sto.retok, Sto.tick, Sto.own] at h
  split at h
  · rename_i e
    cases h
    exact .inl ⟨e.1, e.2, rfl⟩
  · rename_i e
    split at h
    · cases h
    · rename_i e2
      exact .inr ⟨e, e2, h⟩
theorem retok_ct (s : Sto) (k c kl : Nat) (v : Nat × Nat) (d' : Nat) : s.ct d' ≤ (s.retok k c kl v).ct d' := by
  simp only [Sto.retok, Sto.tick, Sto.own, upd]
  split
  · rename_i e; subst e; omega
  · exact Nat.le_refl _
theorem St.retok {w0 w : World} {K : Kp} {g : Gh} {s : Sto} {k c kl m z : Nat} (h : St w0 K w g s) (ho : s.ow k c = some (m, z)) :
    St w0 K w (g.retok k c kl (s.ct kl)) (s.retok k c kl (m, z)) ∧ Ev w g s w (g.retok k c kl (s.ct kl)) (s.retok k c kl (m, z)) := by
  have hne : ∀ d' c', c' < s.ct d' → ¬ (d' = kl ∧ c' = s.ct kl) := fun d' c' h1 h2 => by rw [h2.1] at h1; omega
  have hτ : ∀ d' c', ¬ (d' = kl ∧ c' = s.ct kl) → (g.retok k c kl (s.ct kl)).τ d' c' = g.τ d' c' := fun d' c' e => by simp only [Gh.retok]; exact if_neg e
  have hτn : (g.retok k c kl (s.ct kl)).τ kl (s.ct kl) = g.τ k c := by
    show (if kl = kl ∧ s.ct kl = s.ct kl then g.τ k c else g.τ kl (s.ct kl)) = g.τ k c
    exact if_pos ⟨rfl, rfl⟩
  have hev : Ev w g s w (g.retok k c kl (s.ct kl)) (s.retok k c kl (m, z)) := by
    refine ⟨fun _ _ h => ⟨h, rfl⟩, fun _ _ h => h, retok_ct s k c kl _, fun d' c' m' z' hlt hw => ?_, fun _ _ h => h⟩
    rcases retok_ow hw with ⟨e1, e2, _⟩ | ⟨e1, _, e3⟩
    · exact absurd ⟨e1, e2⟩ (hne d' c' hlt)
    · exact ⟨m', z', e3, Nat.le_refl _, fun _ => hτ d' c' e1⟩
  refine ⟨⟨h.os, h.tape, h.output, h.old, h.kn, fun l cs b hl hp => ?_, h.flat, h.piB, h.inj, fun l hl => h.fr l (Nat.le_trans (retok_ct s k c kl _ _) hl), h.FB, h.Fpi, fun d' c' m' z' hw => ?_, fun d' c' d2 c2 x x2 hw hw2 he => ?_, fun d' c' hc => ?_⟩, hev⟩
  · obtain ⟨vs, T, e1, e2, e3⟩ := h.obj l cs b hl hp
    exact ⟨vs, T, e1, e2, fun i c hi => (e3 i c hi).ev hev⟩
  · rcases retok_ow hw with ⟨rfl, rfl, e3⟩ | ⟨e1, _, e3⟩
    · cases e3
      rw [hτn]
      exact h.tok k c m z ho
    · rw [hτ d' c' e1]
      exact h.tok d' c' m' z' e3
  · rcases retok_ow hw with ⟨rfl, rfl, _⟩ | ⟨e1, e2, e3⟩ <;> rcases retok_ow hw2 with ⟨rfl, rfl, _⟩ | ⟨f1, f2, f3⟩
    · exact ⟨rfl, rfl⟩
    · rw [hτn, hτ d2 c2 f1] at he
      obtain ⟨q1, q2⟩ := h.tin k c d2 c2 _ _ ho f3 he
      exact absurd ⟨q1.symm, q2.symm⟩ f2
    · rw [hτn, hτ d' c' e1] at he
      obtain ⟨q1, q2⟩ := h.tin d' c' k c _ _ e3 ho he
      exact absurd ⟨q1, q2⟩ e2
    · rw [hτ d' c' e1, hτ d2 c2 f1] at he
      exact h.tin d' c' d2 c2 _ _ e3 f3 he
  · have h1 := h.tfr d' c' (Nat.le_trans (retok_ct s k c kl (m, z) d') hc)
    cases hw : (s.retok k c kl (m, z)).ow d' c' with
    | none => rfl
    | some x =>
      rcases retok_ow hw with ⟨rfl, rfl, _⟩ | ⟨_, _, e3⟩
      · simp only [Sto.retok, Sto.tick, Sto.own, upd, if_true] at hc
        omega
      · rw [h1] at e3; cases e3
theorem VR.retok {w : World} {g : Gh} {s : Sto} {k c kl m z : Nat} {xs : List (List MV)} {v : Value} (ho : s.ow k c = some (m, z)) (h : VR w g s (.sl (.own k c) xs) v) (hev : Ev w g s w (g.retok k c kl (s.ct kl)) (s.retok k c kl (m, z))) :
    VR w (g.retok k c kl (s.ct kl)) (s.retok k c kl (m, z)) (.sl (.own kl (s.ct kl)) xs) v := by
  cases h with
  | sl t xs a cap b o z' u hcap htok ha hz hF hp hv =>
    refine .sl _ xs a cap b o z' u hcap ⟨by simp [Sto.retok, Sto.tick, Sto.own, upd], fun m2 z2 hw => ?_⟩ ha hz hF hp fun i x hx j c hc => (hv i x hx j c hc).ev hev
    have hτn : (g.retok k c kl (s.ct kl)).τ kl (s.ct kl) = g.τ k c := by
      show (if kl = kl ∧ s.ct kl = s.ct kl then g.τ k c else g.τ kl (s.ct kl)) = g.τ k c
      exact if_pos ⟨rfl, rfl⟩
    rw [hτn]
    rcases retok_ow hw with ⟨_, _, e3⟩ | ⟨e1, _, _⟩
    · cases e3
      exact htok.2 m z ho
    · exact absurd ⟨rfl, rfl⟩ e1
end Go.Mv
