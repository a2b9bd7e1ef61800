/- Walks: what the functions compute. -/
import Derived.Test.YtclnccgiicgooaaGreatDoorMvE
import Derived.Test.YtclnccgiicgooaaGreatDoorMvD
import Derived.Test.YtclnccgiicgooaaGreatDoorMvG
import Derived.KernelRfl
import Derived.Test.YtclnccgiicgooaaGreatDoorChecked
set_option linter.unusedVariables false
set_option linter.unusedSimpArgs false
/- The program's types, as the evaluator looks at them. -/
namespace Go.Proofs.Tryz.E
open Go.Mv

/-- The first place of a byte; -1: there is none. -/
def idxB : List UInt8 → Int → Int
  | [], _ => -1
  | b :: s, c => if (b.toNat : Int) = c then 0 else if idxB s c < 0 then -1 else idxB s c + 1
def idxByteP : Nat → Nat → List MV → Sto → Option (MV × Sto)
  | _, _, [.str s, .int .u8 c], σ => if 0 ≤ c ∧ c < 256 then some (.int .i64 (idxB s c), σ) else none
  | _, _, _, _ => none
/-- The first place of a text; -1: there is none. -/
def idxS : List UInt8 → List UInt8 → Int
  | [], t => if t = [] then 0 else -1
  | b :: s, t => if t <+: (b :: s) then 0 else if idxS s t < 0 then -1 else idxS s t + 1
def indexP : Nat → Nat → List MV → Sto → Option (MV × Sto)
  | _, _, [.str s, .str t], σ => if s.length < 4294967281 then some (.int .i64 (idxS s t), σ) else none
  | _, _, _, _ => none
/-- A text without the bytes of a set at its beginning. -/
def trimP : Nat → Nat → List MV → Sto → Option (MV × Sto)
  | _, _, [.str s, .str c], σ => if c = [48, 49, 50, 51, 52, 53, 54, 55, 56, 57] ∨ c = [32, 9] then some (.str (s.dropWhile (c.contains ·)), σ) else none
  | _, _, _, _ => none
/-- A lexer at a text's beginning, of its own. -/
def newP : Nat → Nat → List MV → Sto → Option (MV × Sto)
  | lim, d + 1, [.str s], σ => if lim ≤ d then some (.ptr ⟨d, 0, σ.ct d⟩ 0, (σ.set ⟨d, 0, σ.ct d⟩ [.str s, .int .i64 0]).tick d) else none
  | _, _, _, _ => none
/-- A row of its own. -/
def cloneP (z b : Nat) : Nat → Nat → List MV → Sto → Option (MV × Sto)
  | lim, d + 1, [.sl _ xs], σ =>
    if xs = [] then some (.sl .no [], σ) else
    if lim ≤ d ∧ okz z xs = true ∧ xs.length * b ≤ 140737488355328 then (xs.mapM datas).map fun ys => (.rs ⟨d, 0, σ.ct d⟩ 0 xs.length z, (σ.set ⟨d, 0, σ.ct d⟩ ys.flatten).tick d) else none
  | _, _, _, _ => none
/-- A Builder's place; its own address. -/
def isB (l : Mv.Loc) : Bool := decide (l.t = 1000000 + (85 * 1024 + 2))
def okA (l : Mv.Loc) : MV → Bool
  | .nilp => true
  | .ptr l' 0 => decide (l' = l)
  | _ => false
def wstrP : Nat → Nat → List MV → Sto → Option (MV × Sto)
  | lim, d + 1, [.ptr l 0, .str x], σ =>
    if lim ≤ l.d ∧ l.d ≤ d ∧ isB l = true then
      match σ.ob l with
      | some [p, .sl tk xs] => if okA l p = true then (bapp lim l.d 5 σ tk xs x).map fun r => (.tup [.int .i64 x.length, .junk], r.2.set l [.ptr l 0, r.1]) else none
      | _ => none
    else none
  | _, _, _, _ => none
def wbyteP : Nat → Nat → List MV → Sto → Option (MV × Sto)
  | lim, d + 1, [.ptr l 0, .int .u8 c], σ =>
    if lim ≤ l.d ∧ l.d ≤ d ∧ isB l = true ∧ 0 ≤ c ∧ c < 256 then
      match σ.ob l with
      | some [p, .sl tk xs] => if okA l p = true then (bapp lim l.d 5 σ tk xs [UInt8.ofNat c.toNat]).map fun r => (.junk, r.2.set l [.ptr l 0, r.1]) else none
      | _ => none
    else none
  | _, _, _, _ => none
/-- A Builder that is the second part of a command's builder. -/
def isB1 (l : Mv.Loc) : Bool := decide (l.t = 1000000 + (251 * 1024 + 3))
def okA1 (l : Mv.Loc) : MV → Bool
  | .nilp => true
  | .ptr l' 1 => decide (l' = l)
  | _ => false
def wbyteP1 : Nat → Nat → List MV → Sto → Option (MV × Sto)
  | lim, d + 1, [.ptr l 1, .int .u8 c], σ =>
    if lim ≤ l.d ∧ l.d ≤ d ∧ isB1 l = true ∧ 0 ≤ c ∧ c < 256 then
      match σ.ob l with
      | some [q, p, .sl tk xs] => if okA1 l p = true then (bapp lim l.d 5 σ tk xs [UInt8.ofNat c.toNat]).map fun r => (.junk, r.2.set l [q, .ptr l 1, r.1]) else none
      | _ => none
    else none
  | _, _, _, _ => none
/-- Cells that are bytes. -/
def inB : List (List MV) → Bool
  | [] => true
  | [.int .u8 n] :: r => decide (0 ≤ n ∧ n < 256) && inB r
  | _ => false
def bstrP : Nat → Nat → List MV → Sto → Option (MV × Sto)
  | lim, d + 1, [.ptr l 0], σ =>
    if lim ≤ l.d ∧ l.d ≤ d then
      match σ.ob l with
      | some [p, .sl .nil []] => some (.str [], σ)
      | some [p, .sl (.byt k c q) xs] =>
        match bytesOf xs with
        | some bs => if lim ≤ k ∧ k ≤ l.d ∧ q = 5 ∧ bs ≠ [] ∧ okz 1 xs = true ∧ (inB xs = true ∧ xs.length ≤ 140737488355328) ∧ σ.ow k c = some (xs.length, 1) then some (.str bs, (σ.own k c none).set l [p, .sl .no xs]) else none
        | none => none
      | _ => none
    else none
  | _, _, _, _ => none
def bstrP1 : Nat → Nat → List MV → Sto → Option (MV × Sto)
  | lim, d + 1, [.ptr l 1], σ =>
    if lim ≤ l.d ∧ l.d ≤ d then
      match σ.ob l with
      | some [q, p, .sl .nil []] => some (.str [], σ)
      | some [q, p, .sl (.byt k c e) xs] =>
        match bytesOf xs with
        | some bs => if lim ≤ k ∧ k ≤ l.d ∧ e = 5 ∧ bs ≠ [] ∧ okz 1 xs = true ∧ (inB xs = true ∧ xs.length ≤ 140737488355328) ∧ σ.ow k c = some (xs.length, 1) then some (.str bs, (σ.own k c none).set l [q, p, .sl .no xs]) else none
        | none => none
      | _ => none
    else none
  | _, _, _, _ => none
def at1 : List MV → Bool
  | .ptr _ 1 :: _ => true
  | _ => false
def wbyteQ (lim d : Nat) (ms : List MV) (σ : Sto) : Option (MV × Sto) := if at1 ms = true then wbyteP1 lim d ms σ else wbyteP lim d ms σ
def bstrQ (lim d : Nat) (ms : List MV) (σ : Sto) : Option (MV × Sto) := if at1 ms = true then bstrP1 lim d ms σ else bstrP lim d ms σ
/-- A text without the blanks at both ends. -/
def trimB (s : List UInt8) : List UInt8 := ((s.reverse.dropWhile (([32, 9] : List UInt8).contains ·)).reverse).dropWhile (([32, 9] : List UInt8).contains ·)
def trimAllP : Nat → Nat → List MV → Sto → Option (MV × Sto)
  | _, _, [.str s, .str c], σ => if c = [32, 9] ∧ s.length ≤ 9223372036854775807 then some (.str (trimB s), σ) else none
  | _, _, _, _ => none
/-- Whether a text has one of three signs. -/
def anyP : Nat → Nat → List MV → Sto → Option (MV × Sto)
  | _, _, [.str s, .str c], σ => if c = [10, 59, 125] ∧ s.length < 4294967281 then some (.bool (s.any (([10, 59, 125] : List UInt8).contains ·)), σ) else none
  | _, _, _, _ => none
/-- Where Builders lie: in variables of these types, of so many cells, at these places. -/
def bldT : List (Nat × Nat × Nat) := [(85, 2, 0), (251, 3, 1), (88, 10, 4)]
def isG (l : Mv.Loc) (o : Nat) : Bool := bldT.any fun x => decide (l.t = 1000000 + (x.1 * 1024 + x.2.1)) && x.2.2 == o
def okG (l : Mv.Loc) (o : Nat) : MV → Bool
  | .nilp => true
  | .ptr l' o' => decide (l' = l) && o' == o
  | _ => false
def bldO (cs : List MV) (o : Nat) : Option (MV × Tok × List (List MV)) :=
  match cs[o]?, cs[o + 1]? with
  | some p, some (.sl tk xs) => some (p, tk, xs)
  | _, _ => none
def appG (lim d : Nat) (l : Mv.Loc) (o : Nat) (x : List UInt8) (u : MV) (σ : Sto) : Option (MV × Sto) :=
  if lim ≤ l.d ∧ l.d ≤ d ∧ isG l o = true then
    match σ.ob l with
    | some cs => match bldO cs o with
      | some (p, tk, xs) => if okG l o p = true then (bapp lim l.d 5 σ tk xs x).map fun r => (u, r.2.set l ((cs.set o (.ptr l o)).set (o + 1) r.1)) else none
      | none => none
    | none => none
  else none
def wstrG : Nat → Nat → List MV → Sto → Option (MV × Sto)
  | lim, d + 1, [.ptr l o, .str x], σ => appG lim d l o x (.tup [.int .i64 x.length, .junk]) σ
  | _, _, _, _ => none
def wbyteG : Nat → Nat → List MV → Sto → Option (MV × Sto)
  | lim, d + 1, [.ptr l o, .int .u8 c], σ => if 0 ≤ c ∧ c < 256 then appG lim d l o [UInt8.ofNat c.toNat] .junk σ else none
  | _, _, _, _ => none
def bstrG : Nat → Nat → List MV → Sto → Option (MV × Sto)
  | lim, d + 1, [.ptr l o], σ =>
    if lim ≤ l.d ∧ l.d ≤ d then
      match σ.ob l with
      | some cs => match cs[o + 1]? with
        | some (.sl .nil []) => some (.str [], σ)
        | some (.sl (.byt k c q) xs) => match bytesOf xs with
          | some bs => if lim ≤ k ∧ k ≤ l.d ∧ q = 5 ∧ bs ≠ [] ∧ okz 1 xs = true ∧ (inB xs = true ∧ xs.length ≤ 140737488355328) ∧ σ.ow k c = some (xs.length, 1) then some (.str bs, (σ.own k c none).set l (cs.set (o + 1) (.sl .no xs))) else none
          | none => none
        | _ => none
      | none => none
    else none
  | _, _, _, _ => none
/-- How often a byte stands in a text. -/
def countP : Nat → Nat → List MV → Sto → Option (MV × Sto)
  | _, _, [.str s, .int .u8 c], σ => if 0 ≤ c ∧ c < 256 then some (.int .i64 (s.count c.toNat.toUInt8 : Nat), σ) else none
  | _, _, _, _ => none
def u4 : List Sh := [.i .u64, .i .u64, .i .u64, .i .u64]
noncomputable def X : Cfg where
  P := Go.Proofs.Tryz.prog
  eqT := fun t => if t = 180 then some ([.i .i64, .i .u8] ++ u4 ++ [.i .i64, .i .i64, .i .i64]) else if t = 136 then some [.i .i64, .s] else none
  prim := fun f => if f = 81 then some (cloneP 10 96) else if f = 159 then some idxByteP else if f = 180 then some indexP else if f = 113 then some wstrG else if f = 165 then some wbyteG else if f = 32 then some bstrG else if f = 124 then some trimP else if f = 38 then some newP else if f = 182 then some countP else none
  kp := fun b q => b = 0 ∧ q = fun x => ∃ m t i, x = .cells #[.int .i64 m] t i
  tg := fun t => decide (t = 85 ∨ t = 251 ∨ t = 88)
  hotF := fun f => if f = 32 then true else if f = 161 then true else if f = 33 then true else if f = 34 then true else if f = 84 then true else if f = 149 then true else if f = 148 then true else if f = 152 then true else false
  kt := fun t => decide (t = 72 ∨ t = 58 ∨ t = 99)
  rw := fun t n => if t = 42 then (if n = 78 then some 1 else if n = 67 then some 1 else none) else if t = 38 then (if n = 31 then some 0 else none) else none
  pt := fun t => decide (t = 42)
  up := fun t _ => if t = 88 then 2 else if t = 53 then 1 else 0

@[go_sem] theorem locX (t n : Nat) (o : Option Tmp) : locT X t n o = if t = 85 then (if n < 1024 then 1000000 + (t * 1024 + n) else dstT o) else if t = 251 then (if n < 1024 then 1000000 + (t * 1024 + n) else dstT o) else if t = 88 then (if n < 1024 then 1000000 + (t * 1024 + n) else dstT o) else dstT o := by
  unfold locT X
  simp only [decide_eq_true_eq]
  by_cases h1 : t = 85
  · rw [if_pos (Or.inl h1), if_pos h1]
  · by_cases h2 : t = 251
    · rw [if_pos (Or.inr (Or.inl h2)), if_neg h1, if_pos h2]
    · by_cases h3 : t = 88
      · rw [if_pos (Or.inr (Or.inr h3)), if_neg h1, if_neg h2, if_pos h3]
      · rw [if_neg (fun q => q.elim h1 fun q => q.elim h2 h3), if_neg h1, if_neg h2, if_neg h3]
@[go_sem] theorem dstT_some (t : Nat) : dstT (some t) = if t < 1000000 then t else 0 := rfl
@[go_sem] theorem dep_ptr (d : Nat) (l : Mv.Loc) (o : Nat) : dep d (.ptr l o) = decide (l.d < d) := rfl
@[go_sem] theorem ktX {α : Type} (t d : Nat) (m : MV) (x y : α) : (if (X.kt t && dep d m) = true then x else y) = if t = 72 then (if dep d m = true then x else y) else if t = 58 then (if dep d m = true then x else y) else if t = 99 then (if dep d m = true then x else y) else y := by
  unfold X
  simp only [Bool.and_eq_true, decide_eq_true_eq]
  by_cases h1 : t = 72
  · simp [h1]
  · by_cases h2 : t = 58
    · simp [h2]
    · by_cases h3 : t = 99
      · simp [h3]
      · rw [if_neg (fun q => q.1.elim h1 fun q => q.elim h2 h3), if_neg h1, if_neg h2, if_neg h3]
@[go_sem] theorem ptX {α : Type} (t d : Nat) (m : MV) (x y : α) : (if (X.pt t && dep d m) = true then x else y) = if t = 42 then (if dep d m = true then x else y) else y := by
  unfold X
  simp only [Bool.and_eq_true, decide_eq_true_eq]
  by_cases h1 : t = 42
  · simp [h1]
  · rw [if_neg (fun q => h1 q.1), if_neg h1]
@[go_sem] theorem upX (t n : Nat) : X.up t n = if t = 88 then 2 else if t = 53 then 1 else 0 := rfl
@[go_sem] theorem rwX (t n : Nat) : X.rw t n = if t = 42 then (if n = 78 then some 1 else if n = 67 then some 1 else none) else if t = 38 then (if n = 31 then some 0 else none) else none := rfl
@[go_sem] theorem shp_2 : shp X.P 2 = some (false, 1) := by kernel_rfl
@[go_sem] theorem zer_2 : zer X.P 2 = some (.int .i64 0) := by kernel_rfl
@[go_sem] theorem und_2 : X.P.underlying 2 = some (Go.TypeDesc.int .i64) := by kernel_rfl
@[go_sem] theorem shp_3 : shp X.P 3 = some (false, 1) := by kernel_rfl
@[go_sem] theorem zer_3 : zer X.P 3 = some (.int .i64 0) := by kernel_rfl
@[go_sem] theorem und_3 : X.P.underlying 3 = some (Go.TypeDesc.int .i64) := by kernel_rfl
@[go_sem] theorem shp_4 : shp X.P 4 = some (false, 1) := by kernel_rfl
@[go_sem] theorem zer_4 : zer X.P 4 = some (.bool false) := by kernel_rfl
@[go_sem] theorem und_4 : X.P.underlying 4 = some Go.TypeDesc.bool := by kernel_rfl
@[go_sem] theorem shp_5 : shp X.P 5 = some (false, 1) := by kernel_rfl
@[go_sem] theorem zer_5 : zer X.P 5 = some (.int .u8 0) := by kernel_rfl
@[go_sem] theorem und_5 : X.P.underlying 5 = some (Go.TypeDesc.int .u8) := by kernel_rfl
@[go_sem] theorem shp_9 : shp X.P 9 = some (false, 1) := by kernel_rfl
@[go_sem] theorem zer_9 : zer X.P 9 = some (.str []) := by kernel_rfl
@[go_sem] theorem und_9 : X.P.underlying 9 = some Go.TypeDesc.string := by kernel_rfl
@[go_sem] theorem shp_21 : shp X.P 21 = some (false, 1) := by kernel_rfl
@[go_sem] theorem zer_21 : zer X.P 21 = some (.int .i32 0) := by kernel_rfl
@[go_sem] theorem und_21 : X.P.underlying 21 = some (Go.TypeDesc.int .i32) := by kernel_rfl
@[go_sem] theorem shp_23 : shp X.P 23 = some (false, 1) := by kernel_rfl
@[go_sem] theorem zer_23 : zer X.P 23 = some .nilp := by kernel_rfl
@[go_sem] theorem und_23 : X.P.underlying 23 = some (Go.TypeDesc.pointer 53) := by kernel_rfl
@[go_sem] theorem shp_24 : shp X.P 24 = some (false, 1) := by kernel_rfl
@[go_sem] theorem zer_24 : zer X.P 24 = some (.int .i64 0) := by kernel_rfl
@[go_sem] theorem und_24 : X.P.underlying 24 = some (Go.TypeDesc.int .i64) := by kernel_rfl
@[go_sem] theorem shp_27 : shp X.P 27 = some (false, 1) := by kernel_rfl
@[go_sem] theorem zer_27 : zer X.P 27 = some .nilp := by kernel_rfl
@[go_sem] theorem und_27 : X.P.underlying 27 = some (Go.TypeDesc.pointer 88) := by kernel_rfl
@[go_sem] theorem shp_30 : shp X.P 30 = some (false, 1) := by kernel_rfl
@[go_sem] theorem zer_30 : zer X.P 30 = some (.sl .nil []) := by kernel_rfl
@[go_sem] theorem slc_30 : slc X.P 30 = some (96, 2, 32) := by kernel_rfl
@[go_sem] theorem und_30 : X.P.underlying 30 = some (Go.TypeDesc.slice 96) := by kernel_rfl
@[go_sem] theorem shp_32 : shp X.P 32 = some (true, 3) := by kernel_rfl
@[go_sem] theorem zer_32 : zer X.P 32 = some (.agg [.str [], .sl .nil [], .int .i64 0]) := by kernel_rfl
@[go_sem] theorem bldz_32 : bldz X.P 32 = some [.str [], .sl .nil [], .int .i64 0] := by kernel_rfl
@[go_sem] theorem fld_32_0 : fldo X.P 32 0 = some (0, 9) := by kernel_rfl
@[go_sem] theorem plc_32_0 : places X.P 32 0 = some (0, 1) := by kernel_rfl
@[go_sem] theorem fld_32_1 : fldo X.P 32 1 = some (1, 30) := by kernel_rfl
@[go_sem] theorem plc_32_1 : places X.P 32 1 = some (1, 1) := by kernel_rfl
@[go_sem] theorem fld_32_2 : fldo X.P 32 2 = some (2, 3) := by kernel_rfl
@[go_sem] theorem plc_32_2 : places X.P 32 2 = some (2, 1) := by kernel_rfl
@[go_sem] theorem shp_36 : shp X.P 36 = some (true, 2) := by kernel_rfl
@[go_sem] theorem zer_36 : zer X.P 36 = some (.agg [.bool false, .bool false]) := by kernel_rfl
@[go_sem] theorem bldz_36 : bldz X.P 36 = some [.bool false, .bool false] := by kernel_rfl
@[go_sem] theorem fld_36_0 : fldo X.P 36 0 = some (0, 4) := by kernel_rfl
@[go_sem] theorem plc_36_0 : places X.P 36 0 = some (0, 1) := by kernel_rfl
@[go_sem] theorem fld_36_1 : fldo X.P 36 1 = some (1, 4) := by kernel_rfl
@[go_sem] theorem plc_36_1 : places X.P 36 1 = some (1, 1) := by kernel_rfl
@[go_sem] theorem shp_38 : shp X.P 38 = some (false, 1) := by kernel_rfl
@[go_sem] theorem zer_38 : zer X.P 38 = some (.sl .nil []) := by kernel_rfl
@[go_sem] theorem slc_38 : slc X.P 38 = some (9, 1, 16) := by kernel_rfl
@[go_sem] theorem und_38 : X.P.underlying 38 = some (Go.TypeDesc.slice 9) := by kernel_rfl
@[go_sem] theorem shp_40 : shp X.P 40 = some (false, 1) := by kernel_rfl
@[go_sem] theorem zer_40 : zer X.P 40 = some .junk := by kernel_rfl
@[go_sem] theorem shp_42 : shp X.P 42 = some (false, 1) := by kernel_rfl
@[go_sem] theorem zer_42 : zer X.P 42 = some (.sl .nil []) := by kernel_rfl
@[go_sem] theorem slc_42 : slc X.P 42 = some (76, 50, 496) := by kernel_rfl
@[go_sem] theorem und_42 : X.P.underlying 42 = some (Go.TypeDesc.slice 76) := by kernel_rfl
@[go_sem] theorem shp_44 : shp X.P 44 = some (true, 2) := by kernel_rfl
@[go_sem] theorem zer_44 : zer X.P 44 = some (.agg [.bool false, .sl .nil []]) := by kernel_rfl
@[go_sem] theorem bldz_44 : bldz X.P 44 = some [.bool false, .sl .nil []] := by kernel_rfl
@[go_sem] theorem fld_44_0 : fldo X.P 44 0 = some (0, 4) := by kernel_rfl
@[go_sem] theorem plc_44_0 : places X.P 44 0 = some (0, 1) := by kernel_rfl
@[go_sem] theorem fld_44_1 : fldo X.P 44 1 = some (1, 42) := by kernel_rfl
@[go_sem] theorem plc_44_1 : places X.P 44 1 = some (1, 1) := by kernel_rfl
@[go_sem] theorem shp_50 : shp X.P 50 = some (false, 1) := by kernel_rfl
@[go_sem] theorem zer_50 : zer X.P 50 = some (.sl .nil []) := by kernel_rfl
@[go_sem] theorem slc_50 : slc X.P 50 = some (4, 1, 1) := by kernel_rfl
@[go_sem] theorem und_50 : X.P.underlying 50 = some (Go.TypeDesc.slice 4) := by kernel_rfl
@[go_sem] theorem shp_51 : shp X.P 51 = some (false, 1) := by kernel_rfl
@[go_sem] theorem zer_51 : zer X.P 51 = some .nilp := by kernel_rfl
@[go_sem] theorem und_51 : X.P.underlying 51 = some (Go.TypeDesc.pointer 67) := by kernel_rfl
@[go_sem] theorem shp_53 : shp X.P 53 = some (true, 9) := by kernel_rfl
@[go_sem] theorem zer_53 : zer X.P 53 = some (.agg [.bool false, .sl .nil [], .nilp, .sl .nil [], .bool false, .nilp, .bool false, .bool false, .bool false]) := by kernel_rfl
@[go_sem] theorem bldz_53 : bldz X.P 53 = some [.bool false, .sl .nil [], .nilp, .sl .nil [], .bool false, .nilp, .bool false, .bool false, .bool false] := by kernel_rfl
@[go_sem] theorem fld_53_0 : fldo X.P 53 0 = some (0, 44) := by kernel_rfl
@[go_sem] theorem plc_53_0 : places X.P 53 0 = some (0, 2) := by kernel_rfl
@[go_sem] theorem fld_53_1 : fldo X.P 53 1 = some (2, 27) := by kernel_rfl
@[go_sem] theorem plc_53_1 : places X.P 53 1 = some (2, 1) := by kernel_rfl
@[go_sem] theorem fld_53_2 : fldo X.P 53 2 = some (3, 50) := by kernel_rfl
@[go_sem] theorem plc_53_2 : places X.P 53 2 = some (3, 1) := by kernel_rfl
@[go_sem] theorem fld_53_3 : fldo X.P 53 3 = some (4, 4) := by kernel_rfl
@[go_sem] theorem plc_53_3 : places X.P 53 3 = some (4, 1) := by kernel_rfl
@[go_sem] theorem fld_53_4 : fldo X.P 53 4 = some (5, 51) := by kernel_rfl
@[go_sem] theorem plc_53_4 : places X.P 53 4 = some (5, 1) := by kernel_rfl
@[go_sem] theorem fld_53_5 : fldo X.P 53 5 = some (6, 4) := by kernel_rfl
@[go_sem] theorem plc_53_5 : places X.P 53 5 = some (6, 1) := by kernel_rfl
@[go_sem] theorem fld_53_6 : fldo X.P 53 6 = some (7, 4) := by kernel_rfl
@[go_sem] theorem plc_53_6 : places X.P 53 6 = some (7, 1) := by kernel_rfl
@[go_sem] theorem fld_53_7 : fldo X.P 53 7 = some (8, 4) := by kernel_rfl
@[go_sem] theorem plc_53_7 : places X.P 53 7 = some (8, 1) := by kernel_rfl
@[go_sem] theorem shp_58 : shp X.P 58 = some (false, 1) := by kernel_rfl
@[go_sem] theorem zer_58 : zer X.P 58 = some (.sl .nil []) := by kernel_rfl
@[go_sem] theorem slc_58 : slc X.P 58 = some (5, 1, 1) := by kernel_rfl
@[go_sem] theorem und_58 : X.P.underlying 58 = some (Go.TypeDesc.slice 5) := by kernel_rfl
@[go_sem] theorem shp_62 : shp X.P 62 = some (false, 1) := by kernel_rfl
@[go_sem] theorem zer_62 : zer X.P 62 = some (.int .u64 0) := by kernel_rfl
@[go_sem] theorem und_62 : X.P.underlying 62 = some (Go.TypeDesc.int .u64) := by kernel_rfl
@[go_sem] theorem shp_64 : shp X.P 64 = some (true, 4) := by kernel_rfl
@[go_sem] theorem zer_64 : zer X.P 64 = some (.agg [.int .u64 0, .int .u64 0, .int .u64 0, .int .u64 0]) := by kernel_rfl
@[go_sem] theorem arr_64 : arr X.P 64 = some (4, 62) := by kernel_rfl
@[go_sem] theorem bldz_64 : bldz X.P 64 = some [.int .u64 0, .int .u64 0, .int .u64 0, .int .u64 0] := by kernel_rfl
@[go_sem] theorem und_64 : X.P.underlying 64 = some (Go.TypeDesc.array 4 62) := by kernel_rfl
@[go_sem] theorem plc_64_0 : places X.P 64 0 = some (0, 1) := by kernel_rfl
@[go_sem] theorem plc_64_1 : places X.P 64 1 = some (1, 1) := by kernel_rfl
@[go_sem] theorem plc_64_2 : places X.P 64 2 = some (2, 1) := by kernel_rfl
@[go_sem] theorem plc_64_3 : places X.P 64 3 = some (3, 1) := by kernel_rfl
@[go_sem] theorem plc_64_4 : places X.P 64 4 = some (4, 1) := by kernel_rfl
@[go_sem] theorem plc_64_5 : places X.P 64 5 = some (5, 1) := by kernel_rfl
@[go_sem] theorem plc_64_6 : places X.P 64 6 = some (6, 1) := by kernel_rfl
@[go_sem] theorem plc_64_7 : places X.P 64 7 = some (7, 1) := by kernel_rfl
@[go_sem] theorem plc_64_8 : places X.P 64 8 = some (8, 1) := by kernel_rfl
@[go_sem] theorem plc_64_9 : places X.P 64 9 = some (9, 1) := by kernel_rfl
@[go_sem] theorem plc_64_10 : places X.P 64 10 = some (10, 1) := by kernel_rfl
@[go_sem] theorem plc_64_11 : places X.P 64 11 = some (11, 1) := by kernel_rfl
@[go_sem] theorem plc_64_12 : places X.P 64 12 = some (12, 1) := by kernel_rfl
@[go_sem] theorem plc_64_13 : places X.P 64 13 = some (13, 1) := by kernel_rfl
@[go_sem] theorem plc_64_14 : places X.P 64 14 = some (14, 1) := by kernel_rfl
@[go_sem] theorem plc_64_15 : places X.P 64 15 = some (15, 1) := by kernel_rfl
@[go_sem] theorem plc_64_16 : places X.P 64 16 = some (16, 1) := by kernel_rfl
@[go_sem] theorem plc_64_17 : places X.P 64 17 = some (17, 1) := by kernel_rfl
@[go_sem] theorem plc_64_18 : places X.P 64 18 = some (18, 1) := by kernel_rfl
@[go_sem] theorem plc_64_19 : places X.P 64 19 = some (19, 1) := by kernel_rfl
@[go_sem] theorem shp_65 : shp X.P 65 = some (false, 1) := by kernel_rfl
@[go_sem] theorem zer_65 : zer X.P 65 = some (.sl .nil []) := by kernel_rfl
@[go_sem] theorem slc_65 : slc X.P 65 = some (67, 10, 96) := by kernel_rfl
@[go_sem] theorem und_65 : X.P.underlying 65 = some (Go.TypeDesc.slice 67) := by kernel_rfl
@[go_sem] theorem shp_67 : shp X.P 67 = some (true, 10) := by kernel_rfl
@[go_sem] theorem zer_67 : zer X.P 67 = some (.agg [.int .i64 0, .int .u8 0, .int .u64 0, .int .u64 0, .int .u64 0, .int .u64 0, .int .i64 0, .int .i64 0, .int .i64 0, .sl .nil []]) := by kernel_rfl
@[go_sem] theorem bldz_67 : bldz X.P 67 = some [.int .i64 0, .int .u8 0, .int .u64 0, .int .u64 0, .int .u64 0, .int .u64 0, .int .i64 0, .int .i64 0, .int .i64 0, .sl .nil []] := by kernel_rfl
@[go_sem] theorem fld_67_0 : fldo X.P 67 0 = some (0, 3) := by kernel_rfl
@[go_sem] theorem plc_67_0 : places X.P 67 0 = some (0, 1) := by kernel_rfl
@[go_sem] theorem fld_67_1 : fldo X.P 67 1 = some (1, 5) := by kernel_rfl
@[go_sem] theorem plc_67_1 : places X.P 67 1 = some (1, 1) := by kernel_rfl
@[go_sem] theorem fld_67_2 : fldo X.P 67 2 = some (2, 64) := by kernel_rfl
@[go_sem] theorem plc_67_2 : places X.P 67 2 = some (2, 4) := by kernel_rfl
@[go_sem] theorem fld_67_3 : fldo X.P 67 3 = some (6, 3) := by kernel_rfl
@[go_sem] theorem plc_67_3 : places X.P 67 3 = some (6, 1) := by kernel_rfl
@[go_sem] theorem fld_67_4 : fldo X.P 67 4 = some (7, 3) := by kernel_rfl
@[go_sem] theorem plc_67_4 : places X.P 67 4 = some (7, 1) := by kernel_rfl
@[go_sem] theorem fld_67_5 : fldo X.P 67 5 = some (8, 3) := by kernel_rfl
@[go_sem] theorem plc_67_5 : places X.P 67 5 = some (8, 1) := by kernel_rfl
@[go_sem] theorem fld_67_6 : fldo X.P 67 6 = some (9, 65) := by kernel_rfl
@[go_sem] theorem plc_67_6 : places X.P 67 6 = some (9, 1) := by kernel_rfl
@[go_sem] theorem shp_69 : shp X.P 69 = some (true, 12) := by kernel_rfl
@[go_sem] theorem zer_69 : zer X.P 69 = some (.agg [.int .i64 0, .int .i64 0, .int .i64 0, .int .u8 0, .int .u64 0, .int .u64 0, .int .u64 0, .int .u64 0, .int .i64 0, .int .i64 0, .int .i64 0, .sl .nil []]) := by kernel_rfl
@[go_sem] theorem bldz_69 : bldz X.P 69 = some [.int .i64 0, .int .i64 0, .int .i64 0, .int .u8 0, .int .u64 0, .int .u64 0, .int .u64 0, .int .u64 0, .int .i64 0, .int .i64 0, .int .i64 0, .sl .nil []] := by kernel_rfl
@[go_sem] theorem fld_69_0 : fldo X.P 69 0 = some (0, 3) := by kernel_rfl
@[go_sem] theorem plc_69_0 : places X.P 69 0 = some (0, 1) := by kernel_rfl
@[go_sem] theorem fld_69_1 : fldo X.P 69 1 = some (1, 3) := by kernel_rfl
@[go_sem] theorem plc_69_1 : places X.P 69 1 = some (1, 1) := by kernel_rfl
@[go_sem] theorem fld_69_2 : fldo X.P 69 2 = some (2, 67) := by kernel_rfl
@[go_sem] theorem plc_69_2 : places X.P 69 2 = some (2, 10) := by kernel_rfl
@[go_sem] theorem shp_71 : shp X.P 71 = some (true, 25) := by kernel_rfl
@[go_sem] theorem zer_71 : zer X.P 71 = some (.agg [.int .i64 0, .int .i64 0, .int .i64 0, .int .u8 0, .int .u64 0, .int .u64 0, .int .u64 0, .int .u64 0, .int .i64 0, .int .i64 0, .int .i64 0, .sl .nil [], .int .i64 0, .int .i64 0, .int .i64 0, .int .u8 0, .int .u64 0, .int .u64 0, .int .u64 0, .int .u64 0, .int .i64 0, .int .i64 0, .int .i64 0, .sl .nil [], .bool false]) := by kernel_rfl
@[go_sem] theorem bldz_71 : bldz X.P 71 = some [.int .i64 0, .int .i64 0, .int .i64 0, .int .u8 0, .int .u64 0, .int .u64 0, .int .u64 0, .int .u64 0, .int .i64 0, .int .i64 0, .int .i64 0, .sl .nil [], .int .i64 0, .int .i64 0, .int .i64 0, .int .u8 0, .int .u64 0, .int .u64 0, .int .u64 0, .int .u64 0, .int .i64 0, .int .i64 0, .int .i64 0, .sl .nil [], .bool false] := by kernel_rfl
@[go_sem] theorem fld_71_0 : fldo X.P 71 0 = some (0, 69) := by kernel_rfl
@[go_sem] theorem plc_71_0 : places X.P 71 0 = some (0, 12) := by kernel_rfl
@[go_sem] theorem fld_71_1 : fldo X.P 71 1 = some (12, 69) := by kernel_rfl
@[go_sem] theorem plc_71_1 : places X.P 71 1 = some (12, 12) := by kernel_rfl
@[go_sem] theorem fld_71_2 : fldo X.P 71 2 = some (24, 4) := by kernel_rfl
@[go_sem] theorem plc_71_2 : places X.P 71 2 = some (24, 1) := by kernel_rfl
@[go_sem] theorem shp_72 : shp X.P 72 = some (false, 1) := by kernel_rfl
@[go_sem] theorem zer_72 : zer X.P 72 = some (.sl .nil []) := by kernel_rfl
@[go_sem] theorem slc_72 : slc X.P 72 = some (136, 2, 24) := by kernel_rfl
@[go_sem] theorem und_72 : X.P.underlying 72 = some (Go.TypeDesc.slice 136) := by kernel_rfl
@[go_sem] theorem shp_74 : shp X.P 74 = some (true, 48) := by kernel_rfl
@[go_sem] theorem zer_74 : zer X.P 74 = some (.agg [.int .u8 0, .int .i64 0, .int .i64 0, .int .i64 0, .int .u8 0, .int .u64 0, .int .u64 0, .int .u64 0, .int .u64 0, .int .i64 0, .int .i64 0, .int .i64 0, .sl .nil [], .int .i64 0, .int .i64 0, .int .i64 0, .int .u8 0, .int .u64 0, .int .u64 0, .int .u64 0, .int .u64 0, .int .i64 0, .int .i64 0, .int .i64 0, .sl .nil [], .bool false, .str [], .str [], .str [], .int .i64 0, .int .i64 0, .int .i64 0, .int .u8 0, .int .u64 0, .int .u64 0, .int .u64 0, .int .u64 0, .int .i64 0, .int .i64 0, .int .i64 0, .sl .nil [], .sl .nil [], .int .i64 0, .bool false, .bool false, .str [], .str [], .int .i64 0]) := by kernel_rfl
@[go_sem] theorem bldz_74 : bldz X.P 74 = some [.int .u8 0, .int .i64 0, .int .i64 0, .int .i64 0, .int .u8 0, .int .u64 0, .int .u64 0, .int .u64 0, .int .u64 0, .int .i64 0, .int .i64 0, .int .i64 0, .sl .nil [], .int .i64 0, .int .i64 0, .int .i64 0, .int .u8 0, .int .u64 0, .int .u64 0, .int .u64 0, .int .u64 0, .int .i64 0, .int .i64 0, .int .i64 0, .sl .nil [], .bool false, .str [], .str [], .str [], .int .i64 0, .int .i64 0, .int .i64 0, .int .u8 0, .int .u64 0, .int .u64 0, .int .u64 0, .int .u64 0, .int .i64 0, .int .i64 0, .int .i64 0, .sl .nil [], .sl .nil [], .int .i64 0, .bool false, .bool false, .str [], .str [], .int .i64 0] := by kernel_rfl
@[go_sem] theorem fld_74_0 : fldo X.P 74 0 = some (0, 5) := by kernel_rfl
@[go_sem] theorem plc_74_0 : places X.P 74 0 = some (0, 1) := by kernel_rfl
@[go_sem] theorem fld_74_1 : fldo X.P 74 1 = some (1, 71) := by kernel_rfl
@[go_sem] theorem plc_74_1 : places X.P 74 1 = some (1, 25) := by kernel_rfl
@[go_sem] theorem fld_74_2 : fldo X.P 74 2 = some (26, 9) := by kernel_rfl
@[go_sem] theorem plc_74_2 : places X.P 74 2 = some (26, 1) := by kernel_rfl
@[go_sem] theorem fld_74_3 : fldo X.P 74 3 = some (27, 9) := by kernel_rfl
@[go_sem] theorem plc_74_3 : places X.P 74 3 = some (27, 1) := by kernel_rfl
@[go_sem] theorem fld_74_4 : fldo X.P 74 4 = some (28, 9) := by kernel_rfl
@[go_sem] theorem plc_74_4 : places X.P 74 4 = some (28, 1) := by kernel_rfl
@[go_sem] theorem fld_74_5 : fldo X.P 74 5 = some (29, 69) := by kernel_rfl
@[go_sem] theorem plc_74_5 : places X.P 74 5 = some (29, 12) := by kernel_rfl
@[go_sem] theorem fld_74_6 : fldo X.P 74 6 = some (41, 72) := by kernel_rfl
@[go_sem] theorem plc_74_6 : places X.P 74 6 = some (41, 1) := by kernel_rfl
@[go_sem] theorem fld_74_7 : fldo X.P 74 7 = some (42, 3) := by kernel_rfl
@[go_sem] theorem plc_74_7 : places X.P 74 7 = some (42, 1) := by kernel_rfl
@[go_sem] theorem fld_74_8 : fldo X.P 74 8 = some (43, 4) := by kernel_rfl
@[go_sem] theorem plc_74_8 : places X.P 74 8 = some (43, 1) := by kernel_rfl
@[go_sem] theorem fld_74_9 : fldo X.P 74 9 = some (44, 4) := by kernel_rfl
@[go_sem] theorem plc_74_9 : places X.P 74 9 = some (44, 1) := by kernel_rfl
@[go_sem] theorem fld_74_10 : fldo X.P 74 10 = some (45, 9) := by kernel_rfl
@[go_sem] theorem plc_74_10 : places X.P 74 10 = some (45, 1) := by kernel_rfl
@[go_sem] theorem fld_74_11 : fldo X.P 74 11 = some (46, 9) := by kernel_rfl
@[go_sem] theorem plc_74_11 : places X.P 74 11 = some (46, 1) := by kernel_rfl
@[go_sem] theorem fld_74_12 : fldo X.P 74 12 = some (47, 3) := by kernel_rfl
@[go_sem] theorem plc_74_12 : places X.P 74 12 = some (47, 1) := by kernel_rfl
@[go_sem] theorem shp_76 : shp X.P 76 = some (true, 50) := by kernel_rfl
@[go_sem] theorem zer_76 : zer X.P 76 = some (.agg [.int .u8 0, .int .i64 0, .int .i64 0, .int .i64 0, .int .u8 0, .int .u64 0, .int .u64 0, .int .u64 0, .int .u64 0, .int .i64 0, .int .i64 0, .int .i64 0, .sl .nil [], .int .i64 0, .int .i64 0, .int .i64 0, .int .u8 0, .int .u64 0, .int .u64 0, .int .u64 0, .int .u64 0, .int .i64 0, .int .i64 0, .int .i64 0, .sl .nil [], .bool false, .str [], .str [], .str [], .int .i64 0, .int .i64 0, .int .i64 0, .int .u8 0, .int .u64 0, .int .u64 0, .int .u64 0, .int .u64 0, .int .i64 0, .int .i64 0, .int .i64 0, .sl .nil [], .sl .nil [], .int .i64 0, .bool false, .bool false, .str [], .str [], .int .i64 0, .bool false, .int .i64 0]) := by kernel_rfl
@[go_sem] theorem bldz_76 : bldz X.P 76 = some [.int .u8 0, .int .i64 0, .int .i64 0, .int .i64 0, .int .u8 0, .int .u64 0, .int .u64 0, .int .u64 0, .int .u64 0, .int .i64 0, .int .i64 0, .int .i64 0, .sl .nil [], .int .i64 0, .int .i64 0, .int .i64 0, .int .u8 0, .int .u64 0, .int .u64 0, .int .u64 0, .int .u64 0, .int .i64 0, .int .i64 0, .int .i64 0, .sl .nil [], .bool false, .str [], .str [], .str [], .int .i64 0, .int .i64 0, .int .i64 0, .int .u8 0, .int .u64 0, .int .u64 0, .int .u64 0, .int .u64 0, .int .i64 0, .int .i64 0, .int .i64 0, .sl .nil [], .sl .nil [], .int .i64 0, .bool false, .bool false, .str [], .str [], .int .i64 0, .bool false, .int .i64 0] := by kernel_rfl
@[go_sem] theorem fld_76_0 : fldo X.P 76 0 = some (0, 74) := by kernel_rfl
@[go_sem] theorem plc_76_0 : places X.P 76 0 = some (0, 48) := by kernel_rfl
@[go_sem] theorem fld_76_1 : fldo X.P 76 1 = some (48, 4) := by kernel_rfl
@[go_sem] theorem plc_76_1 : places X.P 76 1 = some (48, 1) := by kernel_rfl
@[go_sem] theorem fld_76_2 : fldo X.P 76 2 = some (49, 3) := by kernel_rfl
@[go_sem] theorem plc_76_2 : places X.P 76 2 = some (49, 1) := by kernel_rfl
@[go_sem] theorem shp_83 : shp X.P 83 = some (false, 1) := by kernel_rfl
@[go_sem] theorem zer_83 : zer X.P 83 = some .nilp := by kernel_rfl
@[go_sem] theorem und_83 : X.P.underlying 83 = some (Go.TypeDesc.pointer 85) := by kernel_rfl
@[go_sem] theorem shp_85 : shp X.P 85 = some (true, 2) := by kernel_rfl
@[go_sem] theorem zer_85 : zer X.P 85 = some (.agg [.nilp, .sl .nil []]) := by kernel_rfl
@[go_sem] theorem bldz_85 : bldz X.P 85 = some [.nilp, .sl .nil []] := by kernel_rfl
@[go_sem] theorem fld_85_0 : fldo X.P 85 0 = some (0, 83) := by kernel_rfl
@[go_sem] theorem plc_85_0 : places X.P 85 0 = some (0, 1) := by kernel_rfl
@[go_sem] theorem fld_85_1 : fldo X.P 85 1 = some (1, 58) := by kernel_rfl
@[go_sem] theorem plc_85_1 : places X.P 85 1 = some (1, 1) := by kernel_rfl
@[go_sem] theorem shp_86 : shp X.P 86 = some (false, 1) := by kernel_rfl
@[go_sem] theorem zer_86 : zer X.P 86 = some (.sl .nil []) := by kernel_rfl
@[go_sem] theorem slc_86 : slc X.P 86 = some (151, 2, 24) := by kernel_rfl
@[go_sem] theorem und_86 : X.P.underlying 86 = some (Go.TypeDesc.slice 151) := by kernel_rfl
@[go_sem] theorem shp_88 : shp X.P 88 = some (true, 10) := by kernel_rfl
@[go_sem] theorem zer_88 : zer X.P 88 = some (.agg [.sl .nil [], .int .i64 0, .str [], .str [], .nilp, .sl .nil [], .sl .nil [], .int .i64 0, .sl .nil [], .int .i64 0]) := by kernel_rfl
@[go_sem] theorem bldz_88 : bldz X.P 88 = some [.sl .nil [], .int .i64 0, .str [], .str [], .nilp, .sl .nil [], .sl .nil [], .int .i64 0, .sl .nil [], .int .i64 0] := by kernel_rfl
@[go_sem] theorem fld_88_0 : fldo X.P 88 0 = some (0, 38) := by kernel_rfl
@[go_sem] theorem plc_88_0 : places X.P 88 0 = some (0, 1) := by kernel_rfl
@[go_sem] theorem fld_88_1 : fldo X.P 88 1 = some (1, 3) := by kernel_rfl
@[go_sem] theorem plc_88_1 : places X.P 88 1 = some (1, 1) := by kernel_rfl
@[go_sem] theorem fld_88_2 : fldo X.P 88 2 = some (2, 9) := by kernel_rfl
@[go_sem] theorem plc_88_2 : places X.P 88 2 = some (2, 1) := by kernel_rfl
@[go_sem] theorem fld_88_3 : fldo X.P 88 3 = some (3, 9) := by kernel_rfl
@[go_sem] theorem plc_88_3 : places X.P 88 3 = some (3, 1) := by kernel_rfl
@[go_sem] theorem fld_88_4 : fldo X.P 88 4 = some (4, 85) := by kernel_rfl
@[go_sem] theorem plc_88_4 : places X.P 88 4 = some (4, 2) := by kernel_rfl
@[go_sem] theorem fld_88_5 : fldo X.P 88 5 = some (6, 30) := by kernel_rfl
@[go_sem] theorem plc_88_5 : places X.P 88 5 = some (6, 1) := by kernel_rfl
@[go_sem] theorem fld_88_6 : fldo X.P 88 6 = some (7, 3) := by kernel_rfl
@[go_sem] theorem plc_88_6 : places X.P 88 6 = some (7, 1) := by kernel_rfl
@[go_sem] theorem fld_88_7 : fldo X.P 88 7 = some (8, 86) := by kernel_rfl
@[go_sem] theorem plc_88_7 : places X.P 88 7 = some (8, 1) := by kernel_rfl
@[go_sem] theorem fld_88_8 : fldo X.P 88 8 = some (9, 3) := by kernel_rfl
@[go_sem] theorem plc_88_8 : places X.P 88 8 = some (9, 1) := by kernel_rfl
@[go_sem] theorem shp_90 : shp X.P 90 = some (false, 1) := by kernel_rfl
@[go_sem] theorem zer_90 : zer X.P 90 = some (.int .i64 0) := by kernel_rfl
@[go_sem] theorem und_90 : X.P.underlying 90 = some (Go.TypeDesc.int .i64) := by kernel_rfl
@[go_sem] theorem shp_96 : shp X.P 96 = some (true, 2) := by kernel_rfl
@[go_sem] theorem zer_96 : zer X.P 96 = some (.agg [.str [], .str []]) := by kernel_rfl
@[go_sem] theorem bldz_96 : bldz X.P 96 = some [.str [], .str []] := by kernel_rfl
@[go_sem] theorem fld_96_0 : fldo X.P 96 0 = some (0, 9) := by kernel_rfl
@[go_sem] theorem plc_96_0 : places X.P 96 0 = some (0, 1) := by kernel_rfl
@[go_sem] theorem fld_96_1 : fldo X.P 96 1 = some (1, 9) := by kernel_rfl
@[go_sem] theorem plc_96_1 : places X.P 96 1 = some (1, 1) := by kernel_rfl
@[go_sem] theorem shp_97 : shp X.P 97 = some (false, 1) := by kernel_rfl
@[go_sem] theorem zer_97 : zer X.P 97 = some .nilp := by kernel_rfl
@[go_sem] theorem und_97 : X.P.underlying 97 = some (Go.TypeDesc.pointer 126) := by kernel_rfl
@[go_sem] theorem shp_99 : shp X.P 99 = some (false, 1) := by kernel_rfl
@[go_sem] theorem zer_99 : zer X.P 99 = some (.sl .nil []) := by kernel_rfl
@[go_sem] theorem slc_99 : slc X.P 99 = some (3, 1, 8) := by kernel_rfl
@[go_sem] theorem und_99 : X.P.underlying 99 = some (Go.TypeDesc.slice 3) := by kernel_rfl
@[go_sem] theorem shp_101 : shp X.P 101 = some (true, 2) := by kernel_rfl
@[go_sem] theorem zer_101 : zer X.P 101 = some (.agg [.sl .nil [], .sl .nil []]) := by kernel_rfl
@[go_sem] theorem bldz_101 : bldz X.P 101 = some [.sl .nil [], .sl .nil []] := by kernel_rfl
@[go_sem] theorem fld_101_0 : fldo X.P 101 0 = some (0, 42) := by kernel_rfl
@[go_sem] theorem plc_101_0 : places X.P 101 0 = some (0, 1) := by kernel_rfl
@[go_sem] theorem fld_101_1 : fldo X.P 101 1 = some (1, 99) := by kernel_rfl
@[go_sem] theorem plc_101_1 : places X.P 101 1 = some (1, 1) := by kernel_rfl
@[go_sem] theorem shp_105 : shp X.P 105 = some (false, 1) := by kernel_rfl
@[go_sem] theorem zer_105 : zer X.P 105 = some .junk := by kernel_rfl
@[go_sem] theorem und_105 : X.P.underlying 105 = some (Go.TypeDesc.map 9 3) := by kernel_rfl
@[go_sem] theorem shp_112 : shp X.P 112 = some (false, 1) := by kernel_rfl
@[go_sem] theorem zer_112 : zer X.P 112 = some .junk := by kernel_rfl
@[go_sem] theorem shp_118 : shp X.P 118 = some (false, 1) := by kernel_rfl
@[go_sem] theorem zer_118 : zer X.P 118 = some .nilp := by kernel_rfl
@[go_sem] theorem und_118 : X.P.underlying 118 = some (Go.TypeDesc.pointer 5) := by kernel_rfl
@[go_sem] theorem shp_121 : shp X.P 121 = some (false, 1) := by kernel_rfl
@[go_sem] theorem zer_121 : zer X.P 121 = some .junk := by kernel_rfl
@[go_sem] theorem shp_126 : shp X.P 126 = some (true, 2) := by kernel_rfl
@[go_sem] theorem zer_126 : zer X.P 126 = some (.agg [.str [], .int .i64 0]) := by kernel_rfl
@[go_sem] theorem bldz_126 : bldz X.P 126 = some [.str [], .int .i64 0] := by kernel_rfl
@[go_sem] theorem fld_126_0 : fldo X.P 126 0 = some (0, 9) := by kernel_rfl
@[go_sem] theorem plc_126_0 : places X.P 126 0 = some (0, 1) := by kernel_rfl
@[go_sem] theorem fld_126_1 : fldo X.P 126 1 = some (1, 3) := by kernel_rfl
@[go_sem] theorem plc_126_1 : places X.P 126 1 = some (1, 1) := by kernel_rfl
@[go_sem] theorem shp_136 : shp X.P 136 = some (true, 2) := by kernel_rfl
@[go_sem] theorem zer_136 : zer X.P 136 = some (.agg [.int .i64 0, .str []]) := by kernel_rfl
@[go_sem] theorem bldz_136 : bldz X.P 136 = some [.int .i64 0, .str []] := by kernel_rfl
@[go_sem] theorem fld_136_0 : fldo X.P 136 0 = some (0, 3) := by kernel_rfl
@[go_sem] theorem plc_136_0 : places X.P 136 0 = some (0, 1) := by kernel_rfl
@[go_sem] theorem fld_136_1 : fldo X.P 136 1 = some (1, 9) := by kernel_rfl
@[go_sem] theorem plc_136_1 : places X.P 136 1 = some (1, 1) := by kernel_rfl
@[go_sem] theorem shp_137 : shp X.P 137 = some (false, 1) := by kernel_rfl
@[go_sem] theorem zer_137 : zer X.P 137 = some (.int .i64 0) := by kernel_rfl
@[go_sem] theorem und_137 : X.P.underlying 137 = some (Go.TypeDesc.int .i64) := by kernel_rfl
@[go_sem] theorem shp_151 : shp X.P 151 = some (true, 2) := by kernel_rfl
@[go_sem] theorem zer_151 : zer X.P 151 = some (.agg [.str [], .bool false]) := by kernel_rfl
@[go_sem] theorem bldz_151 : bldz X.P 151 = some [.str [], .bool false] := by kernel_rfl
@[go_sem] theorem fld_151_0 : fldo X.P 151 0 = some (0, 9) := by kernel_rfl
@[go_sem] theorem plc_151_0 : places X.P 151 0 = some (0, 1) := by kernel_rfl
@[go_sem] theorem fld_151_1 : fldo X.P 151 1 = some (1, 4) := by kernel_rfl
@[go_sem] theorem plc_151_1 : places X.P 151 1 = some (1, 1) := by kernel_rfl
@[go_sem] theorem shp_155 : shp X.P 155 = some (false, 1) := by kernel_rfl
@[go_sem] theorem zer_155 : zer X.P 155 = some .nilp := by kernel_rfl
@[go_sem] theorem und_155 : X.P.underlying 155 = some (Go.TypeDesc.pointer 157) := by kernel_rfl
@[go_sem] theorem shp_157 : shp X.P 157 = some (true, 50) := by kernel_rfl
@[go_sem] theorem zer_157 : zer X.P 157 = some (.agg [.nilp, .bool false, .int .u8 0, .int .i64 0, .int .i64 0, .int .i64 0, .int .u8 0, .int .u64 0, .int .u64 0, .int .u64 0, .int .u64 0, .int .i64 0, .int .i64 0, .int .i64 0, .sl .nil [], .int .i64 0, .int .i64 0, .int .i64 0, .int .u8 0, .int .u64 0, .int .u64 0, .int .u64 0, .int .u64 0, .int .i64 0, .int .i64 0, .int .i64 0, .sl .nil [], .bool false, .str [], .str [], .str [], .int .i64 0, .int .i64 0, .int .i64 0, .int .u8 0, .int .u64 0, .int .u64 0, .int .u64 0, .int .u64 0, .int .i64 0, .int .i64 0, .int .i64 0, .sl .nil [], .sl .nil [], .int .i64 0, .bool false, .bool false, .str [], .str [], .int .i64 0]) := by kernel_rfl
@[go_sem] theorem bldz_157 : bldz X.P 157 = some [.nilp, .bool false, .int .u8 0, .int .i64 0, .int .i64 0, .int .i64 0, .int .u8 0, .int .u64 0, .int .u64 0, .int .u64 0, .int .u64 0, .int .i64 0, .int .i64 0, .int .i64 0, .sl .nil [], .int .i64 0, .int .i64 0, .int .i64 0, .int .u8 0, .int .u64 0, .int .u64 0, .int .u64 0, .int .u64 0, .int .i64 0, .int .i64 0, .int .i64 0, .sl .nil [], .bool false, .str [], .str [], .str [], .int .i64 0, .int .i64 0, .int .i64 0, .int .u8 0, .int .u64 0, .int .u64 0, .int .u64 0, .int .u64 0, .int .i64 0, .int .i64 0, .int .i64 0, .sl .nil [], .sl .nil [], .int .i64 0, .bool false, .bool false, .str [], .str [], .int .i64 0] := by kernel_rfl
@[go_sem] theorem fld_157_0 : fldo X.P 157 0 = some (0, 97) := by kernel_rfl
@[go_sem] theorem plc_157_0 : places X.P 157 0 = some (0, 1) := by kernel_rfl
@[go_sem] theorem fld_157_1 : fldo X.P 157 1 = some (1, 4) := by kernel_rfl
@[go_sem] theorem plc_157_1 : places X.P 157 1 = some (1, 1) := by kernel_rfl
@[go_sem] theorem fld_157_2 : fldo X.P 157 2 = some (2, 74) := by kernel_rfl
@[go_sem] theorem plc_157_2 : places X.P 157 2 = some (2, 48) := by kernel_rfl
@[go_sem] theorem shp_161 : shp X.P 161 = some (false, 1) := by kernel_rfl
@[go_sem] theorem zer_161 : zer X.P 161 = some .junk := by kernel_rfl
@[go_sem] theorem shp_180 : shp X.P 180 = some (true, 9) := by kernel_rfl
@[go_sem] theorem zer_180 : zer X.P 180 = some (.agg [.int .i64 0, .int .u8 0, .int .u64 0, .int .u64 0, .int .u64 0, .int .u64 0, .int .i64 0, .int .i64 0, .int .i64 0]) := by kernel_rfl
@[go_sem] theorem bldz_180 : bldz X.P 180 = some [.int .i64 0, .int .u8 0, .int .u64 0, .int .u64 0, .int .u64 0, .int .u64 0, .int .i64 0, .int .i64 0, .int .i64 0] := by kernel_rfl
@[go_sem] theorem fld_180_0 : fldo X.P 180 0 = some (0, 3) := by kernel_rfl
@[go_sem] theorem plc_180_0 : places X.P 180 0 = some (0, 1) := by kernel_rfl
@[go_sem] theorem fld_180_1 : fldo X.P 180 1 = some (1, 5) := by kernel_rfl
@[go_sem] theorem plc_180_1 : places X.P 180 1 = some (1, 1) := by kernel_rfl
@[go_sem] theorem fld_180_2 : fldo X.P 180 2 = some (2, 64) := by kernel_rfl
@[go_sem] theorem plc_180_2 : places X.P 180 2 = some (2, 4) := by kernel_rfl
@[go_sem] theorem fld_180_3 : fldo X.P 180 3 = some (6, 3) := by kernel_rfl
@[go_sem] theorem plc_180_3 : places X.P 180 3 = some (6, 1) := by kernel_rfl
@[go_sem] theorem fld_180_4 : fldo X.P 180 4 = some (7, 3) := by kernel_rfl
@[go_sem] theorem plc_180_4 : places X.P 180 4 = some (7, 1) := by kernel_rfl
@[go_sem] theorem fld_180_5 : fldo X.P 180 5 = some (8, 3) := by kernel_rfl
@[go_sem] theorem plc_180_5 : places X.P 180 5 = some (8, 1) := by kernel_rfl
@[go_sem] theorem shp_186 : shp X.P 186 = some (true, 256) := by kernel_rfl
@[go_sem] theorem zer_186 : zer X.P 186 = some (.agg [.bool false, .bool false, .bool false, .bool false, .bool false, .bool false, .bool false, .bool false, .bool false, .bool false, .bool false, .bool false, .bool false, .bool false, .bool false, .bool false, .bool false, .bool false, .bool false, .bool false, .bool false, .bool false, .bool false, .bool false, .bool false, .bool false, .bool false, .bool false, .bool false, .bool false, .bool false, .bool false, .bool false, .bool false, .bool false, .bool false, .bool false, .bool false, .bool false, .bool false, .bool false, .bool false, .bool false, .bool false, .bool false, .bool false, .bool false, .bool false, .bool false, .bool false, .bool false, .bool false, .bool false, .bool false, .bool false, .bool false, .bool false, .bool false, .bool false, .bool false, .bool false, .bool false, .bool false, .bool false, .bool false, .bool false, .bool false, .bool false, .bool false, .bool false, .bool false, .bool false, .bool false, .bool false, .bool false, .bool false, .bool false, .bool false, .bool false, .bool false, .bool false, .bool false, .bool false, .bool false, .bool false, .bool false, .bool false, .bool false, .bool false, .bool false, .bool false, .bool false, .bool false, .bool false, .bool false, .bool false, .bool false, .bool false, .bool false, .bool false, .bool false, .bool false, .bool false, .bool false, .bool false, .bool false, .bool false, .bool false, .bool false, .bool false, .bool false, .bool false, .bool false, .bool false, .bool false, .bool false, .bool false, .bool false, .bool false, .bool false, .bool false, .bool false, .bool false, .bool false, .bool false, .bool false, .bool false, .bool false, .bool false, .bool false, .bool false, .bool false, .bool false, .bool false, .bool false, .bool false, .bool false, .bool false, .bool false, .bool false, .bool false, .bool false, .bool false, .bool false, .bool false, .bool false, .bool false, .bool false, .bool false, .bool false, .bool false, .bool false, .bool false, .bool false, .bool false, .bool false, .bool false, .bool false, .bool false, .bool false, .bool false, .bool false, .bool false, .bool false, .bool false, .bool false, .bool false, .bool false, .bool false, .bool false, .bool false, .bool false, .bool false, .bool false, .bool false, .bool false, .bool false, .bool false, .bool false, .bool false, .bool false, .bool false, .bool false, .bool false, .bool false, .bool false, .bool false, .bool false, .bool false, .bool false, .bool false, .bool false, .bool false, .bool false, .bool false, .bool false, .bool false, .bool false, .bool false, .bool false, .bool false, .bool false, .bool false, .bool false, .bool false, .bool false, .bool false, .bool false, .bool false, .bool false, .bool false, .bool false, .bool false, .bool false, .bool false, .bool false, .bool false, .bool false, .bool false, .bool false, .bool false, .bool false, .bool false, .bool false, .bool false, .bool false, .bool false, .bool false, .bool false, .bool false, .bool false, .bool false, .bool false, .bool false, .bool false, .bool false, .bool false, .bool false, .bool false, .bool false, .bool false, .bool false, .bool false, .bool false, .bool false, .bool false, .bool false, .bool false, .bool false, .bool false, .bool false, .bool false, .bool false, .bool false, .bool false, .bool false]) := by kernel_rfl
@[go_sem] theorem arr_186 : arr X.P 186 = some (256, 4) := by kernel_rfl
@[go_sem] theorem bldz_186 : bldz X.P 186 = some [.bool false, .bool false, .bool false, .bool false, .bool false, .bool false, .bool false, .bool false, .bool false, .bool false, .bool false, .bool false, .bool false, .bool false, .bool false, .bool false, .bool false, .bool false, .bool false, .bool false, .bool false, .bool false, .bool false, .bool false, .bool false, .bool false, .bool false, .bool false, .bool false, .bool false, .bool false, .bool false, .bool false, .bool false, .bool false, .bool false, .bool false, .bool false, .bool false, .bool false, .bool false, .bool false, .bool false, .bool false, .bool false, .bool false, .bool false, .bool false, .bool false, .bool false, .bool false, .bool false, .bool false, .bool false, .bool false, .bool false, .bool false, .bool false, .bool false, .bool false, .bool false, .bool false, .bool false, .bool false, .bool false, .bool false, .bool false, .bool false, .bool false, .bool false, .bool false, .bool false, .bool false, .bool false, .bool false, .bool false, .bool false, .bool false, .bool false, .bool false, .bool false, .bool false, .bool false, .bool false, .bool false, .bool false, .bool false, .bool false, .bool false, .bool false, .bool false, .bool false, .bool false, .bool false, .bool false, .bool false, .bool false, .bool false, .bool false, .bool false, .bool false, .bool false, .bool false, .bool false, .bool false, .bool false, .bool false, .bool false, .bool false, .bool false, .bool false, .bool false, .bool false, .bool false, .bool false, .bool false, .bool false, .bool false, .bool false, .bool false, .bool false, .bool false, .bool false, .bool false, .bool false, .bool false, .bool false, .bool false, .bool false, .bool false, .bool false, .bool false, .bool false, .bool false, .bool false, .bool false, .bool false, .bool false, .bool false, .bool false, .bool false, .bool false, .bool false, .bool false, .bool false, .bool false, .bool false, .bool false, .bool false, .bool false, .bool false, .bool false, .bool false, .bool false, .bool false, .bool false, .bool false, .bool false, .bool false, .bool false, .bool false, .bool false, .bool false, .bool false, .bool false, .bool false, .bool false, .bool false, .bool false, .bool false, .bool false, .bool false, .bool false, .bool false, .bool false, .bool false, .bool false, .bool false, .bool false, .bool false, .bool false, .bool false, .bool false, .bool false, .bool false, .bool false, .bool false, .bool false, .bool false, .bool false, .bool false, .bool false, .bool false, .bool false, .bool false, .bool false, .bool false, .bool false, .bool false, .bool false, .bool false, .bool false, .bool false, .bool false, .bool false, .bool false, .bool false, .bool false, .bool false, .bool false, .bool false, .bool false, .bool false, .bool false, .bool false, .bool false, .bool false, .bool false, .bool false, .bool false, .bool false, .bool false, .bool false, .bool false, .bool false, .bool false, .bool false, .bool false, .bool false, .bool false, .bool false, .bool false, .bool false, .bool false, .bool false, .bool false, .bool false, .bool false, .bool false, .bool false, .bool false, .bool false, .bool false, .bool false, .bool false, .bool false, .bool false, .bool false, .bool false, .bool false, .bool false, .bool false, .bool false, .bool false, .bool false, .bool false] := by kernel_rfl
@[go_sem] theorem und_186 : X.P.underlying 186 = some (Go.TypeDesc.array 256 4) := by kernel_rfl
@[go_sem] theorem plc_186_0 : places X.P 186 0 = some (0, 1) := by kernel_rfl
@[go_sem] theorem plc_186_1 : places X.P 186 1 = some (1, 1) := by kernel_rfl
@[go_sem] theorem plc_186_2 : places X.P 186 2 = some (2, 1) := by kernel_rfl
@[go_sem] theorem plc_186_3 : places X.P 186 3 = some (3, 1) := by kernel_rfl
@[go_sem] theorem plc_186_4 : places X.P 186 4 = some (4, 1) := by kernel_rfl
@[go_sem] theorem plc_186_5 : places X.P 186 5 = some (5, 1) := by kernel_rfl
@[go_sem] theorem plc_186_6 : places X.P 186 6 = some (6, 1) := by kernel_rfl
@[go_sem] theorem plc_186_7 : places X.P 186 7 = some (7, 1) := by kernel_rfl
@[go_sem] theorem plc_186_8 : places X.P 186 8 = some (8, 1) := by kernel_rfl
@[go_sem] theorem plc_186_9 : places X.P 186 9 = some (9, 1) := by kernel_rfl
@[go_sem] theorem plc_186_10 : places X.P 186 10 = some (10, 1) := by kernel_rfl
@[go_sem] theorem plc_186_11 : places X.P 186 11 = some (11, 1) := by kernel_rfl
@[go_sem] theorem plc_186_12 : places X.P 186 12 = some (12, 1) := by kernel_rfl
@[go_sem] theorem plc_186_13 : places X.P 186 13 = some (13, 1) := by kernel_rfl
@[go_sem] theorem plc_186_14 : places X.P 186 14 = some (14, 1) := by kernel_rfl
@[go_sem] theorem plc_186_15 : places X.P 186 15 = some (15, 1) := by kernel_rfl
@[go_sem] theorem plc_186_16 : places X.P 186 16 = some (16, 1) := by kernel_rfl
@[go_sem] theorem plc_186_17 : places X.P 186 17 = some (17, 1) := by kernel_rfl
@[go_sem] theorem plc_186_18 : places X.P 186 18 = some (18, 1) := by kernel_rfl
@[go_sem] theorem plc_186_19 : places X.P 186 19 = some (19, 1) := by kernel_rfl
@[go_sem] theorem shp_187 : shp X.P 187 = some (true, 256) := by kernel_rfl
@[go_sem] theorem zer_187 : zer X.P 187 = some (.agg [.bool false, .bool false, .bool false, .bool false, .bool false, .bool false, .bool false, .bool false, .bool false, .bool false, .bool false, .bool false, .bool false, .bool false, .bool false, .bool false, .bool false, .bool false, .bool false, .bool false, .bool false, .bool false, .bool false, .bool false, .bool false, .bool false, .bool false, .bool false, .bool false, .bool false, .bool false, .bool false, .bool false, .bool false, .bool false, .bool false, .bool false, .bool false, .bool false, .bool false, .bool false, .bool false, .bool false, .bool false, .bool false, .bool false, .bool false, .bool false, .bool false, .bool false, .bool false, .bool false, .bool false, .bool false, .bool false, .bool false, .bool false, .bool false, .bool false, .bool false, .bool false, .bool false, .bool false, .bool false, .bool false, .bool false, .bool false, .bool false, .bool false, .bool false, .bool false, .bool false, .bool false, .bool false, .bool false, .bool false, .bool false, .bool false, .bool false, .bool false, .bool false, .bool false, .bool false, .bool false, .bool false, .bool false, .bool false, .bool false, .bool false, .bool false, .bool false, .bool false, .bool false, .bool false, .bool false, .bool false, .bool false, .bool false, .bool false, .bool false, .bool false, .bool false, .bool false, .bool false, .bool false, .bool false, .bool false, .bool false, .bool false, .bool false, .bool false, .bool false, .bool false, .bool false, .bool false, .bool false, .bool false, .bool false, .bool false, .bool false, .bool false, .bool false, .bool false, .bool false, .bool false, .bool false, .bool false, .bool false, .bool false, .bool false, .bool false, .bool false, .bool false, .bool false, .bool false, .bool false, .bool false, .bool false, .bool false, .bool false, .bool false, .bool false, .bool false, .bool false, .bool false, .bool false, .bool false, .bool false, .bool false, .bool false, .bool false, .bool false, .bool false, .bool false, .bool false, .bool false, .bool false, .bool false, .bool false, .bool false, .bool false, .bool false, .bool false, .bool false, .bool false, .bool false, .bool false, .bool false, .bool false, .bool false, .bool false, .bool false, .bool false, .bool false, .bool false, .bool false, .bool false, .bool false, .bool false, .bool false, .bool false, .bool false, .bool false, .bool false, .bool false, .bool false, .bool false, .bool false, .bool false, .bool false, .bool false, .bool false, .bool false, .bool false, .bool false, .bool false, .bool false, .bool false, .bool false, .bool false, .bool false, .bool false, .bool false, .bool false, .bool false, .bool false, .bool false, .bool false, .bool false, .bool false, .bool false, .bool false, .bool false, .bool false, .bool false, .bool false, .bool false, .bool false, .bool false, .bool false, .bool false, .bool false, .bool false, .bool false, .bool false, .bool false, .bool false, .bool false, .bool false, .bool false, .bool false, .bool false, .bool false, .bool false, .bool false, .bool false, .bool false, .bool false, .bool false, .bool false, .bool false, .bool false, .bool false, .bool false, .bool false, .bool false, .bool false, .bool false, .bool false, .bool false, .bool false, .bool false, .bool false, .bool false, .bool false, .bool false]) := by kernel_rfl
@[go_sem] theorem arr_187 : arr X.P 187 = some (256, 4) := by kernel_rfl
@[go_sem] theorem bldz_187 : bldz X.P 187 = some [.bool false, .bool false, .bool false, .bool false, .bool false, .bool false, .bool false, .bool false, .bool false, .bool false, .bool false, .bool false, .bool false, .bool false, .bool false, .bool false, .bool false, .bool false, .bool false, .bool false, .bool false, .bool false, .bool false, .bool false, .bool false, .bool false, .bool false, .bool false, .bool false, .bool false, .bool false, .bool false, .bool false, .bool false, .bool false, .bool false, .bool false, .bool false, .bool false, .bool false, .bool false, .bool false, .bool false, .bool false, .bool false, .bool false, .bool false, .bool false, .bool false, .bool false, .bool false, .bool false, .bool false, .bool false, .bool false, .bool false, .bool false, .bool false, .bool false, .bool false, .bool false, .bool false, .bool false, .bool false, .bool false, .bool false, .bool false, .bool false, .bool false, .bool false, .bool false, .bool false, .bool false, .bool false, .bool false, .bool false, .bool false, .bool false, .bool false, .bool false, .bool false, .bool false, .bool false, .bool false, .bool false, .bool false, .bool false, .bool false, .bool false, .bool false, .bool false, .bool false, .bool false, .bool false, .bool false, .bool false, .bool false, .bool false, .bool false, .bool false, .bool false, .bool false, .bool false, .bool false, .bool false, .bool false, .bool false, .bool false, .bool false, .bool false, .bool false, .bool false, .bool false, .bool false, .bool false, .bool false, .bool false, .bool false, .bool false, .bool false, .bool false, .bool false, .bool false, .bool false, .bool false, .bool false, .bool false, .bool false, .bool false, .bool false, .bool false, .bool false, .bool false, .bool false, .bool false, .bool false, .bool false, .bool false, .bool false, .bool false, .bool false, .bool false, .bool false, .bool false, .bool false, .bool false, .bool false, .bool false, .bool false, .bool false, .bool false, .bool false, .bool false, .bool false, .bool false, .bool false, .bool false, .bool false, .bool false, .bool false, .bool false, .bool false, .bool false, .bool false, .bool false, .bool false, .bool false, .bool false, .bool false, .bool false, .bool false, .bool false, .bool false, .bool false, .bool false, .bool false, .bool false, .bool false, .bool false, .bool false, .bool false, .bool false, .bool false, .bool false, .bool false, .bool false, .bool false, .bool false, .bool false, .bool false, .bool false, .bool false, .bool false, .bool false, .bool false, .bool false, .bool false, .bool false, .bool false, .bool false, .bool false, .bool false, .bool false, .bool false, .bool false, .bool false, .bool false, .bool false, .bool false, .bool false, .bool false, .bool false, .bool false, .bool false, .bool false, .bool false, .bool false, .bool false, .bool false, .bool false, .bool false, .bool false, .bool false, .bool false, .bool false, .bool false, .bool false, .bool false, .bool false, .bool false, .bool false, .bool false, .bool false, .bool false, .bool false, .bool false, .bool false, .bool false, .bool false, .bool false, .bool false, .bool false, .bool false, .bool false, .bool false, .bool false, .bool false, .bool false, .bool false, .bool false, .bool false, .bool false, .bool false, .bool false, .bool false, .bool false] := by kernel_rfl
@[go_sem] theorem und_187 : X.P.underlying 187 = some (Go.TypeDesc.array 256 4) := by kernel_rfl
@[go_sem] theorem plc_187_0 : places X.P 187 0 = some (0, 1) := by kernel_rfl
@[go_sem] theorem plc_187_1 : places X.P 187 1 = some (1, 1) := by kernel_rfl
@[go_sem] theorem plc_187_2 : places X.P 187 2 = some (2, 1) := by kernel_rfl
@[go_sem] theorem plc_187_3 : places X.P 187 3 = some (3, 1) := by kernel_rfl
@[go_sem] theorem plc_187_4 : places X.P 187 4 = some (4, 1) := by kernel_rfl
@[go_sem] theorem plc_187_5 : places X.P 187 5 = some (5, 1) := by kernel_rfl
@[go_sem] theorem plc_187_6 : places X.P 187 6 = some (6, 1) := by kernel_rfl
@[go_sem] theorem plc_187_7 : places X.P 187 7 = some (7, 1) := by kernel_rfl
@[go_sem] theorem plc_187_8 : places X.P 187 8 = some (8, 1) := by kernel_rfl
@[go_sem] theorem plc_187_9 : places X.P 187 9 = some (9, 1) := by kernel_rfl
@[go_sem] theorem plc_187_10 : places X.P 187 10 = some (10, 1) := by kernel_rfl
@[go_sem] theorem plc_187_11 : places X.P 187 11 = some (11, 1) := by kernel_rfl
@[go_sem] theorem plc_187_12 : places X.P 187 12 = some (12, 1) := by kernel_rfl
@[go_sem] theorem plc_187_13 : places X.P 187 13 = some (13, 1) := by kernel_rfl
@[go_sem] theorem plc_187_14 : places X.P 187 14 = some (14, 1) := by kernel_rfl
@[go_sem] theorem plc_187_15 : places X.P 187 15 = some (15, 1) := by kernel_rfl
@[go_sem] theorem plc_187_16 : places X.P 187 16 = some (16, 1) := by kernel_rfl
@[go_sem] theorem plc_187_17 : places X.P 187 17 = some (17, 1) := by kernel_rfl
@[go_sem] theorem plc_187_18 : places X.P 187 18 = some (18, 1) := by kernel_rfl
@[go_sem] theorem plc_187_19 : places X.P 187 19 = some (19, 1) := by kernel_rfl
@[go_sem] theorem shp_191 : shp X.P 191 = some (false, 1) := by kernel_rfl
@[go_sem] theorem zer_191 : zer X.P 191 = some .nilp := by kernel_rfl
@[go_sem] theorem und_191 : X.P.underlying 191 = some (Go.TypeDesc.pointer 187) := by kernel_rfl
@[go_sem] theorem shp_197 : shp X.P 197 = some (false, 1) := by kernel_rfl
@[go_sem] theorem zer_197 : zer X.P 197 = some .junk := by kernel_rfl
@[go_sem] theorem und_197 : X.P.underlying 197 = some (Go.TypeDesc.complex Go.FloatKind.f64) := by kernel_rfl
@[go_sem] theorem shp_198 : shp X.P 198 = some (true, 10) := by kernel_rfl
@[go_sem] theorem zer_198 : zer X.P 198 = some .junk := by kernel_rfl
@[go_sem] theorem arr_198 : arr X.P 198 = some (10, 197) := by kernel_rfl
@[go_sem] theorem und_198 : X.P.underlying 198 = some (Go.TypeDesc.array 10 197) := by kernel_rfl
@[go_sem] theorem plc_198_0 : places X.P 198 0 = some (0, 1) := by kernel_rfl
@[go_sem] theorem plc_198_1 : places X.P 198 1 = some (1, 1) := by kernel_rfl
@[go_sem] theorem plc_198_2 : places X.P 198 2 = some (2, 1) := by kernel_rfl
@[go_sem] theorem plc_198_3 : places X.P 198 3 = some (3, 1) := by kernel_rfl
@[go_sem] theorem plc_198_4 : places X.P 198 4 = some (4, 1) := by kernel_rfl
@[go_sem] theorem plc_198_5 : places X.P 198 5 = some (5, 1) := by kernel_rfl
@[go_sem] theorem plc_198_6 : places X.P 198 6 = some (6, 1) := by kernel_rfl
@[go_sem] theorem plc_198_7 : places X.P 198 7 = some (7, 1) := by kernel_rfl
@[go_sem] theorem plc_198_8 : places X.P 198 8 = some (8, 1) := by kernel_rfl
@[go_sem] theorem plc_198_9 : places X.P 198 9 = some (9, 1) := by kernel_rfl
@[go_sem] theorem plc_198_10 : places X.P 198 10 = some (10, 1) := by kernel_rfl
@[go_sem] theorem plc_198_11 : places X.P 198 11 = some (11, 1) := by kernel_rfl
@[go_sem] theorem plc_198_12 : places X.P 198 12 = some (12, 1) := by kernel_rfl
@[go_sem] theorem plc_198_13 : places X.P 198 13 = some (13, 1) := by kernel_rfl
@[go_sem] theorem plc_198_14 : places X.P 198 14 = some (14, 1) := by kernel_rfl
@[go_sem] theorem plc_198_15 : places X.P 198 15 = some (15, 1) := by kernel_rfl
@[go_sem] theorem plc_198_16 : places X.P 198 16 = some (16, 1) := by kernel_rfl
@[go_sem] theorem plc_198_17 : places X.P 198 17 = some (17, 1) := by kernel_rfl
@[go_sem] theorem plc_198_18 : places X.P 198 18 = some (18, 1) := by kernel_rfl
@[go_sem] theorem plc_198_19 : places X.P 198 19 = some (19, 1) := by kernel_rfl
@[go_sem] theorem shp_199 : shp X.P 199 = some (true, 10) := by kernel_rfl
@[go_sem] theorem zer_199 : zer X.P 199 = some (.agg [.bool false, .bool false, .bool false, .bool false, .bool false, .bool false, .bool false, .bool false, .bool false, .bool false]) := by kernel_rfl
@[go_sem] theorem arr_199 : arr X.P 199 = some (10, 4) := by kernel_rfl
@[go_sem] theorem bldz_199 : bldz X.P 199 = some [.bool false, .bool false, .bool false, .bool false, .bool false, .bool false, .bool false, .bool false, .bool false, .bool false] := by kernel_rfl
@[go_sem] theorem und_199 : X.P.underlying 199 = some (Go.TypeDesc.array 10 4) := by kernel_rfl
@[go_sem] theorem plc_199_0 : places X.P 199 0 = some (0, 1) := by kernel_rfl
@[go_sem] theorem plc_199_1 : places X.P 199 1 = some (1, 1) := by kernel_rfl
@[go_sem] theorem plc_199_2 : places X.P 199 2 = some (2, 1) := by kernel_rfl
@[go_sem] theorem plc_199_3 : places X.P 199 3 = some (3, 1) := by kernel_rfl
@[go_sem] theorem plc_199_4 : places X.P 199 4 = some (4, 1) := by kernel_rfl
@[go_sem] theorem plc_199_5 : places X.P 199 5 = some (5, 1) := by kernel_rfl
@[go_sem] theorem plc_199_6 : places X.P 199 6 = some (6, 1) := by kernel_rfl
@[go_sem] theorem plc_199_7 : places X.P 199 7 = some (7, 1) := by kernel_rfl
@[go_sem] theorem plc_199_8 : places X.P 199 8 = some (8, 1) := by kernel_rfl
@[go_sem] theorem plc_199_9 : places X.P 199 9 = some (9, 1) := by kernel_rfl
@[go_sem] theorem plc_199_10 : places X.P 199 10 = some (10, 1) := by kernel_rfl
@[go_sem] theorem plc_199_11 : places X.P 199 11 = some (11, 1) := by kernel_rfl
@[go_sem] theorem plc_199_12 : places X.P 199 12 = some (12, 1) := by kernel_rfl
@[go_sem] theorem plc_199_13 : places X.P 199 13 = some (13, 1) := by kernel_rfl
@[go_sem] theorem plc_199_14 : places X.P 199 14 = some (14, 1) := by kernel_rfl
@[go_sem] theorem plc_199_15 : places X.P 199 15 = some (15, 1) := by kernel_rfl
@[go_sem] theorem plc_199_16 : places X.P 199 16 = some (16, 1) := by kernel_rfl
@[go_sem] theorem plc_199_17 : places X.P 199 17 = some (17, 1) := by kernel_rfl
@[go_sem] theorem plc_199_18 : places X.P 199 18 = some (18, 1) := by kernel_rfl
@[go_sem] theorem plc_199_19 : places X.P 199 19 = some (19, 1) := by kernel_rfl
@[go_sem] theorem shp_201 : shp X.P 201 = some (true, 22) := by kernel_rfl
@[go_sem] theorem zer_201 : zer X.P 201 = some .junk := by kernel_rfl
@[go_sem] theorem fld_201_0 : fldo X.P 201 0 = some (0, 197) := by kernel_rfl
@[go_sem] theorem plc_201_0 : places X.P 201 0 = some (0, 1) := by kernel_rfl
@[go_sem] theorem fld_201_1 : fldo X.P 201 1 = some (1, 198) := by kernel_rfl
@[go_sem] theorem plc_201_1 : places X.P 201 1 = some (1, 10) := by kernel_rfl
@[go_sem] theorem fld_201_2 : fldo X.P 201 2 = some (11, 199) := by kernel_rfl
@[go_sem] theorem plc_201_2 : places X.P 201 2 = some (11, 10) := by kernel_rfl
@[go_sem] theorem fld_201_3 : fldo X.P 201 3 = some (21, 3) := by kernel_rfl
@[go_sem] theorem plc_201_3 : places X.P 201 3 = some (21, 1) := by kernel_rfl
@[go_sem] theorem shp_212 : shp X.P 212 = some (false, 1) := by kernel_rfl
@[go_sem] theorem zer_212 : zer X.P 212 = some .junk := by kernel_rfl
@[go_sem] theorem shp_223 : shp X.P 223 = some (true, 2) := by kernel_rfl
@[go_sem] theorem zer_223 : zer X.P 223 = some (.agg [.str [], .str []]) := by kernel_rfl
@[go_sem] theorem arr_223 : arr X.P 223 = some (2, 9) := by kernel_rfl
@[go_sem] theorem bldz_223 : bldz X.P 223 = some [.str [], .str []] := by kernel_rfl
@[go_sem] theorem und_223 : X.P.underlying 223 = some (Go.TypeDesc.array 2 9) := by kernel_rfl
@[go_sem] theorem plc_223_0 : places X.P 223 0 = some (0, 1) := by kernel_rfl
@[go_sem] theorem plc_223_1 : places X.P 223 1 = some (1, 1) := by kernel_rfl
@[go_sem] theorem plc_223_2 : places X.P 223 2 = some (2, 1) := by kernel_rfl
@[go_sem] theorem plc_223_3 : places X.P 223 3 = some (3, 1) := by kernel_rfl
@[go_sem] theorem plc_223_4 : places X.P 223 4 = some (4, 1) := by kernel_rfl
@[go_sem] theorem plc_223_5 : places X.P 223 5 = some (5, 1) := by kernel_rfl
@[go_sem] theorem plc_223_6 : places X.P 223 6 = some (6, 1) := by kernel_rfl
@[go_sem] theorem plc_223_7 : places X.P 223 7 = some (7, 1) := by kernel_rfl
@[go_sem] theorem plc_223_8 : places X.P 223 8 = some (8, 1) := by kernel_rfl
@[go_sem] theorem plc_223_9 : places X.P 223 9 = some (9, 1) := by kernel_rfl
@[go_sem] theorem plc_223_10 : places X.P 223 10 = some (10, 1) := by kernel_rfl
@[go_sem] theorem plc_223_11 : places X.P 223 11 = some (11, 1) := by kernel_rfl
@[go_sem] theorem plc_223_12 : places X.P 223 12 = some (12, 1) := by kernel_rfl
@[go_sem] theorem plc_223_13 : places X.P 223 13 = some (13, 1) := by kernel_rfl
@[go_sem] theorem plc_223_14 : places X.P 223 14 = some (14, 1) := by kernel_rfl
@[go_sem] theorem plc_223_15 : places X.P 223 15 = some (15, 1) := by kernel_rfl
@[go_sem] theorem plc_223_16 : places X.P 223 16 = some (16, 1) := by kernel_rfl
@[go_sem] theorem plc_223_17 : places X.P 223 17 = some (17, 1) := by kernel_rfl
@[go_sem] theorem plc_223_18 : places X.P 223 18 = some (18, 1) := by kernel_rfl
@[go_sem] theorem plc_223_19 : places X.P 223 19 = some (19, 1) := by kernel_rfl
@[go_sem] theorem shp_225 : shp X.P 225 = some (false, 1) := by kernel_rfl
@[go_sem] theorem zer_225 : zer X.P 225 = some .nilp := by kernel_rfl
@[go_sem] theorem und_225 : X.P.underlying 225 = some (Go.TypeDesc.pointer 227) := by kernel_rfl
@[go_sem] theorem shp_227 : shp X.P 227 = some (true, 11) := by kernel_rfl
@[go_sem] theorem zer_227 : zer X.P 227 = some (.agg [.int .i64 0, .bool false, .bool false, .bool false, .bool false, .bool false, .bool false, .bool false, .bool false, .bool false, .bool false]) := by kernel_rfl
@[go_sem] theorem bldz_227 : bldz X.P 227 = some [.int .i64 0, .bool false, .bool false, .bool false, .bool false, .bool false, .bool false, .bool false, .bool false, .bool false, .bool false] := by kernel_rfl
@[go_sem] theorem fld_227_0 : fldo X.P 227 0 = some (0, 3) := by kernel_rfl
@[go_sem] theorem plc_227_0 : places X.P 227 0 = some (0, 1) := by kernel_rfl
@[go_sem] theorem fld_227_1 : fldo X.P 227 1 = some (1, 199) := by kernel_rfl
@[go_sem] theorem plc_227_1 : places X.P 227 1 = some (1, 10) := by kernel_rfl
@[go_sem] theorem shp_233 : shp X.P 233 = some (false, 1) := by kernel_rfl
@[go_sem] theorem zer_233 : zer X.P 233 = some .nilp := by kernel_rfl
@[go_sem] theorem und_233 : X.P.underlying 233 = some (Go.TypeDesc.pointer 235) := by kernel_rfl
@[go_sem] theorem shp_235 : shp X.P 235 = some (true, 50) := by kernel_rfl
@[go_sem] theorem zer_235 : zer X.P 235 = some .junk := by kernel_rfl
@[go_sem] theorem fld_235_0 : fldo X.P 235 0 = some (0, 9) := by kernel_rfl
@[go_sem] theorem plc_235_0 : places X.P 235 0 = some (0, 1) := by kernel_rfl
@[go_sem] theorem fld_235_1 : fldo X.P 235 1 = some (1, 4) := by kernel_rfl
@[go_sem] theorem plc_235_1 : places X.P 235 1 = some (1, 1) := by kernel_rfl
@[go_sem] theorem fld_235_2 : fldo X.P 235 2 = some (2, 3) := by kernel_rfl
@[go_sem] theorem plc_235_2 : places X.P 235 2 = some (2, 1) := by kernel_rfl
@[go_sem] theorem fld_235_3 : fldo X.P 235 3 = some (3, 4) := by kernel_rfl
@[go_sem] theorem plc_235_3 : places X.P 235 3 = some (3, 1) := by kernel_rfl
@[go_sem] theorem fld_235_4 : fldo X.P 235 4 = some (4, 3) := by kernel_rfl
@[go_sem] theorem plc_235_4 : places X.P 235 4 = some (4, 1) := by kernel_rfl
@[go_sem] theorem fld_235_5 : fldo X.P 235 5 = some (5, 4) := by kernel_rfl
@[go_sem] theorem plc_235_5 : places X.P 235 5 = some (5, 1) := by kernel_rfl
@[go_sem] theorem fld_235_6 : fldo X.P 235 6 = some (6, 201) := by kernel_rfl
@[go_sem] theorem plc_235_6 : places X.P 235 6 = some (6, 22) := by kernel_rfl
@[go_sem] theorem fld_235_7 : fldo X.P 235 7 = some (28, 201) := by kernel_rfl
@[go_sem] theorem plc_235_7 : places X.P 235 7 = some (28, 22) := by kernel_rfl
@[go_sem] theorem shp_237 : shp X.P 237 = some (false, 1) := by kernel_rfl
@[go_sem] theorem zer_237 : zer X.P 237 = some .nilp := by kernel_rfl
@[go_sem] theorem und_237 : X.P.underlying 237 = some (Go.TypeDesc.pointer 239) := by kernel_rfl
@[go_sem] theorem shp_239 : shp X.P 239 = some (true, 5) := by kernel_rfl
@[go_sem] theorem zer_239 : zer X.P 239 = some (.agg [.nilp, .int .i64 0, .int .i64 0, .int .i64 0, .nilp]) := by kernel_rfl
@[go_sem] theorem bldz_239 : bldz X.P 239 = some [.nilp, .int .i64 0, .int .i64 0, .int .i64 0, .nilp] := by kernel_rfl
@[go_sem] theorem fld_239_0 : fldo X.P 239 0 = some (0, 51) := by kernel_rfl
@[go_sem] theorem plc_239_0 : places X.P 239 0 = some (0, 1) := by kernel_rfl
@[go_sem] theorem fld_239_1 : fldo X.P 239 1 = some (1, 3) := by kernel_rfl
@[go_sem] theorem plc_239_1 : places X.P 239 1 = some (1, 1) := by kernel_rfl
@[go_sem] theorem fld_239_2 : fldo X.P 239 2 = some (2, 3) := by kernel_rfl
@[go_sem] theorem plc_239_2 : places X.P 239 2 = some (2, 1) := by kernel_rfl
@[go_sem] theorem fld_239_3 : fldo X.P 239 3 = some (3, 3) := by kernel_rfl
@[go_sem] theorem plc_239_3 : places X.P 239 3 = some (3, 1) := by kernel_rfl
@[go_sem] theorem fld_239_4 : fldo X.P 239 4 = some (4, 237) := by kernel_rfl
@[go_sem] theorem plc_239_4 : places X.P 239 4 = some (4, 1) := by kernel_rfl
@[go_sem] theorem shp_246 : shp X.P 246 = some (false, 1) := by kernel_rfl
@[go_sem] theorem zer_246 : zer X.P 246 = some .nilp := by kernel_rfl
@[go_sem] theorem und_246 : X.P.underlying 246 = some Go.TypeDesc.unsafePointer := by kernel_rfl
@[go_sem] theorem shp_251 : shp X.P 251 = some (true, 3) := by kernel_rfl
@[go_sem] theorem zer_251 : zer X.P 251 = some (.agg [.sl .nil [], .nilp, .sl .nil []]) := by kernel_rfl
@[go_sem] theorem bldz_251 : bldz X.P 251 = some [.sl .nil [], .nilp, .sl .nil []] := by kernel_rfl
@[go_sem] theorem fld_251_0 : fldo X.P 251 0 = some (0, 72) := by kernel_rfl
@[go_sem] theorem plc_251_0 : places X.P 251 0 = some (0, 1) := by kernel_rfl
@[go_sem] theorem fld_251_1 : fldo X.P 251 1 = some (1, 85) := by kernel_rfl
@[go_sem] theorem plc_251_1 : places X.P 251 1 = some (1, 2) := by kernel_rfl
@[go_sem] theorem shp_254 : shp X.P 254 = some (false, 1) := by kernel_rfl
@[go_sem] theorem zer_254 : zer X.P 254 = some (.int .u64 0) := by kernel_rfl
@[go_sem] theorem und_254 : X.P.underlying 254 = some (Go.TypeDesc.int .u64) := by kernel_rfl
@[go_sem] theorem shp_258 : shp X.P 258 = some (false, 1) := by kernel_rfl
@[go_sem] theorem zer_258 : zer X.P 258 = some .nilp := by kernel_rfl
@[go_sem] theorem und_258 : X.P.underlying 258 = some (Go.TypeDesc.pointer 260) := by kernel_rfl
@[go_sem] theorem shp_260 : shp X.P 260 = some (true, 19) := by kernel_rfl
@[go_sem] theorem zer_260 : zer X.P 260 = some (.agg [.int .i64 0, .int .u8 0, .int .u64 0, .int .u64 0, .int .u64 0, .int .u64 0, .int .i64 0, .int .i64 0, .int .i64 0, .sl .nil [], .sl .nil [], .str [], .nilp, .sl .nil [], .int .i64 0, .int .i64 0, .int .i64 0, .int .i64 0, .int .i64 0]) := by kernel_rfl
@[go_sem] theorem bldz_260 : bldz X.P 260 = some [.int .i64 0, .int .u8 0, .int .u64 0, .int .u64 0, .int .u64 0, .int .u64 0, .int .i64 0, .int .i64 0, .int .i64 0, .sl .nil [], .sl .nil [], .str [], .nilp, .sl .nil [], .int .i64 0, .int .i64 0, .int .i64 0, .int .i64 0, .int .i64 0] := by kernel_rfl
@[go_sem] theorem fld_260_0 : fldo X.P 260 0 = some (0, 67) := by kernel_rfl
@[go_sem] theorem plc_260_0 : places X.P 260 0 = some (0, 10) := by kernel_rfl
@[go_sem] theorem fld_260_1 : fldo X.P 260 1 = some (10, 72) := by kernel_rfl
@[go_sem] theorem plc_260_1 : places X.P 260 1 = some (10, 1) := by kernel_rfl
@[go_sem] theorem fld_260_2 : fldo X.P 260 2 = some (11, 9) := by kernel_rfl
@[go_sem] theorem plc_260_2 : places X.P 260 2 = some (11, 1) := by kernel_rfl
@[go_sem] theorem fld_260_3 : fldo X.P 260 3 = some (12, 85) := by kernel_rfl
@[go_sem] theorem plc_260_3 : places X.P 260 3 = some (12, 2) := by kernel_rfl
@[go_sem] theorem fld_260_4 : fldo X.P 260 4 = some (14, 3) := by kernel_rfl
@[go_sem] theorem plc_260_4 : places X.P 260 4 = some (14, 1) := by kernel_rfl
@[go_sem] theorem fld_260_5 : fldo X.P 260 5 = some (15, 3) := by kernel_rfl
@[go_sem] theorem plc_260_5 : places X.P 260 5 = some (15, 1) := by kernel_rfl
@[go_sem] theorem fld_260_6 : fldo X.P 260 6 = some (16, 3) := by kernel_rfl
@[go_sem] theorem plc_260_6 : places X.P 260 6 = some (16, 1) := by kernel_rfl
@[go_sem] theorem fld_260_7 : fldo X.P 260 7 = some (17, 3) := by kernel_rfl
@[go_sem] theorem plc_260_7 : places X.P 260 7 = some (17, 1) := by kernel_rfl
@[go_sem] theorem fld_260_8 : fldo X.P 260 8 = some (18, 3) := by kernel_rfl
@[go_sem] theorem plc_260_8 : places X.P 260 8 = some (18, 1) := by kernel_rfl
@[go_sem] theorem shp_262 : shp X.P 262 = some (false, 1) := by kernel_rfl
@[go_sem] theorem zer_262 : zer X.P 262 = some .junk := by kernel_rfl
@[go_sem] theorem und_262 : X.P.underlying 262 = some (Go.TypeDesc.float Go.FloatKind.f64) := by kernel_rfl
@[go_sem] theorem shp_264 : shp X.P 264 = some (true, 256) := by kernel_rfl
@[go_sem] theorem zer_264 : zer X.P 264 = some (.agg [.int .u8 0, .int .u8 0, .int .u8 0, .int .u8 0, .int .u8 0, .int .u8 0, .int .u8 0, .int .u8 0, .int .u8 0, .int .u8 0, .int .u8 0, .int .u8 0, .int .u8 0, .int .u8 0, .int .u8 0, .int .u8 0, .int .u8 0, .int .u8 0, .int .u8 0, .int .u8 0, .int .u8 0, .int .u8 0, .int .u8 0, .int .u8 0, .int .u8 0, .int .u8 0, .int .u8 0, .int .u8 0, .int .u8 0, .int .u8 0, .int .u8 0, .int .u8 0, .int .u8 0, .int .u8 0, .int .u8 0, .int .u8 0, .int .u8 0, .int .u8 0, .int .u8 0, .int .u8 0, .int .u8 0, .int .u8 0, .int .u8 0, .int .u8 0, .int .u8 0, .int .u8 0, .int .u8 0, .int .u8 0, .int .u8 0, .int .u8 0, .int .u8 0, .int .u8 0, .int .u8 0, .int .u8 0, .int .u8 0, .int .u8 0, .int .u8 0, .int .u8 0, .int .u8 0, .int .u8 0, .int .u8 0, .int .u8 0, .int .u8 0, .int .u8 0, .int .u8 0, .int .u8 0, .int .u8 0, .int .u8 0, .int .u8 0, .int .u8 0, .int .u8 0, .int .u8 0, .int .u8 0, .int .u8 0, .int .u8 0, .int .u8 0, .int .u8 0, .int .u8 0, .int .u8 0, .int .u8 0, .int .u8 0, .int .u8 0, .int .u8 0, .int .u8 0, .int .u8 0, .int .u8 0, .int .u8 0, .int .u8 0, .int .u8 0, .int .u8 0, .int .u8 0, .int .u8 0, .int .u8 0, .int .u8 0, .int .u8 0, .int .u8 0, .int .u8 0, .int .u8 0, .int .u8 0, .int .u8 0, .int .u8 0, .int .u8 0, .int .u8 0, .int .u8 0, .int .u8 0, .int .u8 0, .int .u8 0, .int .u8 0, .int .u8 0, .int .u8 0, .int .u8 0, .int .u8 0, .int .u8 0, .int .u8 0, .int .u8 0, .int .u8 0, .int .u8 0, .int .u8 0, .int .u8 0, .int .u8 0, .int .u8 0, .int .u8 0, .int .u8 0, .int .u8 0, .int .u8 0, .int .u8 0, .int .u8 0, .int .u8 0, .int .u8 0, .int .u8 0, .int .u8 0, .int .u8 0, .int .u8 0, .int .u8 0, .int .u8 0, .int .u8 0, .int .u8 0, .int .u8 0, .int .u8 0, .int .u8 0, .int .u8 0, .int .u8 0, .int .u8 0, .int .u8 0, .int .u8 0, .int .u8 0, .int .u8 0, .int .u8 0, .int .u8 0, .int .u8 0, .int .u8 0, .int .u8 0, .int .u8 0, .int .u8 0, .int .u8 0, .int .u8 0, .int .u8 0, .int .u8 0, .int .u8 0, .int .u8 0, .int .u8 0, .int .u8 0, .int .u8 0, .int .u8 0, .int .u8 0, .int .u8 0, .int .u8 0, .int .u8 0, .int .u8 0, .int .u8 0, .int .u8 0, .int .u8 0, .int .u8 0, .int .u8 0, .int .u8 0, .int .u8 0, .int .u8 0, .int .u8 0, .int .u8 0, .int .u8 0, .int .u8 0, .int .u8 0, .int .u8 0, .int .u8 0, .int .u8 0, .int .u8 0, .int .u8 0, .int .u8 0, .int .u8 0, .int .u8 0, .int .u8 0, .int .u8 0, .int .u8 0, .int .u8 0, .int .u8 0, .int .u8 0, .int .u8 0, .int .u8 0, .int .u8 0, .int .u8 0, .int .u8 0, .int .u8 0, .int .u8 0, .int .u8 0, .int .u8 0, .int .u8 0, .int .u8 0, .int .u8 0, .int .u8 0, .int .u8 0, .int .u8 0, .int .u8 0, .int .u8 0, .int .u8 0, .int .u8 0, .int .u8 0, .int .u8 0, .int .u8 0, .int .u8 0, .int .u8 0, .int .u8 0, .int .u8 0, .int .u8 0, .int .u8 0, .int .u8 0, .int .u8 0, .int .u8 0, .int .u8 0, .int .u8 0, .int .u8 0, .int .u8 0, .int .u8 0, .int .u8 0, .int .u8 0, .int .u8 0, .int .u8 0, .int .u8 0, .int .u8 0, .int .u8 0, .int .u8 0, .int .u8 0, .int .u8 0, .int .u8 0, .int .u8 0, .int .u8 0, .int .u8 0, .int .u8 0, .int .u8 0, .int .u8 0, .int .u8 0, .int .u8 0, .int .u8 0, .int .u8 0, .int .u8 0, .int .u8 0, .int .u8 0]) := by kernel_rfl
@[go_sem] theorem arr_264 : arr X.P 264 = some (256, 5) := by kernel_rfl
@[go_sem] theorem bldz_264 : bldz X.P 264 = some [.int .u8 0, .int .u8 0, .int .u8 0, .int .u8 0, .int .u8 0, .int .u8 0, .int .u8 0, .int .u8 0, .int .u8 0, .int .u8 0, .int .u8 0, .int .u8 0, .int .u8 0, .int .u8 0, .int .u8 0, .int .u8 0, .int .u8 0, .int .u8 0, .int .u8 0, .int .u8 0, .int .u8 0, .int .u8 0, .int .u8 0, .int .u8 0, .int .u8 0, .int .u8 0, .int .u8 0, .int .u8 0, .int .u8 0, .int .u8 0, .int .u8 0, .int .u8 0, .int .u8 0, .int .u8 0, .int .u8 0, .int .u8 0, .int .u8 0, .int .u8 0, .int .u8 0, .int .u8 0, .int .u8 0, .int .u8 0, .int .u8 0, .int .u8 0, .int .u8 0, .int .u8 0, .int .u8 0, .int .u8 0, .int .u8 0, .int .u8 0, .int .u8 0, .int .u8 0, .int .u8 0, .int .u8 0, .int .u8 0, .int .u8 0, .int .u8 0, .int .u8 0, .int .u8 0, .int .u8 0, .int .u8 0, .int .u8 0, .int .u8 0, .int .u8 0, .int .u8 0, .int .u8 0, .int .u8 0, .int .u8 0, .int .u8 0, .int .u8 0, .int .u8 0, .int .u8 0, .int .u8 0, .int .u8 0, .int .u8 0, .int .u8 0, .int .u8 0, .int .u8 0, .int .u8 0, .int .u8 0, .int .u8 0, .int .u8 0, .int .u8 0, .int .u8 0, .int .u8 0, .int .u8 0, .int .u8 0, .int .u8 0, .int .u8 0, .int .u8 0, .int .u8 0, .int .u8 0, .int .u8 0, .int .u8 0, .int .u8 0, .int .u8 0, .int .u8 0, .int .u8 0, .int .u8 0, .int .u8 0, .int .u8 0, .int .u8 0, .int .u8 0, .int .u8 0, .int .u8 0, .int .u8 0, .int .u8 0, .int .u8 0, .int .u8 0, .int .u8 0, .int .u8 0, .int .u8 0, .int .u8 0, .int .u8 0, .int .u8 0, .int .u8 0, .int .u8 0, .int .u8 0, .int .u8 0, .int .u8 0, .int .u8 0, .int .u8 0, .int .u8 0, .int .u8 0, .int .u8 0, .int .u8 0, .int .u8 0, .int .u8 0, .int .u8 0, .int .u8 0, .int .u8 0, .int .u8 0, .int .u8 0, .int .u8 0, .int .u8 0, .int .u8 0, .int .u8 0, .int .u8 0, .int .u8 0, .int .u8 0, .int .u8 0, .int .u8 0, .int .u8 0, .int .u8 0, .int .u8 0, .int .u8 0, .int .u8 0, .int .u8 0, .int .u8 0, .int .u8 0, .int .u8 0, .int .u8 0, .int .u8 0, .int .u8 0, .int .u8 0, .int .u8 0, .int .u8 0, .int .u8 0, .int .u8 0, .int .u8 0, .int .u8 0, .int .u8 0, .int .u8 0, .int .u8 0, .int .u8 0, .int .u8 0, .int .u8 0, .int .u8 0, .int .u8 0, .int .u8 0, .int .u8 0, .int .u8 0, .int .u8 0, .int .u8 0, .int .u8 0, .int .u8 0, .int .u8 0, .int .u8 0, .int .u8 0, .int .u8 0, .int .u8 0, .int .u8 0, .int .u8 0, .int .u8 0, .int .u8 0, .int .u8 0, .int .u8 0, .int .u8 0, .int .u8 0, .int .u8 0, .int .u8 0, .int .u8 0, .int .u8 0, .int .u8 0, .int .u8 0, .int .u8 0, .int .u8 0, .int .u8 0, .int .u8 0, .int .u8 0, .int .u8 0, .int .u8 0, .int .u8 0, .int .u8 0, .int .u8 0, .int .u8 0, .int .u8 0, .int .u8 0, .int .u8 0, .int .u8 0, .int .u8 0, .int .u8 0, .int .u8 0, .int .u8 0, .int .u8 0, .int .u8 0, .int .u8 0, .int .u8 0, .int .u8 0, .int .u8 0, .int .u8 0, .int .u8 0, .int .u8 0, .int .u8 0, .int .u8 0, .int .u8 0, .int .u8 0, .int .u8 0, .int .u8 0, .int .u8 0, .int .u8 0, .int .u8 0, .int .u8 0, .int .u8 0, .int .u8 0, .int .u8 0, .int .u8 0, .int .u8 0, .int .u8 0, .int .u8 0, .int .u8 0, .int .u8 0, .int .u8 0, .int .u8 0, .int .u8 0, .int .u8 0, .int .u8 0, .int .u8 0, .int .u8 0, .int .u8 0, .int .u8 0, .int .u8 0, .int .u8 0, .int .u8 0, .int .u8 0, .int .u8 0] := by kernel_rfl
@[go_sem] theorem und_264 : X.P.underlying 264 = some (Go.TypeDesc.array 256 5) := by kernel_rfl
@[go_sem] theorem plc_264_0 : places X.P 264 0 = some (0, 1) := by kernel_rfl
@[go_sem] theorem plc_264_1 : places X.P 264 1 = some (1, 1) := by kernel_rfl
@[go_sem] theorem plc_264_2 : places X.P 264 2 = some (2, 1) := by kernel_rfl
@[go_sem] theorem plc_264_3 : places X.P 264 3 = some (3, 1) := by kernel_rfl
@[go_sem] theorem plc_264_4 : places X.P 264 4 = some (4, 1) := by kernel_rfl
@[go_sem] theorem plc_264_5 : places X.P 264 5 = some (5, 1) := by kernel_rfl
@[go_sem] theorem plc_264_6 : places X.P 264 6 = some (6, 1) := by kernel_rfl
@[go_sem] theorem plc_264_7 : places X.P 264 7 = some (7, 1) := by kernel_rfl
@[go_sem] theorem plc_264_8 : places X.P 264 8 = some (8, 1) := by kernel_rfl
@[go_sem] theorem plc_264_9 : places X.P 264 9 = some (9, 1) := by kernel_rfl
@[go_sem] theorem plc_264_10 : places X.P 264 10 = some (10, 1) := by kernel_rfl
@[go_sem] theorem plc_264_11 : places X.P 264 11 = some (11, 1) := by kernel_rfl
@[go_sem] theorem plc_264_12 : places X.P 264 12 = some (12, 1) := by kernel_rfl
@[go_sem] theorem plc_264_13 : places X.P 264 13 = some (13, 1) := by kernel_rfl
@[go_sem] theorem plc_264_14 : places X.P 264 14 = some (14, 1) := by kernel_rfl
@[go_sem] theorem plc_264_15 : places X.P 264 15 = some (15, 1) := by kernel_rfl
@[go_sem] theorem plc_264_16 : places X.P 264 16 = some (16, 1) := by kernel_rfl
@[go_sem] theorem plc_264_17 : places X.P 264 17 = some (17, 1) := by kernel_rfl
@[go_sem] theorem plc_264_18 : places X.P 264 18 = some (18, 1) := by kernel_rfl
@[go_sem] theorem plc_264_19 : places X.P 264 19 = some (19, 1) := by kernel_rfl
@[go_sem] theorem shp_269 : shp X.P 269 = some (false, 1) := by kernel_rfl
@[go_sem] theorem zer_269 : zer X.P 269 = some .nilp := by kernel_rfl
@[go_sem] theorem und_269 : X.P.underlying 269 = some (Go.TypeDesc.pointer 251) := by kernel_rfl
@[go_sem] theorem shp_274 : shp X.P 274 = some (true, 2) := by kernel_rfl
@[go_sem] theorem zer_274 : zer X.P 274 = some (.agg [.int .u8 0, .int .u8 0]) := by kernel_rfl
@[go_sem] theorem bldz_274 : bldz X.P 274 = some [.int .u8 0, .int .u8 0] := by kernel_rfl
@[go_sem] theorem fld_274_0 : fldo X.P 274 0 = some (0, 5) := by kernel_rfl
@[go_sem] theorem plc_274_0 : places X.P 274 0 = some (0, 1) := by kernel_rfl
@[go_sem] theorem fld_274_1 : fldo X.P 274 1 = some (1, 5) := by kernel_rfl
@[go_sem] theorem plc_274_1 : places X.P 274 1 = some (1, 1) := by kernel_rfl
@[go_sem] theorem shp_275 : shp X.P 275 = some (true, 32) := by kernel_rfl
@[go_sem] theorem zer_275 : zer X.P 275 = some (.agg [.int .u8 0, .int .u8 0, .int .u8 0, .int .u8 0, .int .u8 0, .int .u8 0, .int .u8 0, .int .u8 0, .int .u8 0, .int .u8 0, .int .u8 0, .int .u8 0, .int .u8 0, .int .u8 0, .int .u8 0, .int .u8 0, .int .u8 0, .int .u8 0, .int .u8 0, .int .u8 0, .int .u8 0, .int .u8 0, .int .u8 0, .int .u8 0, .int .u8 0, .int .u8 0, .int .u8 0, .int .u8 0, .int .u8 0, .int .u8 0, .int .u8 0, .int .u8 0]) := by kernel_rfl
@[go_sem] theorem arr_275 : arr X.P 275 = some (16, 274) := by kernel_rfl
@[go_sem] theorem bldz_275 : bldz X.P 275 = some [.int .u8 0, .int .u8 0, .int .u8 0, .int .u8 0, .int .u8 0, .int .u8 0, .int .u8 0, .int .u8 0, .int .u8 0, .int .u8 0, .int .u8 0, .int .u8 0, .int .u8 0, .int .u8 0, .int .u8 0, .int .u8 0, .int .u8 0, .int .u8 0, .int .u8 0, .int .u8 0, .int .u8 0, .int .u8 0, .int .u8 0, .int .u8 0, .int .u8 0, .int .u8 0, .int .u8 0, .int .u8 0, .int .u8 0, .int .u8 0, .int .u8 0, .int .u8 0] := by kernel_rfl
@[go_sem] theorem und_275 : X.P.underlying 275 = some (Go.TypeDesc.array 16 274) := by kernel_rfl
@[go_sem] theorem plc_275_0 : places X.P 275 0 = some (0, 2) := by kernel_rfl
@[go_sem] theorem plc_275_1 : places X.P 275 1 = some (2, 2) := by kernel_rfl
@[go_sem] theorem plc_275_2 : places X.P 275 2 = some (4, 2) := by kernel_rfl
@[go_sem] theorem plc_275_3 : places X.P 275 3 = some (6, 2) := by kernel_rfl
@[go_sem] theorem plc_275_4 : places X.P 275 4 = some (8, 2) := by kernel_rfl
@[go_sem] theorem plc_275_5 : places X.P 275 5 = some (10, 2) := by kernel_rfl
@[go_sem] theorem plc_275_6 : places X.P 275 6 = some (12, 2) := by kernel_rfl
@[go_sem] theorem plc_275_7 : places X.P 275 7 = some (14, 2) := by kernel_rfl
@[go_sem] theorem plc_275_8 : places X.P 275 8 = some (16, 2) := by kernel_rfl
@[go_sem] theorem plc_275_9 : places X.P 275 9 = some (18, 2) := by kernel_rfl
@[go_sem] theorem plc_275_10 : places X.P 275 10 = some (20, 2) := by kernel_rfl
@[go_sem] theorem plc_275_11 : places X.P 275 11 = some (22, 2) := by kernel_rfl
@[go_sem] theorem plc_275_12 : places X.P 275 12 = some (24, 2) := by kernel_rfl
@[go_sem] theorem plc_275_13 : places X.P 275 13 = some (26, 2) := by kernel_rfl
@[go_sem] theorem plc_275_14 : places X.P 275 14 = some (28, 2) := by kernel_rfl
@[go_sem] theorem plc_275_15 : places X.P 275 15 = some (30, 2) := by kernel_rfl
@[go_sem] theorem plc_275_16 : places X.P 275 16 = some (32, 2) := by kernel_rfl
@[go_sem] theorem plc_275_17 : places X.P 275 17 = some (34, 2) := by kernel_rfl
@[go_sem] theorem plc_275_18 : places X.P 275 18 = some (36, 2) := by kernel_rfl
@[go_sem] theorem plc_275_19 : places X.P 275 19 = some (38, 2) := by kernel_rfl
@[go_sem] theorem shp_276 : shp X.P 276 = some (false, 1) := by kernel_rfl
@[go_sem] theorem zer_276 : zer X.P 276 = some (.int .u32 0) := by kernel_rfl
@[go_sem] theorem und_276 : X.P.underlying 276 = some (Go.TypeDesc.int .u32) := by kernel_rfl
@[go_sem] theorem shp_282 : shp X.P 282 = some (true, 24) := by kernel_rfl
@[go_sem] theorem zer_282 : zer X.P 282 = some (.agg [.int .u8 0, .int .u8 0, .int .u8 0, .int .u8 0, .int .u8 0, .int .u8 0, .int .u8 0, .int .u8 0, .int .u8 0, .int .u8 0, .int .u8 0, .int .u8 0, .int .u8 0, .int .u8 0, .int .u8 0, .int .u8 0, .int .u8 0, .int .u8 0, .int .u8 0, .int .u8 0, .int .u8 0, .int .u8 0, .int .u8 0, .int .u8 0]) := by kernel_rfl
@[go_sem] theorem arr_282 : arr X.P 282 = some (24, 5) := by kernel_rfl
@[go_sem] theorem bldz_282 : bldz X.P 282 = some [.int .u8 0, .int .u8 0, .int .u8 0, .int .u8 0, .int .u8 0, .int .u8 0, .int .u8 0, .int .u8 0, .int .u8 0, .int .u8 0, .int .u8 0, .int .u8 0, .int .u8 0, .int .u8 0, .int .u8 0, .int .u8 0, .int .u8 0, .int .u8 0, .int .u8 0, .int .u8 0, .int .u8 0, .int .u8 0, .int .u8 0, .int .u8 0] := by kernel_rfl
@[go_sem] theorem und_282 : X.P.underlying 282 = some (Go.TypeDesc.array 24 5) := by kernel_rfl
@[go_sem] theorem plc_282_0 : places X.P 282 0 = some (0, 1) := by kernel_rfl
@[go_sem] theorem plc_282_1 : places X.P 282 1 = some (1, 1) := by kernel_rfl
@[go_sem] theorem plc_282_2 : places X.P 282 2 = some (2, 1) := by kernel_rfl
@[go_sem] theorem plc_282_3 : places X.P 282 3 = some (3, 1) := by kernel_rfl
@[go_sem] theorem plc_282_4 : places X.P 282 4 = some (4, 1) := by kernel_rfl
@[go_sem] theorem plc_282_5 : places X.P 282 5 = some (5, 1) := by kernel_rfl
@[go_sem] theorem plc_282_6 : places X.P 282 6 = some (6, 1) := by kernel_rfl
@[go_sem] theorem plc_282_7 : places X.P 282 7 = some (7, 1) := by kernel_rfl
@[go_sem] theorem plc_282_8 : places X.P 282 8 = some (8, 1) := by kernel_rfl
@[go_sem] theorem plc_282_9 : places X.P 282 9 = some (9, 1) := by kernel_rfl
@[go_sem] theorem plc_282_10 : places X.P 282 10 = some (10, 1) := by kernel_rfl
@[go_sem] theorem plc_282_11 : places X.P 282 11 = some (11, 1) := by kernel_rfl
@[go_sem] theorem plc_282_12 : places X.P 282 12 = some (12, 1) := by kernel_rfl
@[go_sem] theorem plc_282_13 : places X.P 282 13 = some (13, 1) := by kernel_rfl
@[go_sem] theorem plc_282_14 : places X.P 282 14 = some (14, 1) := by kernel_rfl
@[go_sem] theorem plc_282_15 : places X.P 282 15 = some (15, 1) := by kernel_rfl
@[go_sem] theorem plc_282_16 : places X.P 282 16 = some (16, 1) := by kernel_rfl
@[go_sem] theorem plc_282_17 : places X.P 282 17 = some (17, 1) := by kernel_rfl
@[go_sem] theorem plc_282_18 : places X.P 282 18 = some (18, 1) := by kernel_rfl
@[go_sem] theorem plc_282_19 : places X.P 282 19 = some (19, 1) := by kernel_rfl
@[go_sem] theorem shp_287 : shp X.P 287 = some (false, 1) := by kernel_rfl
@[go_sem] theorem zer_287 : zer X.P 287 = some .nilp := by kernel_rfl
@[go_sem] theorem und_287 : X.P.underlying 287 = some (Go.TypeDesc.pointer 289) := by kernel_rfl
@[go_sem] theorem shp_289 : shp X.P 289 = some (true, 4) := by kernel_rfl
@[go_sem] theorem zer_289 : zer X.P 289 = some (.agg [.str [], .int .i64 0, .int .i64 0, .bool false]) := by kernel_rfl
@[go_sem] theorem bldz_289 : bldz X.P 289 = some [.str [], .int .i64 0, .int .i64 0, .bool false] := by kernel_rfl
@[go_sem] theorem fld_289_0 : fldo X.P 289 0 = some (0, 9) := by kernel_rfl
@[go_sem] theorem plc_289_0 : places X.P 289 0 = some (0, 1) := by kernel_rfl
@[go_sem] theorem fld_289_1 : fldo X.P 289 1 = some (1, 3) := by kernel_rfl
@[go_sem] theorem plc_289_1 : places X.P 289 1 = some (1, 1) := by kernel_rfl
@[go_sem] theorem fld_289_2 : fldo X.P 289 2 = some (2, 3) := by kernel_rfl
@[go_sem] theorem plc_289_2 : places X.P 289 2 = some (2, 1) := by kernel_rfl
@[go_sem] theorem fld_289_3 : fldo X.P 289 3 = some (3, 4) := by kernel_rfl
@[go_sem] theorem plc_289_3 : places X.P 289 3 = some (3, 1) := by kernel_rfl
@[go_sem] theorem shp_291 : shp X.P 291 = some (false, 1) := by kernel_rfl
@[go_sem] theorem zer_291 : zer X.P 291 = some .nilp := by kernel_rfl
@[go_sem] theorem und_291 : X.P.underlying 291 = some (Go.TypeDesc.pointer 293) := by kernel_rfl
@[go_sem] theorem shp_293 : shp X.P 293 = some (true, 4) := by kernel_rfl
@[go_sem] theorem zer_293 : zer X.P 293 = some (.agg [.str [], .int .i64 0, .int .i64 0, .int .i64 0]) := by kernel_rfl
@[go_sem] theorem bldz_293 : bldz X.P 293 = some [.str [], .int .i64 0, .int .i64 0, .int .i64 0] := by kernel_rfl
@[go_sem] theorem fld_293_0 : fldo X.P 293 0 = some (0, 9) := by kernel_rfl
@[go_sem] theorem plc_293_0 : places X.P 293 0 = some (0, 1) := by kernel_rfl
@[go_sem] theorem fld_293_1 : fldo X.P 293 1 = some (1, 3) := by kernel_rfl
@[go_sem] theorem plc_293_1 : places X.P 293 1 = some (1, 1) := by kernel_rfl
@[go_sem] theorem fld_293_2 : fldo X.P 293 2 = some (2, 3) := by kernel_rfl
@[go_sem] theorem plc_293_2 : places X.P 293 2 = some (2, 1) := by kernel_rfl
@[go_sem] theorem fld_293_3 : fldo X.P 293 3 = some (3, 3) := by kernel_rfl
@[go_sem] theorem plc_293_3 : places X.P 293 3 = some (3, 1) := by kernel_rfl
@[go_sem] theorem shp_300 : shp X.P 300 = some (true, 20) := by kernel_rfl
@[go_sem] theorem zer_300 : zer X.P 300 = some (.agg [.int .u64 0, .int .u64 0, .int .u64 0, .int .u64 0, .int .u64 0, .int .u64 0, .int .u64 0, .int .u64 0, .int .u64 0, .int .u64 0, .int .u64 0, .int .u64 0, .int .u64 0, .int .u64 0, .int .u64 0, .int .u64 0, .int .u64 0, .int .u64 0, .int .u64 0, .int .u64 0]) := by kernel_rfl
@[go_sem] theorem arr_300 : arr X.P 300 = some (20, 62) := by kernel_rfl
@[go_sem] theorem bldz_300 : bldz X.P 300 = some [.int .u64 0, .int .u64 0, .int .u64 0, .int .u64 0, .int .u64 0, .int .u64 0, .int .u64 0, .int .u64 0, .int .u64 0, .int .u64 0, .int .u64 0, .int .u64 0, .int .u64 0, .int .u64 0, .int .u64 0, .int .u64 0, .int .u64 0, .int .u64 0, .int .u64 0, .int .u64 0] := by kernel_rfl
@[go_sem] theorem und_300 : X.P.underlying 300 = some (Go.TypeDesc.array 20 62) := by kernel_rfl
@[go_sem] theorem plc_300_0 : places X.P 300 0 = some (0, 1) := by kernel_rfl
@[go_sem] theorem plc_300_1 : places X.P 300 1 = some (1, 1) := by kernel_rfl
@[go_sem] theorem plc_300_2 : places X.P 300 2 = some (2, 1) := by kernel_rfl
@[go_sem] theorem plc_300_3 : places X.P 300 3 = some (3, 1) := by kernel_rfl
@[go_sem] theorem plc_300_4 : places X.P 300 4 = some (4, 1) := by kernel_rfl
@[go_sem] theorem plc_300_5 : places X.P 300 5 = some (5, 1) := by kernel_rfl
@[go_sem] theorem plc_300_6 : places X.P 300 6 = some (6, 1) := by kernel_rfl
@[go_sem] theorem plc_300_7 : places X.P 300 7 = some (7, 1) := by kernel_rfl
@[go_sem] theorem plc_300_8 : places X.P 300 8 = some (8, 1) := by kernel_rfl
@[go_sem] theorem plc_300_9 : places X.P 300 9 = some (9, 1) := by kernel_rfl
@[go_sem] theorem plc_300_10 : places X.P 300 10 = some (10, 1) := by kernel_rfl
@[go_sem] theorem plc_300_11 : places X.P 300 11 = some (11, 1) := by kernel_rfl
@[go_sem] theorem plc_300_12 : places X.P 300 12 = some (12, 1) := by kernel_rfl
@[go_sem] theorem plc_300_13 : places X.P 300 13 = some (13, 1) := by kernel_rfl
@[go_sem] theorem plc_300_14 : places X.P 300 14 = some (14, 1) := by kernel_rfl
@[go_sem] theorem plc_300_15 : places X.P 300 15 = some (15, 1) := by kernel_rfl
@[go_sem] theorem plc_300_16 : places X.P 300 16 = some (16, 1) := by kernel_rfl
@[go_sem] theorem plc_300_17 : places X.P 300 17 = some (17, 1) := by kernel_rfl
@[go_sem] theorem plc_300_18 : places X.P 300 18 = some (18, 1) := by kernel_rfl
@[go_sem] theorem plc_300_19 : places X.P 300 19 = some (19, 1) := by kernel_rfl
@[go_sem] theorem shp_301 : shp X.P 301 = some (true, 65) := by kernel_rfl
@[go_sem] theorem zer_301 : zer X.P 301 = some (.agg [.int .u8 0, .int .u8 0, .int .u8 0, .int .u8 0, .int .u8 0, .int .u8 0, .int .u8 0, .int .u8 0, .int .u8 0, .int .u8 0, .int .u8 0, .int .u8 0, .int .u8 0, .int .u8 0, .int .u8 0, .int .u8 0, .int .u8 0, .int .u8 0, .int .u8 0, .int .u8 0, .int .u8 0, .int .u8 0, .int .u8 0, .int .u8 0, .int .u8 0, .int .u8 0, .int .u8 0, .int .u8 0, .int .u8 0, .int .u8 0, .int .u8 0, .int .u8 0, .int .u8 0, .int .u8 0, .int .u8 0, .int .u8 0, .int .u8 0, .int .u8 0, .int .u8 0, .int .u8 0, .int .u8 0, .int .u8 0, .int .u8 0, .int .u8 0, .int .u8 0, .int .u8 0, .int .u8 0, .int .u8 0, .int .u8 0, .int .u8 0, .int .u8 0, .int .u8 0, .int .u8 0, .int .u8 0, .int .u8 0, .int .u8 0, .int .u8 0, .int .u8 0, .int .u8 0, .int .u8 0, .int .u8 0, .int .u8 0, .int .u8 0, .int .u8 0, .int .u8 0]) := by kernel_rfl
@[go_sem] theorem arr_301 : arr X.P 301 = some (65, 5) := by kernel_rfl
@[go_sem] theorem bldz_301 : bldz X.P 301 = some [.int .u8 0, .int .u8 0, .int .u8 0, .int .u8 0, .int .u8 0, .int .u8 0, .int .u8 0, .int .u8 0, .int .u8 0, .int .u8 0, .int .u8 0, .int .u8 0, .int .u8 0, .int .u8 0, .int .u8 0, .int .u8 0, .int .u8 0, .int .u8 0, .int .u8 0, .int .u8 0, .int .u8 0, .int .u8 0, .int .u8 0, .int .u8 0, .int .u8 0, .int .u8 0, .int .u8 0, .int .u8 0, .int .u8 0, .int .u8 0, .int .u8 0, .int .u8 0, .int .u8 0, .int .u8 0, .int .u8 0, .int .u8 0, .int .u8 0, .int .u8 0, .int .u8 0, .int .u8 0, .int .u8 0, .int .u8 0, .int .u8 0, .int .u8 0, .int .u8 0, .int .u8 0, .int .u8 0, .int .u8 0, .int .u8 0, .int .u8 0, .int .u8 0, .int .u8 0, .int .u8 0, .int .u8 0, .int .u8 0, .int .u8 0, .int .u8 0, .int .u8 0, .int .u8 0, .int .u8 0, .int .u8 0, .int .u8 0, .int .u8 0, .int .u8 0, .int .u8 0] := by kernel_rfl
@[go_sem] theorem und_301 : X.P.underlying 301 = some (Go.TypeDesc.array 65 5) := by kernel_rfl
@[go_sem] theorem plc_301_0 : places X.P 301 0 = some (0, 1) := by kernel_rfl
@[go_sem] theorem plc_301_1 : places X.P 301 1 = some (1, 1) := by kernel_rfl
@[go_sem] theorem plc_301_2 : places X.P 301 2 = some (2, 1) := by kernel_rfl
@[go_sem] theorem plc_301_3 : places X.P 301 3 = some (3, 1) := by kernel_rfl
@[go_sem] theorem plc_301_4 : places X.P 301 4 = some (4, 1) := by kernel_rfl
@[go_sem] theorem plc_301_5 : places X.P 301 5 = some (5, 1) := by kernel_rfl
@[go_sem] theorem plc_301_6 : places X.P 301 6 = some (6, 1) := by kernel_rfl
@[go_sem] theorem plc_301_7 : places X.P 301 7 = some (7, 1) := by kernel_rfl
@[go_sem] theorem plc_301_8 : places X.P 301 8 = some (8, 1) := by kernel_rfl
@[go_sem] theorem plc_301_9 : places X.P 301 9 = some (9, 1) := by kernel_rfl
@[go_sem] theorem plc_301_10 : places X.P 301 10 = some (10, 1) := by kernel_rfl
@[go_sem] theorem plc_301_11 : places X.P 301 11 = some (11, 1) := by kernel_rfl
@[go_sem] theorem plc_301_12 : places X.P 301 12 = some (12, 1) := by kernel_rfl
@[go_sem] theorem plc_301_13 : places X.P 301 13 = some (13, 1) := by kernel_rfl
@[go_sem] theorem plc_301_14 : places X.P 301 14 = some (14, 1) := by kernel_rfl
@[go_sem] theorem plc_301_15 : places X.P 301 15 = some (15, 1) := by kernel_rfl
@[go_sem] theorem plc_301_16 : places X.P 301 16 = some (16, 1) := by kernel_rfl
@[go_sem] theorem plc_301_17 : places X.P 301 17 = some (17, 1) := by kernel_rfl
@[go_sem] theorem plc_301_18 : places X.P 301 18 = some (18, 1) := by kernel_rfl
@[go_sem] theorem plc_301_19 : places X.P 301 19 = some (19, 1) := by kernel_rfl
@[go_sem] theorem shp_311 : shp X.P 311 = some (true, 32) := by kernel_rfl
@[go_sem] theorem zer_311 : zer X.P 311 = some (.agg [.int .u8 0, .int .u8 0, .int .u8 0, .int .u8 0, .int .u8 0, .int .u8 0, .int .u8 0, .int .u8 0, .int .u8 0, .int .u8 0, .int .u8 0, .int .u8 0, .int .u8 0, .int .u8 0, .int .u8 0, .int .u8 0, .int .u8 0, .int .u8 0, .int .u8 0, .int .u8 0, .int .u8 0, .int .u8 0, .int .u8 0, .int .u8 0, .int .u8 0, .int .u8 0, .int .u8 0, .int .u8 0, .int .u8 0, .int .u8 0, .int .u8 0, .int .u8 0]) := by kernel_rfl
@[go_sem] theorem arr_311 : arr X.P 311 = some (32, 5) := by kernel_rfl
@[go_sem] theorem bldz_311 : bldz X.P 311 = some [.int .u8 0, .int .u8 0, .int .u8 0, .int .u8 0, .int .u8 0, .int .u8 0, .int .u8 0, .int .u8 0, .int .u8 0, .int .u8 0, .int .u8 0, .int .u8 0, .int .u8 0, .int .u8 0, .int .u8 0, .int .u8 0, .int .u8 0, .int .u8 0, .int .u8 0, .int .u8 0, .int .u8 0, .int .u8 0, .int .u8 0, .int .u8 0, .int .u8 0, .int .u8 0, .int .u8 0, .int .u8 0, .int .u8 0, .int .u8 0, .int .u8 0, .int .u8 0] := by kernel_rfl
@[go_sem] theorem und_311 : X.P.underlying 311 = some (Go.TypeDesc.array 32 5) := by kernel_rfl
@[go_sem] theorem plc_311_0 : places X.P 311 0 = some (0, 1) := by kernel_rfl
@[go_sem] theorem plc_311_1 : places X.P 311 1 = some (1, 1) := by kernel_rfl
@[go_sem] theorem plc_311_2 : places X.P 311 2 = some (2, 1) := by kernel_rfl
@[go_sem] theorem plc_311_3 : places X.P 311 3 = some (3, 1) := by kernel_rfl
@[go_sem] theorem plc_311_4 : places X.P 311 4 = some (4, 1) := by kernel_rfl
@[go_sem] theorem plc_311_5 : places X.P 311 5 = some (5, 1) := by kernel_rfl
@[go_sem] theorem plc_311_6 : places X.P 311 6 = some (6, 1) := by kernel_rfl
@[go_sem] theorem plc_311_7 : places X.P 311 7 = some (7, 1) := by kernel_rfl
@[go_sem] theorem plc_311_8 : places X.P 311 8 = some (8, 1) := by kernel_rfl
@[go_sem] theorem plc_311_9 : places X.P 311 9 = some (9, 1) := by kernel_rfl
@[go_sem] theorem plc_311_10 : places X.P 311 10 = some (10, 1) := by kernel_rfl
@[go_sem] theorem plc_311_11 : places X.P 311 11 = some (11, 1) := by kernel_rfl
@[go_sem] theorem plc_311_12 : places X.P 311 12 = some (12, 1) := by kernel_rfl
@[go_sem] theorem plc_311_13 : places X.P 311 13 = some (13, 1) := by kernel_rfl
@[go_sem] theorem plc_311_14 : places X.P 311 14 = some (14, 1) := by kernel_rfl
@[go_sem] theorem plc_311_15 : places X.P 311 15 = some (15, 1) := by kernel_rfl
@[go_sem] theorem plc_311_16 : places X.P 311 16 = some (16, 1) := by kernel_rfl
@[go_sem] theorem plc_311_17 : places X.P 311 17 = some (17, 1) := by kernel_rfl
@[go_sem] theorem plc_311_18 : places X.P 311 18 = some (18, 1) := by kernel_rfl
@[go_sem] theorem plc_311_19 : places X.P 311 19 = some (19, 1) := by kernel_rfl
@[go_sem] theorem shp_312 : shp X.P 312 = some (true, 64) := by kernel_rfl
@[go_sem] theorem zer_312 : zer X.P 312 = some (.agg [.int .u8 0, .int .u8 0, .int .u8 0, .int .u8 0, .int .u8 0, .int .u8 0, .int .u8 0, .int .u8 0, .int .u8 0, .int .u8 0, .int .u8 0, .int .u8 0, .int .u8 0, .int .u8 0, .int .u8 0, .int .u8 0, .int .u8 0, .int .u8 0, .int .u8 0, .int .u8 0, .int .u8 0, .int .u8 0, .int .u8 0, .int .u8 0, .int .u8 0, .int .u8 0, .int .u8 0, .int .u8 0, .int .u8 0, .int .u8 0, .int .u8 0, .int .u8 0, .int .u8 0, .int .u8 0, .int .u8 0, .int .u8 0, .int .u8 0, .int .u8 0, .int .u8 0, .int .u8 0, .int .u8 0, .int .u8 0, .int .u8 0, .int .u8 0, .int .u8 0, .int .u8 0, .int .u8 0, .int .u8 0, .int .u8 0, .int .u8 0, .int .u8 0, .int .u8 0, .int .u8 0, .int .u8 0, .int .u8 0, .int .u8 0, .int .u8 0, .int .u8 0, .int .u8 0, .int .u8 0, .int .u8 0, .int .u8 0, .int .u8 0, .int .u8 0]) := by kernel_rfl
@[go_sem] theorem arr_312 : arr X.P 312 = some (64, 5) := by kernel_rfl
@[go_sem] theorem bldz_312 : bldz X.P 312 = some [.int .u8 0, .int .u8 0, .int .u8 0, .int .u8 0, .int .u8 0, .int .u8 0, .int .u8 0, .int .u8 0, .int .u8 0, .int .u8 0, .int .u8 0, .int .u8 0, .int .u8 0, .int .u8 0, .int .u8 0, .int .u8 0, .int .u8 0, .int .u8 0, .int .u8 0, .int .u8 0, .int .u8 0, .int .u8 0, .int .u8 0, .int .u8 0, .int .u8 0, .int .u8 0, .int .u8 0, .int .u8 0, .int .u8 0, .int .u8 0, .int .u8 0, .int .u8 0, .int .u8 0, .int .u8 0, .int .u8 0, .int .u8 0, .int .u8 0, .int .u8 0, .int .u8 0, .int .u8 0, .int .u8 0, .int .u8 0, .int .u8 0, .int .u8 0, .int .u8 0, .int .u8 0, .int .u8 0, .int .u8 0, .int .u8 0, .int .u8 0, .int .u8 0, .int .u8 0, .int .u8 0, .int .u8 0, .int .u8 0, .int .u8 0, .int .u8 0, .int .u8 0, .int .u8 0, .int .u8 0, .int .u8 0, .int .u8 0, .int .u8 0, .int .u8 0] := by kernel_rfl
@[go_sem] theorem und_312 : X.P.underlying 312 = some (Go.TypeDesc.array 64 5) := by kernel_rfl
@[go_sem] theorem plc_312_0 : places X.P 312 0 = some (0, 1) := by kernel_rfl
@[go_sem] theorem plc_312_1 : places X.P 312 1 = some (1, 1) := by kernel_rfl
@[go_sem] theorem plc_312_2 : places X.P 312 2 = some (2, 1) := by kernel_rfl
@[go_sem] theorem plc_312_3 : places X.P 312 3 = some (3, 1) := by kernel_rfl
@[go_sem] theorem plc_312_4 : places X.P 312 4 = some (4, 1) := by kernel_rfl
@[go_sem] theorem plc_312_5 : places X.P 312 5 = some (5, 1) := by kernel_rfl
@[go_sem] theorem plc_312_6 : places X.P 312 6 = some (6, 1) := by kernel_rfl
@[go_sem] theorem plc_312_7 : places X.P 312 7 = some (7, 1) := by kernel_rfl
@[go_sem] theorem plc_312_8 : places X.P 312 8 = some (8, 1) := by kernel_rfl
@[go_sem] theorem plc_312_9 : places X.P 312 9 = some (9, 1) := by kernel_rfl
@[go_sem] theorem plc_312_10 : places X.P 312 10 = some (10, 1) := by kernel_rfl
@[go_sem] theorem plc_312_11 : places X.P 312 11 = some (11, 1) := by kernel_rfl
@[go_sem] theorem plc_312_12 : places X.P 312 12 = some (12, 1) := by kernel_rfl
@[go_sem] theorem plc_312_13 : places X.P 312 13 = some (13, 1) := by kernel_rfl
@[go_sem] theorem plc_312_14 : places X.P 312 14 = some (14, 1) := by kernel_rfl
@[go_sem] theorem plc_312_15 : places X.P 312 15 = some (15, 1) := by kernel_rfl
@[go_sem] theorem plc_312_16 : places X.P 312 16 = some (16, 1) := by kernel_rfl
@[go_sem] theorem plc_312_17 : places X.P 312 17 = some (17, 1) := by kernel_rfl
@[go_sem] theorem plc_312_18 : places X.P 312 18 = some (18, 1) := by kernel_rfl
@[go_sem] theorem plc_312_19 : places X.P 312 19 = some (19, 1) := by kernel_rfl
@[go_sem] theorem shp_320 : shp X.P 320 = some (false, 1) := by kernel_rfl
@[go_sem] theorem zer_320 : zer X.P 320 = some .nilp := by kernel_rfl
@[go_sem] theorem und_320 : X.P.underlying 320 = some (Go.TypeDesc.pointer 322) := by kernel_rfl
@[go_sem] theorem shp_322 : shp X.P 322 = some (true, 2) := by kernel_rfl
@[go_sem] theorem zer_322 : zer X.P 322 = some (.agg [.str [], .int .i64 0]) := by kernel_rfl
@[go_sem] theorem bldz_322 : bldz X.P 322 = some [.str [], .int .i64 0] := by kernel_rfl
@[go_sem] theorem fld_322_0 : fldo X.P 322 0 = some (0, 9) := by kernel_rfl
@[go_sem] theorem plc_322_0 : places X.P 322 0 = some (0, 1) := by kernel_rfl
@[go_sem] theorem fld_322_1 : fldo X.P 322 1 = some (1, 3) := by kernel_rfl
@[go_sem] theorem plc_322_1 : places X.P 322 1 = some (1, 1) := by kernel_rfl
end Go.Proofs.Tryz.E
