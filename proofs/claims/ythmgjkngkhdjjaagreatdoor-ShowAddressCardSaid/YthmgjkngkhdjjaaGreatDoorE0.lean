/- Walks: what the functions compute. -/
import Derived.Test.YthmgjkngkhdjjaaGreatDoorMvE
import Derived.Test.YthmgjkngkhdjjaaGreatDoorMvD
import Derived.Test.YthmgjkngkhdjjaaGreatDoorMvG
import Derived.KernelRfl
import Derived.Lib.ItoaNum
import Derived.Test.YthmgjkngkhdjjaaGreatDoorChecked
set_option linter.unusedVariables false
set_option linter.unusedSimpArgs false
/- The program's types, as the evaluator looks at them. -/
namespace Go.Proofs.Tryz.E
open Go.Mv
def idxB : List UInt8 → Int → Int
 | [], _ => -1
 | b :: s, c => if (b.toNat : Int) = c then 0 else if idxB s c < 0 then -1 else idxB s c + 1
def idxByteP : Nat → Nat → List MV → Sto → Option (MV × Sto)
 | _, _, [.str s, .int .u8 c], σ => if 0 ≤ c ∧ c < 256 then some (.int .i64 (idxB s c), σ) else none
 | _, _, _, _ => none
def idxS : List UInt8 → List UInt8 → Int
 | [], t => if t = [] then 0 else -1
 | b :: s, t => if t <+: (b :: s) then 0 else if idxS s t < 0 then -1 else idxS s t + 1
def indexP : Nat → Nat → List MV → Sto → Option (MV × Sto)
 | _, _, [.str s, .str t], σ => if s.length < 4294967281 then some (.int .i64 (idxS s t), σ) else none
 | _, _, _, _ => none
def trimP : Nat → Nat → List MV → Sto → Option (MV × Sto)
 | _, _, [.str s, .str c], σ => if c = [48, 49, 50, 51, 52, 53, 54, 55, 56, 57] then some (.str (s.dropWhile (c.contains ·)), σ) else none
 | _, _, _, _ => none
def cloneP (z b : Nat) : Nat → Nat → List MV → Sto → Option (MV × Sto)
 | lim, d + 1, [.sl _ xs], σ =>
  if xs = [] then some (.sl .no [], σ) else
  if lim ≤ d ∧ okz z xs = true ∧ xs.length * b ≤ 140737488355328 then (xs.mapM datas).map fun ys => (.rs ⟨d, 0, σ.ct d⟩ 0 xs.length z, (σ.set ⟨d, 0, σ.ct d⟩ ys.flatten).tick d) else none
 | _, _, _, _ => none
def isB (l : Mv.Loc) : Bool := decide (l.t = 1000000 + (88 * 1024 + 2))
def okA (l : Mv.Loc) : MV → Bool
 | .nilp => true
 | .ptr l' 0 => decide (l' = l)
 | _ => false
def wstrP : Nat → Nat → List MV → Sto → Option (MV × Sto)
 | lim, d + 1, [.ptr l 0, .str x], σ =>
  if lim ≤ l.d ∧ l.d ≤ d ∧ isB l = true then
   match σ.ob l with
   | some [p, .sl tk xs] => if okA l p = true then (bapp lim l.d 5 σ tk xs x).map fun r => (.tup [.int .i64 x.length, .junk], r.2.set l [.ptr l 0, r.1]) else none
   | _ => none
  else none
 | _, _, _, _ => none
def wbyteP : Nat → Nat → List MV → Sto → Option (MV × Sto)
 | lim, d + 1, [.ptr l 0, .int .u8 c], σ =>
  if lim ≤ l.d ∧ l.d ≤ d ∧ isB l = true ∧ 0 ≤ c ∧ c < 256 then
   match σ.ob l with
   | some [p, .sl tk xs] => if okA l p = true then (bapp lim l.d 5 σ tk xs [UInt8.ofNat c.toNat]).map fun r => (.junk, r.2.set l [.ptr l 0, r.1]) else none
   | _ => none
  else none
 | _, _, _, _ => none
def inB : List (List MV) → Bool
 | [] => true
 | [.int .u8 n] :: r => decide (0 ≤ n ∧ n < 256) && inB r
 | _ => false
def bstrP : Nat → Nat → List MV → Sto → Option (MV × Sto)
 | lim, d + 1, [.ptr l 0], σ =>
  if lim ≤ l.d ∧ l.d ≤ d then
   match σ.ob l with
   | some [p, .sl .nil []] => some (.str [], σ)
   | some [p, .sl (.byt k c q) xs] =>
    match bytesOf xs with
    | some bs => if lim ≤ k ∧ k ≤ l.d ∧ q = 5 ∧ bs ≠ [] ∧ okz 1 xs = true ∧ (inB xs = true ∧ xs.length ≤ 140737488355328) ∧ σ.ow k c = some (xs.length, 1) then some (.str bs, (σ.own k c none).set l [p, .sl .no xs]) else none
    | none => none
   | _ => none
  else none
 | _, _, _, _ => none
def itoaP : Nat → Nat → List MV → Sto → Option (MV × Sto)
 | _, _, [.int .i64 n], σ => if 0 ≤ n ∧ n ≤ 1000000000 then some (.str (Lib.itoa n), σ) else none
 | _, _, _, _ => none
def u4 : List Sh := [.i .u64, .i .u64, .i .u64, .i .u64]
noncomputable def X : Cfg where
 P := Go.Proofs.Tryz.prog
 eqT := fun t => if t = 24 then some u4 else if t = 104 then some ([.i .i64, .i .u8] ++ u4 ++ [.i .i64, .i .i64, .i .i64]) else none
 prim := fun f => if f = 143 then some (cloneP 10 96) else if f = 136 then some idxByteP else if f = 174 then some indexP else if f = 46 then some wstrP else if f = 44 then some wbyteP else if f = 47 then some bstrP else if f = 14 then some itoaP else if f = 140 then some trimP else none
 kp := fun b q => (b = 3 ∧ q = fun x => ∃ m t i, x = .cells #[.int .i64 m] t i) ∨ (b = 0 ∧ q = fun x => ∃ t i, x = .cells (Lib.pow10Tab.map fun z => Value.int .u64 z).toArray t i)
 tg := fun t => decide (t = 88)
@[go_sem] theorem locX (t n : Nat) (o : Option Tmp) : locT X t n o = if t = 88 then (if n < 1024 then 1000000 + (t * 1024 + n) else dstT o) else dstT o := by
 unfold locT X
 simp only [decide_eq_true_eq]
@[go_sem] theorem dstT_some (t : Nat) : dstT (some t) = if t < 1000000 then t else 0 := rfl
@[go_sem] theorem ktX {α : Type} (t d : Nat) (m : MV) (x y : α) : (if (X.kt t && dep d m) = true then x else y) = y := if_neg Bool.false_ne_true
@[go_sem] theorem shp_3 : shp X.P 3 = some (false, 1) := by kernel_rfl
@[go_sem] theorem und_3 : X.P.underlying 3 = some (Go.TypeDesc.int .i64) := by kernel_rfl
@[go_sem] theorem shp_4 : shp X.P 4 = some (false, 1) := by kernel_rfl
@[go_sem] theorem shp_5 : shp X.P 5 = some (false, 1) := by kernel_rfl
@[go_sem] theorem und_5 : X.P.underlying 5 = some (Go.TypeDesc.int .u8) := by kernel_rfl
@[go_sem] theorem shp_9 : shp X.P 9 = some (false, 1) := by kernel_rfl
@[go_sem] theorem und_9 : X.P.underlying 9 = some Go.TypeDesc.string := by kernel_rfl
@[go_sem] theorem shp_22 : shp X.P 22 = some (false, 1) := by kernel_rfl
@[go_sem] theorem und_22 : X.P.underlying 22 = some (Go.TypeDesc.int .u64) := by kernel_rfl
@[go_sem] theorem shp_24 : shp X.P 24 = some (true, 4) := by kernel_rfl
@[go_sem] theorem zer_24 : zer X.P 24 = some (.agg [.int .u64 0, .int .u64 0, .int .u64 0, .int .u64 0]) := by kernel_rfl
@[go_sem] theorem arr_24 : arr X.P 24 = some (4, 22) := by kernel_rfl
@[go_sem] theorem bldz_24 : bldz X.P 24 = some [.int .u64 0, .int .u64 0, .int .u64 0, .int .u64 0] := by kernel_rfl
@[go_sem] theorem shp_25 : shp X.P 25 = some (false, 1) := by kernel_rfl
@[go_sem] theorem slc_25 : slc X.P 25 = some (27, 10, 96) := by kernel_rfl
@[go_sem] theorem und_25 : X.P.underlying 25 = some (Go.TypeDesc.slice 27) := by kernel_rfl
@[go_sem] theorem shp_27 : shp X.P 27 = some (true, 10) := by kernel_rfl
@[go_sem] theorem zer_27 : zer X.P 27 = some (.agg [.int .i64 0, .int .u8 0, .int .u64 0, .int .u64 0, .int .u64 0, .int .u64 0, .int .i64 0, .int .i64 0, .int .i64 0, .sl .nil []]) := by kernel_rfl
@[go_sem] theorem bldz_27 : bldz X.P 27 = some [.int .i64 0, .int .u8 0, .int .u64 0, .int .u64 0, .int .u64 0, .int .u64 0, .int .i64 0, .int .i64 0, .int .i64 0, .sl .nil []] := by kernel_rfl
@[go_sem] theorem fld_27_0 : fldo X.P 27 0 = some (0, 3) := by kernel_rfl
@[go_sem] theorem plc_27_0 : places X.P 27 0 = some (0, 1) := by kernel_rfl
@[go_sem] theorem fld_27_1 : fldo X.P 27 1 = some (1, 5) := by kernel_rfl
@[go_sem] theorem plc_27_1 : places X.P 27 1 = some (1, 1) := by kernel_rfl
@[go_sem] theorem fld_27_2 : fldo X.P 27 2 = some (2, 24) := by kernel_rfl
@[go_sem] theorem plc_27_2 : places X.P 27 2 = some (2, 4) := by kernel_rfl
@[go_sem] theorem fld_27_3 : fldo X.P 27 3 = some (6, 3) := by kernel_rfl
@[go_sem] theorem plc_27_3 : places X.P 27 3 = some (6, 1) := by kernel_rfl
@[go_sem] theorem fld_27_4 : fldo X.P 27 4 = some (7, 3) := by kernel_rfl
@[go_sem] theorem plc_27_4 : places X.P 27 4 = some (7, 1) := by kernel_rfl
@[go_sem] theorem fld_27_5 : fldo X.P 27 5 = some (8, 3) := by kernel_rfl
@[go_sem] theorem plc_27_5 : places X.P 27 5 = some (8, 1) := by kernel_rfl
@[go_sem] theorem fld_27_6 : fldo X.P 27 6 = some (9, 25) := by kernel_rfl
@[go_sem] theorem plc_27_6 : places X.P 27 6 = some (9, 1) := by kernel_rfl
@[go_sem] theorem shp_29 : shp X.P 29 = some (true, 12) := by kernel_rfl
@[go_sem] theorem zer_29 : zer X.P 29 = some (.agg [.int .i64 0, .int .i64 0, .int .i64 0, .int .u8 0, .int .u64 0, .int .u64 0, .int .u64 0, .int .u64 0, .int .i64 0, .int .i64 0, .int .i64 0, .sl .nil []]) := by kernel_rfl
@[go_sem] theorem bldz_29 : bldz X.P 29 = some [.int .i64 0, .int .i64 0, .int .i64 0, .int .u8 0, .int .u64 0, .int .u64 0, .int .u64 0, .int .u64 0, .int .i64 0, .int .i64 0, .int .i64 0, .sl .nil []] := by kernel_rfl
@[go_sem] theorem fld_29_0 : fldo X.P 29 0 = some (0, 3) := by kernel_rfl
@[go_sem] theorem plc_29_0 : places X.P 29 0 = some (0, 1) := by kernel_rfl
@[go_sem] theorem fld_29_1 : fldo X.P 29 1 = some (1, 3) := by kernel_rfl
@[go_sem] theorem plc_29_1 : places X.P 29 1 = some (1, 1) := by kernel_rfl
@[go_sem] theorem fld_29_2 : fldo X.P 29 2 = some (2, 27) := by kernel_rfl
@[go_sem] theorem plc_29_2 : places X.P 29 2 = some (2, 10) := by kernel_rfl
@[go_sem] theorem shp_33 : shp X.P 33 = some (true, 25) := by kernel_rfl
@[go_sem] theorem zer_33 : zer X.P 33 = some (.agg [.int .i64 0, .int .i64 0, .int .i64 0, .int .u8 0, .int .u64 0, .int .u64 0, .int .u64 0, .int .u64 0, .int .i64 0, .int .i64 0, .int .i64 0, .sl .nil [], .int .i64 0, .int .i64 0, .int .i64 0, .int .u8 0, .int .u64 0, .int .u64 0, .int .u64 0, .int .u64 0, .int .i64 0, .int .i64 0, .int .i64 0, .sl .nil [], .bool false]) := by kernel_rfl
@[go_sem] theorem bldz_33 : bldz X.P 33 = some [.int .i64 0, .int .i64 0, .int .i64 0, .int .u8 0, .int .u64 0, .int .u64 0, .int .u64 0, .int .u64 0, .int .i64 0, .int .i64 0, .int .i64 0, .sl .nil [], .int .i64 0, .int .i64 0, .int .i64 0, .int .u8 0, .int .u64 0, .int .u64 0, .int .u64 0, .int .u64 0, .int .i64 0, .int .i64 0, .int .i64 0, .sl .nil [], .bool false] := by kernel_rfl
@[go_sem] theorem fld_33_0 : fldo X.P 33 0 = some (0, 29) := by kernel_rfl
@[go_sem] theorem plc_33_0 : places X.P 33 0 = some (0, 12) := by kernel_rfl
@[go_sem] theorem fld_33_1 : fldo X.P 33 1 = some (12, 29) := by kernel_rfl
@[go_sem] theorem fld_33_2 : fldo X.P 33 2 = some (24, 4) := by kernel_rfl
@[go_sem] theorem shp_37 : shp X.P 37 = some (true, 4) := by kernel_rfl
@[go_sem] theorem zer_37 : zer X.P 37 = some (.agg [.int .u64 0, .int .u64 0, .int .u64 0, .int .u64 0]) := by kernel_rfl
@[go_sem] theorem arr_37 : arr X.P 37 = some (4, 22) := by kernel_rfl
@[go_sem] theorem bldz_37 : bldz X.P 37 = some [.int .u64 0, .int .u64 0, .int .u64 0, .int .u64 0] := by kernel_rfl
@[go_sem] theorem plc_37_0 : places X.P 37 0 = some (0, 1) := by kernel_rfl
@[go_sem] theorem plc_37_1 : places X.P 37 1 = some (1, 1) := by kernel_rfl
@[go_sem] theorem plc_37_2 : places X.P 37 2 = some (2, 1) := by kernel_rfl
@[go_sem] theorem plc_37_3 : places X.P 37 3 = some (3, 1) := by kernel_rfl
@[go_sem] theorem shp_38 : shp X.P 38 = some (false, 1) := by kernel_rfl
@[go_sem] theorem slc_38 : slc X.P 38 = some (40, 10, 96) := by kernel_rfl
@[go_sem] theorem und_38 : X.P.underlying 38 = some (Go.TypeDesc.slice 40) := by kernel_rfl
@[go_sem] theorem shp_40 : shp X.P 40 = some (true, 10) := by kernel_rfl
@[go_sem] theorem zer_40 : zer X.P 40 = some (.agg [.int .i64 0, .int .u8 0, .int .u64 0, .int .u64 0, .int .u64 0, .int .u64 0, .int .i64 0, .int .i64 0, .int .i64 0, .sl .nil []]) := by kernel_rfl
@[go_sem] theorem bldz_40 : bldz X.P 40 = some [.int .i64 0, .int .u8 0, .int .u64 0, .int .u64 0, .int .u64 0, .int .u64 0, .int .i64 0, .int .i64 0, .int .i64 0, .sl .nil []] := by kernel_rfl
@[go_sem] theorem fld_40_0 : fldo X.P 40 0 = some (0, 3) := by kernel_rfl
@[go_sem] theorem plc_40_0 : places X.P 40 0 = some (0, 1) := by kernel_rfl
@[go_sem] theorem fld_40_1 : fldo X.P 40 1 = some (1, 5) := by kernel_rfl
@[go_sem] theorem plc_40_1 : places X.P 40 1 = some (1, 1) := by kernel_rfl
@[go_sem] theorem fld_40_2 : fldo X.P 40 2 = some (2, 37) := by kernel_rfl
@[go_sem] theorem plc_40_2 : places X.P 40 2 = some (2, 4) := by kernel_rfl
@[go_sem] theorem fld_40_3 : fldo X.P 40 3 = some (6, 3) := by kernel_rfl
@[go_sem] theorem plc_40_3 : places X.P 40 3 = some (6, 1) := by kernel_rfl
@[go_sem] theorem fld_40_4 : fldo X.P 40 4 = some (7, 3) := by kernel_rfl
@[go_sem] theorem plc_40_4 : places X.P 40 4 = some (7, 1) := by kernel_rfl
@[go_sem] theorem fld_40_5 : fldo X.P 40 5 = some (8, 3) := by kernel_rfl
@[go_sem] theorem plc_40_5 : places X.P 40 5 = some (8, 1) := by kernel_rfl
@[go_sem] theorem fld_40_6 : fldo X.P 40 6 = some (9, 38) := by kernel_rfl
@[go_sem] theorem plc_40_6 : places X.P 40 6 = some (9, 1) := by kernel_rfl
@[go_sem] theorem shp_42 : shp X.P 42 = some (true, 12) := by kernel_rfl
@[go_sem] theorem zer_42 : zer X.P 42 = some (.agg [.int .i64 0, .int .i64 0, .int .i64 0, .int .u8 0, .int .u64 0, .int .u64 0, .int .u64 0, .int .u64 0, .int .i64 0, .int .i64 0, .int .i64 0, .sl .nil []]) := by kernel_rfl
@[go_sem] theorem bldz_42 : bldz X.P 42 = some [.int .i64 0, .int .i64 0, .int .i64 0, .int .u8 0, .int .u64 0, .int .u64 0, .int .u64 0, .int .u64 0, .int .i64 0, .int .i64 0, .int .i64 0, .sl .nil []] := by kernel_rfl
@[go_sem] theorem fld_42_0 : fldo X.P 42 0 = some (0, 3) := by kernel_rfl
@[go_sem] theorem plc_42_0 : places X.P 42 0 = some (0, 1) := by kernel_rfl
@[go_sem] theorem fld_42_1 : fldo X.P 42 1 = some (1, 3) := by kernel_rfl
@[go_sem] theorem plc_42_1 : places X.P 42 1 = some (1, 1) := by kernel_rfl
@[go_sem] theorem fld_42_2 : fldo X.P 42 2 = some (2, 40) := by kernel_rfl
@[go_sem] theorem plc_42_2 : places X.P 42 2 = some (2, 10) := by kernel_rfl
@[go_sem] theorem bldz_47 : bldz X.P 47 = some [.str [], .int .i64 0] := by kernel_rfl
@[go_sem] theorem fld_47_0 : fldo X.P 47 0 = some (0, 9) := by kernel_rfl
@[go_sem] theorem plc_47_0 : places X.P 47 0 = some (0, 1) := by kernel_rfl
@[go_sem] theorem fld_47_1 : fldo X.P 47 1 = some (1, 3) := by kernel_rfl
@[go_sem] theorem bldz_55 : bldz X.P 55 = some [.int .i64 0, .int .i64 0, .int .i64 0, .int .u8 0, .int .u64 0, .int .u64 0, .int .u64 0, .int .u64 0, .int .i64 0, .int .i64 0, .int .i64 0, .sl .nil [], .int .i64 0, .int .i64 0, .int .i64 0, .int .u8 0, .int .u64 0, .int .u64 0, .int .u64 0, .int .u64 0, .int .i64 0, .int .i64 0, .int .i64 0, .sl .nil [], .bool false] := by kernel_rfl
@[go_sem] theorem fld_55_0 : fldo X.P 55 0 = some (0, 42) := by kernel_rfl
@[go_sem] theorem plc_55_0 : places X.P 55 0 = some (0, 12) := by kernel_rfl
@[go_sem] theorem fld_55_1 : fldo X.P 55 1 = some (12, 42) := by kernel_rfl
@[go_sem] theorem shp_69 : shp X.P 69 = some (true, 10) := by kernel_rfl
@[go_sem] theorem zer_69 : zer X.P 69 = some (.agg [.bool false, .bool false, .bool false, .bool false, .bool false, .bool false, .bool false, .bool false, .bool false, .bool false]) := by kernel_rfl
@[go_sem] theorem arr_69 : arr X.P 69 = some (10, 4) := by kernel_rfl
@[go_sem] theorem bldz_69 : bldz X.P 69 = some [.bool false, .bool false, .bool false, .bool false, .bool false, .bool false, .bool false, .bool false, .bool false, .bool false] := by kernel_rfl
@[go_sem] theorem shp_80 : shp X.P 80 = some (true, 5) := by kernel_rfl
@[go_sem] theorem zer_80 : zer X.P 80 = some (.agg [.str [], .str [], .str [], .str [], .str []]) := by kernel_rfl
@[go_sem] theorem bldz_80 : bldz X.P 80 = some [.str [], .str [], .str [], .str [], .str []] := by kernel_rfl
@[go_sem] theorem fld_80_0 : fldo X.P 80 0 = some (0, 9) := by kernel_rfl
@[go_sem] theorem plc_80_0 : places X.P 80 0 = some (0, 1) := by kernel_rfl
@[go_sem] theorem fld_80_1 : fldo X.P 80 1 = some (1, 9) := by kernel_rfl
@[go_sem] theorem plc_80_1 : places X.P 80 1 = some (1, 1) := by kernel_rfl
@[go_sem] theorem fld_80_2 : fldo X.P 80 2 = some (2, 9) := by kernel_rfl
@[go_sem] theorem plc_80_2 : places X.P 80 2 = some (2, 1) := by kernel_rfl
@[go_sem] theorem fld_80_3 : fldo X.P 80 3 = some (3, 9) := by kernel_rfl
@[go_sem] theorem plc_80_3 : places X.P 80 3 = some (3, 1) := by kernel_rfl
@[go_sem] theorem fld_80_4 : fldo X.P 80 4 = some (4, 9) := by kernel_rfl
@[go_sem] theorem plc_80_4 : places X.P 80 4 = some (4, 1) := by kernel_rfl
@[go_sem] theorem slc_86 : slc X.P 86 = some (5, 1, 1) := by kernel_rfl
@[go_sem] theorem zer_88 : zer X.P 88 = some (.agg [.nilp, .sl .nil []]) := by kernel_rfl
@[go_sem] theorem zer_102 : zer X.P 102 = some (.agg [.int .i64 0, .bool false, .bool false, .bool false, .bool false, .bool false, .bool false, .bool false, .bool false, .bool false, .bool false]) := by kernel_rfl
@[go_sem] theorem fld_102_0 : fldo X.P 102 0 = some (0, 3) := by kernel_rfl
@[go_sem] theorem fld_102_1 : fldo X.P 102 1 = some (1, 69) := by kernel_rfl
@[go_sem] theorem shp_104 : shp X.P 104 = some (true, 9) := by kernel_rfl
@[go_sem] theorem zer_104 : zer X.P 104 = some (.agg [.int .i64 0, .int .u8 0, .int .u64 0, .int .u64 0, .int .u64 0, .int .u64 0, .int .i64 0, .int .i64 0, .int .i64 0]) := by kernel_rfl
@[go_sem] theorem bldz_104 : bldz X.P 104 = some [.int .i64 0, .int .u8 0, .int .u64 0, .int .u64 0, .int .u64 0, .int .u64 0, .int .i64 0, .int .i64 0, .int .i64 0] := by kernel_rfl
@[go_sem] theorem plc_104_0 : places X.P 104 0 = some (0, 1) := by kernel_rfl
@[go_sem] theorem fld_104_1 : fldo X.P 104 1 = some (1, 5) := by kernel_rfl
@[go_sem] theorem plc_104_1 : places X.P 104 1 = some (1, 1) := by kernel_rfl
@[go_sem] theorem fld_104_2 : fldo X.P 104 2 = some (2, 37) := by kernel_rfl
@[go_sem] theorem plc_104_2 : places X.P 104 2 = some (2, 4) := by kernel_rfl
@[go_sem] theorem fld_104_3 : fldo X.P 104 3 = some (6, 3) := by kernel_rfl
@[go_sem] theorem plc_104_3 : places X.P 104 3 = some (6, 1) := by kernel_rfl
@[go_sem] theorem fld_104_4 : fldo X.P 104 4 = some (7, 3) := by kernel_rfl
@[go_sem] theorem plc_104_4 : places X.P 104 4 = some (7, 1) := by kernel_rfl
@[go_sem] theorem fld_104_5 : fldo X.P 104 5 = some (8, 3) := by kernel_rfl
@[go_sem] theorem plc_104_5 : places X.P 104 5 = some (8, 1) := by kernel_rfl
@[go_sem] theorem bldz_115 : bldz X.P 115 = some [.str [], .int .i64 0, .int .i64 0, .bool false] := by kernel_rfl
@[go_sem] theorem fld_115_0 : fldo X.P 115 0 = some (0, 9) := by kernel_rfl
@[go_sem] theorem plc_115_0 : places X.P 115 0 = some (0, 1) := by kernel_rfl
@[go_sem] theorem fld_115_1 : fldo X.P 115 1 = some (1, 3) := by kernel_rfl
@[go_sem] theorem fld_115_2 : fldo X.P 115 2 = some (2, 3) := by kernel_rfl
@[go_sem] theorem fld_115_3 : fldo X.P 115 3 = some (3, 4) := by kernel_rfl
@[go_sem] theorem bldz_119 : bldz X.P 119 = some [.str [], .int .i64 0, .int .i64 0, .int .i64 0] := by kernel_rfl
@[go_sem] theorem fld_119_0 : fldo X.P 119 0 = some (0, 9) := by kernel_rfl
@[go_sem] theorem plc_119_0 : places X.P 119 0 = some (0, 1) := by kernel_rfl
@[go_sem] theorem fld_119_1 : fldo X.P 119 1 = some (1, 3) := by kernel_rfl
@[go_sem] theorem fld_119_2 : fldo X.P 119 2 = some (2, 3) := by kernel_rfl
@[go_sem] theorem fld_119_3 : fldo X.P 119 3 = some (3, 3) := by kernel_rfl
@[go_sem] theorem plc_119_3 : places X.P 119 3 = some (3, 1) := by kernel_rfl
@[go_sem] theorem bldz_127 : bldz X.P 127 = some [.str [], .int .i64 0, .bool false, .int .i64 0, .bool false] := by kernel_rfl
@[go_sem] theorem fld_127_0 : fldo X.P 127 0 = some (0, 9) := by kernel_rfl
@[go_sem] theorem plc_127_0 : places X.P 127 0 = some (0, 1) := by kernel_rfl
@[go_sem] theorem fld_127_1 : fldo X.P 127 1 = some (1, 3) := by kernel_rfl
@[go_sem] theorem fld_127_2 : fldo X.P 127 2 = some (2, 4) := by kernel_rfl
@[go_sem] theorem plc_127_2 : places X.P 127 2 = some (2, 1) := by kernel_rfl
@[go_sem] theorem fld_127_3 : fldo X.P 127 3 = some (3, 3) := by kernel_rfl
@[go_sem] theorem fld_127_4 : fldo X.P 127 4 = some (4, 4) := by kernel_rfl
@[go_sem] theorem und_135 : X.P.underlying 135 = some (Go.TypeDesc.int .u64) := by kernel_rfl
@[go_sem] theorem slc_150 : slc X.P 150 = some (3, 1, 8) := by kernel_rfl
@[go_sem] theorem und_150 : X.P.underlying 150 = some (Go.TypeDesc.slice 3) := by kernel_rfl
@[go_sem] theorem bldz_179 : bldz X.P 179 = some [.str [], .int .i64 0] := by kernel_rfl
@[go_sem] theorem fld_179_0 : fldo X.P 179 0 = some (0, 9) := by kernel_rfl
@[go_sem] theorem plc_179_0 : places X.P 179 0 = some (0, 1) := by kernel_rfl
@[go_sem] theorem fld_179_1 : fldo X.P 179 1 = some (1, 3) := by kernel_rfl
@[go_sem] theorem plc_179_1 : places X.P 179 1 = some (1, 1) := by kernel_rfl
end Go.Proofs.Tryz.E
