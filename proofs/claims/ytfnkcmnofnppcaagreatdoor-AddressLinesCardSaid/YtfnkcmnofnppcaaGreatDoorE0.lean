/- Walks: what the functions compute. -/
import Derived.Test.YtfnkcmnofnppcaaGreatDoorMvE
import Derived.Test.YtfnkcmnofnppcaaGreatDoorMvD
import Derived.KernelRfl
import Derived.Test.YtfnkcmnofnppcaaGreatDoorChecked
set_option linter.unusedVariables false
set_option linter.unusedSimpArgs false
/- The program's types, as the evaluator looks at them. -/
namespace Go.Proofs.Tryz.E
open Go.Mv

/-- The first place of a byte; -1: there is none. -/
def idxB : List UInt8 → Int → Int
  | [], _ => -1
  | b :: s, c => if (b.toNat : Int) = c then 0 else if idxB s c < 0 then -1 else idxB s c + 1
def idxByteP : Nat → Nat → List MV → Sto → Option (MV × Sto)
  | _, _, [.str s, .int .u8 c], σ => if 0 ≤ c ∧ c < 256 then some (.int .i64 (idxB s c), σ) else none
  | _, _, _, _ => none
/-- The first place of a text; -1: there is none. -/
def idxS : List UInt8 → List UInt8 → Int
  | [], t => if t = [] then 0 else -1
  | b :: s, t => if t <+: (b :: s) then 0 else if idxS s t < 0 then -1 else idxS s t + 1
def indexP : Nat → Nat → List MV → Sto → Option (MV × Sto)
  | _, _, [.str s, .str t], σ => if s.length < 4294967281 then some (.int .i64 (idxS s t), σ) else none
  | _, _, _, _ => none
/-- A row of its own. -/
def cloneP (z b : Nat) : Nat → Nat → List MV → Sto → Option (MV × Sto)
  | lim, d + 1, [.sl _ xs], σ =>
    if xs = [] then some (.sl .no [], σ) else
    if lim ≤ d ∧ okz z xs = true ∧ xs.length * b ≤ 140737488355328 then (xs.mapM datas).map fun ys => (.rs ⟨d, 0, σ.ct d⟩ 0 xs.length z, (σ.set ⟨d, 0, σ.ct d⟩ ys.flatten).tick d) else none
  | _, _, _, _ => none
/-- A text without the bytes of a set at its beginning. -/
def trimP : Nat → Nat → List MV → Sto → Option (MV × Sto)
  | _, _, [.str s, .str c], σ => if c = [48, 49, 50, 51, 52, 53, 54, 55, 56, 57] ∨ c = [32, 9] then some (.str (s.dropWhile (c.contains ·)), σ) else none
  | _, _, _, _ => none
/-- A lexer at a text's beginning, of its own. -/
def newP : Nat → Nat → List MV → Sto → Option (MV × Sto)
  | lim, d + 1, [.str s], σ => if lim ≤ d then some (.ptr ⟨d, 0, σ.ct d⟩ 0, (σ.set ⟨d, 0, σ.ct d⟩ [.str s, .int .i64 0]).tick d) else none
  | _, _, _, _ => none
def u4 : List Sh := [.i .u64, .i .u64, .i .u64, .i .u64]
noncomputable def X : Cfg where
  P := Go.Proofs.Tryz.prog
  eqT := fun t => if t = 128 then some ([.i .i64, .i .u8] ++ u4 ++ [.i .i64, .i .i64, .i .i64]) else none
  prim := fun f => if f = 6 then some newP else if f = 21 then some trimP else none
  kp := fun _ _ => False

@[go_sem] theorem shp_3 : shp X.P 3 = some (false, 1) := by kernel_rfl
@[go_sem] theorem zer_3 : zer X.P 3 = some (.int .i64 0) := by kernel_rfl
@[go_sem] theorem und_3 : X.P.underlying 3 = some (Go.TypeDesc.int .i64) := by kernel_rfl
@[go_sem] theorem shp_4 : shp X.P 4 = some (false, 1) := by kernel_rfl
@[go_sem] theorem zer_4 : zer X.P 4 = some (.bool false) := by kernel_rfl
@[go_sem] theorem und_4 : X.P.underlying 4 = some Go.TypeDesc.bool := by kernel_rfl
@[go_sem] theorem shp_5 : shp X.P 5 = some (false, 1) := by kernel_rfl
@[go_sem] theorem zer_5 : zer X.P 5 = some (.int .u8 0) := by kernel_rfl
@[go_sem] theorem und_5 : X.P.underlying 5 = some (Go.TypeDesc.int .u8) := by kernel_rfl
@[go_sem] theorem shp_9 : shp X.P 9 = some (false, 1) := by kernel_rfl
@[go_sem] theorem zer_9 : zer X.P 9 = some (.str []) := by kernel_rfl
@[go_sem] theorem und_9 : X.P.underlying 9 = some Go.TypeDesc.string := by kernel_rfl
@[go_sem] theorem shp_21 : shp X.P 21 = some (false, 1) := by kernel_rfl
@[go_sem] theorem zer_21 : zer X.P 21 = some (.int .i32 0) := by kernel_rfl
@[go_sem] theorem und_21 : X.P.underlying 21 = some (Go.TypeDesc.int .i32) := by kernel_rfl
@[go_sem] theorem shp_24 : shp X.P 24 = some (false, 1) := by kernel_rfl
@[go_sem] theorem zer_24 : zer X.P 24 = some .nilp := by kernel_rfl
@[go_sem] theorem und_24 : X.P.underlying 24 = some (Go.TypeDesc.pointer 44) := by kernel_rfl
@[go_sem] theorem shp_26 : shp X.P 26 = some (false, 1) := by kernel_rfl
@[go_sem] theorem zer_26 : zer X.P 26 = some (.int .u64 0) := by kernel_rfl
@[go_sem] theorem und_26 : X.P.underlying 26 = some (Go.TypeDesc.int .u64) := by kernel_rfl
@[go_sem] theorem shp_28 : shp X.P 28 = some (true, 4) := by kernel_rfl
@[go_sem] theorem zer_28 : zer X.P 28 = some (.agg [.int .u64 0, .int .u64 0, .int .u64 0, .int .u64 0]) := by kernel_rfl
@[go_sem] theorem arr_28 : arr X.P 28 = some (4, 26) := by kernel_rfl
@[go_sem] theorem bldz_28 : bldz X.P 28 = some [.int .u64 0, .int .u64 0, .int .u64 0, .int .u64 0] := by kernel_rfl
@[go_sem] theorem und_28 : X.P.underlying 28 = some (Go.TypeDesc.array 4 26) := by kernel_rfl
@[go_sem] theorem plc_28_0 : places X.P 28 0 = some (0, 1) := by kernel_rfl
@[go_sem] theorem plc_28_1 : places X.P 28 1 = some (1, 1) := by kernel_rfl
@[go_sem] theorem plc_28_2 : places X.P 28 2 = some (2, 1) := by kernel_rfl
@[go_sem] theorem plc_28_3 : places X.P 28 3 = some (3, 1) := by kernel_rfl
@[go_sem] theorem plc_28_4 : places X.P 28 4 = some (4, 1) := by kernel_rfl
@[go_sem] theorem plc_28_5 : places X.P 28 5 = some (5, 1) := by kernel_rfl
@[go_sem] theorem plc_28_6 : places X.P 28 6 = some (6, 1) := by kernel_rfl
@[go_sem] theorem plc_28_7 : places X.P 28 7 = some (7, 1) := by kernel_rfl
@[go_sem] theorem plc_28_8 : places X.P 28 8 = some (8, 1) := by kernel_rfl
@[go_sem] theorem plc_28_9 : places X.P 28 9 = some (9, 1) := by kernel_rfl
@[go_sem] theorem plc_28_10 : places X.P 28 10 = some (10, 1) := by kernel_rfl
@[go_sem] theorem plc_28_11 : places X.P 28 11 = some (11, 1) := by kernel_rfl
@[go_sem] theorem plc_28_12 : places X.P 28 12 = some (12, 1) := by kernel_rfl
@[go_sem] theorem plc_28_13 : places X.P 28 13 = some (13, 1) := by kernel_rfl
@[go_sem] theorem plc_28_14 : places X.P 28 14 = some (14, 1) := by kernel_rfl
@[go_sem] theorem plc_28_15 : places X.P 28 15 = some (15, 1) := by kernel_rfl
@[go_sem] theorem plc_28_16 : places X.P 28 16 = some (16, 1) := by kernel_rfl
@[go_sem] theorem plc_28_17 : places X.P 28 17 = some (17, 1) := by kernel_rfl
@[go_sem] theorem plc_28_18 : places X.P 28 18 = some (18, 1) := by kernel_rfl
@[go_sem] theorem plc_28_19 : places X.P 28 19 = some (19, 1) := by kernel_rfl
@[go_sem] theorem shp_29 : shp X.P 29 = some (false, 1) := by kernel_rfl
@[go_sem] theorem zer_29 : zer X.P 29 = some (.sl .nil []) := by kernel_rfl
@[go_sem] theorem slc_29 : slc X.P 29 = some (31, 10, 96) := by kernel_rfl
@[go_sem] theorem und_29 : X.P.underlying 29 = some (Go.TypeDesc.slice 31) := by kernel_rfl
@[go_sem] theorem shp_31 : shp X.P 31 = some (true, 10) := by kernel_rfl
@[go_sem] theorem zer_31 : zer X.P 31 = some (.agg [.int .i64 0, .int .u8 0, .int .u64 0, .int .u64 0, .int .u64 0, .int .u64 0, .int .i64 0, .int .i64 0, .int .i64 0, .sl .nil []]) := by kernel_rfl
@[go_sem] theorem bldz_31 : bldz X.P 31 = some [.int .i64 0, .int .u8 0, .int .u64 0, .int .u64 0, .int .u64 0, .int .u64 0, .int .i64 0, .int .i64 0, .int .i64 0, .sl .nil []] := by kernel_rfl
@[go_sem] theorem fld_31_0 : fldo X.P 31 0 = some (0, 3) := by kernel_rfl
@[go_sem] theorem plc_31_0 : places X.P 31 0 = some (0, 1) := by kernel_rfl
@[go_sem] theorem fld_31_1 : fldo X.P 31 1 = some (1, 5) := by kernel_rfl
@[go_sem] theorem plc_31_1 : places X.P 31 1 = some (1, 1) := by kernel_rfl
@[go_sem] theorem fld_31_2 : fldo X.P 31 2 = some (2, 28) := by kernel_rfl
@[go_sem] theorem plc_31_2 : places X.P 31 2 = some (2, 4) := by kernel_rfl
@[go_sem] theorem fld_31_3 : fldo X.P 31 3 = some (6, 3) := by kernel_rfl
@[go_sem] theorem plc_31_3 : places X.P 31 3 = some (6, 1) := by kernel_rfl
@[go_sem] theorem fld_31_4 : fldo X.P 31 4 = some (7, 3) := by kernel_rfl
@[go_sem] theorem plc_31_4 : places X.P 31 4 = some (7, 1) := by kernel_rfl
@[go_sem] theorem fld_31_5 : fldo X.P 31 5 = some (8, 3) := by kernel_rfl
@[go_sem] theorem plc_31_5 : places X.P 31 5 = some (8, 1) := by kernel_rfl
@[go_sem] theorem fld_31_6 : fldo X.P 31 6 = some (9, 29) := by kernel_rfl
@[go_sem] theorem plc_31_6 : places X.P 31 6 = some (9, 1) := by kernel_rfl
@[go_sem] theorem shp_33 : shp X.P 33 = some (true, 12) := by kernel_rfl
@[go_sem] theorem zer_33 : zer X.P 33 = some (.agg [.int .i64 0, .int .i64 0, .int .i64 0, .int .u8 0, .int .u64 0, .int .u64 0, .int .u64 0, .int .u64 0, .int .i64 0, .int .i64 0, .int .i64 0, .sl .nil []]) := by kernel_rfl
@[go_sem] theorem bldz_33 : bldz X.P 33 = some [.int .i64 0, .int .i64 0, .int .i64 0, .int .u8 0, .int .u64 0, .int .u64 0, .int .u64 0, .int .u64 0, .int .i64 0, .int .i64 0, .int .i64 0, .sl .nil []] := by kernel_rfl
@[go_sem] theorem fld_33_0 : fldo X.P 33 0 = some (0, 3) := by kernel_rfl
@[go_sem] theorem plc_33_0 : places X.P 33 0 = some (0, 1) := by kernel_rfl
@[go_sem] theorem fld_33_1 : fldo X.P 33 1 = some (1, 3) := by kernel_rfl
@[go_sem] theorem plc_33_1 : places X.P 33 1 = some (1, 1) := by kernel_rfl
@[go_sem] theorem fld_33_2 : fldo X.P 33 2 = some (2, 31) := by kernel_rfl
@[go_sem] theorem plc_33_2 : places X.P 33 2 = some (2, 10) := by kernel_rfl
@[go_sem] theorem shp_35 : shp X.P 35 = some (true, 25) := by kernel_rfl
@[go_sem] theorem zer_35 : zer X.P 35 = some (.agg [.int .i64 0, .int .i64 0, .int .i64 0, .int .u8 0, .int .u64 0, .int .u64 0, .int .u64 0, .int .u64 0, .int .i64 0, .int .i64 0, .int .i64 0, .sl .nil [], .int .i64 0, .int .i64 0, .int .i64 0, .int .u8 0, .int .u64 0, .int .u64 0, .int .u64 0, .int .u64 0, .int .i64 0, .int .i64 0, .int .i64 0, .sl .nil [], .bool false]) := by kernel_rfl
@[go_sem] theorem bldz_35 : bldz X.P 35 = some [.int .i64 0, .int .i64 0, .int .i64 0, .int .u8 0, .int .u64 0, .int .u64 0, .int .u64 0, .int .u64 0, .int .i64 0, .int .i64 0, .int .i64 0, .sl .nil [], .int .i64 0, .int .i64 0, .int .i64 0, .int .u8 0, .int .u64 0, .int .u64 0, .int .u64 0, .int .u64 0, .int .i64 0, .int .i64 0, .int .i64 0, .sl .nil [], .bool false] := by kernel_rfl
@[go_sem] theorem fld_35_0 : fldo X.P 35 0 = some (0, 33) := by kernel_rfl
@[go_sem] theorem plc_35_0 : places X.P 35 0 = some (0, 12) := by kernel_rfl
@[go_sem] theorem fld_35_1 : fldo X.P 35 1 = some (12, 33) := by kernel_rfl
@[go_sem] theorem plc_35_1 : places X.P 35 1 = some (12, 12) := by kernel_rfl
@[go_sem] theorem fld_35_2 : fldo X.P 35 2 = some (24, 4) := by kernel_rfl
@[go_sem] theorem plc_35_2 : places X.P 35 2 = some (24, 1) := by kernel_rfl
@[go_sem] theorem shp_36 : shp X.P 36 = some (false, 1) := by kernel_rfl
@[go_sem] theorem zer_36 : zer X.P 36 = some (.int .i64 0) := by kernel_rfl
@[go_sem] theorem und_36 : X.P.underlying 36 = some (Go.TypeDesc.int .i64) := by kernel_rfl
@[go_sem] theorem shp_42 : shp X.P 42 = some (false, 1) := by kernel_rfl
@[go_sem] theorem zer_42 : zer X.P 42 = some (.sl .nil []) := by kernel_rfl
@[go_sem] theorem slc_42 : slc X.P 42 = some (5, 1, 1) := by kernel_rfl
@[go_sem] theorem und_42 : X.P.underlying 42 = some (Go.TypeDesc.slice 5) := by kernel_rfl
@[go_sem] theorem shp_44 : shp X.P 44 = some (true, 2) := by kernel_rfl
@[go_sem] theorem zer_44 : zer X.P 44 = some (.agg [.str [], .int .i64 0]) := by kernel_rfl
@[go_sem] theorem bldz_44 : bldz X.P 44 = some [.str [], .int .i64 0] := by kernel_rfl
@[go_sem] theorem fld_44_0 : fldo X.P 44 0 = some (0, 9) := by kernel_rfl
@[go_sem] theorem plc_44_0 : places X.P 44 0 = some (0, 1) := by kernel_rfl
@[go_sem] theorem fld_44_1 : fldo X.P 44 1 = some (1, 3) := by kernel_rfl
@[go_sem] theorem plc_44_1 : places X.P 44 1 = some (1, 1) := by kernel_rfl
@[go_sem] theorem shp_61 : shp X.P 61 = some (true, 256) := by kernel_rfl
@[go_sem] theorem zer_61 : zer X.P 61 = some (.agg [.bool false, .bool false, .bool false, .bool false, .bool false, .bool false, .bool false, .bool false, .bool false, .bool false, .bool false, .bool false, .bool false, .bool false, .bool false, .bool false, .bool false, .bool false, .bool false, .bool false, .bool false, .bool false, .bool false, .bool false, .bool false, .bool false, .bool false, .bool false, .bool false, .bool false, .bool false, .bool false, .bool false, .bool false, .bool false, .bool false, .bool false, .bool false, .bool false, .bool false, .bool false, .bool false, .bool false, .bool false, .bool false, .bool false, .bool false, .bool false, .bool false, .bool false, .bool false, .bool false, .bool false, .bool false, .bool false, .bool false, .bool false, .bool false, .bool false, .bool false, .bool false, .bool false, .bool false, .bool false, .bool false, .bool false, .bool false, .bool false, .bool false, .bool false, .bool false, .bool false, .bool false, .bool false, .bool false, .bool false, .bool false, .bool false, .bool false, .bool false, .bool false, .bool false, .bool false, .bool false, .bool false, .bool false, .bool false, .bool false, .bool false, .bool false, .bool false, .bool false, .bool false, .bool false, .bool false, .bool false, .bool false, .bool false, .bool false, .bool false, .bool false, .bool false, .bool false, .bool false, .bool false, .bool false, .bool false, .bool false, .bool false, .bool false, .bool false, .bool false, .bool false, .bool false, .bool false, .bool false, .bool false, .bool false, .bool false, .bool false, .bool false, .bool false, .bool false, .bool false, .bool false, .bool false, .bool false, .bool false, .bool false, .bool false, .bool false, .bool false, .bool false, .bool false, .bool false, .bool false, .bool false, .bool false, .bool false, .bool false, .bool false, .bool false, .bool false, .bool false, .bool false, .bool false, .bool false, .bool false, .bool false, .bool false, .bool false, .bool false, .bool false, .bool false, .bool false, .bool false, .bool false, .bool false, .bool false, .bool false, .bool false, .bool false, .bool false, .bool false, .bool false, .bool false, .bool false, .bool false, .bool false, .bool false, .bool false, .bool false, .bool false, .bool false, .bool false, .bool false, .bool false, .bool false, .bool false, .bool false, .bool false, .bool false, .bool false, .bool false, .bool false, .bool false, .bool false, .bool false, .bool false, .bool false, .bool false, .bool false, .bool false, .bool false, .bool false, .bool false, .bool false, .bool false, .bool false, .bool false, .bool false, .bool false, .bool false, .bool false, .bool false, .bool false, .bool false, .bool false, .bool false, .bool false, .bool false, .bool false, .bool false, .bool false, .bool false, .bool false, .bool false, .bool false, .bool false, .bool false, .bool false, .bool false, .bool false, .bool false, .bool false, .bool false, .bool false, .bool false, .bool false, .bool false, .bool false, .bool false, .bool false, .bool false, .bool false, .bool false, .bool false, .bool false, .bool false, .bool false, .bool false, .bool false, .bool false, .bool false, .bool false, .bool false, .bool false, .bool false, .bool false, .bool false, .bool false, .bool false, .bool false, .bool false, .bool false, .bool false]) := by kernel_rfl
@[go_sem] theorem arr_61 : arr X.P 61 = some (256, 4) := by kernel_rfl
@[go_sem] theorem bldz_61 : bldz X.P 61 = some [.bool false, .bool false, .bool false, .bool false, .bool false, .bool false, .bool false, .bool false, .bool false, .bool false, .bool false, .bool false, .bool false, .bool false, .bool false, .bool false, .bool false, .bool false, .bool false, .bool false, .bool false, .bool false, .bool false, .bool false, .bool false, .bool false, .bool false, .bool false, .bool false, .bool false, .bool false, .bool false, .bool false, .bool false, .bool false, .bool false, .bool false, .bool false, .bool false, .bool false, .bool false, .bool false, .bool false, .bool false, .bool false, .bool false, .bool false, .bool false, .bool false, .bool false, .bool false, .bool false, .bool false, .bool false, .bool false, .bool false, .bool false, .bool false, .bool false, .bool false, .bool false, .bool false, .bool false, .bool false, .bool false, .bool false, .bool false, .bool false, .bool false, .bool false, .bool false, .bool false, .bool false, .bool false, .bool false, .bool false, .bool false, .bool false, .bool false, .bool false, .bool false, .bool false, .bool false, .bool false, .bool false, .bool false, .bool false, .bool false, .bool false, .bool false, .bool false, .bool false, .bool false, .bool false, .bool false, .bool false, .bool false, .bool false, .bool false, .bool false, .bool false, .bool false, .bool false, .bool false, .bool false, .bool false, .bool false, .bool false, .bool false, .bool false, .bool false, .bool false, .bool false, .bool false, .bool false, .bool false, .bool false, .bool false, .bool false, .bool false, .bool false, .bool false, .bool false, .bool false, .bool false, .bool false, .bool false, .bool false, .bool false, .bool false, .bool false, .bool false, .bool false, .bool false, .bool false, .bool false, .bool false, .bool false, .bool false, .bool false, .bool false, .bool false, .bool false, .bool false, .bool false, .bool false, .bool false, .bool false, .bool false, .bool false, .bool false, .bool false, .bool false, .bool false, .bool false, .bool false, .bool false, .bool false, .bool false, .bool false, .bool false, .bool false, .bool false, .bool false, .bool false, .bool false, .bool false, .bool false, .bool false, .bool false, .bool false, .bool false, .bool false, .bool false, .bool false, .bool false, .bool false, .bool false, .bool false, .bool false, .bool false, .bool false, .bool false, .bool false, .bool false, .bool false, .bool false, .bool false, .bool false, .bool false, .bool false, .bool false, .bool false, .bool false, .bool false, .bool false, .bool false, .bool false, .bool false, .bool false, .bool false, .bool false, .bool false, .bool false, .bool false, .bool false, .bool false, .bool false, .bool false, .bool false, .bool false, .bool false, .bool false, .bool false, .bool false, .bool false, .bool false, .bool false, .bool false, .bool false, .bool false, .bool false, .bool false, .bool false, .bool false, .bool false, .bool false, .bool false, .bool false, .bool false, .bool false, .bool false, .bool false, .bool false, .bool false, .bool false, .bool false, .bool false, .bool false, .bool false, .bool false, .bool false, .bool false, .bool false, .bool false, .bool false, .bool false, .bool false, .bool false, .bool false, .bool false, .bool false, .bool false, .bool false, .bool false, .bool false] := by kernel_rfl
@[go_sem] theorem und_61 : X.P.underlying 61 = some (Go.TypeDesc.array 256 4) := by kernel_rfl
@[go_sem] theorem plc_61_0 : places X.P 61 0 = some (0, 1) := by kernel_rfl
@[go_sem] theorem plc_61_1 : places X.P 61 1 = some (1, 1) := by kernel_rfl
@[go_sem] theorem plc_61_2 : places X.P 61 2 = some (2, 1) := by kernel_rfl
@[go_sem] theorem plc_61_3 : places X.P 61 3 = some (3, 1) := by kernel_rfl
@[go_sem] theorem plc_61_4 : places X.P 61 4 = some (4, 1) := by kernel_rfl
@[go_sem] theorem plc_61_5 : places X.P 61 5 = some (5, 1) := by kernel_rfl
@[go_sem] theorem plc_61_6 : places X.P 61 6 = some (6, 1) := by kernel_rfl
@[go_sem] theorem plc_61_7 : places X.P 61 7 = some (7, 1) := by kernel_rfl
@[go_sem] theorem plc_61_8 : places X.P 61 8 = some (8, 1) := by kernel_rfl
@[go_sem] theorem plc_61_9 : places X.P 61 9 = some (9, 1) := by kernel_rfl
@[go_sem] theorem plc_61_10 : places X.P 61 10 = some (10, 1) := by kernel_rfl
@[go_sem] theorem plc_61_11 : places X.P 61 11 = some (11, 1) := by kernel_rfl
@[go_sem] theorem plc_61_12 : places X.P 61 12 = some (12, 1) := by kernel_rfl
@[go_sem] theorem plc_61_13 : places X.P 61 13 = some (13, 1) := by kernel_rfl
@[go_sem] theorem plc_61_14 : places X.P 61 14 = some (14, 1) := by kernel_rfl
@[go_sem] theorem plc_61_15 : places X.P 61 15 = some (15, 1) := by kernel_rfl
@[go_sem] theorem plc_61_16 : places X.P 61 16 = some (16, 1) := by kernel_rfl
@[go_sem] theorem plc_61_17 : places X.P 61 17 = some (17, 1) := by kernel_rfl
@[go_sem] theorem plc_61_18 : places X.P 61 18 = some (18, 1) := by kernel_rfl
@[go_sem] theorem plc_61_19 : places X.P 61 19 = some (19, 1) := by kernel_rfl
@[go_sem] theorem shp_65 : shp X.P 65 = some (false, 1) := by kernel_rfl
@[go_sem] theorem zer_65 : zer X.P 65 = some .nilp := by kernel_rfl
@[go_sem] theorem und_65 : X.P.underlying 65 = some (Go.TypeDesc.pointer 61) := by kernel_rfl
@[go_sem] theorem shp_73 : shp X.P 73 = some (false, 1) := by kernel_rfl
@[go_sem] theorem zer_73 : zer X.P 73 = some .nilp := by kernel_rfl
@[go_sem] theorem und_73 : X.P.underlying 73 = some (Go.TypeDesc.pointer 75) := by kernel_rfl
@[go_sem] theorem shp_75 : shp X.P 75 = some (true, 2) := by kernel_rfl
@[go_sem] theorem zer_75 : zer X.P 75 = some (.agg [.nilp, .sl .nil []]) := by kernel_rfl
@[go_sem] theorem bldz_75 : bldz X.P 75 = some [.nilp, .sl .nil []] := by kernel_rfl
@[go_sem] theorem fld_75_0 : fldo X.P 75 0 = some (0, 73) := by kernel_rfl
@[go_sem] theorem plc_75_0 : places X.P 75 0 = some (0, 1) := by kernel_rfl
@[go_sem] theorem fld_75_1 : fldo X.P 75 1 = some (1, 42) := by kernel_rfl
@[go_sem] theorem plc_75_1 : places X.P 75 1 = some (1, 1) := by kernel_rfl
@[go_sem] theorem shp_83 : shp X.P 83 = some (false, 1) := by kernel_rfl
@[go_sem] theorem zer_83 : zer X.P 83 = some .nilp := by kernel_rfl
@[go_sem] theorem und_83 : X.P.underlying 83 = some (Go.TypeDesc.pointer 85) := by kernel_rfl
@[go_sem] theorem shp_85 : shp X.P 85 = some (true, 4) := by kernel_rfl
@[go_sem] theorem zer_85 : zer X.P 85 = some (.agg [.str [], .int .i64 0, .int .i64 0, .bool false]) := by kernel_rfl
@[go_sem] theorem bldz_85 : bldz X.P 85 = some [.str [], .int .i64 0, .int .i64 0, .bool false] := by kernel_rfl
@[go_sem] theorem fld_85_0 : fldo X.P 85 0 = some (0, 9) := by kernel_rfl
@[go_sem] theorem plc_85_0 : places X.P 85 0 = some (0, 1) := by kernel_rfl
@[go_sem] theorem fld_85_1 : fldo X.P 85 1 = some (1, 3) := by kernel_rfl
@[go_sem] theorem plc_85_1 : places X.P 85 1 = some (1, 1) := by kernel_rfl
@[go_sem] theorem fld_85_2 : fldo X.P 85 2 = some (2, 3) := by kernel_rfl
@[go_sem] theorem plc_85_2 : places X.P 85 2 = some (2, 1) := by kernel_rfl
@[go_sem] theorem fld_85_3 : fldo X.P 85 3 = some (3, 4) := by kernel_rfl
@[go_sem] theorem plc_85_3 : places X.P 85 3 = some (3, 1) := by kernel_rfl
@[go_sem] theorem shp_88 : shp X.P 88 = some (false, 1) := by kernel_rfl
@[go_sem] theorem zer_88 : zer X.P 88 = some .nilp := by kernel_rfl
@[go_sem] theorem und_88 : X.P.underlying 88 = some (Go.TypeDesc.pointer 90) := by kernel_rfl
@[go_sem] theorem shp_90 : shp X.P 90 = some (true, 4) := by kernel_rfl
@[go_sem] theorem zer_90 : zer X.P 90 = some (.agg [.str [], .int .i64 0, .int .i64 0, .int .i64 0]) := by kernel_rfl
@[go_sem] theorem bldz_90 : bldz X.P 90 = some [.str [], .int .i64 0, .int .i64 0, .int .i64 0] := by kernel_rfl
@[go_sem] theorem fld_90_0 : fldo X.P 90 0 = some (0, 9) := by kernel_rfl
@[go_sem] theorem plc_90_0 : places X.P 90 0 = some (0, 1) := by kernel_rfl
@[go_sem] theorem fld_90_1 : fldo X.P 90 1 = some (1, 3) := by kernel_rfl
@[go_sem] theorem plc_90_1 : places X.P 90 1 = some (1, 1) := by kernel_rfl
@[go_sem] theorem fld_90_2 : fldo X.P 90 2 = some (2, 3) := by kernel_rfl
@[go_sem] theorem plc_90_2 : places X.P 90 2 = some (2, 1) := by kernel_rfl
@[go_sem] theorem fld_90_3 : fldo X.P 90 3 = some (3, 3) := by kernel_rfl
@[go_sem] theorem plc_90_3 : places X.P 90 3 = some (3, 1) := by kernel_rfl
end Go.Proofs.Tryz.E
