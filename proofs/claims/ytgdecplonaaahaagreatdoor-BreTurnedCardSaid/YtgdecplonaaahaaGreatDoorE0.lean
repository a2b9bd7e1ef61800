/- Walks: what the functions compute. -/
import Derived.Test.YtgdecplonaaahaaGreatDoorMvE
import Derived.Test.YtgdecplonaaahaaGreatDoorMvD
import Derived.KernelRfl
import Derived.Test.YtgdecplonaaahaaGreatDoorChecked
set_option linter.unusedVariables false
set_option linter.unusedSimpArgs false
/- The program's types, as the evaluator looks at them. -/
namespace Go.Proofs.Tryz.E
open Go.Mv

/-- The first place of a byte; -1: there is none. -/
def idxB : List UInt8 → Int → Int
  | [], _ => -1
  | b :: s, c => if (b.toNat : Int) = c then 0 else if idxB s c < 0 then -1 else idxB s c + 1
def idxByteP : Nat → Nat → List MV → Sto → Option (MV × Sto)
  | _, _, [.str s, .int .u8 c], σ => if 0 ≤ c ∧ c < 256 then some (.int .i64 (idxB s c), σ) else none
  | _, _, _, _ => none
/-- The first place of a text; -1: there is none. -/
def idxS : List UInt8 → List UInt8 → Int
  | [], t => if t = [] then 0 else -1
  | b :: s, t => if t <+: (b :: s) then 0 else if idxS s t < 0 then -1 else idxS s t + 1
def indexP : Nat → Nat → List MV → Sto → Option (MV × Sto)
  | _, _, [.str s, .str t], σ => if s.length < 4294967281 then some (.int .i64 (idxS s t), σ) else none
  | _, _, _, _ => none
/-- A row of its own. -/
def cloneP (z b : Nat) : Nat → Nat → List MV → Sto → Option (MV × Sto)
  | lim, d + 1, [.sl _ xs], σ =>
    if xs = [] then some (.sl .no [], σ) else
    if lim ≤ d ∧ okz z xs = true ∧ xs.length * b ≤ 140737488355328 then (xs.mapM datas).map fun ys => (.rs ⟨d, 0, σ.ct d⟩ 0 xs.length z, (σ.set ⟨d, 0, σ.ct d⟩ ys.flatten).tick d) else none
  | _, _, _, _ => none
/-- A text without the bytes of a set at its beginning. -/
def trimP : Nat → Nat → List MV → Sto → Option (MV × Sto)
  | _, _, [.str s, .str c], σ => if c = [48, 49, 50, 51, 52, 53, 54, 55, 56, 57] then some (.str (s.dropWhile (c.contains ·)), σ) else none
  | _, _, _, _ => none
def u4 : List Sh := [.i .u64, .i .u64, .i .u64, .i .u64]
noncomputable def X : Cfg where
  P := Go.Proofs.Tryz.prog
  eqT := fun t => if t = 32 then some u4 else if t = 75 then some ([.i .i64, .i .u8] ++ u4 ++ [.i .i64, .i .i64, .i .i64]) else none
  prim := fun f => if f = 73 then some (cloneP 10 96) else if f = 79 then some idxByteP else if f = 100 then some indexP else if f = 70 then some trimP else none
  kp := fun b q => b = 0 ∧ q = fun x => ∃ m t i, x = .cells #[.int .i64 m] t i

@[go_sem] theorem shp_3 : shp X.P 3 = some (false, 1) := by kernel_rfl
@[go_sem] theorem zer_3 : zer X.P 3 = some (.int .i64 0) := by kernel_rfl
@[go_sem] theorem und_3 : X.P.underlying 3 = some (Go.TypeDesc.int .i64) := by kernel_rfl
@[go_sem] theorem shp_4 : shp X.P 4 = some (false, 1) := by kernel_rfl
@[go_sem] theorem zer_4 : zer X.P 4 = some (.bool false) := by kernel_rfl
@[go_sem] theorem und_4 : X.P.underlying 4 = some Go.TypeDesc.bool := by kernel_rfl
@[go_sem] theorem shp_5 : shp X.P 5 = some (false, 1) := by kernel_rfl
@[go_sem] theorem zer_5 : zer X.P 5 = some (.int .u8 0) := by kernel_rfl
@[go_sem] theorem und_5 : X.P.underlying 5 = some (Go.TypeDesc.int .u8) := by kernel_rfl
@[go_sem] theorem shp_9 : shp X.P 9 = some (false, 1) := by kernel_rfl
@[go_sem] theorem zer_9 : zer X.P 9 = some (.str []) := by kernel_rfl
@[go_sem] theorem und_9 : X.P.underlying 9 = some Go.TypeDesc.string := by kernel_rfl
@[go_sem] theorem shp_21 : shp X.P 21 = some (false, 1) := by kernel_rfl
@[go_sem] theorem zer_21 : zer X.P 21 = some (.int .i32 0) := by kernel_rfl
@[go_sem] theorem und_21 : X.P.underlying 21 = some (Go.TypeDesc.int .i32) := by kernel_rfl
@[go_sem] theorem shp_23 : shp X.P 23 = some (false, 1) := by kernel_rfl
@[go_sem] theorem zer_23 : zer X.P 23 = some (.int .u64 0) := by kernel_rfl
@[go_sem] theorem und_23 : X.P.underlying 23 = some (Go.TypeDesc.int .u64) := by kernel_rfl
@[go_sem] theorem shp_25 : shp X.P 25 = some (true, 4) := by kernel_rfl
@[go_sem] theorem zer_25 : zer X.P 25 = some (.agg [.int .u64 0, .int .u64 0, .int .u64 0, .int .u64 0]) := by kernel_rfl
@[go_sem] theorem arr_25 : arr X.P 25 = some (4, 23) := by kernel_rfl
@[go_sem] theorem bldz_25 : bldz X.P 25 = some [.int .u64 0, .int .u64 0, .int .u64 0, .int .u64 0] := by kernel_rfl
@[go_sem] theorem und_25 : X.P.underlying 25 = some (Go.TypeDesc.array 4 23) := by kernel_rfl
@[go_sem] theorem plc_25_0 : places X.P 25 0 = some (0, 1) := by kernel_rfl
@[go_sem] theorem plc_25_1 : places X.P 25 1 = some (1, 1) := by kernel_rfl
@[go_sem] theorem plc_25_2 : places X.P 25 2 = some (2, 1) := by kernel_rfl
@[go_sem] theorem plc_25_3 : places X.P 25 3 = some (3, 1) := by kernel_rfl
@[go_sem] theorem plc_25_4 : places X.P 25 4 = some (4, 1) := by kernel_rfl
@[go_sem] theorem plc_25_5 : places X.P 25 5 = some (5, 1) := by kernel_rfl
@[go_sem] theorem plc_25_6 : places X.P 25 6 = some (6, 1) := by kernel_rfl
@[go_sem] theorem plc_25_7 : places X.P 25 7 = some (7, 1) := by kernel_rfl
@[go_sem] theorem plc_25_8 : places X.P 25 8 = some (8, 1) := by kernel_rfl
@[go_sem] theorem plc_25_9 : places X.P 25 9 = some (9, 1) := by kernel_rfl
@[go_sem] theorem plc_25_10 : places X.P 25 10 = some (10, 1) := by kernel_rfl
@[go_sem] theorem plc_25_11 : places X.P 25 11 = some (11, 1) := by kernel_rfl
@[go_sem] theorem plc_25_12 : places X.P 25 12 = some (12, 1) := by kernel_rfl
@[go_sem] theorem plc_25_13 : places X.P 25 13 = some (13, 1) := by kernel_rfl
@[go_sem] theorem plc_25_14 : places X.P 25 14 = some (14, 1) := by kernel_rfl
@[go_sem] theorem plc_25_15 : places X.P 25 15 = some (15, 1) := by kernel_rfl
@[go_sem] theorem plc_25_16 : places X.P 25 16 = some (16, 1) := by kernel_rfl
@[go_sem] theorem plc_25_17 : places X.P 25 17 = some (17, 1) := by kernel_rfl
@[go_sem] theorem plc_25_18 : places X.P 25 18 = some (18, 1) := by kernel_rfl
@[go_sem] theorem plc_25_19 : places X.P 25 19 = some (19, 1) := by kernel_rfl
@[go_sem] theorem shp_26 : shp X.P 26 = some (false, 1) := by kernel_rfl
@[go_sem] theorem zer_26 : zer X.P 26 = some (.sl .nil []) := by kernel_rfl
@[go_sem] theorem slc_26 : slc X.P 26 = some (28, 10, 96) := by kernel_rfl
@[go_sem] theorem und_26 : X.P.underlying 26 = some (Go.TypeDesc.slice 28) := by kernel_rfl
@[go_sem] theorem shp_28 : shp X.P 28 = some (true, 10) := by kernel_rfl
@[go_sem] theorem zer_28 : zer X.P 28 = some (.agg [.int .i64 0, .int .u8 0, .int .u64 0, .int .u64 0, .int .u64 0, .int .u64 0, .int .i64 0, .int .i64 0, .int .i64 0, .sl .nil []]) := by kernel_rfl
@[go_sem] theorem bldz_28 : bldz X.P 28 = some [.int .i64 0, .int .u8 0, .int .u64 0, .int .u64 0, .int .u64 0, .int .u64 0, .int .i64 0, .int .i64 0, .int .i64 0, .sl .nil []] := by kernel_rfl
@[go_sem] theorem fld_28_0 : fldo X.P 28 0 = some (0, 3) := by kernel_rfl
@[go_sem] theorem plc_28_0 : places X.P 28 0 = some (0, 1) := by kernel_rfl
@[go_sem] theorem fld_28_1 : fldo X.P 28 1 = some (1, 5) := by kernel_rfl
@[go_sem] theorem plc_28_1 : places X.P 28 1 = some (1, 1) := by kernel_rfl
@[go_sem] theorem fld_28_2 : fldo X.P 28 2 = some (2, 25) := by kernel_rfl
@[go_sem] theorem plc_28_2 : places X.P 28 2 = some (2, 4) := by kernel_rfl
@[go_sem] theorem fld_28_3 : fldo X.P 28 3 = some (6, 3) := by kernel_rfl
@[go_sem] theorem plc_28_3 : places X.P 28 3 = some (6, 1) := by kernel_rfl
@[go_sem] theorem fld_28_4 : fldo X.P 28 4 = some (7, 3) := by kernel_rfl
@[go_sem] theorem plc_28_4 : places X.P 28 4 = some (7, 1) := by kernel_rfl
@[go_sem] theorem fld_28_5 : fldo X.P 28 5 = some (8, 3) := by kernel_rfl
@[go_sem] theorem plc_28_5 : places X.P 28 5 = some (8, 1) := by kernel_rfl
@[go_sem] theorem fld_28_6 : fldo X.P 28 6 = some (9, 26) := by kernel_rfl
@[go_sem] theorem plc_28_6 : places X.P 28 6 = some (9, 1) := by kernel_rfl
@[go_sem] theorem shp_29 : shp X.P 29 = some (false, 1) := by kernel_rfl
@[go_sem] theorem zer_29 : zer X.P 29 = some (.int .i64 0) := by kernel_rfl
@[go_sem] theorem und_29 : X.P.underlying 29 = some (Go.TypeDesc.int .i64) := by kernel_rfl
@[go_sem] theorem shp_32 : shp X.P 32 = some (true, 4) := by kernel_rfl
@[go_sem] theorem zer_32 : zer X.P 32 = some (.agg [.int .u64 0, .int .u64 0, .int .u64 0, .int .u64 0]) := by kernel_rfl
@[go_sem] theorem arr_32 : arr X.P 32 = some (4, 23) := by kernel_rfl
@[go_sem] theorem bldz_32 : bldz X.P 32 = some [.int .u64 0, .int .u64 0, .int .u64 0, .int .u64 0] := by kernel_rfl
@[go_sem] theorem und_32 : X.P.underlying 32 = some (Go.TypeDesc.array 4 23) := by kernel_rfl
@[go_sem] theorem plc_32_0 : places X.P 32 0 = some (0, 1) := by kernel_rfl
@[go_sem] theorem plc_32_1 : places X.P 32 1 = some (1, 1) := by kernel_rfl
@[go_sem] theorem plc_32_2 : places X.P 32 2 = some (2, 1) := by kernel_rfl
@[go_sem] theorem plc_32_3 : places X.P 32 3 = some (3, 1) := by kernel_rfl
@[go_sem] theorem plc_32_4 : places X.P 32 4 = some (4, 1) := by kernel_rfl
@[go_sem] theorem plc_32_5 : places X.P 32 5 = some (5, 1) := by kernel_rfl
@[go_sem] theorem plc_32_6 : places X.P 32 6 = some (6, 1) := by kernel_rfl
@[go_sem] theorem plc_32_7 : places X.P 32 7 = some (7, 1) := by kernel_rfl
@[go_sem] theorem plc_32_8 : places X.P 32 8 = some (8, 1) := by kernel_rfl
@[go_sem] theorem plc_32_9 : places X.P 32 9 = some (9, 1) := by kernel_rfl
@[go_sem] theorem plc_32_10 : places X.P 32 10 = some (10, 1) := by kernel_rfl
@[go_sem] theorem plc_32_11 : places X.P 32 11 = some (11, 1) := by kernel_rfl
@[go_sem] theorem plc_32_12 : places X.P 32 12 = some (12, 1) := by kernel_rfl
@[go_sem] theorem plc_32_13 : places X.P 32 13 = some (13, 1) := by kernel_rfl
@[go_sem] theorem plc_32_14 : places X.P 32 14 = some (14, 1) := by kernel_rfl
@[go_sem] theorem plc_32_15 : places X.P 32 15 = some (15, 1) := by kernel_rfl
@[go_sem] theorem plc_32_16 : places X.P 32 16 = some (16, 1) := by kernel_rfl
@[go_sem] theorem plc_32_17 : places X.P 32 17 = some (17, 1) := by kernel_rfl
@[go_sem] theorem plc_32_18 : places X.P 32 18 = some (18, 1) := by kernel_rfl
@[go_sem] theorem plc_32_19 : places X.P 32 19 = some (19, 1) := by kernel_rfl
@[go_sem] theorem shp_33 : shp X.P 33 = some (false, 1) := by kernel_rfl
@[go_sem] theorem zer_33 : zer X.P 33 = some (.sl .nil []) := by kernel_rfl
@[go_sem] theorem slc_33 : slc X.P 33 = some (35, 10, 96) := by kernel_rfl
@[go_sem] theorem und_33 : X.P.underlying 33 = some (Go.TypeDesc.slice 35) := by kernel_rfl
@[go_sem] theorem shp_35 : shp X.P 35 = some (true, 10) := by kernel_rfl
@[go_sem] theorem zer_35 : zer X.P 35 = some (.agg [.int .i64 0, .int .u8 0, .int .u64 0, .int .u64 0, .int .u64 0, .int .u64 0, .int .i64 0, .int .i64 0, .int .i64 0, .sl .nil []]) := by kernel_rfl
@[go_sem] theorem bldz_35 : bldz X.P 35 = some [.int .i64 0, .int .u8 0, .int .u64 0, .int .u64 0, .int .u64 0, .int .u64 0, .int .i64 0, .int .i64 0, .int .i64 0, .sl .nil []] := by kernel_rfl
@[go_sem] theorem fld_35_0 : fldo X.P 35 0 = some (0, 3) := by kernel_rfl
@[go_sem] theorem plc_35_0 : places X.P 35 0 = some (0, 1) := by kernel_rfl
@[go_sem] theorem fld_35_1 : fldo X.P 35 1 = some (1, 5) := by kernel_rfl
@[go_sem] theorem plc_35_1 : places X.P 35 1 = some (1, 1) := by kernel_rfl
@[go_sem] theorem fld_35_2 : fldo X.P 35 2 = some (2, 32) := by kernel_rfl
@[go_sem] theorem plc_35_2 : places X.P 35 2 = some (2, 4) := by kernel_rfl
@[go_sem] theorem fld_35_3 : fldo X.P 35 3 = some (6, 3) := by kernel_rfl
@[go_sem] theorem plc_35_3 : places X.P 35 3 = some (6, 1) := by kernel_rfl
@[go_sem] theorem fld_35_4 : fldo X.P 35 4 = some (7, 3) := by kernel_rfl
@[go_sem] theorem plc_35_4 : places X.P 35 4 = some (7, 1) := by kernel_rfl
@[go_sem] theorem fld_35_5 : fldo X.P 35 5 = some (8, 3) := by kernel_rfl
@[go_sem] theorem plc_35_5 : places X.P 35 5 = some (8, 1) := by kernel_rfl
@[go_sem] theorem fld_35_6 : fldo X.P 35 6 = some (9, 33) := by kernel_rfl
@[go_sem] theorem plc_35_6 : places X.P 35 6 = some (9, 1) := by kernel_rfl
@[go_sem] theorem shp_42 : shp X.P 42 = some (false, 1) := by kernel_rfl
@[go_sem] theorem zer_42 : zer X.P 42 = some (.int .u64 0) := by kernel_rfl
@[go_sem] theorem und_42 : X.P.underlying 42 = some (Go.TypeDesc.int .u64) := by kernel_rfl
@[go_sem] theorem shp_43 : shp X.P 43 = some (false, 1) := by kernel_rfl
@[go_sem] theorem zer_43 : zer X.P 43 = some (.sl .nil []) := by kernel_rfl
@[go_sem] theorem slc_43 : slc X.P 43 = some (5, 1, 1) := by kernel_rfl
@[go_sem] theorem und_43 : X.P.underlying 43 = some (Go.TypeDesc.slice 5) := by kernel_rfl
@[go_sem] theorem shp_45 : shp X.P 45 = some (false, 1) := by kernel_rfl
@[go_sem] theorem zer_45 : zer X.P 45 = some .nilp := by kernel_rfl
@[go_sem] theorem und_45 : X.P.underlying 45 = some (Go.TypeDesc.pointer 47) := by kernel_rfl
@[go_sem] theorem shp_47 : shp X.P 47 = some (true, 4) := by kernel_rfl
@[go_sem] theorem zer_47 : zer X.P 47 = some (.agg [.str [], .int .i64 0, .int .i64 0, .bool false]) := by kernel_rfl
@[go_sem] theorem bldz_47 : bldz X.P 47 = some [.str [], .int .i64 0, .int .i64 0, .bool false] := by kernel_rfl
@[go_sem] theorem fld_47_0 : fldo X.P 47 0 = some (0, 9) := by kernel_rfl
@[go_sem] theorem plc_47_0 : places X.P 47 0 = some (0, 1) := by kernel_rfl
@[go_sem] theorem fld_47_1 : fldo X.P 47 1 = some (1, 3) := by kernel_rfl
@[go_sem] theorem plc_47_1 : places X.P 47 1 = some (1, 1) := by kernel_rfl
@[go_sem] theorem fld_47_2 : fldo X.P 47 2 = some (2, 3) := by kernel_rfl
@[go_sem] theorem plc_47_2 : places X.P 47 2 = some (2, 1) := by kernel_rfl
@[go_sem] theorem fld_47_3 : fldo X.P 47 3 = some (3, 4) := by kernel_rfl
@[go_sem] theorem plc_47_3 : places X.P 47 3 = some (3, 1) := by kernel_rfl
@[go_sem] theorem shp_49 : shp X.P 49 = some (false, 1) := by kernel_rfl
@[go_sem] theorem zer_49 : zer X.P 49 = some .nilp := by kernel_rfl
@[go_sem] theorem und_49 : X.P.underlying 49 = some (Go.TypeDesc.pointer 51) := by kernel_rfl
@[go_sem] theorem shp_51 : shp X.P 51 = some (true, 5) := by kernel_rfl
@[go_sem] theorem zer_51 : zer X.P 51 = some (.agg [.str [], .int .i64 0, .bool false, .int .i64 0, .bool false]) := by kernel_rfl
@[go_sem] theorem bldz_51 : bldz X.P 51 = some [.str [], .int .i64 0, .bool false, .int .i64 0, .bool false] := by kernel_rfl
@[go_sem] theorem fld_51_0 : fldo X.P 51 0 = some (0, 9) := by kernel_rfl
@[go_sem] theorem plc_51_0 : places X.P 51 0 = some (0, 1) := by kernel_rfl
@[go_sem] theorem fld_51_1 : fldo X.P 51 1 = some (1, 3) := by kernel_rfl
@[go_sem] theorem plc_51_1 : places X.P 51 1 = some (1, 1) := by kernel_rfl
@[go_sem] theorem fld_51_2 : fldo X.P 51 2 = some (2, 4) := by kernel_rfl
@[go_sem] theorem plc_51_2 : places X.P 51 2 = some (2, 1) := by kernel_rfl
@[go_sem] theorem fld_51_3 : fldo X.P 51 3 = some (3, 3) := by kernel_rfl
@[go_sem] theorem plc_51_3 : places X.P 51 3 = some (3, 1) := by kernel_rfl
@[go_sem] theorem fld_51_4 : fldo X.P 51 4 = some (4, 4) := by kernel_rfl
@[go_sem] theorem plc_51_4 : places X.P 51 4 = some (4, 1) := by kernel_rfl
@[go_sem] theorem shp_55 : shp X.P 55 = some (false, 1) := by kernel_rfl
@[go_sem] theorem zer_55 : zer X.P 55 = some .nilp := by kernel_rfl
@[go_sem] theorem und_55 : X.P.underlying 55 = some (Go.TypeDesc.pointer 58) := by kernel_rfl
@[go_sem] theorem shp_56 : shp X.P 56 = some (true, 10) := by kernel_rfl
@[go_sem] theorem zer_56 : zer X.P 56 = some (.agg [.bool false, .bool false, .bool false, .bool false, .bool false, .bool false, .bool false, .bool false, .bool false, .bool false]) := by kernel_rfl
@[go_sem] theorem arr_56 : arr X.P 56 = some (10, 4) := by kernel_rfl
@[go_sem] theorem bldz_56 : bldz X.P 56 = some [.bool false, .bool false, .bool false, .bool false, .bool false, .bool false, .bool false, .bool false, .bool false, .bool false] := by kernel_rfl
@[go_sem] theorem und_56 : X.P.underlying 56 = some (Go.TypeDesc.array 10 4) := by kernel_rfl
@[go_sem] theorem plc_56_0 : places X.P 56 0 = some (0, 1) := by kernel_rfl
@[go_sem] theorem plc_56_1 : places X.P 56 1 = some (1, 1) := by kernel_rfl
@[go_sem] theorem plc_56_2 : places X.P 56 2 = some (2, 1) := by kernel_rfl
@[go_sem] theorem plc_56_3 : places X.P 56 3 = some (3, 1) := by kernel_rfl
@[go_sem] theorem plc_56_4 : places X.P 56 4 = some (4, 1) := by kernel_rfl
@[go_sem] theorem plc_56_5 : places X.P 56 5 = some (5, 1) := by kernel_rfl
@[go_sem] theorem plc_56_6 : places X.P 56 6 = some (6, 1) := by kernel_rfl
@[go_sem] theorem plc_56_7 : places X.P 56 7 = some (7, 1) := by kernel_rfl
@[go_sem] theorem plc_56_8 : places X.P 56 8 = some (8, 1) := by kernel_rfl
@[go_sem] theorem plc_56_9 : places X.P 56 9 = some (9, 1) := by kernel_rfl
@[go_sem] theorem plc_56_10 : places X.P 56 10 = some (10, 1) := by kernel_rfl
@[go_sem] theorem plc_56_11 : places X.P 56 11 = some (11, 1) := by kernel_rfl
@[go_sem] theorem plc_56_12 : places X.P 56 12 = some (12, 1) := by kernel_rfl
@[go_sem] theorem plc_56_13 : places X.P 56 13 = some (13, 1) := by kernel_rfl
@[go_sem] theorem plc_56_14 : places X.P 56 14 = some (14, 1) := by kernel_rfl
@[go_sem] theorem plc_56_15 : places X.P 56 15 = some (15, 1) := by kernel_rfl
@[go_sem] theorem plc_56_16 : places X.P 56 16 = some (16, 1) := by kernel_rfl
@[go_sem] theorem plc_56_17 : places X.P 56 17 = some (17, 1) := by kernel_rfl
@[go_sem] theorem plc_56_18 : places X.P 56 18 = some (18, 1) := by kernel_rfl
@[go_sem] theorem plc_56_19 : places X.P 56 19 = some (19, 1) := by kernel_rfl
@[go_sem] theorem shp_58 : shp X.P 58 = some (true, 11) := by kernel_rfl
@[go_sem] theorem zer_58 : zer X.P 58 = some (.agg [.int .i64 0, .bool false, .bool false, .bool false, .bool false, .bool false, .bool false, .bool false, .bool false, .bool false, .bool false]) := by kernel_rfl
@[go_sem] theorem bldz_58 : bldz X.P 58 = some [.int .i64 0, .bool false, .bool false, .bool false, .bool false, .bool false, .bool false, .bool false, .bool false, .bool false, .bool false] := by kernel_rfl
@[go_sem] theorem fld_58_0 : fldo X.P 58 0 = some (0, 3) := by kernel_rfl
@[go_sem] theorem plc_58_0 : places X.P 58 0 = some (0, 1) := by kernel_rfl
@[go_sem] theorem fld_58_1 : fldo X.P 58 1 = some (1, 56) := by kernel_rfl
@[go_sem] theorem plc_58_1 : places X.P 58 1 = some (1, 10) := by kernel_rfl
@[go_sem] theorem shp_75 : shp X.P 75 = some (true, 9) := by kernel_rfl
@[go_sem] theorem zer_75 : zer X.P 75 = some (.agg [.int .i64 0, .int .u8 0, .int .u64 0, .int .u64 0, .int .u64 0, .int .u64 0, .int .i64 0, .int .i64 0, .int .i64 0]) := by kernel_rfl
@[go_sem] theorem bldz_75 : bldz X.P 75 = some [.int .i64 0, .int .u8 0, .int .u64 0, .int .u64 0, .int .u64 0, .int .u64 0, .int .i64 0, .int .i64 0, .int .i64 0] := by kernel_rfl
@[go_sem] theorem fld_75_0 : fldo X.P 75 0 = some (0, 3) := by kernel_rfl
@[go_sem] theorem plc_75_0 : places X.P 75 0 = some (0, 1) := by kernel_rfl
@[go_sem] theorem fld_75_1 : fldo X.P 75 1 = some (1, 5) := by kernel_rfl
@[go_sem] theorem plc_75_1 : places X.P 75 1 = some (1, 1) := by kernel_rfl
@[go_sem] theorem fld_75_2 : fldo X.P 75 2 = some (2, 25) := by kernel_rfl
@[go_sem] theorem plc_75_2 : places X.P 75 2 = some (2, 4) := by kernel_rfl
@[go_sem] theorem fld_75_3 : fldo X.P 75 3 = some (6, 3) := by kernel_rfl
@[go_sem] theorem plc_75_3 : places X.P 75 3 = some (6, 1) := by kernel_rfl
@[go_sem] theorem fld_75_4 : fldo X.P 75 4 = some (7, 3) := by kernel_rfl
@[go_sem] theorem plc_75_4 : places X.P 75 4 = some (7, 1) := by kernel_rfl
@[go_sem] theorem fld_75_5 : fldo X.P 75 5 = some (8, 3) := by kernel_rfl
@[go_sem] theorem plc_75_5 : places X.P 75 5 = some (8, 1) := by kernel_rfl
@[go_sem] theorem shp_80 : shp X.P 80 = some (false, 1) := by kernel_rfl
@[go_sem] theorem zer_80 : zer X.P 80 = some (.sl .nil []) := by kernel_rfl
@[go_sem] theorem slc_80 : slc X.P 80 = some (3, 1, 8) := by kernel_rfl
@[go_sem] theorem und_80 : X.P.underlying 80 = some (Go.TypeDesc.slice 3) := by kernel_rfl
@[go_sem] theorem shp_94 : shp X.P 94 = some (false, 1) := by kernel_rfl
@[go_sem] theorem zer_94 : zer X.P 94 = some .nilp := by kernel_rfl
@[go_sem] theorem und_94 : X.P.underlying 94 = some (Go.TypeDesc.pointer 96) := by kernel_rfl
@[go_sem] theorem shp_96 : shp X.P 96 = some (true, 2) := by kernel_rfl
@[go_sem] theorem zer_96 : zer X.P 96 = some (.agg [.str [], .int .i64 0]) := by kernel_rfl
@[go_sem] theorem bldz_96 : bldz X.P 96 = some [.str [], .int .i64 0] := by kernel_rfl
@[go_sem] theorem fld_96_0 : fldo X.P 96 0 = some (0, 9) := by kernel_rfl
@[go_sem] theorem plc_96_0 : places X.P 96 0 = some (0, 1) := by kernel_rfl
@[go_sem] theorem fld_96_1 : fldo X.P 96 1 = some (1, 3) := by kernel_rfl
@[go_sem] theorem plc_96_1 : places X.P 96 1 = some (1, 1) := by kernel_rfl
@[go_sem] theorem shp_115 : shp X.P 115 = some (true, 256) := by kernel_rfl
@[go_sem] theorem arr_115 : arr X.P 115 = some (256, 4) := by kernel_rfl
@[go_sem] theorem und_115 : X.P.underlying 115 = some (Go.TypeDesc.array 256 4) := by kernel_rfl
@[go_sem] theorem plc_115_0 : places X.P 115 0 = some (0, 1) := by kernel_rfl
@[go_sem] theorem plc_115_1 : places X.P 115 1 = some (1, 1) := by kernel_rfl
@[go_sem] theorem plc_115_2 : places X.P 115 2 = some (2, 1) := by kernel_rfl
@[go_sem] theorem plc_115_3 : places X.P 115 3 = some (3, 1) := by kernel_rfl
@[go_sem] theorem plc_115_4 : places X.P 115 4 = some (4, 1) := by kernel_rfl
@[go_sem] theorem plc_115_5 : places X.P 115 5 = some (5, 1) := by kernel_rfl
@[go_sem] theorem plc_115_6 : places X.P 115 6 = some (6, 1) := by kernel_rfl
@[go_sem] theorem plc_115_7 : places X.P 115 7 = some (7, 1) := by kernel_rfl
@[go_sem] theorem plc_115_8 : places X.P 115 8 = some (8, 1) := by kernel_rfl
@[go_sem] theorem plc_115_9 : places X.P 115 9 = some (9, 1) := by kernel_rfl
@[go_sem] theorem plc_115_10 : places X.P 115 10 = some (10, 1) := by kernel_rfl
@[go_sem] theorem plc_115_11 : places X.P 115 11 = some (11, 1) := by kernel_rfl
@[go_sem] theorem plc_115_12 : places X.P 115 12 = some (12, 1) := by kernel_rfl
@[go_sem] theorem plc_115_13 : places X.P 115 13 = some (13, 1) := by kernel_rfl
@[go_sem] theorem plc_115_14 : places X.P 115 14 = some (14, 1) := by kernel_rfl
@[go_sem] theorem plc_115_15 : places X.P 115 15 = some (15, 1) := by kernel_rfl
@[go_sem] theorem plc_115_16 : places X.P 115 16 = some (16, 1) := by kernel_rfl
@[go_sem] theorem plc_115_17 : places X.P 115 17 = some (17, 1) := by kernel_rfl
@[go_sem] theorem plc_115_18 : places X.P 115 18 = some (18, 1) := by kernel_rfl
@[go_sem] theorem plc_115_19 : places X.P 115 19 = some (19, 1) := by kernel_rfl
@[go_sem] theorem shp_119 : shp X.P 119 = some (false, 1) := by kernel_rfl
@[go_sem] theorem zer_119 : zer X.P 119 = some .nilp := by kernel_rfl
@[go_sem] theorem und_119 : X.P.underlying 119 = some (Go.TypeDesc.pointer 115) := by kernel_rfl
@[go_sem] theorem shp_135 : shp X.P 135 = some (true, 256) := by kernel_rfl
@[go_sem] theorem arr_135 : arr X.P 135 = some (256, 5) := by kernel_rfl
@[go_sem] theorem und_135 : X.P.underlying 135 = some (Go.TypeDesc.array 256 5) := by kernel_rfl
@[go_sem] theorem plc_135_0 : places X.P 135 0 = some (0, 1) := by kernel_rfl
@[go_sem] theorem plc_135_1 : places X.P 135 1 = some (1, 1) := by kernel_rfl
@[go_sem] theorem plc_135_2 : places X.P 135 2 = some (2, 1) := by kernel_rfl
@[go_sem] theorem plc_135_3 : places X.P 135 3 = some (3, 1) := by kernel_rfl
@[go_sem] theorem plc_135_4 : places X.P 135 4 = some (4, 1) := by kernel_rfl
@[go_sem] theorem plc_135_5 : places X.P 135 5 = some (5, 1) := by kernel_rfl
@[go_sem] theorem plc_135_6 : places X.P 135 6 = some (6, 1) := by kernel_rfl
@[go_sem] theorem plc_135_7 : places X.P 135 7 = some (7, 1) := by kernel_rfl
@[go_sem] theorem plc_135_8 : places X.P 135 8 = some (8, 1) := by kernel_rfl
@[go_sem] theorem plc_135_9 : places X.P 135 9 = some (9, 1) := by kernel_rfl
@[go_sem] theorem plc_135_10 : places X.P 135 10 = some (10, 1) := by kernel_rfl
@[go_sem] theorem plc_135_11 : places X.P 135 11 = some (11, 1) := by kernel_rfl
@[go_sem] theorem plc_135_12 : places X.P 135 12 = some (12, 1) := by kernel_rfl
@[go_sem] theorem plc_135_13 : places X.P 135 13 = some (13, 1) := by kernel_rfl
@[go_sem] theorem plc_135_14 : places X.P 135 14 = some (14, 1) := by kernel_rfl
@[go_sem] theorem plc_135_15 : places X.P 135 15 = some (15, 1) := by kernel_rfl
@[go_sem] theorem plc_135_16 : places X.P 135 16 = some (16, 1) := by kernel_rfl
@[go_sem] theorem plc_135_17 : places X.P 135 17 = some (17, 1) := by kernel_rfl
@[go_sem] theorem plc_135_18 : places X.P 135 18 = some (18, 1) := by kernel_rfl
@[go_sem] theorem plc_135_19 : places X.P 135 19 = some (19, 1) := by kernel_rfl
@[go_sem] theorem shp_137 : shp X.P 137 = some (true, 2) := by kernel_rfl
@[go_sem] theorem zer_137 : zer X.P 137 = some (.agg [.int .u8 0, .int .u8 0]) := by kernel_rfl
@[go_sem] theorem bldz_137 : bldz X.P 137 = some [.int .u8 0, .int .u8 0] := by kernel_rfl
@[go_sem] theorem fld_137_0 : fldo X.P 137 0 = some (0, 5) := by kernel_rfl
@[go_sem] theorem plc_137_0 : places X.P 137 0 = some (0, 1) := by kernel_rfl
@[go_sem] theorem fld_137_1 : fldo X.P 137 1 = some (1, 5) := by kernel_rfl
@[go_sem] theorem plc_137_1 : places X.P 137 1 = some (1, 1) := by kernel_rfl
@[go_sem] theorem shp_138 : shp X.P 138 = some (true, 32) := by kernel_rfl
@[go_sem] theorem zer_138 : zer X.P 138 = some (.agg [.int .u8 0, .int .u8 0, .int .u8 0, .int .u8 0, .int .u8 0, .int .u8 0, .int .u8 0, .int .u8 0, .int .u8 0, .int .u8 0, .int .u8 0, .int .u8 0, .int .u8 0, .int .u8 0, .int .u8 0, .int .u8 0, .int .u8 0, .int .u8 0, .int .u8 0, .int .u8 0, .int .u8 0, .int .u8 0, .int .u8 0, .int .u8 0, .int .u8 0, .int .u8 0, .int .u8 0, .int .u8 0, .int .u8 0, .int .u8 0, .int .u8 0, .int .u8 0]) := by kernel_rfl
@[go_sem] theorem arr_138 : arr X.P 138 = some (16, 137) := by kernel_rfl
@[go_sem] theorem bldz_138 : bldz X.P 138 = some [.int .u8 0, .int .u8 0, .int .u8 0, .int .u8 0, .int .u8 0, .int .u8 0, .int .u8 0, .int .u8 0, .int .u8 0, .int .u8 0, .int .u8 0, .int .u8 0, .int .u8 0, .int .u8 0, .int .u8 0, .int .u8 0, .int .u8 0, .int .u8 0, .int .u8 0, .int .u8 0, .int .u8 0, .int .u8 0, .int .u8 0, .int .u8 0, .int .u8 0, .int .u8 0, .int .u8 0, .int .u8 0, .int .u8 0, .int .u8 0, .int .u8 0, .int .u8 0] := by kernel_rfl
@[go_sem] theorem und_138 : X.P.underlying 138 = some (Go.TypeDesc.array 16 137) := by kernel_rfl
@[go_sem] theorem plc_138_0 : places X.P 138 0 = some (0, 2) := by kernel_rfl
@[go_sem] theorem plc_138_1 : places X.P 138 1 = some (2, 2) := by kernel_rfl
@[go_sem] theorem plc_138_2 : places X.P 138 2 = some (4, 2) := by kernel_rfl
@[go_sem] theorem plc_138_3 : places X.P 138 3 = some (6, 2) := by kernel_rfl
@[go_sem] theorem plc_138_4 : places X.P 138 4 = some (8, 2) := by kernel_rfl
@[go_sem] theorem plc_138_5 : places X.P 138 5 = some (10, 2) := by kernel_rfl
@[go_sem] theorem plc_138_6 : places X.P 138 6 = some (12, 2) := by kernel_rfl
@[go_sem] theorem plc_138_7 : places X.P 138 7 = some (14, 2) := by kernel_rfl
@[go_sem] theorem plc_138_8 : places X.P 138 8 = some (16, 2) := by kernel_rfl
@[go_sem] theorem plc_138_9 : places X.P 138 9 = some (18, 2) := by kernel_rfl
@[go_sem] theorem plc_138_10 : places X.P 138 10 = some (20, 2) := by kernel_rfl
@[go_sem] theorem plc_138_11 : places X.P 138 11 = some (22, 2) := by kernel_rfl
@[go_sem] theorem plc_138_12 : places X.P 138 12 = some (24, 2) := by kernel_rfl
@[go_sem] theorem plc_138_13 : places X.P 138 13 = some (26, 2) := by kernel_rfl
@[go_sem] theorem plc_138_14 : places X.P 138 14 = some (28, 2) := by kernel_rfl
@[go_sem] theorem plc_138_15 : places X.P 138 15 = some (30, 2) := by kernel_rfl
@[go_sem] theorem plc_138_16 : places X.P 138 16 = some (32, 2) := by kernel_rfl
@[go_sem] theorem plc_138_17 : places X.P 138 17 = some (34, 2) := by kernel_rfl
@[go_sem] theorem plc_138_18 : places X.P 138 18 = some (36, 2) := by kernel_rfl
@[go_sem] theorem plc_138_19 : places X.P 138 19 = some (38, 2) := by kernel_rfl
@[go_sem] theorem shp_141 : shp X.P 141 = some (false, 1) := by kernel_rfl
@[go_sem] theorem zer_141 : zer X.P 141 = some (.int .u32 0) := by kernel_rfl
@[go_sem] theorem und_141 : X.P.underlying 141 = some (Go.TypeDesc.int .u32) := by kernel_rfl
@[go_sem] theorem plc_25 (i : Nat) : places X.P 25 i = some (i * 1, 1) := by simp only [places, und_25, shp_23, Option.map_some]
@[go_sem] theorem plc_32 (i : Nat) : places X.P 32 i = some (i * 1, 1) := by simp only [places, und_32, shp_23, Option.map_some]
@[go_sem] theorem plc_56 (i : Nat) : places X.P 56 i = some (i * 1, 1) := by simp only [places, und_56, shp_4, Option.map_some]
@[go_sem] theorem plc_115 (i : Nat) : places X.P 115 i = some (i * 1, 1) := by simp only [places, und_115, shp_4, Option.map_some]
@[go_sem] theorem plc_135 (i : Nat) : places X.P 135 i = some (i * 1, 1) := by simp only [places, und_135, shp_5, Option.map_some]
end Go.Proofs.Tryz.E
