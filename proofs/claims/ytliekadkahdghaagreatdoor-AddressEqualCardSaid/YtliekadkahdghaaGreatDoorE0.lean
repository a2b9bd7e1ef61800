/- Walks: what the functions compute. -/
import Derived.Test.YtliekadkahdghaaGreatDoorMvE
import Derived.Test.YtliekadkahdghaaGreatDoorMvD
import Derived.KernelRfl
import Derived.Test.YtliekadkahdghaaGreatDoorChecked
set_option linter.unusedVariables false
set_option linter.unusedSimpArgs false
/- The program's types, as the evaluator looks at them. -/
namespace Go.Proofs.Tryz.E
open Go.Mv

/-- The first place of a byte; -1: there is none. -/
def idxB : List UInt8 → Int → Int
  | [], _ => -1
  | b :: s, c => if (b.toNat : Int) = c then 0 else if idxB s c < 0 then -1 else idxB s c + 1
def idxByteP : Nat → Nat → List MV → Sto → Option (MV × Sto)
  | _, _, [.str s, .int .u8 c], σ => if 0 ≤ c ∧ c < 256 then some (.int .i64 (idxB s c), σ) else none
  | _, _, _, _ => none
/-- The first place of a text; -1: there is none. -/
def idxS : List UInt8 → List UInt8 → Int
  | [], t => if t = [] then 0 else -1
  | b :: s, t => if t <+: (b :: s) then 0 else if idxS s t < 0 then -1 else idxS s t + 1
def indexP : Nat → Nat → List MV → Sto → Option (MV × Sto)
  | _, _, [.str s, .str t], σ => if s.length < 4294967281 then some (.int .i64 (idxS s t), σ) else none
  | _, _, _, _ => none
/-- A row of its own. -/
def cloneP (z b : Nat) : Nat → Nat → List MV → Sto → Option (MV × Sto)
  | lim, d + 1, [.sl _ xs], σ =>
    if xs = [] then some (.sl .no [], σ) else
    if lim ≤ d ∧ okz z xs = true ∧ xs.length * b ≤ 140737488355328 then (xs.mapM datas).map fun ys => (.rs ⟨d, 0, σ.ct d⟩ 0 xs.length z, (σ.set ⟨d, 0, σ.ct d⟩ ys.flatten).tick d) else none
  | _, _, _, _ => none
/-- A text without the bytes of a set at its beginning. -/
def trimP : Nat → Nat → List MV → Sto → Option (MV × Sto)
  | _, _, [.str s, .str c], σ => if c = [48, 49, 50, 51, 52, 53, 54, 55, 56, 57] ∨ c = [32, 9] then some (.str (s.dropWhile (c.contains ·)), σ) else none
  | _, _, _, _ => none
/-- A lexer at a text's beginning, of its own. -/
def newP : Nat → Nat → List MV → Sto → Option (MV × Sto)
  | lim, d + 1, [.str s], σ => if lim ≤ d then some (.ptr ⟨d, 0, σ.ct d⟩ 0, (σ.set ⟨d, 0, σ.ct d⟩ [.str s, .int .i64 0]).tick d) else none
  | _, _, _, _ => none
def u4 : List Sh := [.i .u64, .i .u64, .i .u64, .i .u64]
noncomputable def X : Cfg where
  P := Go.Proofs.Tryz.prog
  eqT := fun t => if t = 24 then some u4 else if t = 78 then some ([.i .i64, .i .u8] ++ u4 ++ [.i .i64, .i .i64, .i .i64]) else none
  prim := fun f => if f = 15 then some newP else if f = 39 then some trimP else none
  kp := fun _ _ => False

@[go_sem] theorem shp_3 : shp X.P 3 = some (false, 1) := by kernel_rfl
@[go_sem] theorem zer_3 : zer X.P 3 = some (.int .i64 0) := by kernel_rfl
@[go_sem] theorem und_3 : X.P.underlying 3 = some (Go.TypeDesc.int .i64) := by kernel_rfl
@[go_sem] theorem shp_4 : shp X.P 4 = some (false, 1) := by kernel_rfl
@[go_sem] theorem zer_4 : zer X.P 4 = some (.bool false) := by kernel_rfl
@[go_sem] theorem und_4 : X.P.underlying 4 = some Go.TypeDesc.bool := by kernel_rfl
@[go_sem] theorem shp_5 : shp X.P 5 = some (false, 1) := by kernel_rfl
@[go_sem] theorem zer_5 : zer X.P 5 = some (.int .u8 0) := by kernel_rfl
@[go_sem] theorem und_5 : X.P.underlying 5 = some (Go.TypeDesc.int .u8) := by kernel_rfl
@[go_sem] theorem shp_9 : shp X.P 9 = some (false, 1) := by kernel_rfl
@[go_sem] theorem zer_9 : zer X.P 9 = some (.str []) := by kernel_rfl
@[go_sem] theorem und_9 : X.P.underlying 9 = some Go.TypeDesc.string := by kernel_rfl
@[go_sem] theorem shp_22 : shp X.P 22 = some (false, 1) := by kernel_rfl
@[go_sem] theorem zer_22 : zer X.P 22 = some (.int .u64 0) := by kernel_rfl
@[go_sem] theorem und_22 : X.P.underlying 22 = some (Go.TypeDesc.int .u64) := by kernel_rfl
@[go_sem] theorem shp_24 : shp X.P 24 = some (true, 4) := by kernel_rfl
@[go_sem] theorem zer_24 : zer X.P 24 = some (.agg [.int .u64 0, .int .u64 0, .int .u64 0, .int .u64 0]) := by kernel_rfl
@[go_sem] theorem arr_24 : arr X.P 24 = some (4, 22) := by kernel_rfl
@[go_sem] theorem bldz_24 : bldz X.P 24 = some [.int .u64 0, .int .u64 0, .int .u64 0, .int .u64 0] := by kernel_rfl
@[go_sem] theorem und_24 : X.P.underlying 24 = some (Go.TypeDesc.array 4 22) := by kernel_rfl
@[go_sem] theorem plc_24_0 : places X.P 24 0 = some (0, 1) := by kernel_rfl
@[go_sem] theorem plc_24_1 : places X.P 24 1 = some (1, 1) := by kernel_rfl
@[go_sem] theorem plc_24_2 : places X.P 24 2 = some (2, 1) := by kernel_rfl
@[go_sem] theorem plc_24_3 : places X.P 24 3 = some (3, 1) := by kernel_rfl
@[go_sem] theorem plc_24_4 : places X.P 24 4 = some (4, 1) := by kernel_rfl
@[go_sem] theorem plc_24_5 : places X.P 24 5 = some (5, 1) := by kernel_rfl
@[go_sem] theorem plc_24_6 : places X.P 24 6 = some (6, 1) := by kernel_rfl
@[go_sem] theorem plc_24_7 : places X.P 24 7 = some (7, 1) := by kernel_rfl
@[go_sem] theorem plc_24_8 : places X.P 24 8 = some (8, 1) := by kernel_rfl
@[go_sem] theorem plc_24_9 : places X.P 24 9 = some (9, 1) := by kernel_rfl
@[go_sem] theorem plc_24_10 : places X.P 24 10 = some (10, 1) := by kernel_rfl
@[go_sem] theorem plc_24_11 : places X.P 24 11 = some (11, 1) := by kernel_rfl
@[go_sem] theorem plc_24_12 : places X.P 24 12 = some (12, 1) := by kernel_rfl
@[go_sem] theorem plc_24_13 : places X.P 24 13 = some (13, 1) := by kernel_rfl
@[go_sem] theorem plc_24_14 : places X.P 24 14 = some (14, 1) := by kernel_rfl
@[go_sem] theorem plc_24_15 : places X.P 24 15 = some (15, 1) := by kernel_rfl
@[go_sem] theorem plc_24_16 : places X.P 24 16 = some (16, 1) := by kernel_rfl
@[go_sem] theorem plc_24_17 : places X.P 24 17 = some (17, 1) := by kernel_rfl
@[go_sem] theorem plc_24_18 : places X.P 24 18 = some (18, 1) := by kernel_rfl
@[go_sem] theorem plc_24_19 : places X.P 24 19 = some (19, 1) := by kernel_rfl
@[go_sem] theorem shp_25 : shp X.P 25 = some (false, 1) := by kernel_rfl
@[go_sem] theorem zer_25 : zer X.P 25 = some (.sl .nil []) := by kernel_rfl
@[go_sem] theorem slc_25 : slc X.P 25 = some (27, 10, 96) := by kernel_rfl
@[go_sem] theorem und_25 : X.P.underlying 25 = some (Go.TypeDesc.slice 27) := by kernel_rfl
@[go_sem] theorem shp_27 : shp X.P 27 = some (true, 10) := by kernel_rfl
@[go_sem] theorem zer_27 : zer X.P 27 = some (.agg [.int .i64 0, .int .u8 0, .int .u64 0, .int .u64 0, .int .u64 0, .int .u64 0, .int .i64 0, .int .i64 0, .int .i64 0, .sl .nil []]) := by kernel_rfl
@[go_sem] theorem bldz_27 : bldz X.P 27 = some [.int .i64 0, .int .u8 0, .int .u64 0, .int .u64 0, .int .u64 0, .int .u64 0, .int .i64 0, .int .i64 0, .int .i64 0, .sl .nil []] := by kernel_rfl
@[go_sem] theorem fld_27_0 : fldo X.P 27 0 = some (0, 3) := by kernel_rfl
@[go_sem] theorem plc_27_0 : places X.P 27 0 = some (0, 1) := by kernel_rfl
@[go_sem] theorem fld_27_1 : fldo X.P 27 1 = some (1, 5) := by kernel_rfl
@[go_sem] theorem plc_27_1 : places X.P 27 1 = some (1, 1) := by kernel_rfl
@[go_sem] theorem fld_27_2 : fldo X.P 27 2 = some (2, 24) := by kernel_rfl
@[go_sem] theorem plc_27_2 : places X.P 27 2 = some (2, 4) := by kernel_rfl
@[go_sem] theorem fld_27_3 : fldo X.P 27 3 = some (6, 3) := by kernel_rfl
@[go_sem] theorem plc_27_3 : places X.P 27 3 = some (6, 1) := by kernel_rfl
@[go_sem] theorem fld_27_4 : fldo X.P 27 4 = some (7, 3) := by kernel_rfl
@[go_sem] theorem plc_27_4 : places X.P 27 4 = some (7, 1) := by kernel_rfl
@[go_sem] theorem fld_27_5 : fldo X.P 27 5 = some (8, 3) := by kernel_rfl
@[go_sem] theorem plc_27_5 : places X.P 27 5 = some (8, 1) := by kernel_rfl
@[go_sem] theorem fld_27_6 : fldo X.P 27 6 = some (9, 25) := by kernel_rfl
@[go_sem] theorem plc_27_6 : places X.P 27 6 = some (9, 1) := by kernel_rfl
@[go_sem] theorem shp_29 : shp X.P 29 = some (true, 12) := by kernel_rfl
@[go_sem] theorem zer_29 : zer X.P 29 = some (.agg [.int .i64 0, .int .i64 0, .int .i64 0, .int .u8 0, .int .u64 0, .int .u64 0, .int .u64 0, .int .u64 0, .int .i64 0, .int .i64 0, .int .i64 0, .sl .nil []]) := by kernel_rfl
@[go_sem] theorem bldz_29 : bldz X.P 29 = some [.int .i64 0, .int .i64 0, .int .i64 0, .int .u8 0, .int .u64 0, .int .u64 0, .int .u64 0, .int .u64 0, .int .i64 0, .int .i64 0, .int .i64 0, .sl .nil []] := by kernel_rfl
@[go_sem] theorem fld_29_0 : fldo X.P 29 0 = some (0, 3) := by kernel_rfl
@[go_sem] theorem plc_29_0 : places X.P 29 0 = some (0, 1) := by kernel_rfl
@[go_sem] theorem fld_29_1 : fldo X.P 29 1 = some (1, 3) := by kernel_rfl
@[go_sem] theorem plc_29_1 : places X.P 29 1 = some (1, 1) := by kernel_rfl
@[go_sem] theorem fld_29_2 : fldo X.P 29 2 = some (2, 27) := by kernel_rfl
@[go_sem] theorem plc_29_2 : places X.P 29 2 = some (2, 10) := by kernel_rfl
@[go_sem] theorem shp_31 : shp X.P 31 = some (true, 25) := by kernel_rfl
@[go_sem] theorem zer_31 : zer X.P 31 = some (.agg [.int .i64 0, .int .i64 0, .int .i64 0, .int .u8 0, .int .u64 0, .int .u64 0, .int .u64 0, .int .u64 0, .int .i64 0, .int .i64 0, .int .i64 0, .sl .nil [], .int .i64 0, .int .i64 0, .int .i64 0, .int .u8 0, .int .u64 0, .int .u64 0, .int .u64 0, .int .u64 0, .int .i64 0, .int .i64 0, .int .i64 0, .sl .nil [], .bool false]) := by kernel_rfl
@[go_sem] theorem bldz_31 : bldz X.P 31 = some [.int .i64 0, .int .i64 0, .int .i64 0, .int .u8 0, .int .u64 0, .int .u64 0, .int .u64 0, .int .u64 0, .int .i64 0, .int .i64 0, .int .i64 0, .sl .nil [], .int .i64 0, .int .i64 0, .int .i64 0, .int .u8 0, .int .u64 0, .int .u64 0, .int .u64 0, .int .u64 0, .int .i64 0, .int .i64 0, .int .i64 0, .sl .nil [], .bool false] := by kernel_rfl
@[go_sem] theorem fld_31_0 : fldo X.P 31 0 = some (0, 29) := by kernel_rfl
@[go_sem] theorem plc_31_0 : places X.P 31 0 = some (0, 12) := by kernel_rfl
@[go_sem] theorem fld_31_1 : fldo X.P 31 1 = some (12, 29) := by kernel_rfl
@[go_sem] theorem plc_31_1 : places X.P 31 1 = some (12, 12) := by kernel_rfl
@[go_sem] theorem fld_31_2 : fldo X.P 31 2 = some (24, 4) := by kernel_rfl
@[go_sem] theorem plc_31_2 : places X.P 31 2 = some (24, 1) := by kernel_rfl
@[go_sem] theorem shp_35 : shp X.P 35 = some (true, 4) := by kernel_rfl
@[go_sem] theorem zer_35 : zer X.P 35 = some (.agg [.int .u64 0, .int .u64 0, .int .u64 0, .int .u64 0]) := by kernel_rfl
@[go_sem] theorem arr_35 : arr X.P 35 = some (4, 22) := by kernel_rfl
@[go_sem] theorem bldz_35 : bldz X.P 35 = some [.int .u64 0, .int .u64 0, .int .u64 0, .int .u64 0] := by kernel_rfl
@[go_sem] theorem und_35 : X.P.underlying 35 = some (Go.TypeDesc.array 4 22) := by kernel_rfl
@[go_sem] theorem plc_35_0 : places X.P 35 0 = some (0, 1) := by kernel_rfl
@[go_sem] theorem plc_35_1 : places X.P 35 1 = some (1, 1) := by kernel_rfl
@[go_sem] theorem plc_35_2 : places X.P 35 2 = some (2, 1) := by kernel_rfl
@[go_sem] theorem plc_35_3 : places X.P 35 3 = some (3, 1) := by kernel_rfl
@[go_sem] theorem plc_35_4 : places X.P 35 4 = some (4, 1) := by kernel_rfl
@[go_sem] theorem plc_35_5 : places X.P 35 5 = some (5, 1) := by kernel_rfl
@[go_sem] theorem plc_35_6 : places X.P 35 6 = some (6, 1) := by kernel_rfl
@[go_sem] theorem plc_35_7 : places X.P 35 7 = some (7, 1) := by kernel_rfl
@[go_sem] theorem plc_35_8 : places X.P 35 8 = some (8, 1) := by kernel_rfl
@[go_sem] theorem plc_35_9 : places X.P 35 9 = some (9, 1) := by kernel_rfl
@[go_sem] theorem plc_35_10 : places X.P 35 10 = some (10, 1) := by kernel_rfl
@[go_sem] theorem plc_35_11 : places X.P 35 11 = some (11, 1) := by kernel_rfl
@[go_sem] theorem plc_35_12 : places X.P 35 12 = some (12, 1) := by kernel_rfl
@[go_sem] theorem plc_35_13 : places X.P 35 13 = some (13, 1) := by kernel_rfl
@[go_sem] theorem plc_35_14 : places X.P 35 14 = some (14, 1) := by kernel_rfl
@[go_sem] theorem plc_35_15 : places X.P 35 15 = some (15, 1) := by kernel_rfl
@[go_sem] theorem plc_35_16 : places X.P 35 16 = some (16, 1) := by kernel_rfl
@[go_sem] theorem plc_35_17 : places X.P 35 17 = some (17, 1) := by kernel_rfl
@[go_sem] theorem plc_35_18 : places X.P 35 18 = some (18, 1) := by kernel_rfl
@[go_sem] theorem plc_35_19 : places X.P 35 19 = some (19, 1) := by kernel_rfl
@[go_sem] theorem shp_36 : shp X.P 36 = some (false, 1) := by kernel_rfl
@[go_sem] theorem zer_36 : zer X.P 36 = some (.sl .nil []) := by kernel_rfl
@[go_sem] theorem slc_36 : slc X.P 36 = some (38, 10, 96) := by kernel_rfl
@[go_sem] theorem und_36 : X.P.underlying 36 = some (Go.TypeDesc.slice 38) := by kernel_rfl
@[go_sem] theorem shp_38 : shp X.P 38 = some (true, 10) := by kernel_rfl
@[go_sem] theorem zer_38 : zer X.P 38 = some (.agg [.int .i64 0, .int .u8 0, .int .u64 0, .int .u64 0, .int .u64 0, .int .u64 0, .int .i64 0, .int .i64 0, .int .i64 0, .sl .nil []]) := by kernel_rfl
@[go_sem] theorem bldz_38 : bldz X.P 38 = some [.int .i64 0, .int .u8 0, .int .u64 0, .int .u64 0, .int .u64 0, .int .u64 0, .int .i64 0, .int .i64 0, .int .i64 0, .sl .nil []] := by kernel_rfl
@[go_sem] theorem fld_38_0 : fldo X.P 38 0 = some (0, 3) := by kernel_rfl
@[go_sem] theorem plc_38_0 : places X.P 38 0 = some (0, 1) := by kernel_rfl
@[go_sem] theorem fld_38_1 : fldo X.P 38 1 = some (1, 5) := by kernel_rfl
@[go_sem] theorem plc_38_1 : places X.P 38 1 = some (1, 1) := by kernel_rfl
@[go_sem] theorem fld_38_2 : fldo X.P 38 2 = some (2, 35) := by kernel_rfl
@[go_sem] theorem plc_38_2 : places X.P 38 2 = some (2, 4) := by kernel_rfl
@[go_sem] theorem fld_38_3 : fldo X.P 38 3 = some (6, 3) := by kernel_rfl
@[go_sem] theorem plc_38_3 : places X.P 38 3 = some (6, 1) := by kernel_rfl
@[go_sem] theorem fld_38_4 : fldo X.P 38 4 = some (7, 3) := by kernel_rfl
@[go_sem] theorem plc_38_4 : places X.P 38 4 = some (7, 1) := by kernel_rfl
@[go_sem] theorem fld_38_5 : fldo X.P 38 5 = some (8, 3) := by kernel_rfl
@[go_sem] theorem plc_38_5 : places X.P 38 5 = some (8, 1) := by kernel_rfl
@[go_sem] theorem fld_38_6 : fldo X.P 38 6 = some (9, 36) := by kernel_rfl
@[go_sem] theorem plc_38_6 : places X.P 38 6 = some (9, 1) := by kernel_rfl
@[go_sem] theorem shp_40 : shp X.P 40 = some (true, 12) := by kernel_rfl
@[go_sem] theorem zer_40 : zer X.P 40 = some (.agg [.int .i64 0, .int .i64 0, .int .i64 0, .int .u8 0, .int .u64 0, .int .u64 0, .int .u64 0, .int .u64 0, .int .i64 0, .int .i64 0, .int .i64 0, .sl .nil []]) := by kernel_rfl
@[go_sem] theorem bldz_40 : bldz X.P 40 = some [.int .i64 0, .int .i64 0, .int .i64 0, .int .u8 0, .int .u64 0, .int .u64 0, .int .u64 0, .int .u64 0, .int .i64 0, .int .i64 0, .int .i64 0, .sl .nil []] := by kernel_rfl
@[go_sem] theorem fld_40_0 : fldo X.P 40 0 = some (0, 3) := by kernel_rfl
@[go_sem] theorem plc_40_0 : places X.P 40 0 = some (0, 1) := by kernel_rfl
@[go_sem] theorem fld_40_1 : fldo X.P 40 1 = some (1, 3) := by kernel_rfl
@[go_sem] theorem plc_40_1 : places X.P 40 1 = some (1, 1) := by kernel_rfl
@[go_sem] theorem fld_40_2 : fldo X.P 40 2 = some (2, 38) := by kernel_rfl
@[go_sem] theorem plc_40_2 : places X.P 40 2 = some (2, 10) := by kernel_rfl
@[go_sem] theorem shp_42 : shp X.P 42 = some (true, 25) := by kernel_rfl
@[go_sem] theorem zer_42 : zer X.P 42 = some (.agg [.int .i64 0, .int .i64 0, .int .i64 0, .int .u8 0, .int .u64 0, .int .u64 0, .int .u64 0, .int .u64 0, .int .i64 0, .int .i64 0, .int .i64 0, .sl .nil [], .int .i64 0, .int .i64 0, .int .i64 0, .int .u8 0, .int .u64 0, .int .u64 0, .int .u64 0, .int .u64 0, .int .i64 0, .int .i64 0, .int .i64 0, .sl .nil [], .bool false]) := by kernel_rfl
@[go_sem] theorem bldz_42 : bldz X.P 42 = some [.int .i64 0, .int .i64 0, .int .i64 0, .int .u8 0, .int .u64 0, .int .u64 0, .int .u64 0, .int .u64 0, .int .i64 0, .int .i64 0, .int .i64 0, .sl .nil [], .int .i64 0, .int .i64 0, .int .i64 0, .int .u8 0, .int .u64 0, .int .u64 0, .int .u64 0, .int .u64 0, .int .i64 0, .int .i64 0, .int .i64 0, .sl .nil [], .bool false] := by kernel_rfl
@[go_sem] theorem fld_42_0 : fldo X.P 42 0 = some (0, 40) := by kernel_rfl
@[go_sem] theorem plc_42_0 : places X.P 42 0 = some (0, 12) := by kernel_rfl
@[go_sem] theorem fld_42_1 : fldo X.P 42 1 = some (12, 40) := by kernel_rfl
@[go_sem] theorem plc_42_1 : places X.P 42 1 = some (12, 12) := by kernel_rfl
@[go_sem] theorem fld_42_2 : fldo X.P 42 2 = some (24, 4) := by kernel_rfl
@[go_sem] theorem plc_42_2 : places X.P 42 2 = some (24, 1) := by kernel_rfl
@[go_sem] theorem shp_48 : shp X.P 48 = some (false, 1) := by kernel_rfl
@[go_sem] theorem zer_48 : zer X.P 48 = some (.int .i64 0) := by kernel_rfl
@[go_sem] theorem und_48 : X.P.underlying 48 = some (Go.TypeDesc.int .i64) := by kernel_rfl
@[go_sem] theorem shp_51 : shp X.P 51 = some (false, 1) := by kernel_rfl
@[go_sem] theorem zer_51 : zer X.P 51 = some .nilp := by kernel_rfl
@[go_sem] theorem und_51 : X.P.underlying 51 = some (Go.TypeDesc.pointer 63) := by kernel_rfl
@[go_sem] theorem shp_63 : shp X.P 63 = some (true, 2) := by kernel_rfl
@[go_sem] theorem zer_63 : zer X.P 63 = some (.agg [.str [], .int .i64 0]) := by kernel_rfl
@[go_sem] theorem bldz_63 : bldz X.P 63 = some [.str [], .int .i64 0] := by kernel_rfl
@[go_sem] theorem fld_63_0 : fldo X.P 63 0 = some (0, 9) := by kernel_rfl
@[go_sem] theorem plc_63_0 : places X.P 63 0 = some (0, 1) := by kernel_rfl
@[go_sem] theorem fld_63_1 : fldo X.P 63 1 = some (1, 3) := by kernel_rfl
@[go_sem] theorem plc_63_1 : places X.P 63 1 = some (1, 1) := by kernel_rfl
@[go_sem] theorem shp_65 : shp X.P 65 = some (false, 1) := by kernel_rfl
@[go_sem] theorem zer_65 : zer X.P 65 = some .junk := by kernel_rfl
@[go_sem] theorem shp_78 : shp X.P 78 = some (true, 9) := by kernel_rfl
@[go_sem] theorem zer_78 : zer X.P 78 = some (.agg [.int .i64 0, .int .u8 0, .int .u64 0, .int .u64 0, .int .u64 0, .int .u64 0, .int .i64 0, .int .i64 0, .int .i64 0]) := by kernel_rfl
@[go_sem] theorem bldz_78 : bldz X.P 78 = some [.int .i64 0, .int .u8 0, .int .u64 0, .int .u64 0, .int .u64 0, .int .u64 0, .int .i64 0, .int .i64 0, .int .i64 0] := by kernel_rfl
@[go_sem] theorem fld_78_0 : fldo X.P 78 0 = some (0, 3) := by kernel_rfl
@[go_sem] theorem plc_78_0 : places X.P 78 0 = some (0, 1) := by kernel_rfl
@[go_sem] theorem fld_78_1 : fldo X.P 78 1 = some (1, 5) := by kernel_rfl
@[go_sem] theorem plc_78_1 : places X.P 78 1 = some (1, 1) := by kernel_rfl
@[go_sem] theorem fld_78_2 : fldo X.P 78 2 = some (2, 35) := by kernel_rfl
@[go_sem] theorem plc_78_2 : places X.P 78 2 = some (2, 4) := by kernel_rfl
@[go_sem] theorem fld_78_3 : fldo X.P 78 3 = some (6, 3) := by kernel_rfl
@[go_sem] theorem plc_78_3 : places X.P 78 3 = some (6, 1) := by kernel_rfl
@[go_sem] theorem fld_78_4 : fldo X.P 78 4 = some (7, 3) := by kernel_rfl
@[go_sem] theorem plc_78_4 : places X.P 78 4 = some (7, 1) := by kernel_rfl
@[go_sem] theorem fld_78_5 : fldo X.P 78 5 = some (8, 3) := by kernel_rfl
@[go_sem] theorem plc_78_5 : places X.P 78 5 = some (8, 1) := by kernel_rfl
@[go_sem] theorem shp_82 : shp X.P 82 = some (false, 1) := by kernel_rfl
@[go_sem] theorem zer_82 : zer X.P 82 = some .nilp := by kernel_rfl
@[go_sem] theorem und_82 : X.P.underlying 82 = some (Go.TypeDesc.pointer 85) := by kernel_rfl
@[go_sem] theorem shp_83 : shp X.P 83 = some (true, 10) := by kernel_rfl
@[go_sem] theorem zer_83 : zer X.P 83 = some (.agg [.bool false, .bool false, .bool false, .bool false, .bool false, .bool false, .bool false, .bool false, .bool false, .bool false]) := by kernel_rfl
@[go_sem] theorem arr_83 : arr X.P 83 = some (10, 4) := by kernel_rfl
@[go_sem] theorem bldz_83 : bldz X.P 83 = some [.bool false, .bool false, .bool false, .bool false, .bool false, .bool false, .bool false, .bool false, .bool false, .bool false] := by kernel_rfl
@[go_sem] theorem und_83 : X.P.underlying 83 = some (Go.TypeDesc.array 10 4) := by kernel_rfl
@[go_sem] theorem plc_83_0 : places X.P 83 0 = some (0, 1) := by kernel_rfl
@[go_sem] theorem plc_83_1 : places X.P 83 1 = some (1, 1) := by kernel_rfl
@[go_sem] theorem plc_83_2 : places X.P 83 2 = some (2, 1) := by kernel_rfl
@[go_sem] theorem plc_83_3 : places X.P 83 3 = some (3, 1) := by kernel_rfl
@[go_sem] theorem plc_83_4 : places X.P 83 4 = some (4, 1) := by kernel_rfl
@[go_sem] theorem plc_83_5 : places X.P 83 5 = some (5, 1) := by kernel_rfl
@[go_sem] theorem plc_83_6 : places X.P 83 6 = some (6, 1) := by kernel_rfl
@[go_sem] theorem plc_83_7 : places X.P 83 7 = some (7, 1) := by kernel_rfl
@[go_sem] theorem plc_83_8 : places X.P 83 8 = some (8, 1) := by kernel_rfl
@[go_sem] theorem plc_83_9 : places X.P 83 9 = some (9, 1) := by kernel_rfl
@[go_sem] theorem plc_83_10 : places X.P 83 10 = some (10, 1) := by kernel_rfl
@[go_sem] theorem plc_83_11 : places X.P 83 11 = some (11, 1) := by kernel_rfl
@[go_sem] theorem plc_83_12 : places X.P 83 12 = some (12, 1) := by kernel_rfl
@[go_sem] theorem plc_83_13 : places X.P 83 13 = some (13, 1) := by kernel_rfl
@[go_sem] theorem plc_83_14 : places X.P 83 14 = some (14, 1) := by kernel_rfl
@[go_sem] theorem plc_83_15 : places X.P 83 15 = some (15, 1) := by kernel_rfl
@[go_sem] theorem plc_83_16 : places X.P 83 16 = some (16, 1) := by kernel_rfl
@[go_sem] theorem plc_83_17 : places X.P 83 17 = some (17, 1) := by kernel_rfl
@[go_sem] theorem plc_83_18 : places X.P 83 18 = some (18, 1) := by kernel_rfl
@[go_sem] theorem plc_83_19 : places X.P 83 19 = some (19, 1) := by kernel_rfl
@[go_sem] theorem shp_85 : shp X.P 85 = some (true, 11) := by kernel_rfl
@[go_sem] theorem zer_85 : zer X.P 85 = some (.agg [.int .i64 0, .bool false, .bool false, .bool false, .bool false, .bool false, .bool false, .bool false, .bool false, .bool false, .bool false]) := by kernel_rfl
@[go_sem] theorem bldz_85 : bldz X.P 85 = some [.int .i64 0, .bool false, .bool false, .bool false, .bool false, .bool false, .bool false, .bool false, .bool false, .bool false, .bool false] := by kernel_rfl
@[go_sem] theorem fld_85_0 : fldo X.P 85 0 = some (0, 3) := by kernel_rfl
@[go_sem] theorem plc_85_0 : places X.P 85 0 = some (0, 1) := by kernel_rfl
@[go_sem] theorem fld_85_1 : fldo X.P 85 1 = some (1, 83) := by kernel_rfl
@[go_sem] theorem plc_85_1 : places X.P 85 1 = some (1, 10) := by kernel_rfl
@[go_sem] theorem shp_94 : shp X.P 94 = some (true, 256) := by kernel_rfl
@[go_sem] theorem zer_94 : zer X.P 94 = some (.agg [.bool false, .bool false, .bool false, .bool false, .bool false, .bool false, .bool false, .bool false, .bool false, .bool false, .bool false, .bool false, .bool false, .bool false, .bool false, .bool false, .bool false, .bool false, .bool false, .bool false, .bool false, .bool false, .bool false, .bool false, .bool false, .bool false, .bool false, .bool false, .bool false, .bool false, .bool false, .bool false, .bool false, .bool false, .bool false, .bool false, .bool false, .bool false, .bool false, .bool false, .bool false, .bool false, .bool false, .bool false, .bool false, .bool false, .bool false, .bool false, .bool false, .bool false, .bool false, .bool false, .bool false, .bool false, .bool false, .bool false, .bool false, .bool false, .bool false, .bool false, .bool false, .bool false, .bool false, .bool false, .bool false, .bool false, .bool false, .bool false, .bool false, .bool false, .bool false, .bool false, .bool false, .bool false, .bool false, .bool false, .bool false, .bool false, .bool false, .bool false, .bool false, .bool false, .bool false, .bool false, .bool false, .bool false, .bool false, .bool false, .bool false, .bool false, .bool false, .bool false, .bool false, .bool false, .bool false, .bool false, .bool false, .bool false, .bool false, .bool false, .bool false, .bool false, .bool false, .bool false, .bool false, .bool false, .bool false, .bool false, .bool false, .bool false, .bool false, .bool false, .bool false, .bool false, .bool false, .bool false, .bool false, .bool false, .bool false, .bool false, .bool false, .bool false, .bool false, .bool false, .bool false, .bool false, .bool false, .bool false, .bool false, .bool false, .bool false, .bool false, .bool false, .bool false, .bool false, .bool false, .bool false, .bool false, .bool false, .bool false, .bool false, .bool false, .bool false, .bool false, .bool false, .bool false, .bool false, .bool false, .bool false, .bool false, .bool false, .bool false, .bool false, .bool false, .bool false, .bool false, .bool false, .bool false, .bool false, .bool false, .bool false, .bool false, .bool false, .bool false, .bool false, .bool false, .bool false, .bool false, .bool false, .bool false, .bool false, .bool false, .bool false, .bool false, .bool false, .bool false, .bool false, .bool false, .bool false, .bool false, .bool false, .bool false, .bool false, .bool false, .bool false, .bool false, .bool false, .bool false, .bool false, .bool false, .bool false, .bool false, .bool false, .bool false, .bool false, .bool false, .bool false, .bool false, .bool false, .bool false, .bool false, .bool false, .bool false, .bool false, .bool false, .bool false, .bool false, .bool false, .bool false, .bool false, .bool false, .bool false, .bool false, .bool false, .bool false, .bool false, .bool false, .bool false, .bool false, .bool false, .bool false, .bool false, .bool false, .bool false, .bool false, .bool false, .bool false, .bool false, .bool false, .bool false, .bool false, .bool false, .bool false, .bool false, .bool false, .bool false, .bool false, .bool false, .bool false, .bool false, .bool false, .bool false, .bool false, .bool false, .bool false, .bool false, .bool false, .bool false, .bool false, .bool false, .bool false, .bool false, .bool false, .bool false, .bool false, .bool false]) := by kernel_rfl
@[go_sem] theorem arr_94 : arr X.P 94 = some (256, 4) := by kernel_rfl
@[go_sem] theorem bldz_94 : bldz X.P 94 = some [.bool false, .bool false, .bool false, .bool false, .bool false, .bool false, .bool false, .bool false, .bool false, .bool false, .bool false, .bool false, .bool false, .bool false, .bool false, .bool false, .bool false, .bool false, .bool false, .bool false, .bool false, .bool false, .bool false, .bool false, .bool false, .bool false, .bool false, .bool false, .bool false, .bool false, .bool false, .bool false, .bool false, .bool false, .bool false, .bool false, .bool false, .bool false, .bool false, .bool false, .bool false, .bool false, .bool false, .bool false, .bool false, .bool false, .bool false, .bool false, .bool false, .bool false, .bool false, .bool false, .bool false, .bool false, .bool false, .bool false, .bool false, .bool false, .bool false, .bool false, .bool false, .bool false, .bool false, .bool false, .bool false, .bool false, .bool false, .bool false, .bool false, .bool false, .bool false, .bool false, .bool false, .bool false, .bool false, .bool false, .bool false, .bool false, .bool false, .bool false, .bool false, .bool false, .bool false, .bool false, .bool false, .bool false, .bool false, .bool false, .bool false, .bool false, .bool false, .bool false, .bool false, .bool false, .bool false, .bool false, .bool false, .bool false, .bool false, .bool false, .bool false, .bool false, .bool false, .bool false, .bool false, .bool false, .bool false, .bool false, .bool false, .bool false, .bool false, .bool false, .bool false, .bool false, .bool false, .bool false, .bool false, .bool false, .bool false, .bool false, .bool false, .bool false, .bool false, .bool false, .bool false, .bool false, .bool false, .bool false, .bool false, .bool false, .bool false, .bool false, .bool false, .bool false, .bool false, .bool false, .bool false, .bool false, .bool false, .bool false, .bool false, .bool false, .bool false, .bool false, .bool false, .bool false, .bool false, .bool false, .bool false, .bool false, .bool false, .bool false, .bool false, .bool false, .bool false, .bool false, .bool false, .bool false, .bool false, .bool false, .bool false, .bool false, .bool false, .bool false, .bool false, .bool false, .bool false, .bool false, .bool false, .bool false, .bool false, .bool false, .bool false, .bool false, .bool false, .bool false, .bool false, .bool false, .bool false, .bool false, .bool false, .bool false, .bool false, .bool false, .bool false, .bool false, .bool false, .bool false, .bool false, .bool false, .bool false, .bool false, .bool false, .bool false, .bool false, .bool false, .bool false, .bool false, .bool false, .bool false, .bool false, .bool false, .bool false, .bool false, .bool false, .bool false, .bool false, .bool false, .bool false, .bool false, .bool false, .bool false, .bool false, .bool false, .bool false, .bool false, .bool false, .bool false, .bool false, .bool false, .bool false, .bool false, .bool false, .bool false, .bool false, .bool false, .bool false, .bool false, .bool false, .bool false, .bool false, .bool false, .bool false, .bool false, .bool false, .bool false, .bool false, .bool false, .bool false, .bool false, .bool false, .bool false, .bool false, .bool false, .bool false, .bool false, .bool false, .bool false, .bool false, .bool false, .bool false, .bool false, .bool false, .bool false, .bool false, .bool false] := by kernel_rfl
@[go_sem] theorem und_94 : X.P.underlying 94 = some (Go.TypeDesc.array 256 4) := by kernel_rfl
@[go_sem] theorem plc_94_0 : places X.P 94 0 = some (0, 1) := by kernel_rfl
@[go_sem] theorem plc_94_1 : places X.P 94 1 = some (1, 1) := by kernel_rfl
@[go_sem] theorem plc_94_2 : places X.P 94 2 = some (2, 1) := by kernel_rfl
@[go_sem] theorem plc_94_3 : places X.P 94 3 = some (3, 1) := by kernel_rfl
@[go_sem] theorem plc_94_4 : places X.P 94 4 = some (4, 1) := by kernel_rfl
@[go_sem] theorem plc_94_5 : places X.P 94 5 = some (5, 1) := by kernel_rfl
@[go_sem] theorem plc_94_6 : places X.P 94 6 = some (6, 1) := by kernel_rfl
@[go_sem] theorem plc_94_7 : places X.P 94 7 = some (7, 1) := by kernel_rfl
@[go_sem] theorem plc_94_8 : places X.P 94 8 = some (8, 1) := by kernel_rfl
@[go_sem] theorem plc_94_9 : places X.P 94 9 = some (9, 1) := by kernel_rfl
@[go_sem] theorem plc_94_10 : places X.P 94 10 = some (10, 1) := by kernel_rfl
@[go_sem] theorem plc_94_11 : places X.P 94 11 = some (11, 1) := by kernel_rfl
@[go_sem] theorem plc_94_12 : places X.P 94 12 = some (12, 1) := by kernel_rfl
@[go_sem] theorem plc_94_13 : places X.P 94 13 = some (13, 1) := by kernel_rfl
@[go_sem] theorem plc_94_14 : places X.P 94 14 = some (14, 1) := by kernel_rfl
@[go_sem] theorem plc_94_15 : places X.P 94 15 = some (15, 1) := by kernel_rfl
@[go_sem] theorem plc_94_16 : places X.P 94 16 = some (16, 1) := by kernel_rfl
@[go_sem] theorem plc_94_17 : places X.P 94 17 = some (17, 1) := by kernel_rfl
@[go_sem] theorem plc_94_18 : places X.P 94 18 = some (18, 1) := by kernel_rfl
@[go_sem] theorem plc_94_19 : places X.P 94 19 = some (19, 1) := by kernel_rfl
@[go_sem] theorem shp_98 : shp X.P 98 = some (false, 1) := by kernel_rfl
@[go_sem] theorem zer_98 : zer X.P 98 = some .nilp := by kernel_rfl
@[go_sem] theorem und_98 : X.P.underlying 98 = some (Go.TypeDesc.pointer 94) := by kernel_rfl
@[go_sem] theorem shp_109 : shp X.P 109 = some (false, 1) := by kernel_rfl
@[go_sem] theorem zer_109 : zer X.P 109 = some (.sl .nil []) := by kernel_rfl
@[go_sem] theorem slc_109 : slc X.P 109 = some (3, 1, 8) := by kernel_rfl
@[go_sem] theorem und_109 : X.P.underlying 109 = some (Go.TypeDesc.slice 3) := by kernel_rfl
end Go.Proofs.Tryz.E
