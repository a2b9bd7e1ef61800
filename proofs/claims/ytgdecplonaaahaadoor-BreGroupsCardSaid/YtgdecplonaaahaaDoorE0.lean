/- Walks: what the functions compute. -/
import Derived.Test.YtgdecplonaaahaaDoorMvE
import Derived.Test.YtgdecplonaaahaaDoorMvD
import Derived.KernelRfl
import Derived.Test.YtgdecplonaaahaaDoorChecked
set_option linter.unusedVariables false
set_option linter.unusedSimpArgs false
/- The program's types, as the evaluator looks at them. -/
namespace Go.Proofs.Tryd.E
open Go.Mv

/-- The first place of a byte; -1: there is none. -/
def idxB : List UInt8 → Int → Int
  | [], _ => -1
  | b :: s, c => if (b.toNat : Int) = c then 0 else if idxB s c < 0 then -1 else idxB s c + 1
def idxByteP : Nat → Nat → List MV → Sto → Option (MV × Sto)
  | _, _, [.str s, .int .u8 c], σ => if 0 ≤ c ∧ c < 256 then some (.int .i64 (idxB s c), σ) else none
  | _, _, _, _ => none
/-- The first place of a text; -1: there is none. -/
def idxS : List UInt8 → List UInt8 → Int
  | [], t => if t = [] then 0 else -1
  | b :: s, t => if t <+: (b :: s) then 0 else if idxS s t < 0 then -1 else idxS s t + 1
def indexP : Nat → Nat → List MV → Sto → Option (MV × Sto)
  | _, _, [.str s, .str t], σ => if s.length < 4294967281 then some (.int .i64 (idxS s t), σ) else none
  | _, _, _, _ => none
/-- A row of its own. -/
def cloneP (z b : Nat) : Nat → Nat → List MV → Sto → Option (MV × Sto)
  | lim, d + 1, [.sl _ xs], σ =>
    if xs = [] then some (.sl .no [], σ) else
    if lim ≤ d ∧ okz z xs = true ∧ xs.length * b ≤ 140737488355328 then (xs.mapM datas).map fun ys => (.rs ⟨d, 0, σ.ct d⟩ 0 xs.length z, (σ.set ⟨d, 0, σ.ct d⟩ ys.flatten).tick d) else none
  | _, _, _, _ => none
/-- A text without the bytes of a set at its beginning. -/
def trimP : Nat → Nat → List MV → Sto → Option (MV × Sto)
  | _, _, [.str s, .str c], σ => if c = [48, 49, 50, 51, 52, 53, 54, 55, 56, 57] then some (.str (s.dropWhile (c.contains ·)), σ) else none
  | _, _, _, _ => none
def u4 : List Sh := [.i .u64, .i .u64, .i .u64, .i .u64]
noncomputable def X : Cfg where
  P := Go.Proofs.Tryd.prog
  eqT := fun t => if t = 42 then some ([.i .i64, .i .u8] ++ u4 ++ [.i .i64, .i .i64, .i .i64]) else none
  prim := fun f => if f = 51 then some (cloneP 10 96) else if f = 53 then some idxByteP else if f = 71 then some indexP else if f = 48 then some trimP else none
  kp := fun b q => b = 0 ∧ q = fun x => ∃ m t i, x = .cells #[.int .i64 m] t i

@[go_sem] theorem shp_3 : shp X.P 3 = some (false, 1) := by kernel_rfl
@[go_sem] theorem zer_3 : zer X.P 3 = some (.int .i64 0) := by kernel_rfl
@[go_sem] theorem und_3 : X.P.underlying 3 = some (Go.TypeDesc.int .i64) := by kernel_rfl
@[go_sem] theorem shp_4 : shp X.P 4 = some (false, 1) := by kernel_rfl
@[go_sem] theorem zer_4 : zer X.P 4 = some (.bool false) := by kernel_rfl
@[go_sem] theorem und_4 : X.P.underlying 4 = some Go.TypeDesc.bool := by kernel_rfl
@[go_sem] theorem shp_5 : shp X.P 5 = some (false, 1) := by kernel_rfl
@[go_sem] theorem zer_5 : zer X.P 5 = some (.int .u8 0) := by kernel_rfl
@[go_sem] theorem und_5 : X.P.underlying 5 = some (Go.TypeDesc.int .u8) := by kernel_rfl
@[go_sem] theorem shp_9 : shp X.P 9 = some (false, 1) := by kernel_rfl
@[go_sem] theorem zer_9 : zer X.P 9 = some (.str []) := by kernel_rfl
@[go_sem] theorem und_9 : X.P.underlying 9 = some Go.TypeDesc.string := by kernel_rfl
@[go_sem] theorem shp_21 : shp X.P 21 = some (false, 1) := by kernel_rfl
@[go_sem] theorem zer_21 : zer X.P 21 = some (.int .i32 0) := by kernel_rfl
@[go_sem] theorem und_21 : X.P.underlying 21 = some (Go.TypeDesc.int .i32) := by kernel_rfl
@[go_sem] theorem shp_23 : shp X.P 23 = some (false, 1) := by kernel_rfl
@[go_sem] theorem zer_23 : zer X.P 23 = some (.int .u64 0) := by kernel_rfl
@[go_sem] theorem und_23 : X.P.underlying 23 = some (Go.TypeDesc.int .u64) := by kernel_rfl
@[go_sem] theorem shp_25 : shp X.P 25 = some (true, 4) := by kernel_rfl
@[go_sem] theorem zer_25 : zer X.P 25 = some (.agg [.int .u64 0, .int .u64 0, .int .u64 0, .int .u64 0]) := by kernel_rfl
@[go_sem] theorem arr_25 : arr X.P 25 = some (4, 23) := by kernel_rfl
@[go_sem] theorem bldz_25 : bldz X.P 25 = some [.int .u64 0, .int .u64 0, .int .u64 0, .int .u64 0] := by kernel_rfl
@[go_sem] theorem und_25 : X.P.underlying 25 = some (Go.TypeDesc.array 4 23) := by kernel_rfl
@[go_sem] theorem plc_25_0 : places X.P 25 0 = some (0, 1) := by kernel_rfl
@[go_sem] theorem plc_25_1 : places X.P 25 1 = some (1, 1) := by kernel_rfl
@[go_sem] theorem plc_25_2 : places X.P 25 2 = some (2, 1) := by kernel_rfl
@[go_sem] theorem plc_25_3 : places X.P 25 3 = some (3, 1) := by kernel_rfl
@[go_sem] theorem plc_25_4 : places X.P 25 4 = some (4, 1) := by kernel_rfl
@[go_sem] theorem plc_25_5 : places X.P 25 5 = some (5, 1) := by kernel_rfl
@[go_sem] theorem plc_25_6 : places X.P 25 6 = some (6, 1) := by kernel_rfl
@[go_sem] theorem plc_25_7 : places X.P 25 7 = some (7, 1) := by kernel_rfl
@[go_sem] theorem plc_25_8 : places X.P 25 8 = some (8, 1) := by kernel_rfl
@[go_sem] theorem plc_25_9 : places X.P 25 9 = some (9, 1) := by kernel_rfl
@[go_sem] theorem plc_25_10 : places X.P 25 10 = some (10, 1) := by kernel_rfl
@[go_sem] theorem plc_25_11 : places X.P 25 11 = some (11, 1) := by kernel_rfl
@[go_sem] theorem plc_25_12 : places X.P 25 12 = some (12, 1) := by kernel_rfl
@[go_sem] theorem plc_25_13 : places X.P 25 13 = some (13, 1) := by kernel_rfl
@[go_sem] theorem plc_25_14 : places X.P 25 14 = some (14, 1) := by kernel_rfl
@[go_sem] theorem plc_25_15 : places X.P 25 15 = some (15, 1) := by kernel_rfl
@[go_sem] theorem plc_25_16 : places X.P 25 16 = some (16, 1) := by kernel_rfl
@[go_sem] theorem plc_25_17 : places X.P 25 17 = some (17, 1) := by kernel_rfl
@[go_sem] theorem plc_25_18 : places X.P 25 18 = some (18, 1) := by kernel_rfl
@[go_sem] theorem plc_25_19 : places X.P 25 19 = some (19, 1) := by kernel_rfl
@[go_sem] theorem shp_26 : shp X.P 26 = some (false, 1) := by kernel_rfl
@[go_sem] theorem zer_26 : zer X.P 26 = some (.sl .nil []) := by kernel_rfl
@[go_sem] theorem slc_26 : slc X.P 26 = some (28, 10, 96) := by kernel_rfl
@[go_sem] theorem und_26 : X.P.underlying 26 = some (Go.TypeDesc.slice 28) := by kernel_rfl
@[go_sem] theorem shp_28 : shp X.P 28 = some (true, 10) := by kernel_rfl
@[go_sem] theorem zer_28 : zer X.P 28 = some (.agg [.int .i64 0, .int .u8 0, .int .u64 0, .int .u64 0, .int .u64 0, .int .u64 0, .int .i64 0, .int .i64 0, .int .i64 0, .sl .nil []]) := by kernel_rfl
@[go_sem] theorem bldz_28 : bldz X.P 28 = some [.int .i64 0, .int .u8 0, .int .u64 0, .int .u64 0, .int .u64 0, .int .u64 0, .int .i64 0, .int .i64 0, .int .i64 0, .sl .nil []] := by kernel_rfl
@[go_sem] theorem fld_28_0 : fldo X.P 28 0 = some (0, 3) := by kernel_rfl
@[go_sem] theorem plc_28_0 : places X.P 28 0 = some (0, 1) := by kernel_rfl
@[go_sem] theorem fld_28_1 : fldo X.P 28 1 = some (1, 5) := by kernel_rfl
@[go_sem] theorem plc_28_1 : places X.P 28 1 = some (1, 1) := by kernel_rfl
@[go_sem] theorem fld_28_2 : fldo X.P 28 2 = some (2, 25) := by kernel_rfl
@[go_sem] theorem plc_28_2 : places X.P 28 2 = some (2, 4) := by kernel_rfl
@[go_sem] theorem fld_28_3 : fldo X.P 28 3 = some (6, 3) := by kernel_rfl
@[go_sem] theorem plc_28_3 : places X.P 28 3 = some (6, 1) := by kernel_rfl
@[go_sem] theorem fld_28_4 : fldo X.P 28 4 = some (7, 3) := by kernel_rfl
@[go_sem] theorem plc_28_4 : places X.P 28 4 = some (7, 1) := by kernel_rfl
@[go_sem] theorem fld_28_5 : fldo X.P 28 5 = some (8, 3) := by kernel_rfl
@[go_sem] theorem plc_28_5 : places X.P 28 5 = some (8, 1) := by kernel_rfl
@[go_sem] theorem fld_28_6 : fldo X.P 28 6 = some (9, 26) := by kernel_rfl
@[go_sem] theorem plc_28_6 : places X.P 28 6 = some (9, 1) := by kernel_rfl
@[go_sem] theorem shp_29 : shp X.P 29 = some (false, 1) := by kernel_rfl
@[go_sem] theorem zer_29 : zer X.P 29 = some (.int .i64 0) := by kernel_rfl
@[go_sem] theorem und_29 : X.P.underlying 29 = some (Go.TypeDesc.int .i64) := by kernel_rfl
@[go_sem] theorem shp_34 : shp X.P 34 = some (false, 1) := by kernel_rfl
@[go_sem] theorem zer_34 : zer X.P 34 = some .junk := by kernel_rfl
@[go_sem] theorem shp_37 : shp X.P 37 = some (false, 1) := by kernel_rfl
@[go_sem] theorem zer_37 : zer X.P 37 = some .nilp := by kernel_rfl
@[go_sem] theorem und_37 : X.P.underlying 37 = some (Go.TypeDesc.pointer 39) := by kernel_rfl
@[go_sem] theorem shp_39 : shp X.P 39 = some (true, 4) := by kernel_rfl
@[go_sem] theorem zer_39 : zer X.P 39 = some (.agg [.str [], .int .i64 0, .int .i64 0, .bool false]) := by kernel_rfl
@[go_sem] theorem bldz_39 : bldz X.P 39 = some [.str [], .int .i64 0, .int .i64 0, .bool false] := by kernel_rfl
@[go_sem] theorem fld_39_0 : fldo X.P 39 0 = some (0, 9) := by kernel_rfl
@[go_sem] theorem plc_39_0 : places X.P 39 0 = some (0, 1) := by kernel_rfl
@[go_sem] theorem fld_39_1 : fldo X.P 39 1 = some (1, 3) := by kernel_rfl
@[go_sem] theorem plc_39_1 : places X.P 39 1 = some (1, 1) := by kernel_rfl
@[go_sem] theorem fld_39_2 : fldo X.P 39 2 = some (2, 3) := by kernel_rfl
@[go_sem] theorem plc_39_2 : places X.P 39 2 = some (2, 1) := by kernel_rfl
@[go_sem] theorem fld_39_3 : fldo X.P 39 3 = some (3, 4) := by kernel_rfl
@[go_sem] theorem plc_39_3 : places X.P 39 3 = some (3, 1) := by kernel_rfl
@[go_sem] theorem shp_42 : shp X.P 42 = some (true, 9) := by kernel_rfl
@[go_sem] theorem zer_42 : zer X.P 42 = some (.agg [.int .i64 0, .int .u8 0, .int .u64 0, .int .u64 0, .int .u64 0, .int .u64 0, .int .i64 0, .int .i64 0, .int .i64 0]) := by kernel_rfl
@[go_sem] theorem bldz_42 : bldz X.P 42 = some [.int .i64 0, .int .u8 0, .int .u64 0, .int .u64 0, .int .u64 0, .int .u64 0, .int .i64 0, .int .i64 0, .int .i64 0] := by kernel_rfl
@[go_sem] theorem fld_42_0 : fldo X.P 42 0 = some (0, 3) := by kernel_rfl
@[go_sem] theorem plc_42_0 : places X.P 42 0 = some (0, 1) := by kernel_rfl
@[go_sem] theorem fld_42_1 : fldo X.P 42 1 = some (1, 5) := by kernel_rfl
@[go_sem] theorem plc_42_1 : places X.P 42 1 = some (1, 1) := by kernel_rfl
@[go_sem] theorem fld_42_2 : fldo X.P 42 2 = some (2, 25) := by kernel_rfl
@[go_sem] theorem plc_42_2 : places X.P 42 2 = some (2, 4) := by kernel_rfl
@[go_sem] theorem fld_42_3 : fldo X.P 42 3 = some (6, 3) := by kernel_rfl
@[go_sem] theorem plc_42_3 : places X.P 42 3 = some (6, 1) := by kernel_rfl
@[go_sem] theorem fld_42_4 : fldo X.P 42 4 = some (7, 3) := by kernel_rfl
@[go_sem] theorem plc_42_4 : places X.P 42 4 = some (7, 1) := by kernel_rfl
@[go_sem] theorem fld_42_5 : fldo X.P 42 5 = some (8, 3) := by kernel_rfl
@[go_sem] theorem plc_42_5 : places X.P 42 5 = some (8, 1) := by kernel_rfl
@[go_sem] theorem shp_47 : shp X.P 47 = some (false, 1) := by kernel_rfl
@[go_sem] theorem zer_47 : zer X.P 47 = some .nilp := by kernel_rfl
@[go_sem] theorem und_47 : X.P.underlying 47 = some (Go.TypeDesc.pointer 50) := by kernel_rfl
@[go_sem] theorem shp_48 : shp X.P 48 = some (true, 10) := by kernel_rfl
@[go_sem] theorem zer_48 : zer X.P 48 = some (.agg [.bool false, .bool false, .bool false, .bool false, .bool false, .bool false, .bool false, .bool false, .bool false, .bool false]) := by kernel_rfl
@[go_sem] theorem arr_48 : arr X.P 48 = some (10, 4) := by kernel_rfl
@[go_sem] theorem bldz_48 : bldz X.P 48 = some [.bool false, .bool false, .bool false, .bool false, .bool false, .bool false, .bool false, .bool false, .bool false, .bool false] := by kernel_rfl
@[go_sem] theorem und_48 : X.P.underlying 48 = some (Go.TypeDesc.array 10 4) := by kernel_rfl
@[go_sem] theorem plc_48_0 : places X.P 48 0 = some (0, 1) := by kernel_rfl
@[go_sem] theorem plc_48_1 : places X.P 48 1 = some (1, 1) := by kernel_rfl
@[go_sem] theorem plc_48_2 : places X.P 48 2 = some (2, 1) := by kernel_rfl
@[go_sem] theorem plc_48_3 : places X.P 48 3 = some (3, 1) := by kernel_rfl
@[go_sem] theorem plc_48_4 : places X.P 48 4 = some (4, 1) := by kernel_rfl
@[go_sem] theorem plc_48_5 : places X.P 48 5 = some (5, 1) := by kernel_rfl
@[go_sem] theorem plc_48_6 : places X.P 48 6 = some (6, 1) := by kernel_rfl
@[go_sem] theorem plc_48_7 : places X.P 48 7 = some (7, 1) := by kernel_rfl
@[go_sem] theorem plc_48_8 : places X.P 48 8 = some (8, 1) := by kernel_rfl
@[go_sem] theorem plc_48_9 : places X.P 48 9 = some (9, 1) := by kernel_rfl
@[go_sem] theorem plc_48_10 : places X.P 48 10 = some (10, 1) := by kernel_rfl
@[go_sem] theorem plc_48_11 : places X.P 48 11 = some (11, 1) := by kernel_rfl
@[go_sem] theorem plc_48_12 : places X.P 48 12 = some (12, 1) := by kernel_rfl
@[go_sem] theorem plc_48_13 : places X.P 48 13 = some (13, 1) := by kernel_rfl
@[go_sem] theorem plc_48_14 : places X.P 48 14 = some (14, 1) := by kernel_rfl
@[go_sem] theorem plc_48_15 : places X.P 48 15 = some (15, 1) := by kernel_rfl
@[go_sem] theorem plc_48_16 : places X.P 48 16 = some (16, 1) := by kernel_rfl
@[go_sem] theorem plc_48_17 : places X.P 48 17 = some (17, 1) := by kernel_rfl
@[go_sem] theorem plc_48_18 : places X.P 48 18 = some (18, 1) := by kernel_rfl
@[go_sem] theorem plc_48_19 : places X.P 48 19 = some (19, 1) := by kernel_rfl
@[go_sem] theorem shp_50 : shp X.P 50 = some (true, 11) := by kernel_rfl
@[go_sem] theorem zer_50 : zer X.P 50 = some (.agg [.int .i64 0, .bool false, .bool false, .bool false, .bool false, .bool false, .bool false, .bool false, .bool false, .bool false, .bool false]) := by kernel_rfl
@[go_sem] theorem bldz_50 : bldz X.P 50 = some [.int .i64 0, .bool false, .bool false, .bool false, .bool false, .bool false, .bool false, .bool false, .bool false, .bool false, .bool false] := by kernel_rfl
@[go_sem] theorem fld_50_0 : fldo X.P 50 0 = some (0, 3) := by kernel_rfl
@[go_sem] theorem plc_50_0 : places X.P 50 0 = some (0, 1) := by kernel_rfl
@[go_sem] theorem fld_50_1 : fldo X.P 50 1 = some (1, 48) := by kernel_rfl
@[go_sem] theorem plc_50_1 : places X.P 50 1 = some (1, 10) := by kernel_rfl
@[go_sem] theorem shp_67 : shp X.P 67 = some (false, 1) := by kernel_rfl
@[go_sem] theorem zer_67 : zer X.P 67 = some (.sl .nil []) := by kernel_rfl
@[go_sem] theorem slc_67 : slc X.P 67 = some (3, 1, 8) := by kernel_rfl
@[go_sem] theorem und_67 : X.P.underlying 67 = some (Go.TypeDesc.slice 3) := by kernel_rfl
@[go_sem] theorem shp_68 : shp X.P 68 = some (false, 1) := by kernel_rfl
@[go_sem] theorem zer_68 : zer X.P 68 = some .nilp := by kernel_rfl
@[go_sem] theorem und_68 : X.P.underlying 68 = some (Go.TypeDesc.pointer 70) := by kernel_rfl
@[go_sem] theorem shp_70 : shp X.P 70 = some (true, 2) := by kernel_rfl
@[go_sem] theorem zer_70 : zer X.P 70 = some (.agg [.str [], .int .i64 0]) := by kernel_rfl
@[go_sem] theorem bldz_70 : bldz X.P 70 = some [.str [], .int .i64 0] := by kernel_rfl
@[go_sem] theorem fld_70_0 : fldo X.P 70 0 = some (0, 9) := by kernel_rfl
@[go_sem] theorem plc_70_0 : places X.P 70 0 = some (0, 1) := by kernel_rfl
@[go_sem] theorem fld_70_1 : fldo X.P 70 1 = some (1, 3) := by kernel_rfl
@[go_sem] theorem plc_70_1 : places X.P 70 1 = some (1, 1) := by kernel_rfl
@[go_sem] theorem shp_83 : shp X.P 83 = some (true, 256) := by kernel_rfl
@[go_sem] theorem zer_83 : zer X.P 83 = some (.agg [.bool false, .bool false, .bool false, .bool false, .bool false, .bool false, .bool false, .bool false, .bool false, .bool false, .bool false, .bool false, .bool false, .bool false, .bool false, .bool false, .bool false, .bool false, .bool false, .bool false, .bool false, .bool false, .bool false, .bool false, .bool false, .bool false, .bool false, .bool false, .bool false, .bool false, .bool false, .bool false, .bool false, .bool false, .bool false, .bool false, .bool false, .bool false, .bool false, .bool false, .bool false, .bool false, .bool false, .bool false, .bool false, .bool false, .bool false, .bool false, .bool false, .bool false, .bool false, .bool false, .bool false, .bool false, .bool false, .bool false, .bool false, .bool false, .bool false, .bool false, .bool false, .bool false, .bool false, .bool false, .bool false, .bool false, .bool false, .bool false, .bool false, .bool false, .bool false, .bool false, .bool false, .bool false, .bool false, .bool false, .bool false, .bool false, .bool false, .bool false, .bool false, .bool false, .bool false, .bool false, .bool false, .bool false, .bool false, .bool false, .bool false, .bool false, .bool false, .bool false, .bool false, .bool false, .bool false, .bool false, .bool false, .bool false, .bool false, .bool false, .bool false, .bool false, .bool false, .bool false, .bool false, .bool false, .bool false, .bool false, .bool false, .bool false, .bool false, .bool false, .bool false, .bool false, .bool false, .bool false, .bool false, .bool false, .bool false, .bool false, .bool false, .bool false, .bool false, .bool false, .bool false, .bool false, .bool false, .bool false, .bool false, .bool false, .bool false, .bool false, .bool false, .bool false, .bool false, .bool false, .bool false, .bool false, .bool false, .bool false, .bool false, .bool false, .bool false, .bool false, .bool false, .bool false, .bool false, .bool false, .bool false, .bool false, .bool false, .bool false, .bool false, .bool false, .bool false, .bool false, .bool false, .bool false, .bool false, .bool false, .bool false, .bool false, .bool false, .bool false, .bool false, .bool false, .bool false, .bool false, .bool false, .bool false, .bool false, .bool false, .bool false, .bool false, .bool false, .bool false, .bool false, .bool false, .bool false, .bool false, .bool false, .bool false, .bool false, .bool false, .bool false, .bool false, .bool false, .bool false, .bool false, .bool false, .bool false, .bool false, .bool false, .bool false, .bool false, .bool false, .bool false, .bool false, .bool false, .bool false, .bool false, .bool false, .bool false, .bool false, .bool false, .bool false, .bool false, .bool false, .bool false, .bool false, .bool false, .bool false, .bool false, .bool false, .bool false, .bool false, .bool false, .bool false, .bool false, .bool false, .bool false, .bool false, .bool false, .bool false, .bool false, .bool false, .bool false, .bool false, .bool false, .bool false, .bool false, .bool false, .bool false, .bool false, .bool false, .bool false, .bool false, .bool false, .bool false, .bool false, .bool false, .bool false, .bool false, .bool false, .bool false, .bool false, .bool false, .bool false, .bool false, .bool false, .bool false, .bool false, .bool false, .bool false, .bool false, .bool false]) := by kernel_rfl
@[go_sem] theorem arr_83 : arr X.P 83 = some (256, 4) := by kernel_rfl
@[go_sem] theorem bldz_83 : bldz X.P 83 = some [.bool false, .bool false, .bool false, .bool false, .bool false, .bool false, .bool false, .bool false, .bool false, .bool false, .bool false, .bool false, .bool false, .bool false, .bool false, .bool false, .bool false, .bool false, .bool false, .bool false, .bool false, .bool false, .bool false, .bool false, .bool false, .bool false, .bool false, .bool false, .bool false, .bool false, .bool false, .bool false, .bool false, .bool false, .bool false, .bool false, .bool false, .bool false, .bool false, .bool false, .bool false, .bool false, .bool false, .bool false, .bool false, .bool false, .bool false, .bool false, .bool false, .bool false, .bool false, .bool false, .bool false, .bool false, .bool false, .bool false, .bool false, .bool false, .bool false, .bool false, .bool false, .bool false, .bool false, .bool false, .bool false, .bool false, .bool false, .bool false, .bool false, .bool false, .bool false, .bool false, .bool false, .bool false, .bool false, .bool false, .bool false, .bool false, .bool false, .bool false, .bool false, .bool false, .bool false, .bool false, .bool false, .bool false, .bool false, .bool false, .bool false, .bool false, .bool false, .bool false, .bool false, .bool false, .bool false, .bool false, .bool false, .bool false, .bool false, .bool false, .bool false, .bool false, .bool false, .bool false, .bool false, .bool false, .bool false, .bool false, .bool false, .bool false, .bool false, .bool false, .bool false, .bool false, .bool false, .bool false, .bool false, .bool false, .bool false, .bool false, .bool false, .bool false, .bool false, .bool false, .bool false, .bool false, .bool false, .bool false, .bool false, .bool false, .bool false, .bool false, .bool false, .bool false, .bool false, .bool false, .bool false, .bool false, .bool false, .bool false, .bool false, .bool false, .bool false, .bool false, .bool false, .bool false, .bool false, .bool false, .bool false, .bool false, .bool false, .bool false, .bool false, .bool false, .bool false, .bool false, .bool false, .bool false, .bool false, .bool false, .bool false, .bool false, .bool false, .bool false, .bool false, .bool false, .bool false, .bool false, .bool false, .bool false, .bool false, .bool false, .bool false, .bool false, .bool false, .bool false, .bool false, .bool false, .bool false, .bool false, .bool false, .bool false, .bool false, .bool false, .bool false, .bool false, .bool false, .bool false, .bool false, .bool false, .bool false, .bool false, .bool false, .bool false, .bool false, .bool false, .bool false, .bool false, .bool false, .bool false, .bool false, .bool false, .bool false, .bool false, .bool false, .bool false, .bool false, .bool false, .bool false, .bool false, .bool false, .bool false, .bool false, .bool false, .bool false, .bool false, .bool false, .bool false, .bool false, .bool false, .bool false, .bool false, .bool false, .bool false, .bool false, .bool false, .bool false, .bool false, .bool false, .bool false, .bool false, .bool false, .bool false, .bool false, .bool false, .bool false, .bool false, .bool false, .bool false, .bool false, .bool false, .bool false, .bool false, .bool false, .bool false, .bool false, .bool false, .bool false, .bool false, .bool false, .bool false, .bool false, .bool false, .bool false, .bool false, .bool false] := by kernel_rfl
@[go_sem] theorem und_83 : X.P.underlying 83 = some (Go.TypeDesc.array 256 4) := by kernel_rfl
@[go_sem] theorem plc_83_0 : places X.P 83 0 = some (0, 1) := by kernel_rfl
@[go_sem] theorem plc_83_1 : places X.P 83 1 = some (1, 1) := by kernel_rfl
@[go_sem] theorem plc_83_2 : places X.P 83 2 = some (2, 1) := by kernel_rfl
@[go_sem] theorem plc_83_3 : places X.P 83 3 = some (3, 1) := by kernel_rfl
@[go_sem] theorem plc_83_4 : places X.P 83 4 = some (4, 1) := by kernel_rfl
@[go_sem] theorem plc_83_5 : places X.P 83 5 = some (5, 1) := by kernel_rfl
@[go_sem] theorem plc_83_6 : places X.P 83 6 = some (6, 1) := by kernel_rfl
@[go_sem] theorem plc_83_7 : places X.P 83 7 = some (7, 1) := by kernel_rfl
@[go_sem] theorem plc_83_8 : places X.P 83 8 = some (8, 1) := by kernel_rfl
@[go_sem] theorem plc_83_9 : places X.P 83 9 = some (9, 1) := by kernel_rfl
@[go_sem] theorem plc_83_10 : places X.P 83 10 = some (10, 1) := by kernel_rfl
@[go_sem] theorem plc_83_11 : places X.P 83 11 = some (11, 1) := by kernel_rfl
@[go_sem] theorem plc_83_12 : places X.P 83 12 = some (12, 1) := by kernel_rfl
@[go_sem] theorem plc_83_13 : places X.P 83 13 = some (13, 1) := by kernel_rfl
@[go_sem] theorem plc_83_14 : places X.P 83 14 = some (14, 1) := by kernel_rfl
@[go_sem] theorem plc_83_15 : places X.P 83 15 = some (15, 1) := by kernel_rfl
@[go_sem] theorem plc_83_16 : places X.P 83 16 = some (16, 1) := by kernel_rfl
@[go_sem] theorem plc_83_17 : places X.P 83 17 = some (17, 1) := by kernel_rfl
@[go_sem] theorem plc_83_18 : places X.P 83 18 = some (18, 1) := by kernel_rfl
@[go_sem] theorem plc_83_19 : places X.P 83 19 = some (19, 1) := by kernel_rfl
@[go_sem] theorem shp_87 : shp X.P 87 = some (false, 1) := by kernel_rfl
@[go_sem] theorem zer_87 : zer X.P 87 = some .nilp := by kernel_rfl
@[go_sem] theorem und_87 : X.P.underlying 87 = some (Go.TypeDesc.pointer 83) := by kernel_rfl
@[go_sem] theorem shp_91 : shp X.P 91 = some (false, 1) := by kernel_rfl
@[go_sem] theorem zer_91 : zer X.P 91 = some (.int .u64 0) := by kernel_rfl
@[go_sem] theorem und_91 : X.P.underlying 91 = some (Go.TypeDesc.int .u64) := by kernel_rfl
@[go_sem] theorem shp_99 : shp X.P 99 = some (true, 256) := by kernel_rfl
@[go_sem] theorem zer_99 : zer X.P 99 = some (.agg [.int .u8 0, .int .u8 0, .int .u8 0, .int .u8 0, .int .u8 0, .int .u8 0, .int .u8 0, .int .u8 0, .int .u8 0, .int .u8 0, .int .u8 0, .int .u8 0, .int .u8 0, .int .u8 0, .int .u8 0, .int .u8 0, .int .u8 0, .int .u8 0, .int .u8 0, .int .u8 0, .int .u8 0, .int .u8 0, .int .u8 0, .int .u8 0, .int .u8 0, .int .u8 0, .int .u8 0, .int .u8 0, .int .u8 0, .int .u8 0, .int .u8 0, .int .u8 0, .int .u8 0, .int .u8 0, .int .u8 0, .int .u8 0, .int .u8 0, .int .u8 0, .int .u8 0, .int .u8 0, .int .u8 0, .int .u8 0, .int .u8 0, .int .u8 0, .int .u8 0, .int .u8 0, .int .u8 0, .int .u8 0, .int .u8 0, .int .u8 0, .int .u8 0, .int .u8 0, .int .u8 0, .int .u8 0, .int .u8 0, .int .u8 0, .int .u8 0, .int .u8 0, .int .u8 0, .int .u8 0, .int .u8 0, .int .u8 0, .int .u8 0, .int .u8 0, .int .u8 0, .int .u8 0, .int .u8 0, .int .u8 0, .int .u8 0, .int .u8 0, .int .u8 0, .int .u8 0, .int .u8 0, .int .u8 0, .int .u8 0, .int .u8 0, .int .u8 0, .int .u8 0, .int .u8 0, .int .u8 0, .int .u8 0, .int .u8 0, .int .u8 0, .int .u8 0, .int .u8 0, .int .u8 0, .int .u8 0, .int .u8 0, .int .u8 0, .int .u8 0, .int .u8 0, .int .u8 0, .int .u8 0, .int .u8 0, .int .u8 0, .int .u8 0, .int .u8 0, .int .u8 0, .int .u8 0, .int .u8 0, .int .u8 0, .int .u8 0, .int .u8 0, .int .u8 0, .int .u8 0, .int .u8 0, .int .u8 0, .int .u8 0, .int .u8 0, .int .u8 0, .int .u8 0, .int .u8 0, .int .u8 0, .int .u8 0, .int .u8 0, .int .u8 0, .int .u8 0, .int .u8 0, .int .u8 0, .int .u8 0, .int .u8 0, .int .u8 0, .int .u8 0, .int .u8 0, .int .u8 0, .int .u8 0, .int .u8 0, .int .u8 0, .int .u8 0, .int .u8 0, .int .u8 0, .int .u8 0, .int .u8 0, .int .u8 0, .int .u8 0, .int .u8 0, .int .u8 0, .int .u8 0, .int .u8 0, .int .u8 0, .int .u8 0, .int .u8 0, .int .u8 0, .int .u8 0, .int .u8 0, .int .u8 0, .int .u8 0, .int .u8 0, .int .u8 0, .int .u8 0, .int .u8 0, .int .u8 0, .int .u8 0, .int .u8 0, .int .u8 0, .int .u8 0, .int .u8 0, .int .u8 0, .int .u8 0, .int .u8 0, .int .u8 0, .int .u8 0, .int .u8 0, .int .u8 0, .int .u8 0, .int .u8 0, .int .u8 0, .int .u8 0, .int .u8 0, .int .u8 0, .int .u8 0, .int .u8 0, .int .u8 0, .int .u8 0, .int .u8 0, .int .u8 0, .int .u8 0, .int .u8 0, .int .u8 0, .int .u8 0, .int .u8 0, .int .u8 0, .int .u8 0, .int .u8 0, .int .u8 0, .int .u8 0, .int .u8 0, .int .u8 0, .int .u8 0, .int .u8 0, .int .u8 0, .int .u8 0, .int .u8 0, .int .u8 0, .int .u8 0, .int .u8 0, .int .u8 0, .int .u8 0, .int .u8 0, .int .u8 0, .int .u8 0, .int .u8 0, .int .u8 0, .int .u8 0, .int .u8 0, .int .u8 0, .int .u8 0, .int .u8 0, .int .u8 0, .int .u8 0, .int .u8 0, .int .u8 0, .int .u8 0, .int .u8 0, .int .u8 0, .int .u8 0, .int .u8 0, .int .u8 0, .int .u8 0, .int .u8 0, .int .u8 0, .int .u8 0, .int .u8 0, .int .u8 0, .int .u8 0, .int .u8 0, .int .u8 0, .int .u8 0, .int .u8 0, .int .u8 0, .int .u8 0, .int .u8 0, .int .u8 0, .int .u8 0, .int .u8 0, .int .u8 0, .int .u8 0, .int .u8 0, .int .u8 0, .int .u8 0, .int .u8 0, .int .u8 0, .int .u8 0, .int .u8 0, .int .u8 0, .int .u8 0, .int .u8 0, .int .u8 0, .int .u8 0, .int .u8 0, .int .u8 0, .int .u8 0, .int .u8 0, .int .u8 0, .int .u8 0, .int .u8 0]) := by kernel_rfl
@[go_sem] theorem arr_99 : arr X.P 99 = some (256, 5) := by kernel_rfl
@[go_sem] theorem bldz_99 : bldz X.P 99 = some [.int .u8 0, .int .u8 0, .int .u8 0, .int .u8 0, .int .u8 0, .int .u8 0, .int .u8 0, .int .u8 0, .int .u8 0, .int .u8 0, .int .u8 0, .int .u8 0, .int .u8 0, .int .u8 0, .int .u8 0, .int .u8 0, .int .u8 0, .int .u8 0, .int .u8 0, .int .u8 0, .int .u8 0, .int .u8 0, .int .u8 0, .int .u8 0, .int .u8 0, .int .u8 0, .int .u8 0, .int .u8 0, .int .u8 0, .int .u8 0, .int .u8 0, .int .u8 0, .int .u8 0, .int .u8 0, .int .u8 0, .int .u8 0, .int .u8 0, .int .u8 0, .int .u8 0, .int .u8 0, .int .u8 0, .int .u8 0, .int .u8 0, .int .u8 0, .int .u8 0, .int .u8 0, .int .u8 0, .int .u8 0, .int .u8 0, .int .u8 0, .int .u8 0, .int .u8 0, .int .u8 0, .int .u8 0, .int .u8 0, .int .u8 0, .int .u8 0, .int .u8 0, .int .u8 0, .int .u8 0, .int .u8 0, .int .u8 0, .int .u8 0, .int .u8 0, .int .u8 0, .int .u8 0, .int .u8 0, .int .u8 0, .int .u8 0, .int .u8 0, .int .u8 0, .int .u8 0, .int .u8 0, .int .u8 0, .int .u8 0, .int .u8 0, .int .u8 0, .int .u8 0, .int .u8 0, .int .u8 0, .int .u8 0, .int .u8 0, .int .u8 0, .int .u8 0, .int .u8 0, .int .u8 0, .int .u8 0, .int .u8 0, .int .u8 0, .int .u8 0, .int .u8 0, .int .u8 0, .int .u8 0, .int .u8 0, .int .u8 0, .int .u8 0, .int .u8 0, .int .u8 0, .int .u8 0, .int .u8 0, .int .u8 0, .int .u8 0, .int .u8 0, .int .u8 0, .int .u8 0, .int .u8 0, .int .u8 0, .int .u8 0, .int .u8 0, .int .u8 0, .int .u8 0, .int .u8 0, .int .u8 0, .int .u8 0, .int .u8 0, .int .u8 0, .int .u8 0, .int .u8 0, .int .u8 0, .int .u8 0, .int .u8 0, .int .u8 0, .int .u8 0, .int .u8 0, .int .u8 0, .int .u8 0, .int .u8 0, .int .u8 0, .int .u8 0, .int .u8 0, .int .u8 0, .int .u8 0, .int .u8 0, .int .u8 0, .int .u8 0, .int .u8 0, .int .u8 0, .int .u8 0, .int .u8 0, .int .u8 0, .int .u8 0, .int .u8 0, .int .u8 0, .int .u8 0, .int .u8 0, .int .u8 0, .int .u8 0, .int .u8 0, .int .u8 0, .int .u8 0, .int .u8 0, .int .u8 0, .int .u8 0, .int .u8 0, .int .u8 0, .int .u8 0, .int .u8 0, .int .u8 0, .int .u8 0, .int .u8 0, .int .u8 0, .int .u8 0, .int .u8 0, .int .u8 0, .int .u8 0, .int .u8 0, .int .u8 0, .int .u8 0, .int .u8 0, .int .u8 0, .int .u8 0, .int .u8 0, .int .u8 0, .int .u8 0, .int .u8 0, .int .u8 0, .int .u8 0, .int .u8 0, .int .u8 0, .int .u8 0, .int .u8 0, .int .u8 0, .int .u8 0, .int .u8 0, .int .u8 0, .int .u8 0, .int .u8 0, .int .u8 0, .int .u8 0, .int .u8 0, .int .u8 0, .int .u8 0, .int .u8 0, .int .u8 0, .int .u8 0, .int .u8 0, .int .u8 0, .int .u8 0, .int .u8 0, .int .u8 0, .int .u8 0, .int .u8 0, .int .u8 0, .int .u8 0, .int .u8 0, .int .u8 0, .int .u8 0, .int .u8 0, .int .u8 0, .int .u8 0, .int .u8 0, .int .u8 0, .int .u8 0, .int .u8 0, .int .u8 0, .int .u8 0, .int .u8 0, .int .u8 0, .int .u8 0, .int .u8 0, .int .u8 0, .int .u8 0, .int .u8 0, .int .u8 0, .int .u8 0, .int .u8 0, .int .u8 0, .int .u8 0, .int .u8 0, .int .u8 0, .int .u8 0, .int .u8 0, .int .u8 0, .int .u8 0, .int .u8 0, .int .u8 0, .int .u8 0, .int .u8 0, .int .u8 0, .int .u8 0, .int .u8 0, .int .u8 0, .int .u8 0, .int .u8 0, .int .u8 0, .int .u8 0, .int .u8 0, .int .u8 0, .int .u8 0, .int .u8 0, .int .u8 0, .int .u8 0, .int .u8 0, .int .u8 0, .int .u8 0, .int .u8 0] := by kernel_rfl
@[go_sem] theorem und_99 : X.P.underlying 99 = some (Go.TypeDesc.array 256 5) := by kernel_rfl
@[go_sem] theorem plc_99_0 : places X.P 99 0 = some (0, 1) := by kernel_rfl
@[go_sem] theorem plc_99_1 : places X.P 99 1 = some (1, 1) := by kernel_rfl
@[go_sem] theorem plc_99_2 : places X.P 99 2 = some (2, 1) := by kernel_rfl
@[go_sem] theorem plc_99_3 : places X.P 99 3 = some (3, 1) := by kernel_rfl
@[go_sem] theorem plc_99_4 : places X.P 99 4 = some (4, 1) := by kernel_rfl
@[go_sem] theorem plc_99_5 : places X.P 99 5 = some (5, 1) := by kernel_rfl
@[go_sem] theorem plc_99_6 : places X.P 99 6 = some (6, 1) := by kernel_rfl
@[go_sem] theorem plc_99_7 : places X.P 99 7 = some (7, 1) := by kernel_rfl
@[go_sem] theorem plc_99_8 : places X.P 99 8 = some (8, 1) := by kernel_rfl
@[go_sem] theorem plc_99_9 : places X.P 99 9 = some (9, 1) := by kernel_rfl
@[go_sem] theorem plc_99_10 : places X.P 99 10 = some (10, 1) := by kernel_rfl
@[go_sem] theorem plc_99_11 : places X.P 99 11 = some (11, 1) := by kernel_rfl
@[go_sem] theorem plc_99_12 : places X.P 99 12 = some (12, 1) := by kernel_rfl
@[go_sem] theorem plc_99_13 : places X.P 99 13 = some (13, 1) := by kernel_rfl
@[go_sem] theorem plc_99_14 : places X.P 99 14 = some (14, 1) := by kernel_rfl
@[go_sem] theorem plc_99_15 : places X.P 99 15 = some (15, 1) := by kernel_rfl
@[go_sem] theorem plc_99_16 : places X.P 99 16 = some (16, 1) := by kernel_rfl
@[go_sem] theorem plc_99_17 : places X.P 99 17 = some (17, 1) := by kernel_rfl
@[go_sem] theorem plc_99_18 : places X.P 99 18 = some (18, 1) := by kernel_rfl
@[go_sem] theorem plc_99_19 : places X.P 99 19 = some (19, 1) := by kernel_rfl
@[go_sem] theorem shp_101 : shp X.P 101 = some (true, 2) := by kernel_rfl
@[go_sem] theorem zer_101 : zer X.P 101 = some (.agg [.int .u8 0, .int .u8 0]) := by kernel_rfl
@[go_sem] theorem bldz_101 : bldz X.P 101 = some [.int .u8 0, .int .u8 0] := by kernel_rfl
@[go_sem] theorem fld_101_0 : fldo X.P 101 0 = some (0, 5) := by kernel_rfl
@[go_sem] theorem plc_101_0 : places X.P 101 0 = some (0, 1) := by kernel_rfl
@[go_sem] theorem fld_101_1 : fldo X.P 101 1 = some (1, 5) := by kernel_rfl
@[go_sem] theorem plc_101_1 : places X.P 101 1 = some (1, 1) := by kernel_rfl
@[go_sem] theorem shp_102 : shp X.P 102 = some (true, 32) := by kernel_rfl
@[go_sem] theorem zer_102 : zer X.P 102 = some (.agg [.int .u8 0, .int .u8 0, .int .u8 0, .int .u8 0, .int .u8 0, .int .u8 0, .int .u8 0, .int .u8 0, .int .u8 0, .int .u8 0, .int .u8 0, .int .u8 0, .int .u8 0, .int .u8 0, .int .u8 0, .int .u8 0, .int .u8 0, .int .u8 0, .int .u8 0, .int .u8 0, .int .u8 0, .int .u8 0, .int .u8 0, .int .u8 0, .int .u8 0, .int .u8 0, .int .u8 0, .int .u8 0, .int .u8 0, .int .u8 0, .int .u8 0, .int .u8 0]) := by kernel_rfl
@[go_sem] theorem arr_102 : arr X.P 102 = some (16, 101) := by kernel_rfl
@[go_sem] theorem bldz_102 : bldz X.P 102 = some [.int .u8 0, .int .u8 0, .int .u8 0, .int .u8 0, .int .u8 0, .int .u8 0, .int .u8 0, .int .u8 0, .int .u8 0, .int .u8 0, .int .u8 0, .int .u8 0, .int .u8 0, .int .u8 0, .int .u8 0, .int .u8 0, .int .u8 0, .int .u8 0, .int .u8 0, .int .u8 0, .int .u8 0, .int .u8 0, .int .u8 0, .int .u8 0, .int .u8 0, .int .u8 0, .int .u8 0, .int .u8 0, .int .u8 0, .int .u8 0, .int .u8 0, .int .u8 0] := by kernel_rfl
@[go_sem] theorem und_102 : X.P.underlying 102 = some (Go.TypeDesc.array 16 101) := by kernel_rfl
@[go_sem] theorem plc_102_0 : places X.P 102 0 = some (0, 2) := by kernel_rfl
@[go_sem] theorem plc_102_1 : places X.P 102 1 = some (2, 2) := by kernel_rfl
@[go_sem] theorem plc_102_2 : places X.P 102 2 = some (4, 2) := by kernel_rfl
@[go_sem] theorem plc_102_3 : places X.P 102 3 = some (6, 2) := by kernel_rfl
@[go_sem] theorem plc_102_4 : places X.P 102 4 = some (8, 2) := by kernel_rfl
@[go_sem] theorem plc_102_5 : places X.P 102 5 = some (10, 2) := by kernel_rfl
@[go_sem] theorem plc_102_6 : places X.P 102 6 = some (12, 2) := by kernel_rfl
@[go_sem] theorem plc_102_7 : places X.P 102 7 = some (14, 2) := by kernel_rfl
@[go_sem] theorem plc_102_8 : places X.P 102 8 = some (16, 2) := by kernel_rfl
@[go_sem] theorem plc_102_9 : places X.P 102 9 = some (18, 2) := by kernel_rfl
@[go_sem] theorem plc_102_10 : places X.P 102 10 = some (20, 2) := by kernel_rfl
@[go_sem] theorem plc_102_11 : places X.P 102 11 = some (22, 2) := by kernel_rfl
@[go_sem] theorem plc_102_12 : places X.P 102 12 = some (24, 2) := by kernel_rfl
@[go_sem] theorem plc_102_13 : places X.P 102 13 = some (26, 2) := by kernel_rfl
@[go_sem] theorem plc_102_14 : places X.P 102 14 = some (28, 2) := by kernel_rfl
@[go_sem] theorem plc_102_15 : places X.P 102 15 = some (30, 2) := by kernel_rfl
@[go_sem] theorem plc_102_16 : places X.P 102 16 = some (32, 2) := by kernel_rfl
@[go_sem] theorem plc_102_17 : places X.P 102 17 = some (34, 2) := by kernel_rfl
@[go_sem] theorem plc_102_18 : places X.P 102 18 = some (36, 2) := by kernel_rfl
@[go_sem] theorem plc_102_19 : places X.P 102 19 = some (38, 2) := by kernel_rfl
@[go_sem] theorem shp_105 : shp X.P 105 = some (false, 1) := by kernel_rfl
@[go_sem] theorem zer_105 : zer X.P 105 = some (.int .u32 0) := by kernel_rfl
@[go_sem] theorem und_105 : X.P.underlying 105 = some (Go.TypeDesc.int .u32) := by kernel_rfl
end Go.Proofs.Tryd.E
