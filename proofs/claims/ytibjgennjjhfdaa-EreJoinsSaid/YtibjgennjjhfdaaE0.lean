/- Walks: what the functions compute. -/
import Derived.Test.YtibjgennjjhfdaaMvE
import Derived.Test.YtibjgennjjhfdaaMvD
import Derived.KernelRfl
import Derived.Test.YtibjgennjjhfdaaChecked
set_option linter.unusedVariables false
set_option linter.unusedSimpArgs false
/- The program's types, as the evaluator looks at them. -/
namespace Go.Proofs.Try.E
open Go.Mv

/-- The first place of a byte; -1: there is none. -/
def idxB : List UInt8 → Int → Int
  | [], _ => -1
  | b :: s, c => if (b.toNat : Int) = c then 0 else if idxB s c < 0 then -1 else idxB s c + 1
def idxByteP : Nat → Nat → List MV → Sto → Option (MV × Sto)
  | _, _, [.str s, .int .u8 c], σ => if 0 ≤ c ∧ c < 256 then some (.int .i64 (idxB s c), σ) else none
  | _, _, _, _ => none
/-- The first place of a text; -1: there is none. -/
def idxS : List UInt8 → List UInt8 → Int
  | [], t => if t = [] then 0 else -1
  | b :: s, t => if t <+: (b :: s) then 0 else if idxS s t < 0 then -1 else idxS s t + 1
def indexP : Nat → Nat → List MV → Sto → Option (MV × Sto)
  | _, _, [.str s, .str t], σ => if s.length < 4294967281 then some (.int .i64 (idxS s t), σ) else none
  | _, _, _, _ => none
/-- A row of its own. -/
def cloneP (z b : Nat) : Nat → Nat → List MV → Sto → Option (MV × Sto)
  | lim, d + 1, [.sl _ xs], σ =>
    if xs = [] then some (.sl .no [], σ) else
    if lim ≤ d ∧ okz z xs = true ∧ xs.length * b ≤ 140737488355328 then (xs.mapM datas).map fun ys => (.rs ⟨d, 0, σ.ct d⟩ 0 xs.length z, (σ.set ⟨d, 0, σ.ct d⟩ ys.flatten).tick d) else none
  | _, _, _, _ => none
def u4 : List Sh := [.i .u64, .i .u64, .i .u64, .i .u64]
noncomputable def X : Cfg where
  P := Go.Proofs.Try.prog
  eqT := fun t => if t = 32 then some u4 else if t = 66 then some ([.i .i64, .i .u8] ++ u4 ++ [.i .i64, .i .i64, .i .i64]) else none
  prim := fun f => if f = 52 then some (cloneP 10 96) else if f = 67 then some idxByteP else if f = 91 then some indexP else none
  kp := fun b q => b = 0 ∧ q = fun x => ∃ m t i, x = .cells #[.int .i64 m] t i

@[go_sem] theorem shp_2 : shp X.P 2 = some (false, 1) := by kernel_rfl
@[go_sem] theorem zer_2 : zer X.P 2 = some (.int .i64 0) := by kernel_rfl
@[go_sem] theorem und_2 : X.P.underlying 2 = some (Go.TypeDesc.int .i64) := by kernel_rfl
@[go_sem] theorem shp_3 : shp X.P 3 = some (false, 1) := by kernel_rfl
@[go_sem] theorem zer_3 : zer X.P 3 = some (.int .i64 0) := by kernel_rfl
@[go_sem] theorem und_3 : X.P.underlying 3 = some (Go.TypeDesc.int .i64) := by kernel_rfl
@[go_sem] theorem shp_4 : shp X.P 4 = some (false, 1) := by kernel_rfl
@[go_sem] theorem zer_4 : zer X.P 4 = some (.bool false) := by kernel_rfl
@[go_sem] theorem und_4 : X.P.underlying 4 = some Go.TypeDesc.bool := by kernel_rfl
@[go_sem] theorem shp_5 : shp X.P 5 = some (false, 1) := by kernel_rfl
@[go_sem] theorem zer_5 : zer X.P 5 = some (.int .u8 0) := by kernel_rfl
@[go_sem] theorem und_5 : X.P.underlying 5 = some (Go.TypeDesc.int .u8) := by kernel_rfl
@[go_sem] theorem shp_6 : shp X.P 6 = some (false, 1) := by kernel_rfl
@[go_sem] theorem zer_6 : zer X.P 6 = some (.int .u8 0) := by kernel_rfl
@[go_sem] theorem und_6 : X.P.underlying 6 = some (Go.TypeDesc.int .u8) := by kernel_rfl
@[go_sem] theorem shp_9 : shp X.P 9 = some (false, 1) := by kernel_rfl
@[go_sem] theorem zer_9 : zer X.P 9 = some (.str []) := by kernel_rfl
@[go_sem] theorem und_9 : X.P.underlying 9 = some Go.TypeDesc.string := by kernel_rfl
@[go_sem] theorem shp_23 : shp X.P 23 = some (false, 1) := by kernel_rfl
@[go_sem] theorem zer_23 : zer X.P 23 = some (.int .u64 0) := by kernel_rfl
@[go_sem] theorem und_23 : X.P.underlying 23 = some (Go.TypeDesc.int .u64) := by kernel_rfl
@[go_sem] theorem shp_24 : shp X.P 24 = some (true, 4) := by kernel_rfl
@[go_sem] theorem zer_24 : zer X.P 24 = some (.agg [.int .u64 0, .int .u64 0, .int .u64 0, .int .u64 0]) := by kernel_rfl
@[go_sem] theorem arr_24 : arr X.P 24 = some (4, 23) := by kernel_rfl
@[go_sem] theorem bldz_24 : bldz X.P 24 = some [.int .u64 0, .int .u64 0, .int .u64 0, .int .u64 0] := by kernel_rfl
@[go_sem] theorem und_24 : X.P.underlying 24 = some (Go.TypeDesc.array 4 23) := by kernel_rfl
@[go_sem] theorem shp_25 : shp X.P 25 = some (true, 4) := by kernel_rfl
@[go_sem] theorem zer_25 : zer X.P 25 = some (.agg [.int .u64 0, .int .u64 0, .int .u64 0, .int .u64 0]) := by kernel_rfl
@[go_sem] theorem arr_25 : arr X.P 25 = some (4, 23) := by kernel_rfl
@[go_sem] theorem bldz_25 : bldz X.P 25 = some [.int .u64 0, .int .u64 0, .int .u64 0, .int .u64 0] := by kernel_rfl
@[go_sem] theorem und_25 : X.P.underlying 25 = some (Go.TypeDesc.array 4 23) := by kernel_rfl
@[go_sem] theorem shp_26 : shp X.P 26 = some (false, 1) := by kernel_rfl
@[go_sem] theorem zer_26 : zer X.P 26 = some (.sl .nil []) := by kernel_rfl
@[go_sem] theorem slc_26 : slc X.P 26 = some (28, 10, 96) := by kernel_rfl
@[go_sem] theorem und_26 : X.P.underlying 26 = some (Go.TypeDesc.slice 28) := by kernel_rfl
@[go_sem] theorem shp_28 : shp X.P 28 = some (true, 10) := by kernel_rfl
@[go_sem] theorem zer_28 : zer X.P 28 = some (.agg [.int .i64 0, .int .u8 0, .int .u64 0, .int .u64 0, .int .u64 0, .int .u64 0, .int .i64 0, .int .i64 0, .int .i64 0, .sl .nil []]) := by kernel_rfl
@[go_sem] theorem bldz_28 : bldz X.P 28 = some [.int .i64 0, .int .u8 0, .int .u64 0, .int .u64 0, .int .u64 0, .int .u64 0, .int .i64 0, .int .i64 0, .int .i64 0, .sl .nil []] := by kernel_rfl
@[go_sem] theorem fld_28_0 : fldo X.P 28 0 = some (0, 3) := by kernel_rfl
@[go_sem] theorem plc_28_0 : places X.P 28 0 = some (0, 1) := by kernel_rfl
@[go_sem] theorem fld_28_1 : fldo X.P 28 1 = some (1, 5) := by kernel_rfl
@[go_sem] theorem plc_28_1 : places X.P 28 1 = some (1, 1) := by kernel_rfl
@[go_sem] theorem fld_28_2 : fldo X.P 28 2 = some (2, 25) := by kernel_rfl
@[go_sem] theorem plc_28_2 : places X.P 28 2 = some (2, 4) := by kernel_rfl
@[go_sem] theorem fld_28_3 : fldo X.P 28 3 = some (6, 3) := by kernel_rfl
@[go_sem] theorem plc_28_3 : places X.P 28 3 = some (6, 1) := by kernel_rfl
@[go_sem] theorem fld_28_4 : fldo X.P 28 4 = some (7, 3) := by kernel_rfl
@[go_sem] theorem plc_28_4 : places X.P 28 4 = some (7, 1) := by kernel_rfl
@[go_sem] theorem fld_28_5 : fldo X.P 28 5 = some (8, 3) := by kernel_rfl
@[go_sem] theorem plc_28_5 : places X.P 28 5 = some (8, 1) := by kernel_rfl
@[go_sem] theorem fld_28_6 : fldo X.P 28 6 = some (9, 26) := by kernel_rfl
@[go_sem] theorem plc_28_6 : places X.P 28 6 = some (9, 1) := by kernel_rfl
@[go_sem] theorem shp_29 : shp X.P 29 = some (false, 1) := by kernel_rfl
@[go_sem] theorem zer_29 : zer X.P 29 = some (.int .i64 0) := by kernel_rfl
@[go_sem] theorem und_29 : X.P.underlying 29 = some (Go.TypeDesc.int .i64) := by kernel_rfl
@[go_sem] theorem shp_32 : shp X.P 32 = some (true, 4) := by kernel_rfl
@[go_sem] theorem zer_32 : zer X.P 32 = some (.agg [.int .u64 0, .int .u64 0, .int .u64 0, .int .u64 0]) := by kernel_rfl
@[go_sem] theorem arr_32 : arr X.P 32 = some (4, 23) := by kernel_rfl
@[go_sem] theorem bldz_32 : bldz X.P 32 = some [.int .u64 0, .int .u64 0, .int .u64 0, .int .u64 0] := by kernel_rfl
@[go_sem] theorem und_32 : X.P.underlying 32 = some (Go.TypeDesc.array 4 23) := by kernel_rfl
@[go_sem] theorem shp_33 : shp X.P 33 = some (false, 1) := by kernel_rfl
@[go_sem] theorem zer_33 : zer X.P 33 = some (.sl .nil []) := by kernel_rfl
@[go_sem] theorem slc_33 : slc X.P 33 = some (35, 10, 96) := by kernel_rfl
@[go_sem] theorem und_33 : X.P.underlying 33 = some (Go.TypeDesc.slice 35) := by kernel_rfl
@[go_sem] theorem shp_35 : shp X.P 35 = some (true, 10) := by kernel_rfl
@[go_sem] theorem zer_35 : zer X.P 35 = some (.agg [.int .i64 0, .int .u8 0, .int .u64 0, .int .u64 0, .int .u64 0, .int .u64 0, .int .i64 0, .int .i64 0, .int .i64 0, .sl .nil []]) := by kernel_rfl
@[go_sem] theorem bldz_35 : bldz X.P 35 = some [.int .i64 0, .int .u8 0, .int .u64 0, .int .u64 0, .int .u64 0, .int .u64 0, .int .i64 0, .int .i64 0, .int .i64 0, .sl .nil []] := by kernel_rfl
@[go_sem] theorem fld_35_0 : fldo X.P 35 0 = some (0, 3) := by kernel_rfl
@[go_sem] theorem plc_35_0 : places X.P 35 0 = some (0, 1) := by kernel_rfl
@[go_sem] theorem fld_35_1 : fldo X.P 35 1 = some (1, 5) := by kernel_rfl
@[go_sem] theorem plc_35_1 : places X.P 35 1 = some (1, 1) := by kernel_rfl
@[go_sem] theorem fld_35_2 : fldo X.P 35 2 = some (2, 32) := by kernel_rfl
@[go_sem] theorem plc_35_2 : places X.P 35 2 = some (2, 4) := by kernel_rfl
@[go_sem] theorem fld_35_3 : fldo X.P 35 3 = some (6, 3) := by kernel_rfl
@[go_sem] theorem plc_35_3 : places X.P 35 3 = some (6, 1) := by kernel_rfl
@[go_sem] theorem fld_35_4 : fldo X.P 35 4 = some (7, 3) := by kernel_rfl
@[go_sem] theorem plc_35_4 : places X.P 35 4 = some (7, 1) := by kernel_rfl
@[go_sem] theorem fld_35_5 : fldo X.P 35 5 = some (8, 3) := by kernel_rfl
@[go_sem] theorem plc_35_5 : places X.P 35 5 = some (8, 1) := by kernel_rfl
@[go_sem] theorem fld_35_6 : fldo X.P 35 6 = some (9, 33) := by kernel_rfl
@[go_sem] theorem plc_35_6 : places X.P 35 6 = some (9, 1) := by kernel_rfl
@[go_sem] theorem shp_42 : shp X.P 42 = some (false, 1) := by kernel_rfl
@[go_sem] theorem zer_42 : zer X.P 42 = some (.int .u64 0) := by kernel_rfl
@[go_sem] theorem und_42 : X.P.underlying 42 = some (Go.TypeDesc.int .u64) := by kernel_rfl
@[go_sem] theorem shp_43 : shp X.P 43 = some (false, 1) := by kernel_rfl
@[go_sem] theorem zer_43 : zer X.P 43 = some (.sl .nil []) := by kernel_rfl
@[go_sem] theorem slc_43 : slc X.P 43 = some (5, 1, 1) := by kernel_rfl
@[go_sem] theorem und_43 : X.P.underlying 43 = some (Go.TypeDesc.slice 5) := by kernel_rfl
@[go_sem] theorem shp_46 : shp X.P 46 = some (false, 1) := by kernel_rfl
@[go_sem] theorem zer_46 : zer X.P 46 = some .junk := by kernel_rfl
@[go_sem] theorem shp_50 : shp X.P 50 = some (false, 1) := by kernel_rfl
@[go_sem] theorem zer_50 : zer X.P 50 = some .nilp := by kernel_rfl
@[go_sem] theorem und_50 : X.P.underlying 50 = some (Go.TypeDesc.pointer 52) := by kernel_rfl
@[go_sem] theorem shp_52 : shp X.P 52 = some (true, 4) := by kernel_rfl
@[go_sem] theorem zer_52 : zer X.P 52 = some (.agg [.str [], .int .i64 0, .int .i64 0, .int .i64 0]) := by kernel_rfl
@[go_sem] theorem bldz_52 : bldz X.P 52 = some [.str [], .int .i64 0, .int .i64 0, .int .i64 0] := by kernel_rfl
@[go_sem] theorem fld_52_0 : fldo X.P 52 0 = some (0, 9) := by kernel_rfl
@[go_sem] theorem plc_52_0 : places X.P 52 0 = some (0, 1) := by kernel_rfl
@[go_sem] theorem fld_52_1 : fldo X.P 52 1 = some (1, 3) := by kernel_rfl
@[go_sem] theorem plc_52_1 : places X.P 52 1 = some (1, 1) := by kernel_rfl
@[go_sem] theorem fld_52_2 : fldo X.P 52 2 = some (2, 3) := by kernel_rfl
@[go_sem] theorem plc_52_2 : places X.P 52 2 = some (2, 1) := by kernel_rfl
@[go_sem] theorem fld_52_3 : fldo X.P 52 3 = some (3, 3) := by kernel_rfl
@[go_sem] theorem plc_52_3 : places X.P 52 3 = some (3, 1) := by kernel_rfl
@[go_sem] theorem shp_56 : shp X.P 56 = some (false, 1) := by kernel_rfl
@[go_sem] theorem zer_56 : zer X.P 56 = some .nilp := by kernel_rfl
@[go_sem] theorem und_56 : X.P.underlying 56 = some (Go.TypeDesc.pointer 58) := by kernel_rfl
@[go_sem] theorem shp_58 : shp X.P 58 = some (true, 5) := by kernel_rfl
@[go_sem] theorem zer_58 : zer X.P 58 = some (.agg [.str [], .int .i64 0, .bool false, .int .i64 0, .bool false]) := by kernel_rfl
@[go_sem] theorem bldz_58 : bldz X.P 58 = some [.str [], .int .i64 0, .bool false, .int .i64 0, .bool false] := by kernel_rfl
@[go_sem] theorem fld_58_0 : fldo X.P 58 0 = some (0, 9) := by kernel_rfl
@[go_sem] theorem plc_58_0 : places X.P 58 0 = some (0, 1) := by kernel_rfl
@[go_sem] theorem fld_58_1 : fldo X.P 58 1 = some (1, 3) := by kernel_rfl
@[go_sem] theorem plc_58_1 : places X.P 58 1 = some (1, 1) := by kernel_rfl
@[go_sem] theorem fld_58_2 : fldo X.P 58 2 = some (2, 4) := by kernel_rfl
@[go_sem] theorem plc_58_2 : places X.P 58 2 = some (2, 1) := by kernel_rfl
@[go_sem] theorem fld_58_3 : fldo X.P 58 3 = some (3, 3) := by kernel_rfl
@[go_sem] theorem plc_58_3 : places X.P 58 3 = some (3, 1) := by kernel_rfl
@[go_sem] theorem fld_58_4 : fldo X.P 58 4 = some (4, 4) := by kernel_rfl
@[go_sem] theorem plc_58_4 : places X.P 58 4 = some (4, 1) := by kernel_rfl
@[go_sem] theorem shp_61 : shp X.P 61 = some (false, 1) := by kernel_rfl
@[go_sem] theorem zer_61 : zer X.P 61 = some .nilp := by kernel_rfl
@[go_sem] theorem und_61 : X.P.underlying 61 = some (Go.TypeDesc.pointer 64) := by kernel_rfl
@[go_sem] theorem shp_62 : shp X.P 62 = some (true, 10) := by kernel_rfl
@[go_sem] theorem zer_62 : zer X.P 62 = some (.agg [.bool false, .bool false, .bool false, .bool false, .bool false, .bool false, .bool false, .bool false, .bool false, .bool false]) := by kernel_rfl
@[go_sem] theorem arr_62 : arr X.P 62 = some (10, 4) := by kernel_rfl
@[go_sem] theorem bldz_62 : bldz X.P 62 = some [.bool false, .bool false, .bool false, .bool false, .bool false, .bool false, .bool false, .bool false, .bool false, .bool false] := by kernel_rfl
@[go_sem] theorem und_62 : X.P.underlying 62 = some (Go.TypeDesc.array 10 4) := by kernel_rfl
@[go_sem] theorem shp_64 : shp X.P 64 = some (true, 11) := by kernel_rfl
@[go_sem] theorem zer_64 : zer X.P 64 = some (.agg [.int .i64 0, .bool false, .bool false, .bool false, .bool false, .bool false, .bool false, .bool false, .bool false, .bool false, .bool false]) := by kernel_rfl
@[go_sem] theorem bldz_64 : bldz X.P 64 = some [.int .i64 0, .bool false, .bool false, .bool false, .bool false, .bool false, .bool false, .bool false, .bool false, .bool false, .bool false] := by kernel_rfl
@[go_sem] theorem fld_64_0 : fldo X.P 64 0 = some (0, 3) := by kernel_rfl
@[go_sem] theorem plc_64_0 : places X.P 64 0 = some (0, 1) := by kernel_rfl
@[go_sem] theorem fld_64_1 : fldo X.P 64 1 = some (1, 62) := by kernel_rfl
@[go_sem] theorem plc_64_1 : places X.P 64 1 = some (1, 10) := by kernel_rfl
@[go_sem] theorem shp_66 : shp X.P 66 = some (true, 9) := by kernel_rfl
@[go_sem] theorem zer_66 : zer X.P 66 = some (.agg [.int .i64 0, .int .u8 0, .int .u64 0, .int .u64 0, .int .u64 0, .int .u64 0, .int .i64 0, .int .i64 0, .int .i64 0]) := by kernel_rfl
@[go_sem] theorem bldz_66 : bldz X.P 66 = some [.int .i64 0, .int .u8 0, .int .u64 0, .int .u64 0, .int .u64 0, .int .u64 0, .int .i64 0, .int .i64 0, .int .i64 0] := by kernel_rfl
@[go_sem] theorem fld_66_0 : fldo X.P 66 0 = some (0, 3) := by kernel_rfl
@[go_sem] theorem plc_66_0 : places X.P 66 0 = some (0, 1) := by kernel_rfl
@[go_sem] theorem fld_66_1 : fldo X.P 66 1 = some (1, 5) := by kernel_rfl
@[go_sem] theorem plc_66_1 : places X.P 66 1 = some (1, 1) := by kernel_rfl
@[go_sem] theorem fld_66_2 : fldo X.P 66 2 = some (2, 25) := by kernel_rfl
@[go_sem] theorem plc_66_2 : places X.P 66 2 = some (2, 4) := by kernel_rfl
@[go_sem] theorem fld_66_3 : fldo X.P 66 3 = some (6, 3) := by kernel_rfl
@[go_sem] theorem plc_66_3 : places X.P 66 3 = some (6, 1) := by kernel_rfl
@[go_sem] theorem fld_66_4 : fldo X.P 66 4 = some (7, 3) := by kernel_rfl
@[go_sem] theorem plc_66_4 : places X.P 66 4 = some (7, 1) := by kernel_rfl
@[go_sem] theorem fld_66_5 : fldo X.P 66 5 = some (8, 3) := by kernel_rfl
@[go_sem] theorem plc_66_5 : places X.P 66 5 = some (8, 1) := by kernel_rfl
@[go_sem] theorem shp_83 : shp X.P 83 = some (false, 1) := by kernel_rfl
@[go_sem] theorem zer_83 : zer X.P 83 = some (.sl .nil []) := by kernel_rfl
@[go_sem] theorem slc_83 : slc X.P 83 = some (3, 1, 8) := by kernel_rfl
@[go_sem] theorem und_83 : X.P.underlying 83 = some (Go.TypeDesc.slice 3) := by kernel_rfl
@[go_sem] theorem shp_102 : shp X.P 102 = some (false, 1) := by kernel_rfl
@[go_sem] theorem zer_102 : zer X.P 102 = some .nilp := by kernel_rfl
@[go_sem] theorem und_102 : X.P.underlying 102 = some (Go.TypeDesc.pointer 104) := by kernel_rfl
@[go_sem] theorem shp_104 : shp X.P 104 = some (true, 2) := by kernel_rfl
@[go_sem] theorem zer_104 : zer X.P 104 = some (.agg [.str [], .int .i64 0]) := by kernel_rfl
@[go_sem] theorem bldz_104 : bldz X.P 104 = some [.str [], .int .i64 0] := by kernel_rfl
@[go_sem] theorem fld_104_0 : fldo X.P 104 0 = some (0, 9) := by kernel_rfl
@[go_sem] theorem plc_104_0 : places X.P 104 0 = some (0, 1) := by kernel_rfl
@[go_sem] theorem fld_104_1 : fldo X.P 104 1 = some (1, 3) := by kernel_rfl
@[go_sem] theorem plc_104_1 : places X.P 104 1 = some (1, 1) := by kernel_rfl
@[go_sem] theorem shp_123 : shp X.P 123 = some (false, 1) := by kernel_rfl
@[go_sem] theorem zer_123 : zer X.P 123 = some (.int .u32 0) := by kernel_rfl
@[go_sem] theorem und_123 : X.P.underlying 123 = some (Go.TypeDesc.int .u32) := by kernel_rfl
@[go_sem] theorem plc_24 (i : Nat) : places X.P 24 i = some (i * 1, 1) := by simp only [places, und_24, shp_23, Option.map_some]
@[go_sem] theorem plc_25 (i : Nat) : places X.P 25 i = some (i * 1, 1) := by simp only [places, und_25, shp_23, Option.map_some]
@[go_sem] theorem plc_32 (i : Nat) : places X.P 32 i = some (i * 1, 1) := by simp only [places, und_32, shp_23, Option.map_some]
@[go_sem] theorem plc_62 (i : Nat) : places X.P 62 i = some (i * 1, 1) := by simp only [places, und_62, shp_4, Option.map_some]
end Go.Proofs.Try.E
