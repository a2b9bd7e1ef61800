/- Walks: what the functions compute. -/
import Derived.Test.YtadeobleehcaaaaGreatDoorMvE
import Derived.Test.YtadeobleehcaaaaGreatDoorMvD
import Derived.Test.YtadeobleehcaaaaGreatDoorMvG
import Derived.KernelRfl
import Derived.Test.YtadeobleehcaaaaGreatDoorChecked
set_option linter.unusedVariables false
set_option linter.unusedSimpArgs false
/- The program's types, as the evaluator looks at them. -/
namespace Go.Proofs.Tryz.E
open Go.Mv

def idxB : List UInt8 → Int → Int
 | [], _ => -1
 | b :: s, c => if (b.toNat : Int) = c then 0 else if idxB s c < 0 then -1 else idxB s c + 1
def idxByteP : Nat → Nat → List MV → Sto → Option (MV × Sto)
 | _, _, [.str s, .int .u8 c], σ => if 0 ≤ c ∧ c < 256 then some (.int .i64 (idxB s c), σ) else none
 | _, _, _, _ => none
def idxS : List UInt8 → List UInt8 → Int
 | [], t => if t = [] then 0 else -1
 | b :: s, t => if t <+: (b :: s) then 0 else if idxS s t < 0 then -1 else idxS s t + 1
def indexP : Nat → Nat → List MV → Sto → Option (MV × Sto)
 | _, _, [.str s, .str t], σ => if s.length < 4294967281 then some (.int .i64 (idxS s t), σ) else none
 | _, _, _, _ => none
def trimP : Nat → Nat → List MV → Sto → Option (MV × Sto)
 | _, _, [.str s, .str c], σ => if c = [48, 49, 50, 51, 52, 53, 54, 55, 56, 57] ∨ c = [32, 9] then some (.str (s.dropWhile (c.contains ·)), σ) else none
 | _, _, _, _ => none
def newP : Nat → Nat → List MV → Sto → Option (MV × Sto)
 | lim, d + 1, [.str s], σ => if lim ≤ d then some (.ptr ⟨d, 0, σ.ct d⟩ 0, (σ.set ⟨d, 0, σ.ct d⟩ [.str s, .int .i64 0]).tick d) else none
 | _, _, _, _ => none
def cloneP (z b : Nat) : Nat → Nat → List MV → Sto → Option (MV × Sto)
 | lim, d + 1, [.sl _ xs], σ =>
  if xs = [] then some (.sl .no [], σ) else
  if lim ≤ d ∧ okz z xs = true ∧ xs.length * b ≤ 140737488355328 then (xs.mapM datas).map fun ys => (.rs ⟨d, 0, σ.ct d⟩ 0 xs.length z, (σ.set ⟨d, 0, σ.ct d⟩ ys.flatten).tick d) else none
 | _, _, _, _ => none
def isB (l : Mv.Loc) : Bool := decide (l.t = 1000000 + (121 * 1024 + 2))
def okA (l : Mv.Loc) : MV → Bool
 | .nilp => true
 | .ptr l' 0 => decide (l' = l)
 | _ => false
def wstrP : Nat → Nat → List MV → Sto → Option (MV × Sto)
 | lim, d + 1, [.ptr l 0, .str x], σ =>
  if lim ≤ l.d ∧ l.d ≤ d ∧ isB l = true then
   match σ.ob l with
   | some [p, .sl tk xs] => if okA l p = true then (bapp lim l.d 5 σ tk xs x).map fun r => (.tup [.int .i64 x.length, .junk], r.2.set l [.ptr l 0, r.1]) else none
   | _ => none
  else none
 | _, _, _, _ => none
def wbyteP : Nat → Nat → List MV → Sto → Option (MV × Sto)
 | lim, d + 1, [.ptr l 0, .int .u8 c], σ =>
  if lim ≤ l.d ∧ l.d ≤ d ∧ isB l = true ∧ 0 ≤ c ∧ c < 256 then
   match σ.ob l with
   | some [p, .sl tk xs] => if okA l p = true then (bapp lim l.d 5 σ tk xs [UInt8.ofNat c.toNat]).map fun r => (.junk, r.2.set l [.ptr l 0, r.1]) else none
   | _ => none
  else none
 | _, _, _, _ => none
def inB : List (List MV) → Bool
 | [] => true
 | [.int .u8 n] :: r => decide (0 ≤ n ∧ n < 256) && inB r
 | _ => false
def bstrP : Nat → Nat → List MV → Sto → Option (MV × Sto)
 | lim, d + 1, [.ptr l 0], σ =>
  if lim ≤ l.d ∧ l.d ≤ d then
   match σ.ob l with
   | some [p, .sl .nil []] => some (.str [], σ)
   | some [p, .sl (.byt k c q) xs] =>
    match bytesOf xs with
    | some bs => if lim ≤ k ∧ k ≤ l.d ∧ q = 5 ∧ bs ≠ [] ∧ okz 1 xs = true ∧ (inB xs = true ∧ xs.length ≤ 140737488355328) ∧ σ.ow k c = some (xs.length, 1) then some (.str bs, (σ.own k c none).set l [p, .sl .no xs]) else none
    | none => none
   | _ => none
  else none
 | _, _, _, _ => none
def u4 : List Sh := [.i .u64, .i .u64, .i .u64, .i .u64]
noncomputable def X : Cfg where
 P := Go.Proofs.Tryz.prog
 eqT := fun t => if t = 41 then some u4 else if t = 102 then some ([.i .i64, .i .u8] ++ u4 ++ [.i .i64, .i .i64, .i .i64]) else none
 prim := fun f => if f = 153 then some (cloneP 10 96) else if f = 133 then some idxByteP else if f = 132 then some indexP else if f = 73 then some wstrP else if f = 75 then some wbyteP else if f = 71 then some bstrP else if f = 33 then some trimP else if f = 5 then some newP else none
 kp := fun b q => b = 2 ∧ q = fun x => ∃ m t i, x = .cells #[.int .i64 m] t i
 tg := fun t => decide (t = 121)

@[go_sem] theorem locX (t n : Nat) (o : Option Tmp) : locT X t n o = if t = 121 then (if n < 1024 then 1000000 + (t * 1024 + n) else dstT o) else dstT o := by
 unfold locT X
 simp only [decide_eq_true_eq]
@[go_sem] theorem dstT_some (t : Nat) : dstT (some t) = if t < 1000000 then t else 0 := rfl
@[go_sem] theorem shp_3 : shp X.P 3 = some (false, 1) := by kernel_rfl
@[go_sem] theorem zer_3 : zer X.P 3 = some (.int .i64 0) := by kernel_rfl
@[go_sem] theorem und_3 : X.P.underlying 3 = some (Go.TypeDesc.int .i64) := by kernel_rfl
@[go_sem] theorem shp_4 : shp X.P 4 = some (false, 1) := by kernel_rfl
@[go_sem] theorem zer_4 : zer X.P 4 = some (.bool false) := by kernel_rfl
@[go_sem] theorem und_4 : X.P.underlying 4 = some Go.TypeDesc.bool := by kernel_rfl
@[go_sem] theorem shp_5 : shp X.P 5 = some (false, 1) := by kernel_rfl
@[go_sem] theorem zer_5 : zer X.P 5 = some (.int .u8 0) := by kernel_rfl
@[go_sem] theorem und_5 : X.P.underlying 5 = some (Go.TypeDesc.int .u8) := by kernel_rfl
@[go_sem] theorem shp_9 : shp X.P 9 = some (false, 1) := by kernel_rfl
@[go_sem] theorem zer_9 : zer X.P 9 = some (.str []) := by kernel_rfl
@[go_sem] theorem und_9 : X.P.underlying 9 = some Go.TypeDesc.string := by kernel_rfl
@[go_sem] theorem shp_21 : shp X.P 21 = some (false, 1) := by kernel_rfl
@[go_sem] theorem zer_21 : zer X.P 21 = some (.int .i32 0) := by kernel_rfl
@[go_sem] theorem und_21 : X.P.underlying 21 = some (Go.TypeDesc.int .i32) := by kernel_rfl
@[go_sem] theorem shp_23 : shp X.P 23 = some (false, 1) := by kernel_rfl
@[go_sem] theorem zer_23 : zer X.P 23 = some .nilp := by kernel_rfl
@[go_sem] theorem und_23 : X.P.underlying 23 = some (Go.TypeDesc.pointer 59) := by kernel_rfl
@[go_sem] theorem shp_25 : shp X.P 25 = some (false, 1) := by kernel_rfl
@[go_sem] theorem zer_25 : zer X.P 25 = some .nilp := by kernel_rfl
@[go_sem] theorem und_25 : X.P.underlying 25 = some (Go.TypeDesc.pointer 27) := by kernel_rfl
@[go_sem] theorem shp_27 : shp X.P 27 = some (true, 2) := by kernel_rfl
@[go_sem] theorem zer_27 : zer X.P 27 = some (.agg [.str [], .int .i64 0]) := by kernel_rfl
@[go_sem] theorem bldz_27 : bldz X.P 27 = some [.str [], .int .i64 0] := by kernel_rfl
@[go_sem] theorem fld_27_0 : fldo X.P 27 0 = some (0, 9) := by kernel_rfl
@[go_sem] theorem plc_27_0 : places X.P 27 0 = some (0, 1) := by kernel_rfl
@[go_sem] theorem fld_27_1 : fldo X.P 27 1 = some (1, 3) := by kernel_rfl
@[go_sem] theorem plc_27_1 : places X.P 27 1 = some (1, 1) := by kernel_rfl
@[go_sem] theorem shp_28 : shp X.P 28 = some (false, 1) := by kernel_rfl
@[go_sem] theorem zer_28 : zer X.P 28 = some (.int .u64 0) := by kernel_rfl
@[go_sem] theorem und_28 : X.P.underlying 28 = some (Go.TypeDesc.int .u64) := by kernel_rfl
@[go_sem] theorem shp_30 : shp X.P 30 = some (true, 4) := by kernel_rfl
@[go_sem] theorem zer_30 : zer X.P 30 = some (.agg [.int .u64 0, .int .u64 0, .int .u64 0, .int .u64 0]) := by kernel_rfl
@[go_sem] theorem arr_30 : arr X.P 30 = some (4, 28) := by kernel_rfl
@[go_sem] theorem bldz_30 : bldz X.P 30 = some [.int .u64 0, .int .u64 0, .int .u64 0, .int .u64 0] := by kernel_rfl
@[go_sem] theorem und_30 : X.P.underlying 30 = some (Go.TypeDesc.array 4 28) := by kernel_rfl
@[go_sem] theorem plc_30_0 : places X.P 30 0 = some (0, 1) := by kernel_rfl
@[go_sem] theorem plc_30_1 : places X.P 30 1 = some (1, 1) := by kernel_rfl
@[go_sem] theorem plc_30_2 : places X.P 30 2 = some (2, 1) := by kernel_rfl
@[go_sem] theorem plc_30_3 : places X.P 30 3 = some (3, 1) := by kernel_rfl
@[go_sem] theorem plc_30_4 : places X.P 30 4 = some (4, 1) := by kernel_rfl
@[go_sem] theorem plc_30_5 : places X.P 30 5 = some (5, 1) := by kernel_rfl
@[go_sem] theorem plc_30_6 : places X.P 30 6 = some (6, 1) := by kernel_rfl
@[go_sem] theorem plc_30_7 : places X.P 30 7 = some (7, 1) := by kernel_rfl
@[go_sem] theorem plc_30_8 : places X.P 30 8 = some (8, 1) := by kernel_rfl
@[go_sem] theorem plc_30_9 : places X.P 30 9 = some (9, 1) := by kernel_rfl
@[go_sem] theorem plc_30_10 : places X.P 30 10 = some (10, 1) := by kernel_rfl
@[go_sem] theorem plc_30_11 : places X.P 30 11 = some (11, 1) := by kernel_rfl
@[go_sem] theorem plc_30_12 : places X.P 30 12 = some (12, 1) := by kernel_rfl
@[go_sem] theorem plc_30_13 : places X.P 30 13 = some (13, 1) := by kernel_rfl
@[go_sem] theorem plc_30_14 : places X.P 30 14 = some (14, 1) := by kernel_rfl
@[go_sem] theorem plc_30_15 : places X.P 30 15 = some (15, 1) := by kernel_rfl
@[go_sem] theorem plc_30_16 : places X.P 30 16 = some (16, 1) := by kernel_rfl
@[go_sem] theorem plc_30_17 : places X.P 30 17 = some (17, 1) := by kernel_rfl
@[go_sem] theorem plc_30_18 : places X.P 30 18 = some (18, 1) := by kernel_rfl
@[go_sem] theorem plc_30_19 : places X.P 30 19 = some (19, 1) := by kernel_rfl
@[go_sem] theorem shp_31 : shp X.P 31 = some (false, 1) := by kernel_rfl
@[go_sem] theorem zer_31 : zer X.P 31 = some (.sl .nil []) := by kernel_rfl
@[go_sem] theorem slc_31 : slc X.P 31 = some (33, 10, 96) := by kernel_rfl
@[go_sem] theorem und_31 : X.P.underlying 31 = some (Go.TypeDesc.slice 33) := by kernel_rfl
@[go_sem] theorem shp_33 : shp X.P 33 = some (true, 10) := by kernel_rfl
@[go_sem] theorem zer_33 : zer X.P 33 = some (.agg [.int .i64 0, .int .u8 0, .int .u64 0, .int .u64 0, .int .u64 0, .int .u64 0, .int .i64 0, .int .i64 0, .int .i64 0, .sl .nil []]) := by kernel_rfl
@[go_sem] theorem bldz_33 : bldz X.P 33 = some [.int .i64 0, .int .u8 0, .int .u64 0, .int .u64 0, .int .u64 0, .int .u64 0, .int .i64 0, .int .i64 0, .int .i64 0, .sl .nil []] := by kernel_rfl
@[go_sem] theorem fld_33_0 : fldo X.P 33 0 = some (0, 3) := by kernel_rfl
@[go_sem] theorem plc_33_0 : places X.P 33 0 = some (0, 1) := by kernel_rfl
@[go_sem] theorem fld_33_1 : fldo X.P 33 1 = some (1, 5) := by kernel_rfl
@[go_sem] theorem plc_33_1 : places X.P 33 1 = some (1, 1) := by kernel_rfl
@[go_sem] theorem fld_33_2 : fldo X.P 33 2 = some (2, 30) := by kernel_rfl
@[go_sem] theorem plc_33_2 : places X.P 33 2 = some (2, 4) := by kernel_rfl
@[go_sem] theorem fld_33_3 : fldo X.P 33 3 = some (6, 3) := by kernel_rfl
@[go_sem] theorem plc_33_3 : places X.P 33 3 = some (6, 1) := by kernel_rfl
@[go_sem] theorem fld_33_4 : fldo X.P 33 4 = some (7, 3) := by kernel_rfl
@[go_sem] theorem plc_33_4 : places X.P 33 4 = some (7, 1) := by kernel_rfl
@[go_sem] theorem fld_33_5 : fldo X.P 33 5 = some (8, 3) := by kernel_rfl
@[go_sem] theorem plc_33_5 : places X.P 33 5 = some (8, 1) := by kernel_rfl
@[go_sem] theorem fld_33_6 : fldo X.P 33 6 = some (9, 31) := by kernel_rfl
@[go_sem] theorem plc_33_6 : places X.P 33 6 = some (9, 1) := by kernel_rfl
@[go_sem] theorem shp_35 : shp X.P 35 = some (true, 12) := by kernel_rfl
@[go_sem] theorem zer_35 : zer X.P 35 = some (.agg [.int .i64 0, .int .i64 0, .int .i64 0, .int .u8 0, .int .u64 0, .int .u64 0, .int .u64 0, .int .u64 0, .int .i64 0, .int .i64 0, .int .i64 0, .sl .nil []]) := by kernel_rfl
@[go_sem] theorem bldz_35 : bldz X.P 35 = some [.int .i64 0, .int .i64 0, .int .i64 0, .int .u8 0, .int .u64 0, .int .u64 0, .int .u64 0, .int .u64 0, .int .i64 0, .int .i64 0, .int .i64 0, .sl .nil []] := by kernel_rfl
@[go_sem] theorem fld_35_0 : fldo X.P 35 0 = some (0, 3) := by kernel_rfl
@[go_sem] theorem plc_35_0 : places X.P 35 0 = some (0, 1) := by kernel_rfl
@[go_sem] theorem fld_35_1 : fldo X.P 35 1 = some (1, 3) := by kernel_rfl
@[go_sem] theorem plc_35_1 : places X.P 35 1 = some (1, 1) := by kernel_rfl
@[go_sem] theorem fld_35_2 : fldo X.P 35 2 = some (2, 33) := by kernel_rfl
@[go_sem] theorem plc_35_2 : places X.P 35 2 = some (2, 10) := by kernel_rfl
@[go_sem] theorem shp_37 : shp X.P 37 = some (true, 25) := by kernel_rfl
@[go_sem] theorem zer_37 : zer X.P 37 = some (.agg [.int .i64 0, .int .i64 0, .int .i64 0, .int .u8 0, .int .u64 0, .int .u64 0, .int .u64 0, .int .u64 0, .int .i64 0, .int .i64 0, .int .i64 0, .sl .nil [], .int .i64 0, .int .i64 0, .int .i64 0, .int .u8 0, .int .u64 0, .int .u64 0, .int .u64 0, .int .u64 0, .int .i64 0, .int .i64 0, .int .i64 0, .sl .nil [], .bool false]) := by kernel_rfl
@[go_sem] theorem bldz_37 : bldz X.P 37 = some [.int .i64 0, .int .i64 0, .int .i64 0, .int .u8 0, .int .u64 0, .int .u64 0, .int .u64 0, .int .u64 0, .int .i64 0, .int .i64 0, .int .i64 0, .sl .nil [], .int .i64 0, .int .i64 0, .int .i64 0, .int .u8 0, .int .u64 0, .int .u64 0, .int .u64 0, .int .u64 0, .int .i64 0, .int .i64 0, .int .i64 0, .sl .nil [], .bool false] := by kernel_rfl
@[go_sem] theorem fld_37_0 : fldo X.P 37 0 = some (0, 35) := by kernel_rfl
@[go_sem] theorem plc_37_0 : places X.P 37 0 = some (0, 12) := by kernel_rfl
@[go_sem] theorem fld_37_1 : fldo X.P 37 1 = some (12, 35) := by kernel_rfl
@[go_sem] theorem plc_37_1 : places X.P 37 1 = some (12, 12) := by kernel_rfl
@[go_sem] theorem fld_37_2 : fldo X.P 37 2 = some (24, 4) := by kernel_rfl
@[go_sem] theorem plc_37_2 : places X.P 37 2 = some (24, 1) := by kernel_rfl
@[go_sem] theorem shp_38 : shp X.P 38 = some (false, 1) := by kernel_rfl
@[go_sem] theorem zer_38 : zer X.P 38 = some (.int .i64 0) := by kernel_rfl
@[go_sem] theorem und_38 : X.P.underlying 38 = some (Go.TypeDesc.int .i64) := by kernel_rfl
@[go_sem] theorem shp_41 : shp X.P 41 = some (true, 4) := by kernel_rfl
@[go_sem] theorem zer_41 : zer X.P 41 = some (.agg [.int .u64 0, .int .u64 0, .int .u64 0, .int .u64 0]) := by kernel_rfl
@[go_sem] theorem arr_41 : arr X.P 41 = some (4, 28) := by kernel_rfl
@[go_sem] theorem bldz_41 : bldz X.P 41 = some [.int .u64 0, .int .u64 0, .int .u64 0, .int .u64 0] := by kernel_rfl
@[go_sem] theorem und_41 : X.P.underlying 41 = some (Go.TypeDesc.array 4 28) := by kernel_rfl
@[go_sem] theorem plc_41_0 : places X.P 41 0 = some (0, 1) := by kernel_rfl
@[go_sem] theorem plc_41_1 : places X.P 41 1 = some (1, 1) := by kernel_rfl
@[go_sem] theorem plc_41_2 : places X.P 41 2 = some (2, 1) := by kernel_rfl
@[go_sem] theorem plc_41_3 : places X.P 41 3 = some (3, 1) := by kernel_rfl
@[go_sem] theorem plc_41_4 : places X.P 41 4 = some (4, 1) := by kernel_rfl
@[go_sem] theorem plc_41_5 : places X.P 41 5 = some (5, 1) := by kernel_rfl
@[go_sem] theorem plc_41_6 : places X.P 41 6 = some (6, 1) := by kernel_rfl
@[go_sem] theorem plc_41_7 : places X.P 41 7 = some (7, 1) := by kernel_rfl
@[go_sem] theorem plc_41_8 : places X.P 41 8 = some (8, 1) := by kernel_rfl
@[go_sem] theorem plc_41_9 : places X.P 41 9 = some (9, 1) := by kernel_rfl
@[go_sem] theorem plc_41_10 : places X.P 41 10 = some (10, 1) := by kernel_rfl
@[go_sem] theorem plc_41_11 : places X.P 41 11 = some (11, 1) := by kernel_rfl
@[go_sem] theorem plc_41_12 : places X.P 41 12 = some (12, 1) := by kernel_rfl
@[go_sem] theorem plc_41_13 : places X.P 41 13 = some (13, 1) := by kernel_rfl
@[go_sem] theorem plc_41_14 : places X.P 41 14 = some (14, 1) := by kernel_rfl
@[go_sem] theorem plc_41_15 : places X.P 41 15 = some (15, 1) := by kernel_rfl
@[go_sem] theorem plc_41_16 : places X.P 41 16 = some (16, 1) := by kernel_rfl
@[go_sem] theorem plc_41_17 : places X.P 41 17 = some (17, 1) := by kernel_rfl
@[go_sem] theorem plc_41_18 : places X.P 41 18 = some (18, 1) := by kernel_rfl
@[go_sem] theorem plc_41_19 : places X.P 41 19 = some (19, 1) := by kernel_rfl
@[go_sem] theorem shp_42 : shp X.P 42 = some (false, 1) := by kernel_rfl
@[go_sem] theorem zer_42 : zer X.P 42 = some (.sl .nil []) := by kernel_rfl
@[go_sem] theorem slc_42 : slc X.P 42 = some (44, 10, 96) := by kernel_rfl
@[go_sem] theorem und_42 : X.P.underlying 42 = some (Go.TypeDesc.slice 44) := by kernel_rfl
@[go_sem] theorem shp_44 : shp X.P 44 = some (true, 10) := by kernel_rfl
@[go_sem] theorem zer_44 : zer X.P 44 = some (.agg [.int .i64 0, .int .u8 0, .int .u64 0, .int .u64 0, .int .u64 0, .int .u64 0, .int .i64 0, .int .i64 0, .int .i64 0, .sl .nil []]) := by kernel_rfl
@[go_sem] theorem bldz_44 : bldz X.P 44 = some [.int .i64 0, .int .u8 0, .int .u64 0, .int .u64 0, .int .u64 0, .int .u64 0, .int .i64 0, .int .i64 0, .int .i64 0, .sl .nil []] := by kernel_rfl
@[go_sem] theorem fld_44_0 : fldo X.P 44 0 = some (0, 3) := by kernel_rfl
@[go_sem] theorem plc_44_0 : places X.P 44 0 = some (0, 1) := by kernel_rfl
@[go_sem] theorem fld_44_1 : fldo X.P 44 1 = some (1, 5) := by kernel_rfl
@[go_sem] theorem plc_44_1 : places X.P 44 1 = some (1, 1) := by kernel_rfl
@[go_sem] theorem fld_44_2 : fldo X.P 44 2 = some (2, 41) := by kernel_rfl
@[go_sem] theorem plc_44_2 : places X.P 44 2 = some (2, 4) := by kernel_rfl
@[go_sem] theorem fld_44_3 : fldo X.P 44 3 = some (6, 3) := by kernel_rfl
@[go_sem] theorem plc_44_3 : places X.P 44 3 = some (6, 1) := by kernel_rfl
@[go_sem] theorem fld_44_4 : fldo X.P 44 4 = some (7, 3) := by kernel_rfl
@[go_sem] theorem plc_44_4 : places X.P 44 4 = some (7, 1) := by kernel_rfl
@[go_sem] theorem fld_44_5 : fldo X.P 44 5 = some (8, 3) := by kernel_rfl
@[go_sem] theorem plc_44_5 : places X.P 44 5 = some (8, 1) := by kernel_rfl
@[go_sem] theorem fld_44_6 : fldo X.P 44 6 = some (9, 42) := by kernel_rfl
@[go_sem] theorem plc_44_6 : places X.P 44 6 = some (9, 1) := by kernel_rfl
@[go_sem] theorem shp_46 : shp X.P 46 = some (true, 12) := by kernel_rfl
@[go_sem] theorem zer_46 : zer X.P 46 = some (.agg [.int .i64 0, .int .i64 0, .int .i64 0, .int .u8 0, .int .u64 0, .int .u64 0, .int .u64 0, .int .u64 0, .int .i64 0, .int .i64 0, .int .i64 0, .sl .nil []]) := by kernel_rfl
@[go_sem] theorem bldz_46 : bldz X.P 46 = some [.int .i64 0, .int .i64 0, .int .i64 0, .int .u8 0, .int .u64 0, .int .u64 0, .int .u64 0, .int .u64 0, .int .i64 0, .int .i64 0, .int .i64 0, .sl .nil []] := by kernel_rfl
@[go_sem] theorem fld_46_0 : fldo X.P 46 0 = some (0, 3) := by kernel_rfl
@[go_sem] theorem plc_46_0 : places X.P 46 0 = some (0, 1) := by kernel_rfl
@[go_sem] theorem fld_46_1 : fldo X.P 46 1 = some (1, 3) := by kernel_rfl
@[go_sem] theorem plc_46_1 : places X.P 46 1 = some (1, 1) := by kernel_rfl
@[go_sem] theorem fld_46_2 : fldo X.P 46 2 = some (2, 44) := by kernel_rfl
@[go_sem] theorem plc_46_2 : places X.P 46 2 = some (2, 10) := by kernel_rfl
@[go_sem] theorem shp_48 : shp X.P 48 = some (true, 25) := by kernel_rfl
@[go_sem] theorem zer_48 : zer X.P 48 = some (.agg [.int .i64 0, .int .i64 0, .int .i64 0, .int .u8 0, .int .u64 0, .int .u64 0, .int .u64 0, .int .u64 0, .int .i64 0, .int .i64 0, .int .i64 0, .sl .nil [], .int .i64 0, .int .i64 0, .int .i64 0, .int .u8 0, .int .u64 0, .int .u64 0, .int .u64 0, .int .u64 0, .int .i64 0, .int .i64 0, .int .i64 0, .sl .nil [], .bool false]) := by kernel_rfl
@[go_sem] theorem bldz_48 : bldz X.P 48 = some [.int .i64 0, .int .i64 0, .int .i64 0, .int .u8 0, .int .u64 0, .int .u64 0, .int .u64 0, .int .u64 0, .int .i64 0, .int .i64 0, .int .i64 0, .sl .nil [], .int .i64 0, .int .i64 0, .int .i64 0, .int .u8 0, .int .u64 0, .int .u64 0, .int .u64 0, .int .u64 0, .int .i64 0, .int .i64 0, .int .i64 0, .sl .nil [], .bool false] := by kernel_rfl
@[go_sem] theorem fld_48_0 : fldo X.P 48 0 = some (0, 46) := by kernel_rfl
@[go_sem] theorem plc_48_0 : places X.P 48 0 = some (0, 12) := by kernel_rfl
@[go_sem] theorem fld_48_1 : fldo X.P 48 1 = some (12, 46) := by kernel_rfl
@[go_sem] theorem plc_48_1 : places X.P 48 1 = some (12, 12) := by kernel_rfl
@[go_sem] theorem fld_48_2 : fldo X.P 48 2 = some (24, 4) := by kernel_rfl
@[go_sem] theorem plc_48_2 : places X.P 48 2 = some (24, 1) := by kernel_rfl
@[go_sem] theorem shp_59 : shp X.P 59 = some (true, 2) := by kernel_rfl
@[go_sem] theorem zer_59 : zer X.P 59 = some (.agg [.str [], .int .i64 0]) := by kernel_rfl
@[go_sem] theorem bldz_59 : bldz X.P 59 = some [.str [], .int .i64 0] := by kernel_rfl
@[go_sem] theorem fld_59_0 : fldo X.P 59 0 = some (0, 9) := by kernel_rfl
@[go_sem] theorem plc_59_0 : places X.P 59 0 = some (0, 1) := by kernel_rfl
@[go_sem] theorem fld_59_1 : fldo X.P 59 1 = some (1, 3) := by kernel_rfl
@[go_sem] theorem plc_59_1 : places X.P 59 1 = some (1, 1) := by kernel_rfl
@[go_sem] theorem shp_82 : shp X.P 82 = some (false, 1) := by kernel_rfl
@[go_sem] theorem zer_82 : zer X.P 82 = some .junk := by kernel_rfl
@[go_sem] theorem shp_89 : shp X.P 89 = some (true, 256) := by kernel_rfl
@[go_sem] theorem zer_89 : zer X.P 89 = some (.agg [.bool false, .bool false, .bool false, .bool false, .bool false, .bool false, .bool false, .bool false, .bool false, .bool false, .bool false, .bool false, .bool false, .bool false, .bool false, .bool false, .bool false, .bool false, .bool false, .bool false, .bool false, .bool false, .bool false, .bool false, .bool false, .bool false, .bool false, .bool false, .bool false, .bool false, .bool false, .bool false, .bool false, .bool false, .bool false, .bool false, .bool false, .bool false, .bool false, .bool false, .bool false, .bool false, .bool false, .bool false, .bool false, .bool false, .bool false, .bool false, .bool false, .bool false, .bool false, .bool false, .bool false, .bool false, .bool false, .bool false, .bool false, .bool false, .bool false, .bool false, .bool false, .bool false, .bool false, .bool false, .bool false, .bool false, .bool false, .bool false, .bool false, .bool false, .bool false, .bool false, .bool false, .bool false, .bool false, .bool false, .bool false, .bool false, .bool false, .bool false, .bool false, .bool false, .bool false, .bool false, .bool false, .bool false, .bool false, .bool false, .bool false, .bool false, .bool false, .bool false, .bool false, .bool false, .bool false, .bool false, .bool false, .bool false, .bool false, .bool false, .bool false, .bool false, .bool false, .bool false, .bool false, .bool false, .bool false, .bool false, .bool false, .bool false, .bool false, .bool false, .bool false, .bool false, .bool false, .bool false, .bool false, .bool false, .bool false, .bool false, .bool false, .bool false, .bool false, .bool false, .bool false, .bool false, .bool false, .bool false, .bool false, .bool false, .bool false, .bool false, .bool false, .bool false, .bool false, .bool false, .bool false, .bool false, .bool false, .bool false, .bool false, .bool false, .bool false, .bool false, .bool false, .bool false, .bool false, .bool false, .bool false, .bool false, .bool false, .bool false, .bool false, .bool false, .bool false, .bool false, .bool false, .bool false, .bool false, .bool false, .bool false, .bool false, .bool false, .bool false, .bool false, .bool false, .bool false, .bool false, .bool false, .bool false, .bool false, .bool false, .bool false, .bool false, .bool false, .bool false, .bool false, .bool false, .bool false, .bool false, .bool false, .bool false, .bool false, .bool false, .bool false, .bool false, .bool false, .bool false, .bool false, .bool false, .bool false, .bool false, .bool false, .bool false, .bool false, .bool false, .bool false, .bool false, .bool false, .bool false, .bool false, .bool false, .bool false, .bool false, .bool false, .bool false, .bool false, .bool false, .bool false, .bool false, .bool false, .bool false, .bool false, .bool false, .bool false, .bool false, .bool false, .bool false, .bool false, .bool false, .bool false, .bool false, .bool false, .bool false, .bool false, .bool false, .bool false, .bool false, .bool false, .bool false, .bool false, .bool false, .bool false, .bool false, .bool false, .bool false, .bool false, .bool false, .bool false, .bool false, .bool false, .bool false, .bool false, .bool false, .bool false, .bool false, .bool false, .bool false, .bool false, .bool false, .bool false, .bool false, .bool false, .bool false, .bool false, .bool false]) := by kernel_rfl
@[go_sem] theorem arr_89 : arr X.P 89 = some (256, 4) := by kernel_rfl
@[go_sem] theorem bldz_89 : bldz X.P 89 = some [.bool false, .bool false, .bool false, .bool false, .bool false, .bool false, .bool false, .bool false, .bool false, .bool false, .bool false, .bool false, .bool false, .bool false, .bool false, .bool false, .bool false, .bool false, .bool false, .bool false, .bool false, .bool false, .bool false, .bool false, .bool false, .bool false, .bool false, .bool false, .bool false, .bool false, .bool false, .bool false, .bool false, .bool false, .bool false, .bool false, .bool false, .bool false, .bool false, .bool false, .bool false, .bool false, .bool false, .bool false, .bool false, .bool false, .bool false, .bool false, .bool false, .bool false, .bool false, .bool false, .bool false, .bool false, .bool false, .bool false, .bool false, .bool false, .bool false, .bool false, .bool false, .bool false, .bool false, .bool false, .bool false, .bool false, .bool false, .bool false, .bool false, .bool false, .bool false, .bool false, .bool false, .bool false, .bool false, .bool false, .bool false, .bool false, .bool false, .bool false, .bool false, .bool false, .bool false, .bool false, .bool false, .bool false, .bool false, .bool false, .bool false, .bool false, .bool false, .bool false, .bool false, .bool false, .bool false, .bool false, .bool false, .bool false, .bool false, .bool false, .bool false, .bool false, .bool false, .bool false, .bool false, .bool false, .bool false, .bool false, .bool false, .bool false, .bool false, .bool false, .bool false, .bool false, .bool false, .bool false, .bool false, .bool false, .bool false, .bool false, .bool false, .bool false, .bool false, .bool false, .bool false, .bool false, .bool false, .bool false, .bool false, .bool false, .bool false, .bool false, .bool false, .bool false, .bool false, .bool false, .bool false, .bool false, .bool false, .bool false, .bool false, .bool false, .bool false, .bool false, .bool false, .bool false, .bool false, .bool false, .bool false, .bool false, .bool false, .bool false, .bool false, .bool false, .bool false, .bool false, .bool false, .bool false, .bool false, .bool false, .bool false, .bool false, .bool false, .bool false, .bool false, .bool false, .bool false, .bool false, .bool false, .bool false, .bool false, .bool false, .bool false, .bool false, .bool false, .bool false, .bool false, .bool false, .bool false, .bool false, .bool false, .bool false, .bool false, .bool false, .bool false, .bool false, .bool false, .bool false, .bool false, .bool false, .bool false, .bool false, .bool false, .bool false, .bool false, .bool false, .bool false, .bool false, .bool false, .bool false, .bool false, .bool false, .bool false, .bool false, .bool false, .bool false, .bool false, .bool false, .bool false, .bool false, .bool false, .bool false, .bool false, .bool false, .bool false, .bool false, .bool false, .bool false, .bool false, .bool false, .bool false, .bool false, .bool false, .bool false, .bool false, .bool false, .bool false, .bool false, .bool false, .bool false, .bool false, .bool false, .bool false, .bool false, .bool false, .bool false, .bool false, .bool false, .bool false, .bool false, .bool false, .bool false, .bool false, .bool false, .bool false, .bool false, .bool false, .bool false, .bool false, .bool false, .bool false, .bool false, .bool false, .bool false, .bool false, .bool false] := by kernel_rfl
@[go_sem] theorem und_89 : X.P.underlying 89 = some (Go.TypeDesc.array 256 4) := by kernel_rfl
@[go_sem] theorem plc_89_0 : places X.P 89 0 = some (0, 1) := by kernel_rfl
@[go_sem] theorem plc_89_1 : places X.P 89 1 = some (1, 1) := by kernel_rfl
@[go_sem] theorem plc_89_2 : places X.P 89 2 = some (2, 1) := by kernel_rfl
@[go_sem] theorem plc_89_3 : places X.P 89 3 = some (3, 1) := by kernel_rfl
@[go_sem] theorem plc_89_4 : places X.P 89 4 = some (4, 1) := by kernel_rfl
@[go_sem] theorem plc_89_5 : places X.P 89 5 = some (5, 1) := by kernel_rfl
@[go_sem] theorem plc_89_6 : places X.P 89 6 = some (6, 1) := by kernel_rfl
@[go_sem] theorem plc_89_7 : places X.P 89 7 = some (7, 1) := by kernel_rfl
@[go_sem] theorem plc_89_8 : places X.P 89 8 = some (8, 1) := by kernel_rfl
@[go_sem] theorem plc_89_9 : places X.P 89 9 = some (9, 1) := by kernel_rfl
@[go_sem] theorem plc_89_10 : places X.P 89 10 = some (10, 1) := by kernel_rfl
@[go_sem] theorem plc_89_11 : places X.P 89 11 = some (11, 1) := by kernel_rfl
@[go_sem] theorem plc_89_12 : places X.P 89 12 = some (12, 1) := by kernel_rfl
@[go_sem] theorem plc_89_13 : places X.P 89 13 = some (13, 1) := by kernel_rfl
@[go_sem] theorem plc_89_14 : places X.P 89 14 = some (14, 1) := by kernel_rfl
@[go_sem] theorem plc_89_15 : places X.P 89 15 = some (15, 1) := by kernel_rfl
@[go_sem] theorem plc_89_16 : places X.P 89 16 = some (16, 1) := by kernel_rfl
@[go_sem] theorem plc_89_17 : places X.P 89 17 = some (17, 1) := by kernel_rfl
@[go_sem] theorem plc_89_18 : places X.P 89 18 = some (18, 1) := by kernel_rfl
@[go_sem] theorem plc_89_19 : places X.P 89 19 = some (19, 1) := by kernel_rfl
@[go_sem] theorem shp_93 : shp X.P 93 = some (false, 1) := by kernel_rfl
@[go_sem] theorem zer_93 : zer X.P 93 = some .nilp := by kernel_rfl
@[go_sem] theorem und_93 : X.P.underlying 93 = some (Go.TypeDesc.pointer 89) := by kernel_rfl
@[go_sem] theorem shp_97 : shp X.P 97 = some (false, 1) := by kernel_rfl
@[go_sem] theorem zer_97 : zer X.P 97 = some .nilp := by kernel_rfl
@[go_sem] theorem und_97 : X.P.underlying 97 = some (Go.TypeDesc.pointer 100) := by kernel_rfl
@[go_sem] theorem shp_98 : shp X.P 98 = some (true, 10) := by kernel_rfl
@[go_sem] theorem zer_98 : zer X.P 98 = some (.agg [.bool false, .bool false, .bool false, .bool false, .bool false, .bool false, .bool false, .bool false, .bool false, .bool false]) := by kernel_rfl
@[go_sem] theorem arr_98 : arr X.P 98 = some (10, 4) := by kernel_rfl
@[go_sem] theorem bldz_98 : bldz X.P 98 = some [.bool false, .bool false, .bool false, .bool false, .bool false, .bool false, .bool false, .bool false, .bool false, .bool false] := by kernel_rfl
@[go_sem] theorem und_98 : X.P.underlying 98 = some (Go.TypeDesc.array 10 4) := by kernel_rfl
@[go_sem] theorem plc_98_0 : places X.P 98 0 = some (0, 1) := by kernel_rfl
@[go_sem] theorem plc_98_1 : places X.P 98 1 = some (1, 1) := by kernel_rfl
@[go_sem] theorem plc_98_2 : places X.P 98 2 = some (2, 1) := by kernel_rfl
@[go_sem] theorem plc_98_3 : places X.P 98 3 = some (3, 1) := by kernel_rfl
@[go_sem] theorem plc_98_4 : places X.P 98 4 = some (4, 1) := by kernel_rfl
@[go_sem] theorem plc_98_5 : places X.P 98 5 = some (5, 1) := by kernel_rfl
@[go_sem] theorem plc_98_6 : places X.P 98 6 = some (6, 1) := by kernel_rfl
@[go_sem] theorem plc_98_7 : places X.P 98 7 = some (7, 1) := by kernel_rfl
@[go_sem] theorem plc_98_8 : places X.P 98 8 = some (8, 1) := by kernel_rfl
@[go_sem] theorem plc_98_9 : places X.P 98 9 = some (9, 1) := by kernel_rfl
@[go_sem] theorem plc_98_10 : places X.P 98 10 = some (10, 1) := by kernel_rfl
@[go_sem] theorem plc_98_11 : places X.P 98 11 = some (11, 1) := by kernel_rfl
@[go_sem] theorem plc_98_12 : places X.P 98 12 = some (12, 1) := by kernel_rfl
@[go_sem] theorem plc_98_13 : places X.P 98 13 = some (13, 1) := by kernel_rfl
@[go_sem] theorem plc_98_14 : places X.P 98 14 = some (14, 1) := by kernel_rfl
@[go_sem] theorem plc_98_15 : places X.P 98 15 = some (15, 1) := by kernel_rfl
@[go_sem] theorem plc_98_16 : places X.P 98 16 = some (16, 1) := by kernel_rfl
@[go_sem] theorem plc_98_17 : places X.P 98 17 = some (17, 1) := by kernel_rfl
@[go_sem] theorem plc_98_18 : places X.P 98 18 = some (18, 1) := by kernel_rfl
@[go_sem] theorem plc_98_19 : places X.P 98 19 = some (19, 1) := by kernel_rfl
@[go_sem] theorem shp_100 : shp X.P 100 = some (true, 11) := by kernel_rfl
@[go_sem] theorem zer_100 : zer X.P 100 = some (.agg [.int .i64 0, .bool false, .bool false, .bool false, .bool false, .bool false, .bool false, .bool false, .bool false, .bool false, .bool false]) := by kernel_rfl
@[go_sem] theorem bldz_100 : bldz X.P 100 = some [.int .i64 0, .bool false, .bool false, .bool false, .bool false, .bool false, .bool false, .bool false, .bool false, .bool false, .bool false] := by kernel_rfl
@[go_sem] theorem fld_100_0 : fldo X.P 100 0 = some (0, 3) := by kernel_rfl
@[go_sem] theorem plc_100_0 : places X.P 100 0 = some (0, 1) := by kernel_rfl
@[go_sem] theorem fld_100_1 : fldo X.P 100 1 = some (1, 98) := by kernel_rfl
@[go_sem] theorem plc_100_1 : places X.P 100 1 = some (1, 10) := by kernel_rfl
@[go_sem] theorem shp_102 : shp X.P 102 = some (true, 9) := by kernel_rfl
@[go_sem] theorem zer_102 : zer X.P 102 = some (.agg [.int .i64 0, .int .u8 0, .int .u64 0, .int .u64 0, .int .u64 0, .int .u64 0, .int .i64 0, .int .i64 0, .int .i64 0]) := by kernel_rfl
@[go_sem] theorem bldz_102 : bldz X.P 102 = some [.int .i64 0, .int .u8 0, .int .u64 0, .int .u64 0, .int .u64 0, .int .u64 0, .int .i64 0, .int .i64 0, .int .i64 0] := by kernel_rfl
@[go_sem] theorem fld_102_0 : fldo X.P 102 0 = some (0, 3) := by kernel_rfl
@[go_sem] theorem plc_102_0 : places X.P 102 0 = some (0, 1) := by kernel_rfl
@[go_sem] theorem fld_102_1 : fldo X.P 102 1 = some (1, 5) := by kernel_rfl
@[go_sem] theorem plc_102_1 : places X.P 102 1 = some (1, 1) := by kernel_rfl
@[go_sem] theorem fld_102_2 : fldo X.P 102 2 = some (2, 30) := by kernel_rfl
@[go_sem] theorem plc_102_2 : places X.P 102 2 = some (2, 4) := by kernel_rfl
@[go_sem] theorem fld_102_3 : fldo X.P 102 3 = some (6, 3) := by kernel_rfl
@[go_sem] theorem plc_102_3 : places X.P 102 3 = some (6, 1) := by kernel_rfl
@[go_sem] theorem fld_102_4 : fldo X.P 102 4 = some (7, 3) := by kernel_rfl
@[go_sem] theorem plc_102_4 : places X.P 102 4 = some (7, 1) := by kernel_rfl
@[go_sem] theorem fld_102_5 : fldo X.P 102 5 = some (8, 3) := by kernel_rfl
@[go_sem] theorem plc_102_5 : places X.P 102 5 = some (8, 1) := by kernel_rfl
@[go_sem] theorem shp_114 : shp X.P 114 = some (false, 1) := by kernel_rfl
@[go_sem] theorem zer_114 : zer X.P 114 = some .nilp := by kernel_rfl
@[go_sem] theorem und_114 : X.P.underlying 114 = some (Go.TypeDesc.pointer 116) := by kernel_rfl
@[go_sem] theorem shp_116 : shp X.P 116 = some (true, 5) := by kernel_rfl
@[go_sem] theorem zer_116 : zer X.P 116 = some (.agg [.str [], .int .i64 0, .bool false, .int .i64 0, .bool false]) := by kernel_rfl
@[go_sem] theorem bldz_116 : bldz X.P 116 = some [.str [], .int .i64 0, .bool false, .int .i64 0, .bool false] := by kernel_rfl
@[go_sem] theorem fld_116_0 : fldo X.P 116 0 = some (0, 9) := by kernel_rfl
@[go_sem] theorem plc_116_0 : places X.P 116 0 = some (0, 1) := by kernel_rfl
@[go_sem] theorem fld_116_1 : fldo X.P 116 1 = some (1, 3) := by kernel_rfl
@[go_sem] theorem plc_116_1 : places X.P 116 1 = some (1, 1) := by kernel_rfl
@[go_sem] theorem fld_116_2 : fldo X.P 116 2 = some (2, 4) := by kernel_rfl
@[go_sem] theorem plc_116_2 : places X.P 116 2 = some (2, 1) := by kernel_rfl
@[go_sem] theorem fld_116_3 : fldo X.P 116 3 = some (3, 3) := by kernel_rfl
@[go_sem] theorem plc_116_3 : places X.P 116 3 = some (3, 1) := by kernel_rfl
@[go_sem] theorem fld_116_4 : fldo X.P 116 4 = some (4, 4) := by kernel_rfl
@[go_sem] theorem plc_116_4 : places X.P 116 4 = some (4, 1) := by kernel_rfl
@[go_sem] theorem shp_118 : shp X.P 118 = some (false, 1) := by kernel_rfl
@[go_sem] theorem zer_118 : zer X.P 118 = some .nilp := by kernel_rfl
@[go_sem] theorem und_118 : X.P.underlying 118 = some (Go.TypeDesc.pointer 121) := by kernel_rfl
@[go_sem] theorem shp_119 : shp X.P 119 = some (false, 1) := by kernel_rfl
@[go_sem] theorem zer_119 : zer X.P 119 = some (.sl .nil []) := by kernel_rfl
@[go_sem] theorem slc_119 : slc X.P 119 = some (5, 1, 1) := by kernel_rfl
@[go_sem] theorem und_119 : X.P.underlying 119 = some (Go.TypeDesc.slice 5) := by kernel_rfl
@[go_sem] theorem shp_121 : shp X.P 121 = some (true, 2) := by kernel_rfl
@[go_sem] theorem zer_121 : zer X.P 121 = some (.agg [.nilp, .sl .nil []]) := by kernel_rfl
@[go_sem] theorem bldz_121 : bldz X.P 121 = some [.nilp, .sl .nil []] := by kernel_rfl
@[go_sem] theorem fld_121_0 : fldo X.P 121 0 = some (0, 118) := by kernel_rfl
@[go_sem] theorem plc_121_0 : places X.P 121 0 = some (0, 1) := by kernel_rfl
@[go_sem] theorem fld_121_1 : fldo X.P 121 1 = some (1, 119) := by kernel_rfl
@[go_sem] theorem plc_121_1 : places X.P 121 1 = some (1, 1) := by kernel_rfl
@[go_sem] theorem shp_129 : shp X.P 129 = some (false, 1) := by kernel_rfl
@[go_sem] theorem zer_129 : zer X.P 129 = some .nilp := by kernel_rfl
@[go_sem] theorem und_129 : X.P.underlying 129 = some (Go.TypeDesc.pointer 131) := by kernel_rfl
@[go_sem] theorem shp_131 : shp X.P 131 = some (true, 4) := by kernel_rfl
@[go_sem] theorem zer_131 : zer X.P 131 = some (.agg [.str [], .int .i64 0, .int .i64 0, .bool false]) := by kernel_rfl
@[go_sem] theorem bldz_131 : bldz X.P 131 = some [.str [], .int .i64 0, .int .i64 0, .bool false] := by kernel_rfl
@[go_sem] theorem fld_131_0 : fldo X.P 131 0 = some (0, 9) := by kernel_rfl
@[go_sem] theorem plc_131_0 : places X.P 131 0 = some (0, 1) := by kernel_rfl
@[go_sem] theorem fld_131_1 : fldo X.P 131 1 = some (1, 3) := by kernel_rfl
@[go_sem] theorem plc_131_1 : places X.P 131 1 = some (1, 1) := by kernel_rfl
@[go_sem] theorem fld_131_2 : fldo X.P 131 2 = some (2, 3) := by kernel_rfl
@[go_sem] theorem plc_131_2 : places X.P 131 2 = some (2, 1) := by kernel_rfl
@[go_sem] theorem fld_131_3 : fldo X.P 131 3 = some (3, 4) := by kernel_rfl
@[go_sem] theorem plc_131_3 : places X.P 131 3 = some (3, 1) := by kernel_rfl
@[go_sem] theorem shp_133 : shp X.P 133 = some (false, 1) := by kernel_rfl
@[go_sem] theorem zer_133 : zer X.P 133 = some .nilp := by kernel_rfl
@[go_sem] theorem und_133 : X.P.underlying 133 = some (Go.TypeDesc.pointer 135) := by kernel_rfl
@[go_sem] theorem shp_135 : shp X.P 135 = some (true, 4) := by kernel_rfl
@[go_sem] theorem zer_135 : zer X.P 135 = some (.agg [.str [], .int .i64 0, .int .i64 0, .int .i64 0]) := by kernel_rfl
@[go_sem] theorem bldz_135 : bldz X.P 135 = some [.str [], .int .i64 0, .int .i64 0, .int .i64 0] := by kernel_rfl
@[go_sem] theorem fld_135_0 : fldo X.P 135 0 = some (0, 9) := by kernel_rfl
@[go_sem] theorem plc_135_0 : places X.P 135 0 = some (0, 1) := by kernel_rfl
@[go_sem] theorem fld_135_1 : fldo X.P 135 1 = some (1, 3) := by kernel_rfl
@[go_sem] theorem plc_135_1 : places X.P 135 1 = some (1, 1) := by kernel_rfl
@[go_sem] theorem fld_135_2 : fldo X.P 135 2 = some (2, 3) := by kernel_rfl
@[go_sem] theorem plc_135_2 : places X.P 135 2 = some (2, 1) := by kernel_rfl
@[go_sem] theorem fld_135_3 : fldo X.P 135 3 = some (3, 3) := by kernel_rfl
@[go_sem] theorem plc_135_3 : places X.P 135 3 = some (3, 1) := by kernel_rfl
@[go_sem] theorem shp_145 : shp X.P 145 = some (false, 1) := by kernel_rfl
@[go_sem] theorem zer_145 : zer X.P 145 = some (.sl .nil []) := by kernel_rfl
@[go_sem] theorem slc_145 : slc X.P 145 = some (3, 1, 8) := by kernel_rfl
@[go_sem] theorem und_145 : X.P.underlying 145 = some (Go.TypeDesc.slice 3) := by kernel_rfl
@[go_sem] theorem shp_155 : shp X.P 155 = some (false, 1) := by kernel_rfl
@[go_sem] theorem zer_155 : zer X.P 155 = some (.int .u64 0) := by kernel_rfl
@[go_sem] theorem und_155 : X.P.underlying 155 = some (Go.TypeDesc.int .u64) := by kernel_rfl
@[go_sem] theorem shp_190 : shp X.P 190 = some (false, 1) := by kernel_rfl
@[go_sem] theorem zer_190 : zer X.P 190 = some .nilp := by kernel_rfl
@[go_sem] theorem und_190 : X.P.underlying 190 = some (Go.TypeDesc.pointer 192) := by kernel_rfl
@[go_sem] theorem shp_192 : shp X.P 192 = some (true, 2) := by kernel_rfl
@[go_sem] theorem zer_192 : zer X.P 192 = some (.agg [.str [], .int .i64 0]) := by kernel_rfl
@[go_sem] theorem bldz_192 : bldz X.P 192 = some [.str [], .int .i64 0] := by kernel_rfl
@[go_sem] theorem fld_192_0 : fldo X.P 192 0 = some (0, 9) := by kernel_rfl
@[go_sem] theorem plc_192_0 : places X.P 192 0 = some (0, 1) := by kernel_rfl
@[go_sem] theorem fld_192_1 : fldo X.P 192 1 = some (1, 3) := by kernel_rfl
@[go_sem] theorem plc_192_1 : places X.P 192 1 = some (1, 1) := by kernel_rfl
end Go.Proofs.Tryz.E
