/- Walks: what the functions compute. -/
import Derived.Test.YthmimamdpcmnmaaGreatDoorMvE
import Derived.Test.YthmimamdpcmnmaaGreatDoorMvD
import Derived.Test.YthmimamdpcmnmaaGreatDoorMvG
import Derived.KernelRfl
import Derived.Lib.ItoaNum
import Derived.Test.YthmimamdpcmnmaaGreatDoorChecked
set_option linter.unusedVariables false
set_option linter.unusedSimpArgs false
/- The program's types, as the evaluator looks at them. -/
namespace Go.Proofs.Tryz.E
open Go.Mv

/-- The first place of a byte; -1: there is none. -/
def idxB : List UInt8 → Int → Int
  | [], _ => -1
  | b :: s, c => if (b.toNat : Int) = c then 0 else if idxB s c < 0 then -1 else idxB s c + 1
def idxByteP : Nat → Nat → List MV → Sto → Option (MV × Sto)
  | _, _, [.str s, .int .u8 c], σ => if 0 ≤ c ∧ c < 256 then some (.int .i64 (idxB s c), σ) else none
  | _, _, _, _ => none
/-- The first place of a text; -1: there is none. -/
def idxS : List UInt8 → List UInt8 → Int
  | [], t => if t = [] then 0 else -1
  | b :: s, t => if t <+: (b :: s) then 0 else if idxS s t < 0 then -1 else idxS s t + 1
def indexP : Nat → Nat → List MV → Sto → Option (MV × Sto)
  | _, _, [.str s, .str t], σ => if s.length < 4294967281 then some (.int .i64 (idxS s t), σ) else none
  | _, _, _, _ => none
/-- A row of its own. -/
def cloneP (z b : Nat) : Nat → Nat → List MV → Sto → Option (MV × Sto)
  | lim, d + 1, [.sl _ xs], σ =>
    if xs = [] then some (.sl .no [], σ) else
    if lim ≤ d ∧ okz z xs = true ∧ xs.length * b ≤ 140737488355328 then (xs.mapM datas).map fun ys => (.rs ⟨d, 0, σ.ct d⟩ 0 xs.length z, (σ.set ⟨d, 0, σ.ct d⟩ ys.flatten).tick d) else none
  | _, _, _, _ => none
/-- A Builder's place; its own address. -/
def isB (l : Mv.Loc) : Bool := decide (l.t = 1000000 + (66 * 1024 + 2))
def okA (l : Mv.Loc) : MV → Bool
  | .nilp => true
  | .ptr l' 0 => decide (l' = l)
  | _ => false
def wstrP : Nat → Nat → List MV → Sto → Option (MV × Sto)
  | lim, d + 1, [.ptr l 0, .str x], σ =>
    if lim ≤ l.d ∧ l.d ≤ d ∧ isB l = true then
      match σ.ob l with
      | some [p, .sl tk xs] => if okA l p = true then (bapp lim l.d 5 σ tk xs x).map fun r => (.tup [.int .i64 x.length, .junk], r.2.set l [.ptr l 0, r.1]) else none
      | _ => none
    else none
  | _, _, _, _ => none
def wbyteP : Nat → Nat → List MV → Sto → Option (MV × Sto)
  | lim, d + 1, [.ptr l 0, .int .u8 c], σ =>
    if lim ≤ l.d ∧ l.d ≤ d ∧ isB l = true ∧ 0 ≤ c ∧ c < 256 then
      match σ.ob l with
      | some [p, .sl tk xs] => if okA l p = true then (bapp lim l.d 5 σ tk xs [UInt8.ofNat c.toNat]).map fun r => (.junk, r.2.set l [.ptr l 0, r.1]) else none
      | _ => none
    else none
  | _, _, _, _ => none
/-- Cells that are bytes. -/
def inB : List (List MV) → Bool
  | [] => true
  | [.int .u8 n] :: r => decide (0 ≤ n ∧ n < 256) && inB r
  | _ => false
def bstrP : Nat → Nat → List MV → Sto → Option (MV × Sto)
  | lim, d + 1, [.ptr l 0], σ =>
    if lim ≤ l.d ∧ l.d ≤ d then
      match σ.ob l with
      | some [p, .sl .nil []] => some (.str [], σ)
      | some [p, .sl (.byt k c q) xs] =>
        match bytesOf xs with
        | some bs => if lim ≤ k ∧ k ≤ l.d ∧ q = 5 ∧ bs ≠ [] ∧ okz 1 xs = true ∧ (inB xs = true ∧ xs.length ≤ 140737488355328) ∧ σ.ow k c = some (xs.length, 1) then some (.str bs, (σ.own k c none).set l [p, .sl .no xs]) else none
        | none => none
      | _ => none
    else none
  | _, _, _, _ => none
def itoaP : Nat → Nat → List MV → Sto → Option (MV × Sto)
  | _, _, [.int .i64 n], σ => if 0 ≤ n ∧ n ≤ 1000000 then some (.str (Lib.itoa n), σ) else none
  | _, _, _, _ => none
def u4 : List Sh := [.i .u64, .i .u64, .i .u64, .i .u64]
noncomputable def X : Cfg where
  P := Go.Proofs.Tryz.prog
  eqT := fun t => if t = 24 then some u4 else if t = 76 then some ([.i .i64, .i .u8] ++ u4 ++ [.i .i64, .i .i64, .i .i64]) else none
  prim := fun f => if f = 96 then some (cloneP 10 96) else if f = 86 then some idxByteP else if f = 121 then some indexP else if f = 39 then some wstrP else if f = 41 then some wbyteP else if f = 28 then some bstrP else if f = 43 then some itoaP else none
  kp := fun b q => (b = 0 ∧ q = fun x => ∃ m t i, x = .cells #[.int .i64 m] t i) ∨ (b = 1 ∧ q = fun x => ∃ t i, x = .cells (Lib.pow10Tab.map fun z => Value.int .u64 z).toArray t i)
  tg := fun t => decide (t = 66)

@[go_sem] theorem locX (t n : Nat) (o : Option Tmp) : locT X t n o = if t = 66 then (if n < 1024 then 1000000 + (t * 1024 + n) else dstT o) else dstT o := by
  unfold locT X
  simp only [decide_eq_true_eq]
@[go_sem] theorem dstT_some (t : Nat) : dstT (some t) = if t < 1000000 then t else 0 := rfl
@[go_sem] theorem shp_3 : shp X.P 3 = some (false, 1) := by kernel_rfl
@[go_sem] theorem zer_3 : zer X.P 3 = some (.int .i64 0) := by kernel_rfl
@[go_sem] theorem und_3 : X.P.underlying 3 = some (Go.TypeDesc.int .i64) := by kernel_rfl
@[go_sem] theorem shp_4 : shp X.P 4 = some (false, 1) := by kernel_rfl
@[go_sem] theorem zer_4 : zer X.P 4 = some (.bool false) := by kernel_rfl
@[go_sem] theorem und_4 : X.P.underlying 4 = some Go.TypeDesc.bool := by kernel_rfl
@[go_sem] theorem shp_5 : shp X.P 5 = some (false, 1) := by kernel_rfl
@[go_sem] theorem zer_5 : zer X.P 5 = some (.int .u8 0) := by kernel_rfl
@[go_sem] theorem und_5 : X.P.underlying 5 = some (Go.TypeDesc.int .u8) := by kernel_rfl
@[go_sem] theorem shp_9 : shp X.P 9 = some (false, 1) := by kernel_rfl
@[go_sem] theorem zer_9 : zer X.P 9 = some (.str []) := by kernel_rfl
@[go_sem] theorem und_9 : X.P.underlying 9 = some Go.TypeDesc.string := by kernel_rfl
@[go_sem] theorem shp_22 : shp X.P 22 = some (false, 1) := by kernel_rfl
@[go_sem] theorem zer_22 : zer X.P 22 = some (.int .u64 0) := by kernel_rfl
@[go_sem] theorem und_22 : X.P.underlying 22 = some (Go.TypeDesc.int .u64) := by kernel_rfl
@[go_sem] theorem shp_24 : shp X.P 24 = some (true, 4) := by kernel_rfl
@[go_sem] theorem zer_24 : zer X.P 24 = some (.agg [.int .u64 0, .int .u64 0, .int .u64 0, .int .u64 0]) := by kernel_rfl
@[go_sem] theorem arr_24 : arr X.P 24 = some (4, 22) := by kernel_rfl
@[go_sem] theorem bldz_24 : bldz X.P 24 = some [.int .u64 0, .int .u64 0, .int .u64 0, .int .u64 0] := by kernel_rfl
@[go_sem] theorem und_24 : X.P.underlying 24 = some (Go.TypeDesc.array 4 22) := by kernel_rfl
@[go_sem] theorem plc_24_0 : places X.P 24 0 = some (0, 1) := by kernel_rfl
@[go_sem] theorem plc_24_1 : places X.P 24 1 = some (1, 1) := by kernel_rfl
@[go_sem] theorem plc_24_2 : places X.P 24 2 = some (2, 1) := by kernel_rfl
@[go_sem] theorem plc_24_3 : places X.P 24 3 = some (3, 1) := by kernel_rfl
@[go_sem] theorem plc_24_4 : places X.P 24 4 = some (4, 1) := by kernel_rfl
@[go_sem] theorem plc_24_5 : places X.P 24 5 = some (5, 1) := by kernel_rfl
@[go_sem] theorem plc_24_6 : places X.P 24 6 = some (6, 1) := by kernel_rfl
@[go_sem] theorem plc_24_7 : places X.P 24 7 = some (7, 1) := by kernel_rfl
@[go_sem] theorem plc_24_8 : places X.P 24 8 = some (8, 1) := by kernel_rfl
@[go_sem] theorem plc_24_9 : places X.P 24 9 = some (9, 1) := by kernel_rfl
@[go_sem] theorem plc_24_10 : places X.P 24 10 = some (10, 1) := by kernel_rfl
@[go_sem] theorem plc_24_11 : places X.P 24 11 = some (11, 1) := by kernel_rfl
@[go_sem] theorem plc_24_12 : places X.P 24 12 = some (12, 1) := by kernel_rfl
@[go_sem] theorem plc_24_13 : places X.P 24 13 = some (13, 1) := by kernel_rfl
@[go_sem] theorem plc_24_14 : places X.P 24 14 = some (14, 1) := by kernel_rfl
@[go_sem] theorem plc_24_15 : places X.P 24 15 = some (15, 1) := by kernel_rfl
@[go_sem] theorem plc_24_16 : places X.P 24 16 = some (16, 1) := by kernel_rfl
@[go_sem] theorem plc_24_17 : places X.P 24 17 = some (17, 1) := by kernel_rfl
@[go_sem] theorem plc_24_18 : places X.P 24 18 = some (18, 1) := by kernel_rfl
@[go_sem] theorem plc_24_19 : places X.P 24 19 = some (19, 1) := by kernel_rfl
@[go_sem] theorem shp_25 : shp X.P 25 = some (false, 1) := by kernel_rfl
@[go_sem] theorem zer_25 : zer X.P 25 = some (.sl .nil []) := by kernel_rfl
@[go_sem] theorem slc_25 : slc X.P 25 = some (27, 10, 96) := by kernel_rfl
@[go_sem] theorem und_25 : X.P.underlying 25 = some (Go.TypeDesc.slice 27) := by kernel_rfl
@[go_sem] theorem shp_27 : shp X.P 27 = some (true, 10) := by kernel_rfl
@[go_sem] theorem zer_27 : zer X.P 27 = some (.agg [.int .i64 0, .int .u8 0, .int .u64 0, .int .u64 0, .int .u64 0, .int .u64 0, .int .i64 0, .int .i64 0, .int .i64 0, .sl .nil []]) := by kernel_rfl
@[go_sem] theorem bldz_27 : bldz X.P 27 = some [.int .i64 0, .int .u8 0, .int .u64 0, .int .u64 0, .int .u64 0, .int .u64 0, .int .i64 0, .int .i64 0, .int .i64 0, .sl .nil []] := by kernel_rfl
@[go_sem] theorem fld_27_0 : fldo X.P 27 0 = some (0, 3) := by kernel_rfl
@[go_sem] theorem plc_27_0 : places X.P 27 0 = some (0, 1) := by kernel_rfl
@[go_sem] theorem fld_27_1 : fldo X.P 27 1 = some (1, 5) := by kernel_rfl
@[go_sem] theorem plc_27_1 : places X.P 27 1 = some (1, 1) := by kernel_rfl
@[go_sem] theorem fld_27_2 : fldo X.P 27 2 = some (2, 24) := by kernel_rfl
@[go_sem] theorem plc_27_2 : places X.P 27 2 = some (2, 4) := by kernel_rfl
@[go_sem] theorem fld_27_3 : fldo X.P 27 3 = some (6, 3) := by kernel_rfl
@[go_sem] theorem plc_27_3 : places X.P 27 3 = some (6, 1) := by kernel_rfl
@[go_sem] theorem fld_27_4 : fldo X.P 27 4 = some (7, 3) := by kernel_rfl
@[go_sem] theorem plc_27_4 : places X.P 27 4 = some (7, 1) := by kernel_rfl
@[go_sem] theorem fld_27_5 : fldo X.P 27 5 = some (8, 3) := by kernel_rfl
@[go_sem] theorem plc_27_5 : places X.P 27 5 = some (8, 1) := by kernel_rfl
@[go_sem] theorem fld_27_6 : fldo X.P 27 6 = some (9, 25) := by kernel_rfl
@[go_sem] theorem plc_27_6 : places X.P 27 6 = some (9, 1) := by kernel_rfl
@[go_sem] theorem shp_30 : shp X.P 30 = some (false, 1) := by kernel_rfl
@[go_sem] theorem zer_30 : zer X.P 30 = some (.int .i64 0) := by kernel_rfl
@[go_sem] theorem und_30 : X.P.underlying 30 = some (Go.TypeDesc.int .i64) := by kernel_rfl
@[go_sem] theorem shp_33 : shp X.P 33 = some (true, 4) := by kernel_rfl
@[go_sem] theorem zer_33 : zer X.P 33 = some (.agg [.int .u64 0, .int .u64 0, .int .u64 0, .int .u64 0]) := by kernel_rfl
@[go_sem] theorem arr_33 : arr X.P 33 = some (4, 22) := by kernel_rfl
@[go_sem] theorem bldz_33 : bldz X.P 33 = some [.int .u64 0, .int .u64 0, .int .u64 0, .int .u64 0] := by kernel_rfl
@[go_sem] theorem und_33 : X.P.underlying 33 = some (Go.TypeDesc.array 4 22) := by kernel_rfl
@[go_sem] theorem plc_33_0 : places X.P 33 0 = some (0, 1) := by kernel_rfl
@[go_sem] theorem plc_33_1 : places X.P 33 1 = some (1, 1) := by kernel_rfl
@[go_sem] theorem plc_33_2 : places X.P 33 2 = some (2, 1) := by kernel_rfl
@[go_sem] theorem plc_33_3 : places X.P 33 3 = some (3, 1) := by kernel_rfl
@[go_sem] theorem plc_33_4 : places X.P 33 4 = some (4, 1) := by kernel_rfl
@[go_sem] theorem plc_33_5 : places X.P 33 5 = some (5, 1) := by kernel_rfl
@[go_sem] theorem plc_33_6 : places X.P 33 6 = some (6, 1) := by kernel_rfl
@[go_sem] theorem plc_33_7 : places X.P 33 7 = some (7, 1) := by kernel_rfl
@[go_sem] theorem plc_33_8 : places X.P 33 8 = some (8, 1) := by kernel_rfl
@[go_sem] theorem plc_33_9 : places X.P 33 9 = some (9, 1) := by kernel_rfl
@[go_sem] theorem plc_33_10 : places X.P 33 10 = some (10, 1) := by kernel_rfl
@[go_sem] theorem plc_33_11 : places X.P 33 11 = some (11, 1) := by kernel_rfl
@[go_sem] theorem plc_33_12 : places X.P 33 12 = some (12, 1) := by kernel_rfl
@[go_sem] theorem plc_33_13 : places X.P 33 13 = some (13, 1) := by kernel_rfl
@[go_sem] theorem plc_33_14 : places X.P 33 14 = some (14, 1) := by kernel_rfl
@[go_sem] theorem plc_33_15 : places X.P 33 15 = some (15, 1) := by kernel_rfl
@[go_sem] theorem plc_33_16 : places X.P 33 16 = some (16, 1) := by kernel_rfl
@[go_sem] theorem plc_33_17 : places X.P 33 17 = some (17, 1) := by kernel_rfl
@[go_sem] theorem plc_33_18 : places X.P 33 18 = some (18, 1) := by kernel_rfl
@[go_sem] theorem plc_33_19 : places X.P 33 19 = some (19, 1) := by kernel_rfl
@[go_sem] theorem shp_34 : shp X.P 34 = some (false, 1) := by kernel_rfl
@[go_sem] theorem zer_34 : zer X.P 34 = some (.sl .nil []) := by kernel_rfl
@[go_sem] theorem slc_34 : slc X.P 34 = some (36, 10, 96) := by kernel_rfl
@[go_sem] theorem und_34 : X.P.underlying 34 = some (Go.TypeDesc.slice 36) := by kernel_rfl
@[go_sem] theorem shp_36 : shp X.P 36 = some (true, 10) := by kernel_rfl
@[go_sem] theorem zer_36 : zer X.P 36 = some (.agg [.int .i64 0, .int .u8 0, .int .u64 0, .int .u64 0, .int .u64 0, .int .u64 0, .int .i64 0, .int .i64 0, .int .i64 0, .sl .nil []]) := by kernel_rfl
@[go_sem] theorem bldz_36 : bldz X.P 36 = some [.int .i64 0, .int .u8 0, .int .u64 0, .int .u64 0, .int .u64 0, .int .u64 0, .int .i64 0, .int .i64 0, .int .i64 0, .sl .nil []] := by kernel_rfl
@[go_sem] theorem fld_36_0 : fldo X.P 36 0 = some (0, 3) := by kernel_rfl
@[go_sem] theorem plc_36_0 : places X.P 36 0 = some (0, 1) := by kernel_rfl
@[go_sem] theorem fld_36_1 : fldo X.P 36 1 = some (1, 5) := by kernel_rfl
@[go_sem] theorem plc_36_1 : places X.P 36 1 = some (1, 1) := by kernel_rfl
@[go_sem] theorem fld_36_2 : fldo X.P 36 2 = some (2, 33) := by kernel_rfl
@[go_sem] theorem plc_36_2 : places X.P 36 2 = some (2, 4) := by kernel_rfl
@[go_sem] theorem fld_36_3 : fldo X.P 36 3 = some (6, 3) := by kernel_rfl
@[go_sem] theorem plc_36_3 : places X.P 36 3 = some (6, 1) := by kernel_rfl
@[go_sem] theorem fld_36_4 : fldo X.P 36 4 = some (7, 3) := by kernel_rfl
@[go_sem] theorem plc_36_4 : places X.P 36 4 = some (7, 1) := by kernel_rfl
@[go_sem] theorem fld_36_5 : fldo X.P 36 5 = some (8, 3) := by kernel_rfl
@[go_sem] theorem plc_36_5 : places X.P 36 5 = some (8, 1) := by kernel_rfl
@[go_sem] theorem fld_36_6 : fldo X.P 36 6 = some (9, 34) := by kernel_rfl
@[go_sem] theorem plc_36_6 : places X.P 36 6 = some (9, 1) := by kernel_rfl
@[go_sem] theorem shp_45 : shp X.P 45 = some (true, 5) := by kernel_rfl
@[go_sem] theorem zer_45 : zer X.P 45 = some (.agg [.str [], .str [], .str [], .str [], .str []]) := by kernel_rfl
@[go_sem] theorem bldz_45 : bldz X.P 45 = some [.str [], .str [], .str [], .str [], .str []] := by kernel_rfl
@[go_sem] theorem fld_45_0 : fldo X.P 45 0 = some (0, 9) := by kernel_rfl
@[go_sem] theorem plc_45_0 : places X.P 45 0 = some (0, 1) := by kernel_rfl
@[go_sem] theorem fld_45_1 : fldo X.P 45 1 = some (1, 9) := by kernel_rfl
@[go_sem] theorem plc_45_1 : places X.P 45 1 = some (1, 1) := by kernel_rfl
@[go_sem] theorem fld_45_2 : fldo X.P 45 2 = some (2, 9) := by kernel_rfl
@[go_sem] theorem plc_45_2 : places X.P 45 2 = some (2, 1) := by kernel_rfl
@[go_sem] theorem fld_45_3 : fldo X.P 45 3 = some (3, 9) := by kernel_rfl
@[go_sem] theorem plc_45_3 : places X.P 45 3 = some (3, 1) := by kernel_rfl
@[go_sem] theorem fld_45_4 : fldo X.P 45 4 = some (4, 9) := by kernel_rfl
@[go_sem] theorem plc_45_4 : places X.P 45 4 = some (4, 1) := by kernel_rfl
@[go_sem] theorem shp_50 : shp X.P 50 = some (false, 1) := by kernel_rfl
@[go_sem] theorem zer_50 : zer X.P 50 = some .junk := by kernel_rfl
@[go_sem] theorem shp_52 : shp X.P 52 = some (true, 10) := by kernel_rfl
@[go_sem] theorem zer_52 : zer X.P 52 = some (.agg [.bool false, .bool false, .bool false, .bool false, .bool false, .bool false, .bool false, .bool false, .bool false, .bool false]) := by kernel_rfl
@[go_sem] theorem arr_52 : arr X.P 52 = some (10, 4) := by kernel_rfl
@[go_sem] theorem bldz_52 : bldz X.P 52 = some [.bool false, .bool false, .bool false, .bool false, .bool false, .bool false, .bool false, .bool false, .bool false, .bool false] := by kernel_rfl
@[go_sem] theorem und_52 : X.P.underlying 52 = some (Go.TypeDesc.array 10 4) := by kernel_rfl
@[go_sem] theorem plc_52_0 : places X.P 52 0 = some (0, 1) := by kernel_rfl
@[go_sem] theorem plc_52_1 : places X.P 52 1 = some (1, 1) := by kernel_rfl
@[go_sem] theorem plc_52_2 : places X.P 52 2 = some (2, 1) := by kernel_rfl
@[go_sem] theorem plc_52_3 : places X.P 52 3 = some (3, 1) := by kernel_rfl
@[go_sem] theorem plc_52_4 : places X.P 52 4 = some (4, 1) := by kernel_rfl
@[go_sem] theorem plc_52_5 : places X.P 52 5 = some (5, 1) := by kernel_rfl
@[go_sem] theorem plc_52_6 : places X.P 52 6 = some (6, 1) := by kernel_rfl
@[go_sem] theorem plc_52_7 : places X.P 52 7 = some (7, 1) := by kernel_rfl
@[go_sem] theorem plc_52_8 : places X.P 52 8 = some (8, 1) := by kernel_rfl
@[go_sem] theorem plc_52_9 : places X.P 52 9 = some (9, 1) := by kernel_rfl
@[go_sem] theorem plc_52_10 : places X.P 52 10 = some (10, 1) := by kernel_rfl
@[go_sem] theorem plc_52_11 : places X.P 52 11 = some (11, 1) := by kernel_rfl
@[go_sem] theorem plc_52_12 : places X.P 52 12 = some (12, 1) := by kernel_rfl
@[go_sem] theorem plc_52_13 : places X.P 52 13 = some (13, 1) := by kernel_rfl
@[go_sem] theorem plc_52_14 : places X.P 52 14 = some (14, 1) := by kernel_rfl
@[go_sem] theorem plc_52_15 : places X.P 52 15 = some (15, 1) := by kernel_rfl
@[go_sem] theorem plc_52_16 : places X.P 52 16 = some (16, 1) := by kernel_rfl
@[go_sem] theorem plc_52_17 : places X.P 52 17 = some (17, 1) := by kernel_rfl
@[go_sem] theorem plc_52_18 : places X.P 52 18 = some (18, 1) := by kernel_rfl
@[go_sem] theorem plc_52_19 : places X.P 52 19 = some (19, 1) := by kernel_rfl
@[go_sem] theorem shp_55 : shp X.P 55 = some (false, 1) := by kernel_rfl
@[go_sem] theorem zer_55 : zer X.P 55 = some .nilp := by kernel_rfl
@[go_sem] theorem und_55 : X.P.underlying 55 = some (Go.TypeDesc.pointer 57) := by kernel_rfl
@[go_sem] theorem shp_57 : shp X.P 57 = some (true, 5) := by kernel_rfl
@[go_sem] theorem zer_57 : zer X.P 57 = some (.agg [.str [], .int .i64 0, .bool false, .int .i64 0, .bool false]) := by kernel_rfl
@[go_sem] theorem bldz_57 : bldz X.P 57 = some [.str [], .int .i64 0, .bool false, .int .i64 0, .bool false] := by kernel_rfl
@[go_sem] theorem fld_57_0 : fldo X.P 57 0 = some (0, 9) := by kernel_rfl
@[go_sem] theorem plc_57_0 : places X.P 57 0 = some (0, 1) := by kernel_rfl
@[go_sem] theorem fld_57_1 : fldo X.P 57 1 = some (1, 3) := by kernel_rfl
@[go_sem] theorem plc_57_1 : places X.P 57 1 = some (1, 1) := by kernel_rfl
@[go_sem] theorem fld_57_2 : fldo X.P 57 2 = some (2, 4) := by kernel_rfl
@[go_sem] theorem plc_57_2 : places X.P 57 2 = some (2, 1) := by kernel_rfl
@[go_sem] theorem fld_57_3 : fldo X.P 57 3 = some (3, 3) := by kernel_rfl
@[go_sem] theorem plc_57_3 : places X.P 57 3 = some (3, 1) := by kernel_rfl
@[go_sem] theorem fld_57_4 : fldo X.P 57 4 = some (4, 4) := by kernel_rfl
@[go_sem] theorem plc_57_4 : places X.P 57 4 = some (4, 1) := by kernel_rfl
@[go_sem] theorem shp_60 : shp X.P 60 = some (false, 1) := by kernel_rfl
@[go_sem] theorem zer_60 : zer X.P 60 = some .nilp := by kernel_rfl
@[go_sem] theorem und_60 : X.P.underlying 60 = some (Go.TypeDesc.pointer 62) := by kernel_rfl
@[go_sem] theorem shp_62 : shp X.P 62 = some (true, 11) := by kernel_rfl
@[go_sem] theorem zer_62 : zer X.P 62 = some (.agg [.int .i64 0, .bool false, .bool false, .bool false, .bool false, .bool false, .bool false, .bool false, .bool false, .bool false, .bool false]) := by kernel_rfl
@[go_sem] theorem bldz_62 : bldz X.P 62 = some [.int .i64 0, .bool false, .bool false, .bool false, .bool false, .bool false, .bool false, .bool false, .bool false, .bool false, .bool false] := by kernel_rfl
@[go_sem] theorem fld_62_0 : fldo X.P 62 0 = some (0, 3) := by kernel_rfl
@[go_sem] theorem plc_62_0 : places X.P 62 0 = some (0, 1) := by kernel_rfl
@[go_sem] theorem fld_62_1 : fldo X.P 62 1 = some (1, 52) := by kernel_rfl
@[go_sem] theorem plc_62_1 : places X.P 62 1 = some (1, 10) := by kernel_rfl
@[go_sem] theorem shp_63 : shp X.P 63 = some (false, 1) := by kernel_rfl
@[go_sem] theorem zer_63 : zer X.P 63 = some .nilp := by kernel_rfl
@[go_sem] theorem und_63 : X.P.underlying 63 = some (Go.TypeDesc.pointer 66) := by kernel_rfl
@[go_sem] theorem shp_64 : shp X.P 64 = some (false, 1) := by kernel_rfl
@[go_sem] theorem zer_64 : zer X.P 64 = some (.sl .nil []) := by kernel_rfl
@[go_sem] theorem slc_64 : slc X.P 64 = some (5, 1, 1) := by kernel_rfl
@[go_sem] theorem und_64 : X.P.underlying 64 = some (Go.TypeDesc.slice 5) := by kernel_rfl
@[go_sem] theorem shp_66 : shp X.P 66 = some (true, 2) := by kernel_rfl
@[go_sem] theorem zer_66 : zer X.P 66 = some (.agg [.nilp, .sl .nil []]) := by kernel_rfl
@[go_sem] theorem bldz_66 : bldz X.P 66 = some [.nilp, .sl .nil []] := by kernel_rfl
@[go_sem] theorem fld_66_0 : fldo X.P 66 0 = some (0, 63) := by kernel_rfl
@[go_sem] theorem plc_66_0 : places X.P 66 0 = some (0, 1) := by kernel_rfl
@[go_sem] theorem fld_66_1 : fldo X.P 66 1 = some (1, 64) := by kernel_rfl
@[go_sem] theorem plc_66_1 : places X.P 66 1 = some (1, 1) := by kernel_rfl
@[go_sem] theorem shp_69 : shp X.P 69 = some (false, 1) := by kernel_rfl
@[go_sem] theorem zer_69 : zer X.P 69 = some .nilp := by kernel_rfl
@[go_sem] theorem und_69 : X.P.underlying 69 = some (Go.TypeDesc.pointer 71) := by kernel_rfl
@[go_sem] theorem shp_71 : shp X.P 71 = some (true, 4) := by kernel_rfl
@[go_sem] theorem zer_71 : zer X.P 71 = some (.agg [.str [], .int .i64 0, .int .i64 0, .int .i64 0]) := by kernel_rfl
@[go_sem] theorem bldz_71 : bldz X.P 71 = some [.str [], .int .i64 0, .int .i64 0, .int .i64 0] := by kernel_rfl
@[go_sem] theorem fld_71_0 : fldo X.P 71 0 = some (0, 9) := by kernel_rfl
@[go_sem] theorem plc_71_0 : places X.P 71 0 = some (0, 1) := by kernel_rfl
@[go_sem] theorem fld_71_1 : fldo X.P 71 1 = some (1, 3) := by kernel_rfl
@[go_sem] theorem plc_71_1 : places X.P 71 1 = some (1, 1) := by kernel_rfl
@[go_sem] theorem fld_71_2 : fldo X.P 71 2 = some (2, 3) := by kernel_rfl
@[go_sem] theorem plc_71_2 : places X.P 71 2 = some (2, 1) := by kernel_rfl
@[go_sem] theorem fld_71_3 : fldo X.P 71 3 = some (3, 3) := by kernel_rfl
@[go_sem] theorem plc_71_3 : places X.P 71 3 = some (3, 1) := by kernel_rfl
@[go_sem] theorem shp_76 : shp X.P 76 = some (true, 9) := by kernel_rfl
@[go_sem] theorem zer_76 : zer X.P 76 = some (.agg [.int .i64 0, .int .u8 0, .int .u64 0, .int .u64 0, .int .u64 0, .int .u64 0, .int .i64 0, .int .i64 0, .int .i64 0]) := by kernel_rfl
@[go_sem] theorem bldz_76 : bldz X.P 76 = some [.int .i64 0, .int .u8 0, .int .u64 0, .int .u64 0, .int .u64 0, .int .u64 0, .int .i64 0, .int .i64 0, .int .i64 0] := by kernel_rfl
@[go_sem] theorem fld_76_0 : fldo X.P 76 0 = some (0, 3) := by kernel_rfl
@[go_sem] theorem plc_76_0 : places X.P 76 0 = some (0, 1) := by kernel_rfl
@[go_sem] theorem fld_76_1 : fldo X.P 76 1 = some (1, 5) := by kernel_rfl
@[go_sem] theorem plc_76_1 : places X.P 76 1 = some (1, 1) := by kernel_rfl
@[go_sem] theorem fld_76_2 : fldo X.P 76 2 = some (2, 33) := by kernel_rfl
@[go_sem] theorem plc_76_2 : places X.P 76 2 = some (2, 4) := by kernel_rfl
@[go_sem] theorem fld_76_3 : fldo X.P 76 3 = some (6, 3) := by kernel_rfl
@[go_sem] theorem plc_76_3 : places X.P 76 3 = some (6, 1) := by kernel_rfl
@[go_sem] theorem fld_76_4 : fldo X.P 76 4 = some (7, 3) := by kernel_rfl
@[go_sem] theorem plc_76_4 : places X.P 76 4 = some (7, 1) := by kernel_rfl
@[go_sem] theorem fld_76_5 : fldo X.P 76 5 = some (8, 3) := by kernel_rfl
@[go_sem] theorem plc_76_5 : places X.P 76 5 = some (8, 1) := by kernel_rfl
@[go_sem] theorem shp_97 : shp X.P 97 = some (false, 1) := by kernel_rfl
@[go_sem] theorem zer_97 : zer X.P 97 = some (.sl .nil []) := by kernel_rfl
@[go_sem] theorem slc_97 : slc X.P 97 = some (3, 1, 8) := by kernel_rfl
@[go_sem] theorem und_97 : X.P.underlying 97 = some (Go.TypeDesc.slice 3) := by kernel_rfl
@[go_sem] theorem shp_122 : shp X.P 122 = some (false, 1) := by kernel_rfl
@[go_sem] theorem zer_122 : zer X.P 122 = some (.int .u64 0) := by kernel_rfl
@[go_sem] theorem und_122 : X.P.underlying 122 = some (Go.TypeDesc.int .u64) := by kernel_rfl
@[go_sem] theorem shp_143 : shp X.P 143 = some (false, 1) := by kernel_rfl
@[go_sem] theorem zer_143 : zer X.P 143 = some .nilp := by kernel_rfl
@[go_sem] theorem und_143 : X.P.underlying 143 = some (Go.TypeDesc.pointer 145) := by kernel_rfl
@[go_sem] theorem shp_145 : shp X.P 145 = some (true, 2) := by kernel_rfl
@[go_sem] theorem zer_145 : zer X.P 145 = some (.agg [.str [], .int .i64 0]) := by kernel_rfl
@[go_sem] theorem bldz_145 : bldz X.P 145 = some [.str [], .int .i64 0] := by kernel_rfl
@[go_sem] theorem fld_145_0 : fldo X.P 145 0 = some (0, 9) := by kernel_rfl
@[go_sem] theorem plc_145_0 : places X.P 145 0 = some (0, 1) := by kernel_rfl
@[go_sem] theorem fld_145_1 : fldo X.P 145 1 = some (1, 3) := by kernel_rfl
@[go_sem] theorem plc_145_1 : places X.P 145 1 = some (1, 1) := by kernel_rfl
end Go.Proofs.Tryz.E
