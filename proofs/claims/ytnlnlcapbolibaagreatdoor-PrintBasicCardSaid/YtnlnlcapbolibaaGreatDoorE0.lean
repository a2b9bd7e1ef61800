/- Walks: what the functions compute. -/
import Derived.Test.YtnlnlcapbolibaaGreatDoorMvE
import Derived.Test.YtnlnlcapbolibaaGreatDoorMvD
import Derived.Test.YtnlnlcapbolibaaGreatDoorMvG
import Derived.KernelRfl
import Derived.Lib.ItoaNum
import Derived.Test.YtnlnlcapbolibaaGreatDoorChecked
set_option linter.unusedVariables false
set_option linter.unusedSimpArgs false
/- The program's types, as the evaluator looks at them. -/
namespace Go.Proofs.Tryz.E
open Go.Mv

/-- The first place of a byte; -1: there is none. -/
def idxB : List UInt8 → Int → Int
  | [], _ => -1
  | b :: s, c => if (b.toNat : Int) = c then 0 else if idxB s c < 0 then -1 else idxB s c + 1
def idxByteP : Nat → Nat → List MV → Sto → Option (MV × Sto)
  | _, _, [.str s, .int .u8 c], σ => if 0 ≤ c ∧ c < 256 then some (.int .i64 (idxB s c), σ) else none
  | _, _, _, _ => none
/-- The first place of a text; -1: there is none. -/
def idxS : List UInt8 → List UInt8 → Int
  | [], t => if t = [] then 0 else -1
  | b :: s, t => if t <+: (b :: s) then 0 else if idxS s t < 0 then -1 else idxS s t + 1
def indexP : Nat → Nat → List MV → Sto → Option (MV × Sto)
  | _, _, [.str s, .str t], σ => if s.length < 4294967281 then some (.int .i64 (idxS s t), σ) else none
  | _, _, _, _ => none
/-- A text without the bytes of a set at its beginning. -/
def trimP : Nat → Nat → List MV → Sto → Option (MV × Sto)
  | _, _, [.str s, .str c], σ => if c = [48, 49, 50, 51, 52, 53, 54, 55, 56, 57] then some (.str (s.dropWhile (c.contains ·)), σ) else none
  | _, _, _, _ => none
/-- A row of its own. -/
def cloneP (z b : Nat) : Nat → Nat → List MV → Sto → Option (MV × Sto)
  | lim, d + 1, [.sl _ xs], σ =>
    if xs = [] then some (.sl .no [], σ) else
    if lim ≤ d ∧ okz z xs = true ∧ xs.length * b ≤ 140737488355328 then (xs.mapM datas).map fun ys => (.rs ⟨d, 0, σ.ct d⟩ 0 xs.length z, (σ.set ⟨d, 0, σ.ct d⟩ ys.flatten).tick d) else none
  | _, _, _, _ => none
/-- A Builder's place; its own address. -/
def isB (l : Mv.Loc) : Bool := decide (l.t = 1000000 + (67 * 1024 + 2))
def okA (l : Mv.Loc) : MV → Bool
  | .nilp => true
  | .ptr l' 0 => decide (l' = l)
  | _ => false
def wstrP : Nat → Nat → List MV → Sto → Option (MV × Sto)
  | lim, d + 1, [.ptr l 0, .str x], σ =>
    if lim ≤ l.d ∧ l.d ≤ d ∧ isB l = true then
      match σ.ob l with
      | some [p, .sl tk xs] => if okA l p = true then (bapp lim l.d 5 σ tk xs x).map fun r => (.tup [.int .i64 x.length, .junk], r.2.set l [.ptr l 0, r.1]) else none
      | _ => none
    else none
  | _, _, _, _ => none
def wbyteP : Nat → Nat → List MV → Sto → Option (MV × Sto)
  | lim, d + 1, [.ptr l 0, .int .u8 c], σ =>
    if lim ≤ l.d ∧ l.d ≤ d ∧ isB l = true ∧ 0 ≤ c ∧ c < 256 then
      match σ.ob l with
      | some [p, .sl tk xs] => if okA l p = true then (bapp lim l.d 5 σ tk xs [UInt8.ofNat c.toNat]).map fun r => (.junk, r.2.set l [.ptr l 0, r.1]) else none
      | _ => none
    else none
  | _, _, _, _ => none
/-- Cells that are bytes. -/
def inB : List (List MV) → Bool
  | [] => true
  | [.int .u8 n] :: r => decide (0 ≤ n ∧ n < 256) && inB r
  | _ => false
def bstrP : Nat → Nat → List MV → Sto → Option (MV × Sto)
  | lim, d + 1, [.ptr l 0], σ =>
    if lim ≤ l.d ∧ l.d ≤ d then
      match σ.ob l with
      | some [p, .sl .nil []] => some (.str [], σ)
      | some [p, .sl (.byt k c q) xs] =>
        match bytesOf xs with
        | some bs => if lim ≤ k ∧ k ≤ l.d ∧ q = 5 ∧ bs ≠ [] ∧ okz 1 xs = true ∧ (inB xs = true ∧ xs.length ≤ 140737488355328) ∧ σ.ow k c = some (xs.length, 1) then some (.str bs, (σ.own k c none).set l [p, .sl .no xs]) else none
        | none => none
      | _ => none
    else none
  | _, _, _, _ => none
def itoaP : Nat → Nat → List MV → Sto → Option (MV × Sto)
  | _, _, [.int .i64 n], σ => if 0 ≤ n ∧ n ≤ 1000000 then some (.str (Lib.itoa n), σ) else none
  | _, _, _, _ => none
def u4 : List Sh := [.i .u64, .i .u64, .i .u64, .i .u64]
noncomputable def X : Cfg where
  P := Go.Proofs.Tryz.prog
  eqT := fun t => if t = 24 then some u4 else if t = 75 then some ([.i .i64, .i .u8] ++ u4 ++ [.i .i64, .i .i64, .i .i64]) else none
  prim := fun f => if f = 120 then some (cloneP 10 96) else if f = 109 then some idxByteP else if f = 153 then some indexP else if f = 44 then some wstrP else if f = 46 then some wbyteP else if f = 32 then some bstrP else if f = 48 then some itoaP else if f = 117 then some trimP else none
  kp := fun b q => (b = 0 ∧ q = fun x => ∃ m t i, x = .cells #[.int .i64 m] t i) ∨ (b = 1 ∧ q = fun x => ∃ t i, x = .cells (Lib.pow10Tab.map fun z => Value.int .u64 z).toArray t i)
  tg := fun t => decide (t = 67)

@[go_sem] theorem locX (t n : Nat) (o : Option Tmp) : locT X t n o = if t = 67 then (if n < 1024 then 1000000 + (t * 1024 + n) else dstT o) else dstT o := by
  unfold locT X
  simp only [decide_eq_true_eq]
@[go_sem] theorem dstT_some (t : Nat) : dstT (some t) = if t < 1000000 then t else 0 := rfl
@[go_sem] theorem shp_3 : shp X.P 3 = some (false, 1) := by kernel_rfl
@[go_sem] theorem zer_3 : zer X.P 3 = some (.int .i64 0) := by kernel_rfl
@[go_sem] theorem und_3 : X.P.underlying 3 = some (Go.TypeDesc.int .i64) := by kernel_rfl
@[go_sem] theorem shp_4 : shp X.P 4 = some (false, 1) := by kernel_rfl
@[go_sem] theorem zer_4 : zer X.P 4 = some (.bool false) := by kernel_rfl
@[go_sem] theorem und_4 : X.P.underlying 4 = some Go.TypeDesc.bool := by kernel_rfl
@[go_sem] theorem shp_5 : shp X.P 5 = some (false, 1) := by kernel_rfl
@[go_sem] theorem zer_5 : zer X.P 5 = some (.int .u8 0) := by kernel_rfl
@[go_sem] theorem und_5 : X.P.underlying 5 = some (Go.TypeDesc.int .u8) := by kernel_rfl
@[go_sem] theorem shp_9 : shp X.P 9 = some (false, 1) := by kernel_rfl
@[go_sem] theorem zer_9 : zer X.P 9 = some (.str []) := by kernel_rfl
@[go_sem] theorem und_9 : X.P.underlying 9 = some Go.TypeDesc.string := by kernel_rfl
@[go_sem] theorem shp_21 : shp X.P 21 = some (false, 1) := by kernel_rfl
@[go_sem] theorem zer_21 : zer X.P 21 = some (.int .i32 0) := by kernel_rfl
@[go_sem] theorem und_21 : X.P.underlying 21 = some (Go.TypeDesc.int .i32) := by kernel_rfl
@[go_sem] theorem shp_22 : shp X.P 22 = some (false, 1) := by kernel_rfl
@[go_sem] theorem zer_22 : zer X.P 22 = some (.int .u64 0) := by kernel_rfl
@[go_sem] theorem und_22 : X.P.underlying 22 = some (Go.TypeDesc.int .u64) := by kernel_rfl
@[go_sem] theorem shp_24 : shp X.P 24 = some (true, 4) := by kernel_rfl
@[go_sem] theorem zer_24 : zer X.P 24 = some (.agg [.int .u64 0, .int .u64 0, .int .u64 0, .int .u64 0]) := by kernel_rfl
@[go_sem] theorem arr_24 : arr X.P 24 = some (4, 22) := by kernel_rfl
@[go_sem] theorem bldz_24 : bldz X.P 24 = some [.int .u64 0, .int .u64 0, .int .u64 0, .int .u64 0] := by kernel_rfl
@[go_sem] theorem und_24 : X.P.underlying 24 = some (Go.TypeDesc.array 4 22) := by kernel_rfl
@[go_sem] theorem plc_24_0 : places X.P 24 0 = some (0, 1) := by kernel_rfl
@[go_sem] theorem plc_24_1 : places X.P 24 1 = some (1, 1) := by kernel_rfl
@[go_sem] theorem plc_24_2 : places X.P 24 2 = some (2, 1) := by kernel_rfl
@[go_sem] theorem plc_24_3 : places X.P 24 3 = some (3, 1) := by kernel_rfl
@[go_sem] theorem plc_24_4 : places X.P 24 4 = some (4, 1) := by kernel_rfl
@[go_sem] theorem plc_24_5 : places X.P 24 5 = some (5, 1) := by kernel_rfl
@[go_sem] theorem plc_24_6 : places X.P 24 6 = some (6, 1) := by kernel_rfl
@[go_sem] theorem plc_24_7 : places X.P 24 7 = some (7, 1) := by kernel_rfl
@[go_sem] theorem plc_24_8 : places X.P 24 8 = some (8, 1) := by kernel_rfl
@[go_sem] theorem plc_24_9 : places X.P 24 9 = some (9, 1) := by kernel_rfl
@[go_sem] theorem plc_24_10 : places X.P 24 10 = some (10, 1) := by kernel_rfl
@[go_sem] theorem plc_24_11 : places X.P 24 11 = some (11, 1) := by kernel_rfl
@[go_sem] theorem plc_24_12 : places X.P 24 12 = some (12, 1) := by kernel_rfl
@[go_sem] theorem plc_24_13 : places X.P 24 13 = some (13, 1) := by kernel_rfl
@[go_sem] theorem plc_24_14 : places X.P 24 14 = some (14, 1) := by kernel_rfl
@[go_sem] theorem plc_24_15 : places X.P 24 15 = some (15, 1) := by kernel_rfl
@[go_sem] theorem plc_24_16 : places X.P 24 16 = some (16, 1) := by kernel_rfl
@[go_sem] theorem plc_24_17 : places X.P 24 17 = some (17, 1) := by kernel_rfl
@[go_sem] theorem plc_24_18 : places X.P 24 18 = some (18, 1) := by kernel_rfl
@[go_sem] theorem plc_24_19 : places X.P 24 19 = some (19, 1) := by kernel_rfl
@[go_sem] theorem shp_25 : shp X.P 25 = some (false, 1) := by kernel_rfl
@[go_sem] theorem zer_25 : zer X.P 25 = some (.sl .nil []) := by kernel_rfl
@[go_sem] theorem slc_25 : slc X.P 25 = some (27, 10, 96) := by kernel_rfl
@[go_sem] theorem und_25 : X.P.underlying 25 = some (Go.TypeDesc.slice 27) := by kernel_rfl
@[go_sem] theorem shp_27 : shp X.P 27 = some (true, 10) := by kernel_rfl
@[go_sem] theorem zer_27 : zer X.P 27 = some (.agg [.int .i64 0, .int .u8 0, .int .u64 0, .int .u64 0, .int .u64 0, .int .u64 0, .int .i64 0, .int .i64 0, .int .i64 0, .sl .nil []]) := by kernel_rfl
@[go_sem] theorem bldz_27 : bldz X.P 27 = some [.int .i64 0, .int .u8 0, .int .u64 0, .int .u64 0, .int .u64 0, .int .u64 0, .int .i64 0, .int .i64 0, .int .i64 0, .sl .nil []] := by kernel_rfl
@[go_sem] theorem fld_27_0 : fldo X.P 27 0 = some (0, 3) := by kernel_rfl
@[go_sem] theorem plc_27_0 : places X.P 27 0 = some (0, 1) := by kernel_rfl
@[go_sem] theorem fld_27_1 : fldo X.P 27 1 = some (1, 5) := by kernel_rfl
@[go_sem] theorem plc_27_1 : places X.P 27 1 = some (1, 1) := by kernel_rfl
@[go_sem] theorem fld_27_2 : fldo X.P 27 2 = some (2, 24) := by kernel_rfl
@[go_sem] theorem plc_27_2 : places X.P 27 2 = some (2, 4) := by kernel_rfl
@[go_sem] theorem fld_27_3 : fldo X.P 27 3 = some (6, 3) := by kernel_rfl
@[go_sem] theorem plc_27_3 : places X.P 27 3 = some (6, 1) := by kernel_rfl
@[go_sem] theorem fld_27_4 : fldo X.P 27 4 = some (7, 3) := by kernel_rfl
@[go_sem] theorem plc_27_4 : places X.P 27 4 = some (7, 1) := by kernel_rfl
@[go_sem] theorem fld_27_5 : fldo X.P 27 5 = some (8, 3) := by kernel_rfl
@[go_sem] theorem plc_27_5 : places X.P 27 5 = some (8, 1) := by kernel_rfl
@[go_sem] theorem fld_27_6 : fldo X.P 27 6 = some (9, 25) := by kernel_rfl
@[go_sem] theorem plc_27_6 : places X.P 27 6 = some (9, 1) := by kernel_rfl
@[go_sem] theorem shp_30 : shp X.P 30 = some (false, 1) := by kernel_rfl
@[go_sem] theorem zer_30 : zer X.P 30 = some (.int .i64 0) := by kernel_rfl
@[go_sem] theorem und_30 : X.P.underlying 30 = some (Go.TypeDesc.int .i64) := by kernel_rfl
@[go_sem] theorem shp_33 : shp X.P 33 = some (true, 4) := by kernel_rfl
@[go_sem] theorem zer_33 : zer X.P 33 = some (.agg [.int .u64 0, .int .u64 0, .int .u64 0, .int .u64 0]) := by kernel_rfl
@[go_sem] theorem arr_33 : arr X.P 33 = some (4, 22) := by kernel_rfl
@[go_sem] theorem bldz_33 : bldz X.P 33 = some [.int .u64 0, .int .u64 0, .int .u64 0, .int .u64 0] := by kernel_rfl
@[go_sem] theorem und_33 : X.P.underlying 33 = some (Go.TypeDesc.array 4 22) := by kernel_rfl
@[go_sem] theorem plc_33_0 : places X.P 33 0 = some (0, 1) := by kernel_rfl
@[go_sem] theorem plc_33_1 : places X.P 33 1 = some (1, 1) := by kernel_rfl
@[go_sem] theorem plc_33_2 : places X.P 33 2 = some (2, 1) := by kernel_rfl
@[go_sem] theorem plc_33_3 : places X.P 33 3 = some (3, 1) := by kernel_rfl
@[go_sem] theorem plc_33_4 : places X.P 33 4 = some (4, 1) := by kernel_rfl
@[go_sem] theorem plc_33_5 : places X.P 33 5 = some (5, 1) := by kernel_rfl
@[go_sem] theorem plc_33_6 : places X.P 33 6 = some (6, 1) := by kernel_rfl
@[go_sem] theorem plc_33_7 : places X.P 33 7 = some (7, 1) := by kernel_rfl
@[go_sem] theorem plc_33_8 : places X.P 33 8 = some (8, 1) := by kernel_rfl
@[go_sem] theorem plc_33_9 : places X.P 33 9 = some (9, 1) := by kernel_rfl
@[go_sem] theorem plc_33_10 : places X.P 33 10 = some (10, 1) := by kernel_rfl
@[go_sem] theorem plc_33_11 : places X.P 33 11 = some (11, 1) := by kernel_rfl
@[go_sem] theorem plc_33_12 : places X.P 33 12 = some (12, 1) := by kernel_rfl
@[go_sem] theorem plc_33_13 : places X.P 33 13 = some (13, 1) := by kernel_rfl
@[go_sem] theorem plc_33_14 : places X.P 33 14 = some (14, 1) := by kernel_rfl
@[go_sem] theorem plc_33_15 : places X.P 33 15 = some (15, 1) := by kernel_rfl
@[go_sem] theorem plc_33_16 : places X.P 33 16 = some (16, 1) := by kernel_rfl
@[go_sem] theorem plc_33_17 : places X.P 33 17 = some (17, 1) := by kernel_rfl
@[go_sem] theorem plc_33_18 : places X.P 33 18 = some (18, 1) := by kernel_rfl
@[go_sem] theorem plc_33_19 : places X.P 33 19 = some (19, 1) := by kernel_rfl
@[go_sem] theorem shp_34 : shp X.P 34 = some (false, 1) := by kernel_rfl
@[go_sem] theorem zer_34 : zer X.P 34 = some (.sl .nil []) := by kernel_rfl
@[go_sem] theorem slc_34 : slc X.P 34 = some (36, 10, 96) := by kernel_rfl
@[go_sem] theorem und_34 : X.P.underlying 34 = some (Go.TypeDesc.slice 36) := by kernel_rfl
@[go_sem] theorem shp_36 : shp X.P 36 = some (true, 10) := by kernel_rfl
@[go_sem] theorem zer_36 : zer X.P 36 = some (.agg [.int .i64 0, .int .u8 0, .int .u64 0, .int .u64 0, .int .u64 0, .int .u64 0, .int .i64 0, .int .i64 0, .int .i64 0, .sl .nil []]) := by kernel_rfl
@[go_sem] theorem bldz_36 : bldz X.P 36 = some [.int .i64 0, .int .u8 0, .int .u64 0, .int .u64 0, .int .u64 0, .int .u64 0, .int .i64 0, .int .i64 0, .int .i64 0, .sl .nil []] := by kernel_rfl
@[go_sem] theorem fld_36_0 : fldo X.P 36 0 = some (0, 3) := by kernel_rfl
@[go_sem] theorem plc_36_0 : places X.P 36 0 = some (0, 1) := by kernel_rfl
@[go_sem] theorem fld_36_1 : fldo X.P 36 1 = some (1, 5) := by kernel_rfl
@[go_sem] theorem plc_36_1 : places X.P 36 1 = some (1, 1) := by kernel_rfl
@[go_sem] theorem fld_36_2 : fldo X.P 36 2 = some (2, 33) := by kernel_rfl
@[go_sem] theorem plc_36_2 : places X.P 36 2 = some (2, 4) := by kernel_rfl
@[go_sem] theorem fld_36_3 : fldo X.P 36 3 = some (6, 3) := by kernel_rfl
@[go_sem] theorem plc_36_3 : places X.P 36 3 = some (6, 1) := by kernel_rfl
@[go_sem] theorem fld_36_4 : fldo X.P 36 4 = some (7, 3) := by kernel_rfl
@[go_sem] theorem plc_36_4 : places X.P 36 4 = some (7, 1) := by kernel_rfl
@[go_sem] theorem fld_36_5 : fldo X.P 36 5 = some (8, 3) := by kernel_rfl
@[go_sem] theorem plc_36_5 : places X.P 36 5 = some (8, 1) := by kernel_rfl
@[go_sem] theorem fld_36_6 : fldo X.P 36 6 = some (9, 34) := by kernel_rfl
@[go_sem] theorem plc_36_6 : places X.P 36 6 = some (9, 1) := by kernel_rfl
@[go_sem] theorem shp_46 : shp X.P 46 = some (true, 5) := by kernel_rfl
@[go_sem] theorem zer_46 : zer X.P 46 = some (.agg [.str [], .str [], .str [], .str [], .str []]) := by kernel_rfl
@[go_sem] theorem bldz_46 : bldz X.P 46 = some [.str [], .str [], .str [], .str [], .str []] := by kernel_rfl
@[go_sem] theorem fld_46_0 : fldo X.P 46 0 = some (0, 9) := by kernel_rfl
@[go_sem] theorem plc_46_0 : places X.P 46 0 = some (0, 1) := by kernel_rfl
@[go_sem] theorem fld_46_1 : fldo X.P 46 1 = some (1, 9) := by kernel_rfl
@[go_sem] theorem plc_46_1 : places X.P 46 1 = some (1, 1) := by kernel_rfl
@[go_sem] theorem fld_46_2 : fldo X.P 46 2 = some (2, 9) := by kernel_rfl
@[go_sem] theorem plc_46_2 : places X.P 46 2 = some (2, 1) := by kernel_rfl
@[go_sem] theorem fld_46_3 : fldo X.P 46 3 = some (3, 9) := by kernel_rfl
@[go_sem] theorem plc_46_3 : places X.P 46 3 = some (3, 1) := by kernel_rfl
@[go_sem] theorem fld_46_4 : fldo X.P 46 4 = some (4, 9) := by kernel_rfl
@[go_sem] theorem plc_46_4 : places X.P 46 4 = some (4, 1) := by kernel_rfl
@[go_sem] theorem shp_51 : shp X.P 51 = some (false, 1) := by kernel_rfl
@[go_sem] theorem zer_51 : zer X.P 51 = some .junk := by kernel_rfl
@[go_sem] theorem shp_53 : shp X.P 53 = some (true, 10) := by kernel_rfl
@[go_sem] theorem zer_53 : zer X.P 53 = some (.agg [.bool false, .bool false, .bool false, .bool false, .bool false, .bool false, .bool false, .bool false, .bool false, .bool false]) := by kernel_rfl
@[go_sem] theorem arr_53 : arr X.P 53 = some (10, 4) := by kernel_rfl
@[go_sem] theorem bldz_53 : bldz X.P 53 = some [.bool false, .bool false, .bool false, .bool false, .bool false, .bool false, .bool false, .bool false, .bool false, .bool false] := by kernel_rfl
@[go_sem] theorem und_53 : X.P.underlying 53 = some (Go.TypeDesc.array 10 4) := by kernel_rfl
@[go_sem] theorem plc_53_0 : places X.P 53 0 = some (0, 1) := by kernel_rfl
@[go_sem] theorem plc_53_1 : places X.P 53 1 = some (1, 1) := by kernel_rfl
@[go_sem] theorem plc_53_2 : places X.P 53 2 = some (2, 1) := by kernel_rfl
@[go_sem] theorem plc_53_3 : places X.P 53 3 = some (3, 1) := by kernel_rfl
@[go_sem] theorem plc_53_4 : places X.P 53 4 = some (4, 1) := by kernel_rfl
@[go_sem] theorem plc_53_5 : places X.P 53 5 = some (5, 1) := by kernel_rfl
@[go_sem] theorem plc_53_6 : places X.P 53 6 = some (6, 1) := by kernel_rfl
@[go_sem] theorem plc_53_7 : places X.P 53 7 = some (7, 1) := by kernel_rfl
@[go_sem] theorem plc_53_8 : places X.P 53 8 = some (8, 1) := by kernel_rfl
@[go_sem] theorem plc_53_9 : places X.P 53 9 = some (9, 1) := by kernel_rfl
@[go_sem] theorem plc_53_10 : places X.P 53 10 = some (10, 1) := by kernel_rfl
@[go_sem] theorem plc_53_11 : places X.P 53 11 = some (11, 1) := by kernel_rfl
@[go_sem] theorem plc_53_12 : places X.P 53 12 = some (12, 1) := by kernel_rfl
@[go_sem] theorem plc_53_13 : places X.P 53 13 = some (13, 1) := by kernel_rfl
@[go_sem] theorem plc_53_14 : places X.P 53 14 = some (14, 1) := by kernel_rfl
@[go_sem] theorem plc_53_15 : places X.P 53 15 = some (15, 1) := by kernel_rfl
@[go_sem] theorem plc_53_16 : places X.P 53 16 = some (16, 1) := by kernel_rfl
@[go_sem] theorem plc_53_17 : places X.P 53 17 = some (17, 1) := by kernel_rfl
@[go_sem] theorem plc_53_18 : places X.P 53 18 = some (18, 1) := by kernel_rfl
@[go_sem] theorem plc_53_19 : places X.P 53 19 = some (19, 1) := by kernel_rfl
@[go_sem] theorem shp_56 : shp X.P 56 = some (false, 1) := by kernel_rfl
@[go_sem] theorem zer_56 : zer X.P 56 = some .nilp := by kernel_rfl
@[go_sem] theorem und_56 : X.P.underlying 56 = some (Go.TypeDesc.pointer 58) := by kernel_rfl
@[go_sem] theorem shp_58 : shp X.P 58 = some (true, 5) := by kernel_rfl
@[go_sem] theorem zer_58 : zer X.P 58 = some (.agg [.str [], .int .i64 0, .bool false, .int .i64 0, .bool false]) := by kernel_rfl
@[go_sem] theorem bldz_58 : bldz X.P 58 = some [.str [], .int .i64 0, .bool false, .int .i64 0, .bool false] := by kernel_rfl
@[go_sem] theorem fld_58_0 : fldo X.P 58 0 = some (0, 9) := by kernel_rfl
@[go_sem] theorem plc_58_0 : places X.P 58 0 = some (0, 1) := by kernel_rfl
@[go_sem] theorem fld_58_1 : fldo X.P 58 1 = some (1, 3) := by kernel_rfl
@[go_sem] theorem plc_58_1 : places X.P 58 1 = some (1, 1) := by kernel_rfl
@[go_sem] theorem fld_58_2 : fldo X.P 58 2 = some (2, 4) := by kernel_rfl
@[go_sem] theorem plc_58_2 : places X.P 58 2 = some (2, 1) := by kernel_rfl
@[go_sem] theorem fld_58_3 : fldo X.P 58 3 = some (3, 3) := by kernel_rfl
@[go_sem] theorem plc_58_3 : places X.P 58 3 = some (3, 1) := by kernel_rfl
@[go_sem] theorem fld_58_4 : fldo X.P 58 4 = some (4, 4) := by kernel_rfl
@[go_sem] theorem plc_58_4 : places X.P 58 4 = some (4, 1) := by kernel_rfl
@[go_sem] theorem shp_61 : shp X.P 61 = some (false, 1) := by kernel_rfl
@[go_sem] theorem zer_61 : zer X.P 61 = some .nilp := by kernel_rfl
@[go_sem] theorem und_61 : X.P.underlying 61 = some (Go.TypeDesc.pointer 63) := by kernel_rfl
@[go_sem] theorem shp_63 : shp X.P 63 = some (true, 11) := by kernel_rfl
@[go_sem] theorem zer_63 : zer X.P 63 = some (.agg [.int .i64 0, .bool false, .bool false, .bool false, .bool false, .bool false, .bool false, .bool false, .bool false, .bool false, .bool false]) := by kernel_rfl
@[go_sem] theorem bldz_63 : bldz X.P 63 = some [.int .i64 0, .bool false, .bool false, .bool false, .bool false, .bool false, .bool false, .bool false, .bool false, .bool false, .bool false] := by kernel_rfl
@[go_sem] theorem fld_63_0 : fldo X.P 63 0 = some (0, 3) := by kernel_rfl
@[go_sem] theorem plc_63_0 : places X.P 63 0 = some (0, 1) := by kernel_rfl
@[go_sem] theorem fld_63_1 : fldo X.P 63 1 = some (1, 53) := by kernel_rfl
@[go_sem] theorem plc_63_1 : places X.P 63 1 = some (1, 10) := by kernel_rfl
@[go_sem] theorem shp_64 : shp X.P 64 = some (false, 1) := by kernel_rfl
@[go_sem] theorem zer_64 : zer X.P 64 = some .nilp := by kernel_rfl
@[go_sem] theorem und_64 : X.P.underlying 64 = some (Go.TypeDesc.pointer 67) := by kernel_rfl
@[go_sem] theorem shp_65 : shp X.P 65 = some (false, 1) := by kernel_rfl
@[go_sem] theorem zer_65 : zer X.P 65 = some (.sl .nil []) := by kernel_rfl
@[go_sem] theorem slc_65 : slc X.P 65 = some (5, 1, 1) := by kernel_rfl
@[go_sem] theorem und_65 : X.P.underlying 65 = some (Go.TypeDesc.slice 5) := by kernel_rfl
@[go_sem] theorem shp_67 : shp X.P 67 = some (true, 2) := by kernel_rfl
@[go_sem] theorem zer_67 : zer X.P 67 = some (.agg [.nilp, .sl .nil []]) := by kernel_rfl
@[go_sem] theorem bldz_67 : bldz X.P 67 = some [.nilp, .sl .nil []] := by kernel_rfl
@[go_sem] theorem fld_67_0 : fldo X.P 67 0 = some (0, 64) := by kernel_rfl
@[go_sem] theorem plc_67_0 : places X.P 67 0 = some (0, 1) := by kernel_rfl
@[go_sem] theorem fld_67_1 : fldo X.P 67 1 = some (1, 65) := by kernel_rfl
@[go_sem] theorem plc_67_1 : places X.P 67 1 = some (1, 1) := by kernel_rfl
@[go_sem] theorem shp_70 : shp X.P 70 = some (false, 1) := by kernel_rfl
@[go_sem] theorem zer_70 : zer X.P 70 = some .nilp := by kernel_rfl
@[go_sem] theorem und_70 : X.P.underlying 70 = some (Go.TypeDesc.pointer 72) := by kernel_rfl
@[go_sem] theorem shp_72 : shp X.P 72 = some (true, 4) := by kernel_rfl
@[go_sem] theorem zer_72 : zer X.P 72 = some (.agg [.str [], .int .i64 0, .int .i64 0, .bool false]) := by kernel_rfl
@[go_sem] theorem bldz_72 : bldz X.P 72 = some [.str [], .int .i64 0, .int .i64 0, .bool false] := by kernel_rfl
@[go_sem] theorem fld_72_0 : fldo X.P 72 0 = some (0, 9) := by kernel_rfl
@[go_sem] theorem plc_72_0 : places X.P 72 0 = some (0, 1) := by kernel_rfl
@[go_sem] theorem fld_72_1 : fldo X.P 72 1 = some (1, 3) := by kernel_rfl
@[go_sem] theorem plc_72_1 : places X.P 72 1 = some (1, 1) := by kernel_rfl
@[go_sem] theorem fld_72_2 : fldo X.P 72 2 = some (2, 3) := by kernel_rfl
@[go_sem] theorem plc_72_2 : places X.P 72 2 = some (2, 1) := by kernel_rfl
@[go_sem] theorem fld_72_3 : fldo X.P 72 3 = some (3, 4) := by kernel_rfl
@[go_sem] theorem plc_72_3 : places X.P 72 3 = some (3, 1) := by kernel_rfl
@[go_sem] theorem shp_75 : shp X.P 75 = some (true, 9) := by kernel_rfl
@[go_sem] theorem zer_75 : zer X.P 75 = some (.agg [.int .i64 0, .int .u8 0, .int .u64 0, .int .u64 0, .int .u64 0, .int .u64 0, .int .i64 0, .int .i64 0, .int .i64 0]) := by kernel_rfl
@[go_sem] theorem bldz_75 : bldz X.P 75 = some [.int .i64 0, .int .u8 0, .int .u64 0, .int .u64 0, .int .u64 0, .int .u64 0, .int .i64 0, .int .i64 0, .int .i64 0] := by kernel_rfl
@[go_sem] theorem fld_75_0 : fldo X.P 75 0 = some (0, 3) := by kernel_rfl
@[go_sem] theorem plc_75_0 : places X.P 75 0 = some (0, 1) := by kernel_rfl
@[go_sem] theorem fld_75_1 : fldo X.P 75 1 = some (1, 5) := by kernel_rfl
@[go_sem] theorem plc_75_1 : places X.P 75 1 = some (1, 1) := by kernel_rfl
@[go_sem] theorem fld_75_2 : fldo X.P 75 2 = some (2, 33) := by kernel_rfl
@[go_sem] theorem plc_75_2 : places X.P 75 2 = some (2, 4) := by kernel_rfl
@[go_sem] theorem fld_75_3 : fldo X.P 75 3 = some (6, 3) := by kernel_rfl
@[go_sem] theorem plc_75_3 : places X.P 75 3 = some (6, 1) := by kernel_rfl
@[go_sem] theorem fld_75_4 : fldo X.P 75 4 = some (7, 3) := by kernel_rfl
@[go_sem] theorem plc_75_4 : places X.P 75 4 = some (7, 1) := by kernel_rfl
@[go_sem] theorem fld_75_5 : fldo X.P 75 5 = some (8, 3) := by kernel_rfl
@[go_sem] theorem plc_75_5 : places X.P 75 5 = some (8, 1) := by kernel_rfl
@[go_sem] theorem shp_103 : shp X.P 103 = some (false, 1) := by kernel_rfl
@[go_sem] theorem zer_103 : zer X.P 103 = some (.sl .nil []) := by kernel_rfl
@[go_sem] theorem slc_103 : slc X.P 103 = some (3, 1, 8) := by kernel_rfl
@[go_sem] theorem und_103 : X.P.underlying 103 = some (Go.TypeDesc.slice 3) := by kernel_rfl
@[go_sem] theorem shp_137 : shp X.P 137 = some (false, 1) := by kernel_rfl
@[go_sem] theorem zer_137 : zer X.P 137 = some (.int .u64 0) := by kernel_rfl
@[go_sem] theorem und_137 : X.P.underlying 137 = some (Go.TypeDesc.int .u64) := by kernel_rfl
@[go_sem] theorem shp_142 : shp X.P 142 = some (false, 1) := by kernel_rfl
@[go_sem] theorem zer_142 : zer X.P 142 = some .nilp := by kernel_rfl
@[go_sem] theorem und_142 : X.P.underlying 142 = some (Go.TypeDesc.pointer 144) := by kernel_rfl
@[go_sem] theorem shp_144 : shp X.P 144 = some (true, 2) := by kernel_rfl
@[go_sem] theorem zer_144 : zer X.P 144 = some (.agg [.str [], .int .i64 0]) := by kernel_rfl
@[go_sem] theorem bldz_144 : bldz X.P 144 = some [.str [], .int .i64 0] := by kernel_rfl
@[go_sem] theorem fld_144_0 : fldo X.P 144 0 = some (0, 9) := by kernel_rfl
@[go_sem] theorem plc_144_0 : places X.P 144 0 = some (0, 1) := by kernel_rfl
@[go_sem] theorem fld_144_1 : fldo X.P 144 1 = some (1, 3) := by kernel_rfl
@[go_sem] theorem plc_144_1 : places X.P 144 1 = some (1, 1) := by kernel_rfl
@[go_sem] theorem shp_166 : shp X.P 166 = some (true, 256) := by kernel_rfl
@[go_sem] theorem zer_166 : zer X.P 166 = some (.agg [.bool false, .bool false, .bool false, .bool false, .bool false, .bool false, .bool false, .bool false, .bool false, .bool false, .bool false, .bool false, .bool false, .bool false, .bool false, .bool false, .bool false, .bool false, .bool false, .bool false, .bool false, .bool false, .bool false, .bool false, .bool false, .bool false, .bool false, .bool false, .bool false, .bool false, .bool false, .bool false, .bool false, .bool false, .bool false, .bool false, .bool false, .bool false, .bool false, .bool false, .bool false, .bool false, .bool false, .bool false, .bool false, .bool false, .bool false, .bool false, .bool false, .bool false, .bool false, .bool false, .bool false, .bool false, .bool false, .bool false, .bool false, .bool false, .bool false, .bool false, .bool false, .bool false, .bool false, .bool false, .bool false, .bool false, .bool false, .bool false, .bool false, .bool false, .bool false, .bool false, .bool false, .bool false, .bool false, .bool false, .bool false, .bool false, .bool false, .bool false, .bool false, .bool false, .bool false, .bool false, .bool false, .bool false, .bool false, .bool false, .bool false, .bool false, .bool false, .bool false, .bool false, .bool false, .bool false, .bool false, .bool false, .bool false, .bool false, .bool false, .bool false, .bool false, .bool false, .bool false, .bool false, .bool false, .bool false, .bool false, .bool false, .bool false, .bool false, .bool false, .bool false, .bool false, .bool false, .bool false, .bool false, .bool false, .bool false, .bool false, .bool false, .bool false, .bool false, .bool false, .bool false, .bool false, .bool false, .bool false, .bool false, .bool false, .bool false, .bool false, .bool false, .bool false, .bool false, .bool false, .bool false, .bool false, .bool false, .bool false, .bool false, .bool false, .bool false, .bool false, .bool false, .bool false, .bool false, .bool false, .bool false, .bool false, .bool false, .bool false, .bool false, .bool false, .bool false, .bool false, .bool false, .bool false, .bool false, .bool false, .bool false, .bool false, .bool false, .bool false, .bool false, .bool false, .bool false, .bool false, .bool false, .bool false, .bool false, .bool false, .bool false, .bool false, .bool false, .bool false, .bool false, .bool false, .bool false, .bool false, .bool false, .bool false, .bool false, .bool false, .bool false, .bool false, .bool false, .bool false, .bool false, .bool false, .bool false, .bool false, .bool false, .bool false, .bool false, .bool false, .bool false, .bool false, .bool false, .bool false, .bool false, .bool false, .bool false, .bool false, .bool false, .bool false, .bool false, .bool false, .bool false, .bool false, .bool false, .bool false, .bool false, .bool false, .bool false, .bool false, .bool false, .bool false, .bool false, .bool false, .bool false, .bool false, .bool false, .bool false, .bool false, .bool false, .bool false, .bool false, .bool false, .bool false, .bool false, .bool false, .bool false, .bool false, .bool false, .bool false, .bool false, .bool false, .bool false, .bool false, .bool false, .bool false, .bool false, .bool false, .bool false, .bool false, .bool false, .bool false, .bool false, .bool false, .bool false, .bool false, .bool false, .bool false, .bool false, .bool false]) := by kernel_rfl
@[go_sem] theorem arr_166 : arr X.P 166 = some (256, 4) := by kernel_rfl
@[go_sem] theorem bldz_166 : bldz X.P 166 = some [.bool false, .bool false, .bool false, .bool false, .bool false, .bool false, .bool false, .bool false, .bool false, .bool false, .bool false, .bool false, .bool false, .bool false, .bool false, .bool false, .bool false, .bool false, .bool false, .bool false, .bool false, .bool false, .bool false, .bool false, .bool false, .bool false, .bool false, .bool false, .bool false, .bool false, .bool false, .bool false, .bool false, .bool false, .bool false, .bool false, .bool false, .bool false, .bool false, .bool false, .bool false, .bool false, .bool false, .bool false, .bool false, .bool false, .bool false, .bool false, .bool false, .bool false, .bool false, .bool false, .bool false, .bool false, .bool false, .bool false, .bool false, .bool false, .bool false, .bool false, .bool false, .bool false, .bool false, .bool false, .bool false, .bool false, .bool false, .bool false, .bool false, .bool false, .bool false, .bool false, .bool false, .bool false, .bool false, .bool false, .bool false, .bool false, .bool false, .bool false, .bool false, .bool false, .bool false, .bool false, .bool false, .bool false, .bool false, .bool false, .bool false, .bool false, .bool false, .bool false, .bool false, .bool false, .bool false, .bool false, .bool false, .bool false, .bool false, .bool false, .bool false, .bool false, .bool false, .bool false, .bool false, .bool false, .bool false, .bool false, .bool false, .bool false, .bool false, .bool false, .bool false, .bool false, .bool false, .bool false, .bool false, .bool false, .bool false, .bool false, .bool false, .bool false, .bool false, .bool false, .bool false, .bool false, .bool false, .bool false, .bool false, .bool false, .bool false, .bool false, .bool false, .bool false, .bool false, .bool false, .bool false, .bool false, .bool false, .bool false, .bool false, .bool false, .bool false, .bool false, .bool false, .bool false, .bool false, .bool false, .bool false, .bool false, .bool false, .bool false, .bool false, .bool false, .bool false, .bool false, .bool false, .bool false, .bool false, .bool false, .bool false, .bool false, .bool false, .bool false, .bool false, .bool false, .bool false, .bool false, .bool false, .bool false, .bool false, .bool false, .bool false, .bool false, .bool false, .bool false, .bool false, .bool false, .bool false, .bool false, .bool false, .bool false, .bool false, .bool false, .bool false, .bool false, .bool false, .bool false, .bool false, .bool false, .bool false, .bool false, .bool false, .bool false, .bool false, .bool false, .bool false, .bool false, .bool false, .bool false, .bool false, .bool false, .bool false, .bool false, .bool false, .bool false, .bool false, .bool false, .bool false, .bool false, .bool false, .bool false, .bool false, .bool false, .bool false, .bool false, .bool false, .bool false, .bool false, .bool false, .bool false, .bool false, .bool false, .bool false, .bool false, .bool false, .bool false, .bool false, .bool false, .bool false, .bool false, .bool false, .bool false, .bool false, .bool false, .bool false, .bool false, .bool false, .bool false, .bool false, .bool false, .bool false, .bool false, .bool false, .bool false, .bool false, .bool false, .bool false, .bool false, .bool false, .bool false, .bool false, .bool false, .bool false, .bool false, .bool false] := by kernel_rfl
@[go_sem] theorem und_166 : X.P.underlying 166 = some (Go.TypeDesc.array 256 4) := by kernel_rfl
@[go_sem] theorem plc_166_0 : places X.P 166 0 = some (0, 1) := by kernel_rfl
@[go_sem] theorem plc_166_1 : places X.P 166 1 = some (1, 1) := by kernel_rfl
@[go_sem] theorem plc_166_2 : places X.P 166 2 = some (2, 1) := by kernel_rfl
@[go_sem] theorem plc_166_3 : places X.P 166 3 = some (3, 1) := by kernel_rfl
@[go_sem] theorem plc_166_4 : places X.P 166 4 = some (4, 1) := by kernel_rfl
@[go_sem] theorem plc_166_5 : places X.P 166 5 = some (5, 1) := by kernel_rfl
@[go_sem] theorem plc_166_6 : places X.P 166 6 = some (6, 1) := by kernel_rfl
@[go_sem] theorem plc_166_7 : places X.P 166 7 = some (7, 1) := by kernel_rfl
@[go_sem] theorem plc_166_8 : places X.P 166 8 = some (8, 1) := by kernel_rfl
@[go_sem] theorem plc_166_9 : places X.P 166 9 = some (9, 1) := by kernel_rfl
@[go_sem] theorem plc_166_10 : places X.P 166 10 = some (10, 1) := by kernel_rfl
@[go_sem] theorem plc_166_11 : places X.P 166 11 = some (11, 1) := by kernel_rfl
@[go_sem] theorem plc_166_12 : places X.P 166 12 = some (12, 1) := by kernel_rfl
@[go_sem] theorem plc_166_13 : places X.P 166 13 = some (13, 1) := by kernel_rfl
@[go_sem] theorem plc_166_14 : places X.P 166 14 = some (14, 1) := by kernel_rfl
@[go_sem] theorem plc_166_15 : places X.P 166 15 = some (15, 1) := by kernel_rfl
@[go_sem] theorem plc_166_16 : places X.P 166 16 = some (16, 1) := by kernel_rfl
@[go_sem] theorem plc_166_17 : places X.P 166 17 = some (17, 1) := by kernel_rfl
@[go_sem] theorem plc_166_18 : places X.P 166 18 = some (18, 1) := by kernel_rfl
@[go_sem] theorem plc_166_19 : places X.P 166 19 = some (19, 1) := by kernel_rfl
@[go_sem] theorem shp_170 : shp X.P 170 = some (false, 1) := by kernel_rfl
@[go_sem] theorem zer_170 : zer X.P 170 = some .nilp := by kernel_rfl
@[go_sem] theorem und_170 : X.P.underlying 170 = some (Go.TypeDesc.pointer 166) := by kernel_rfl
end Go.Proofs.Tryz.E
