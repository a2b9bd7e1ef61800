/- Walks: what the functions compute. -/
import Derived.Test.YtcgjdgmmnmmifaaGreatDoorMvE
import Derived.Test.YtcgjdgmmnmmifaaGreatDoorMvD
import Derived.Test.YtcgjdgmmnmmifaaGreatDoorMvG
import Derived.KernelRfl
import Derived.Test.YtcgjdgmmnmmifaaGreatDoorChecked
set_option linter.unusedVariables false
set_option linter.unusedSimpArgs false
/- The program's types, as the evaluator looks at them. -/
namespace Go.Proofs.Tryz.E
open Go.Mv

/-- The first place of a byte; -1: there is none. -/
def idxB : List UInt8 → Int → Int
  | [], _ => -1
  | b :: s, c => if (b.toNat : Int) = c then 0 else if idxB s c < 0 then -1 else idxB s c + 1
def idxByteP : Nat → Nat → List MV → Sto → Option (MV × Sto)
  | _, _, [.str s, .int .u8 c], σ => if 0 ≤ c ∧ c < 256 then some (.int .i64 (idxB s c), σ) else none
  | _, _, _, _ => none
/-- The first place of a text; -1: there is none. -/
def idxS : List UInt8 → List UInt8 → Int
  | [], t => if t = [] then 0 else -1
  | b :: s, t => if t <+: (b :: s) then 0 else if idxS s t < 0 then -1 else idxS s t + 1
def indexP : Nat → Nat → List MV → Sto → Option (MV × Sto)
  | _, _, [.str s, .str t], σ => if s.length < 4294967281 then some (.int .i64 (idxS s t), σ) else none
  | _, _, _, _ => none
/-- A text without the bytes of a set at its beginning. -/
def trimP : Nat → Nat → List MV → Sto → Option (MV × Sto)
  | _, _, [.str s, .str c], σ => if c = [48, 49, 50, 51, 52, 53, 54, 55, 56, 57] ∨ c = [32, 9] then some (.str (s.dropWhile (c.contains ·)), σ) else none
  | _, _, _, _ => none
/-- A lexer at a text's beginning, of its own. -/
def newP : Nat → Nat → List MV → Sto → Option (MV × Sto)
  | lim, d + 1, [.str s], σ => if lim ≤ d then some (.ptr ⟨d, 0, σ.ct d⟩ 0, (σ.set ⟨d, 0, σ.ct d⟩ [.str s, .int .i64 0]).tick d) else none
  | _, _, _, _ => none
/-- A row of its own. -/
def cloneP (z b : Nat) : Nat → Nat → List MV → Sto → Option (MV × Sto)
  | lim, d + 1, [.sl _ xs], σ =>
    if xs = [] then some (.sl .no [], σ) else
    if lim ≤ d ∧ okz z xs = true ∧ xs.length * b ≤ 140737488355328 then (xs.mapM datas).map fun ys => (.rs ⟨d, 0, σ.ct d⟩ 0 xs.length z, (σ.set ⟨d, 0, σ.ct d⟩ ys.flatten).tick d) else none
  | _, _, _, _ => none
/-- A Builder's place; its own address. -/
def isB (l : Mv.Loc) : Bool := decide (l.t = 1000000 + (151 * 1024 + 2))
def okA (l : Mv.Loc) : MV → Bool
  | .nilp => true
  | .ptr l' 0 => decide (l' = l)
  | _ => false
def wstrP : Nat → Nat → List MV → Sto → Option (MV × Sto)
  | lim, d + 1, [.ptr l 0, .str x], σ =>
    if lim ≤ l.d ∧ l.d ≤ d ∧ isB l = true then
      match σ.ob l with
      | some [p, .sl tk xs] => if okA l p = true then (bapp lim l.d 5 σ tk xs x).map fun r => (.tup [.int .i64 x.length, .junk], r.2.set l [.ptr l 0, r.1]) else none
      | _ => none
    else none
  | _, _, _, _ => none
def wbyteP : Nat → Nat → List MV → Sto → Option (MV × Sto)
  | lim, d + 1, [.ptr l 0, .int .u8 c], σ =>
    if lim ≤ l.d ∧ l.d ≤ d ∧ isB l = true ∧ 0 ≤ c ∧ c < 256 then
      match σ.ob l with
      | some [p, .sl tk xs] => if okA l p = true then (bapp lim l.d 5 σ tk xs [UInt8.ofNat c.toNat]).map fun r => (.junk, r.2.set l [.ptr l 0, r.1]) else none
      | _ => none
    else none
  | _, _, _, _ => none
/-- A Builder that is the second part of a command's builder. -/
def isB1 (l : Mv.Loc) : Bool := decide (l.t = 1000000 + (176 * 1024 + 3))
def okA1 (l : Mv.Loc) : MV → Bool
  | .nilp => true
  | .ptr l' 1 => decide (l' = l)
  | _ => false
def wbyteP1 : Nat → Nat → List MV → Sto → Option (MV × Sto)
  | lim, d + 1, [.ptr l 1, .int .u8 c], σ =>
    if lim ≤ l.d ∧ l.d ≤ d ∧ isB1 l = true ∧ 0 ≤ c ∧ c < 256 then
      match σ.ob l with
      | some [q, p, .sl tk xs] => if okA1 l p = true then (bapp lim l.d 5 σ tk xs [UInt8.ofNat c.toNat]).map fun r => (.junk, r.2.set l [q, .ptr l 1, r.1]) else none
      | _ => none
    else none
  | _, _, _, _ => none
/-- Cells that are bytes. -/
def inB : List (List MV) → Bool
  | [] => true
  | [.int .u8 n] :: r => decide (0 ≤ n ∧ n < 256) && inB r
  | _ => false
def bstrP : Nat → Nat → List MV → Sto → Option (MV × Sto)
  | lim, d + 1, [.ptr l 0], σ =>
    if lim ≤ l.d ∧ l.d ≤ d then
      match σ.ob l with
      | some [p, .sl .nil []] => some (.str [], σ)
      | some [p, .sl (.byt k c q) xs] =>
        match bytesOf xs with
        | some bs => if lim ≤ k ∧ k ≤ l.d ∧ q = 5 ∧ bs ≠ [] ∧ okz 1 xs = true ∧ (inB xs = true ∧ xs.length ≤ 140737488355328) ∧ σ.ow k c = some (xs.length, 1) then some (.str bs, (σ.own k c none).set l [p, .sl .no xs]) else none
        | none => none
      | _ => none
    else none
  | _, _, _, _ => none
def bstrP1 : Nat → Nat → List MV → Sto → Option (MV × Sto)
  | lim, d + 1, [.ptr l 1], σ =>
    if lim ≤ l.d ∧ l.d ≤ d then
      match σ.ob l with
      | some [q, p, .sl .nil []] => some (.str [], σ)
      | some [q, p, .sl (.byt k c e) xs] =>
        match bytesOf xs with
        | some bs => if lim ≤ k ∧ k ≤ l.d ∧ e = 5 ∧ bs ≠ [] ∧ okz 1 xs = true ∧ (inB xs = true ∧ xs.length ≤ 140737488355328) ∧ σ.ow k c = some (xs.length, 1) then some (.str bs, (σ.own k c none).set l [q, p, .sl .no xs]) else none
        | none => none
      | _ => none
    else none
  | _, _, _, _ => none
def at1 : List MV → Bool
  | .ptr _ 1 :: _ => true
  | _ => false
def wbyteQ (lim d : Nat) (ms : List MV) (σ : Sto) : Option (MV × Sto) := if at1 ms = true then wbyteP1 lim d ms σ else wbyteP lim d ms σ
def bstrQ (lim d : Nat) (ms : List MV) (σ : Sto) : Option (MV × Sto) := if at1 ms = true then bstrP1 lim d ms σ else bstrP lim d ms σ
/-- A text without the blanks at both ends. -/
def trimB (s : List UInt8) : List UInt8 := ((s.reverse.dropWhile (([32, 9] : List UInt8).contains ·)).reverse).dropWhile (([32, 9] : List UInt8).contains ·)
def trimAllP : Nat → Nat → List MV → Sto → Option (MV × Sto)
  | _, _, [.str s, .str c], σ => if c = [32, 9] ∧ s.length ≤ 9223372036854775807 then some (.str (trimB s), σ) else none
  | _, _, _, _ => none
/-- Whether a text has one of three signs. -/
def anyP : Nat → Nat → List MV → Sto → Option (MV × Sto)
  | _, _, [.str s, .str c], σ => if c = [10, 59, 125] ∧ s.length < 4294967281 then some (.bool (s.any (([10, 59, 125] : List UInt8).contains ·)), σ) else none
  | _, _, _, _ => none
def u4 : List Sh := [.i .u64, .i .u64, .i .u64, .i .u64]
noncomputable def X : Cfg where
  P := Go.Proofs.Tryz.prog
  eqT := fun t => if t = 60 then some u4 else if t = 132 then some ([.i .i64, .i .u8] ++ u4 ++ [.i .i64, .i .i64, .i .i64]) else if t = 93 then some [.i .i64, .s] else if t = 99 then some [.i .i64, .s] else none
  prim := fun f => if f = 173 then some (cloneP 10 96) else if f = 70 then some idxByteP else if f = 128 then some indexP else if f = 114 then some wstrP else if f = 76 then some wbyteQ else if f = 77 then some bstrQ else if f = 69 then some trimP else if f = 21 then some newP else none
  kp := fun b q => b = 0 ∧ q = fun x => ∃ m t i, x = .cells #[.int .i64 m] t i
  tg := fun t => decide (t = 151 ∨ t = 176)
  hotF := fun f => if f = 77 then true else if f = 72 then true else false
  kt := fun t => decide (t = 41 ∨ t = 148 ∨ t = 80)
  rw := fun t n => if t = 23 then (if n = 78 then some 1 else if n = 67 then some 1 else none) else none
  pt := fun t => decide (t = 23)

@[go_sem] theorem locX (t n : Nat) (o : Option Tmp) : locT X t n o = if t = 151 then (if n < 1024 then 1000000 + (t * 1024 + n) else dstT o) else if t = 176 then (if n < 1024 then 1000000 + (t * 1024 + n) else dstT o) else dstT o := by
  unfold locT X
  simp only [decide_eq_true_eq]
  by_cases h1 : t = 151
  · rw [if_pos (Or.inl h1), if_pos h1]
  · by_cases h2 : t = 176
    · rw [if_pos (Or.inr h2), if_neg h1, if_pos h2]
    · rw [if_neg (fun q => q.elim h1 h2), if_neg h1, if_neg h2]
@[go_sem] theorem dstT_some (t : Nat) : dstT (some t) = if t < 1000000 then t else 0 := rfl
@[go_sem] theorem dep_ptr (d : Nat) (l : Mv.Loc) (o : Nat) : dep d (.ptr l o) = decide (l.d < d) := rfl
@[go_sem] theorem ktX {α : Type} (t d : Nat) (m : MV) (x y : α) : (if (X.kt t && dep d m) = true then x else y) = if t = 41 then (if dep d m = true then x else y) else if t = 148 then (if dep d m = true then x else y) else if t = 80 then (if dep d m = true then x else y) else y := by
  unfold X
  simp only [Bool.and_eq_true, decide_eq_true_eq]
  by_cases h1 : t = 41
  · simp [h1]
  · by_cases h2 : t = 148
    · simp [h2]
    · by_cases h3 : t = 80
      · simp [h3]
      · rw [if_neg (fun q => q.1.elim h1 fun q => q.elim h2 h3), if_neg h1, if_neg h2, if_neg h3]
@[go_sem] theorem ptX {α : Type} (t d : Nat) (m : MV) (x y : α) : (if (X.pt t && dep d m) = true then x else y) = if t = 23 then (if dep d m = true then x else y) else y := by
  unfold X
  simp only [Bool.and_eq_true, decide_eq_true_eq]
  by_cases h1 : t = 23
  · simp [h1]
  · rw [if_neg (fun q => h1 q.1), if_neg h1]
@[go_sem] theorem upX (t n : Nat) : X.up t n = 0 := rfl
@[go_sem] theorem rwX (t n : Nat) : X.rw t n = if t = 23 then (if n = 78 then some 1 else if n = 67 then some 1 else none) else none := rfl
@[go_sem] theorem shp_3 : shp X.P 3 = some (false, 1) := by kernel_rfl
@[go_sem] theorem zer_3 : zer X.P 3 = some (.int .i64 0) := by kernel_rfl
@[go_sem] theorem und_3 : X.P.underlying 3 = some (Go.TypeDesc.int .i64) := by kernel_rfl
@[go_sem] theorem shp_4 : shp X.P 4 = some (false, 1) := by kernel_rfl
@[go_sem] theorem zer_4 : zer X.P 4 = some (.bool false) := by kernel_rfl
@[go_sem] theorem und_4 : X.P.underlying 4 = some Go.TypeDesc.bool := by kernel_rfl
@[go_sem] theorem shp_5 : shp X.P 5 = some (false, 1) := by kernel_rfl
@[go_sem] theorem zer_5 : zer X.P 5 = some (.int .u8 0) := by kernel_rfl
@[go_sem] theorem und_5 : X.P.underlying 5 = some (Go.TypeDesc.int .u8) := by kernel_rfl
@[go_sem] theorem shp_9 : shp X.P 9 = some (false, 1) := by kernel_rfl
@[go_sem] theorem zer_9 : zer X.P 9 = some (.str []) := by kernel_rfl
@[go_sem] theorem und_9 : X.P.underlying 9 = some Go.TypeDesc.string := by kernel_rfl
@[go_sem] theorem shp_21 : shp X.P 21 = some (false, 1) := by kernel_rfl
@[go_sem] theorem zer_21 : zer X.P 21 = some (.int .i32 0) := by kernel_rfl
@[go_sem] theorem und_21 : X.P.underlying 21 = some (Go.TypeDesc.int .i32) := by kernel_rfl
@[go_sem] theorem shp_23 : shp X.P 23 = some (false, 1) := by kernel_rfl
@[go_sem] theorem zer_23 : zer X.P 23 = some (.sl .nil []) := by kernel_rfl
@[go_sem] theorem slc_23 : slc X.P 23 = some (45, 50, 496) := by kernel_rfl
@[go_sem] theorem und_23 : X.P.underlying 23 = some (Go.TypeDesc.slice 45) := by kernel_rfl
@[go_sem] theorem shp_25 : shp X.P 25 = some (true, 2) := by kernel_rfl
@[go_sem] theorem zer_25 : zer X.P 25 = some (.agg [.bool false, .sl .nil []]) := by kernel_rfl
@[go_sem] theorem bldz_25 : bldz X.P 25 = some [.bool false, .sl .nil []] := by kernel_rfl
@[go_sem] theorem fld_25_0 : fldo X.P 25 0 = some (0, 4) := by kernel_rfl
@[go_sem] theorem plc_25_0 : places X.P 25 0 = some (0, 1) := by kernel_rfl
@[go_sem] theorem fld_25_1 : fldo X.P 25 1 = some (1, 23) := by kernel_rfl
@[go_sem] theorem plc_25_1 : places X.P 25 1 = some (1, 1) := by kernel_rfl
@[go_sem] theorem shp_26 : shp X.P 26 = some (false, 1) := by kernel_rfl
@[go_sem] theorem zer_26 : zer X.P 26 = some (.int .i64 0) := by kernel_rfl
@[go_sem] theorem und_26 : X.P.underlying 26 = some (Go.TypeDesc.int .i64) := by kernel_rfl
@[go_sem] theorem shp_31 : shp X.P 31 = some (false, 1) := by kernel_rfl
@[go_sem] theorem zer_31 : zer X.P 31 = some (.int .u64 0) := by kernel_rfl
@[go_sem] theorem und_31 : X.P.underlying 31 = some (Go.TypeDesc.int .u64) := by kernel_rfl
@[go_sem] theorem shp_33 : shp X.P 33 = some (true, 4) := by kernel_rfl
@[go_sem] theorem zer_33 : zer X.P 33 = some (.agg [.int .u64 0, .int .u64 0, .int .u64 0, .int .u64 0]) := by kernel_rfl
@[go_sem] theorem arr_33 : arr X.P 33 = some (4, 31) := by kernel_rfl
@[go_sem] theorem bldz_33 : bldz X.P 33 = some [.int .u64 0, .int .u64 0, .int .u64 0, .int .u64 0] := by kernel_rfl
@[go_sem] theorem und_33 : X.P.underlying 33 = some (Go.TypeDesc.array 4 31) := by kernel_rfl
@[go_sem] theorem plc_33_0 : places X.P 33 0 = some (0, 1) := by kernel_rfl
@[go_sem] theorem plc_33_1 : places X.P 33 1 = some (1, 1) := by kernel_rfl
@[go_sem] theorem plc_33_2 : places X.P 33 2 = some (2, 1) := by kernel_rfl
@[go_sem] theorem plc_33_3 : places X.P 33 3 = some (3, 1) := by kernel_rfl
@[go_sem] theorem plc_33_4 : places X.P 33 4 = some (4, 1) := by kernel_rfl
@[go_sem] theorem plc_33_5 : places X.P 33 5 = some (5, 1) := by kernel_rfl
@[go_sem] theorem plc_33_6 : places X.P 33 6 = some (6, 1) := by kernel_rfl
@[go_sem] theorem plc_33_7 : places X.P 33 7 = some (7, 1) := by kernel_rfl
@[go_sem] theorem plc_33_8 : places X.P 33 8 = some (8, 1) := by kernel_rfl
@[go_sem] theorem plc_33_9 : places X.P 33 9 = some (9, 1) := by kernel_rfl
@[go_sem] theorem plc_33_10 : places X.P 33 10 = some (10, 1) := by kernel_rfl
@[go_sem] theorem plc_33_11 : places X.P 33 11 = some (11, 1) := by kernel_rfl
@[go_sem] theorem plc_33_12 : places X.P 33 12 = some (12, 1) := by kernel_rfl
@[go_sem] theorem plc_33_13 : places X.P 33 13 = some (13, 1) := by kernel_rfl
@[go_sem] theorem plc_33_14 : places X.P 33 14 = some (14, 1) := by kernel_rfl
@[go_sem] theorem plc_33_15 : places X.P 33 15 = some (15, 1) := by kernel_rfl
@[go_sem] theorem plc_33_16 : places X.P 33 16 = some (16, 1) := by kernel_rfl
@[go_sem] theorem plc_33_17 : places X.P 33 17 = some (17, 1) := by kernel_rfl
@[go_sem] theorem plc_33_18 : places X.P 33 18 = some (18, 1) := by kernel_rfl
@[go_sem] theorem plc_33_19 : places X.P 33 19 = some (19, 1) := by kernel_rfl
@[go_sem] theorem shp_34 : shp X.P 34 = some (false, 1) := by kernel_rfl
@[go_sem] theorem zer_34 : zer X.P 34 = some (.sl .nil []) := by kernel_rfl
@[go_sem] theorem slc_34 : slc X.P 34 = some (36, 10, 96) := by kernel_rfl
@[go_sem] theorem und_34 : X.P.underlying 34 = some (Go.TypeDesc.slice 36) := by kernel_rfl
@[go_sem] theorem shp_36 : shp X.P 36 = some (true, 10) := by kernel_rfl
@[go_sem] theorem zer_36 : zer X.P 36 = some (.agg [.int .i64 0, .int .u8 0, .int .u64 0, .int .u64 0, .int .u64 0, .int .u64 0, .int .i64 0, .int .i64 0, .int .i64 0, .sl .nil []]) := by kernel_rfl
@[go_sem] theorem bldz_36 : bldz X.P 36 = some [.int .i64 0, .int .u8 0, .int .u64 0, .int .u64 0, .int .u64 0, .int .u64 0, .int .i64 0, .int .i64 0, .int .i64 0, .sl .nil []] := by kernel_rfl
@[go_sem] theorem fld_36_0 : fldo X.P 36 0 = some (0, 3) := by kernel_rfl
@[go_sem] theorem plc_36_0 : places X.P 36 0 = some (0, 1) := by kernel_rfl
@[go_sem] theorem fld_36_1 : fldo X.P 36 1 = some (1, 5) := by kernel_rfl
@[go_sem] theorem plc_36_1 : places X.P 36 1 = some (1, 1) := by kernel_rfl
@[go_sem] theorem fld_36_2 : fldo X.P 36 2 = some (2, 33) := by kernel_rfl
@[go_sem] theorem plc_36_2 : places X.P 36 2 = some (2, 4) := by kernel_rfl
@[go_sem] theorem fld_36_3 : fldo X.P 36 3 = some (6, 3) := by kernel_rfl
@[go_sem] theorem plc_36_3 : places X.P 36 3 = some (6, 1) := by kernel_rfl
@[go_sem] theorem fld_36_4 : fldo X.P 36 4 = some (7, 3) := by kernel_rfl
@[go_sem] theorem plc_36_4 : places X.P 36 4 = some (7, 1) := by kernel_rfl
@[go_sem] theorem fld_36_5 : fldo X.P 36 5 = some (8, 3) := by kernel_rfl
@[go_sem] theorem plc_36_5 : places X.P 36 5 = some (8, 1) := by kernel_rfl
@[go_sem] theorem fld_36_6 : fldo X.P 36 6 = some (9, 34) := by kernel_rfl
@[go_sem] theorem plc_36_6 : places X.P 36 6 = some (9, 1) := by kernel_rfl
@[go_sem] theorem shp_38 : shp X.P 38 = some (true, 12) := by kernel_rfl
@[go_sem] theorem zer_38 : zer X.P 38 = some (.agg [.int .i64 0, .int .i64 0, .int .i64 0, .int .u8 0, .int .u64 0, .int .u64 0, .int .u64 0, .int .u64 0, .int .i64 0, .int .i64 0, .int .i64 0, .sl .nil []]) := by kernel_rfl
@[go_sem] theorem bldz_38 : bldz X.P 38 = some [.int .i64 0, .int .i64 0, .int .i64 0, .int .u8 0, .int .u64 0, .int .u64 0, .int .u64 0, .int .u64 0, .int .i64 0, .int .i64 0, .int .i64 0, .sl .nil []] := by kernel_rfl
@[go_sem] theorem fld_38_0 : fldo X.P 38 0 = some (0, 3) := by kernel_rfl
@[go_sem] theorem plc_38_0 : places X.P 38 0 = some (0, 1) := by kernel_rfl
@[go_sem] theorem fld_38_1 : fldo X.P 38 1 = some (1, 3) := by kernel_rfl
@[go_sem] theorem plc_38_1 : places X.P 38 1 = some (1, 1) := by kernel_rfl
@[go_sem] theorem fld_38_2 : fldo X.P 38 2 = some (2, 36) := by kernel_rfl
@[go_sem] theorem plc_38_2 : places X.P 38 2 = some (2, 10) := by kernel_rfl
@[go_sem] theorem shp_40 : shp X.P 40 = some (true, 25) := by kernel_rfl
@[go_sem] theorem zer_40 : zer X.P 40 = some (.agg [.int .i64 0, .int .i64 0, .int .i64 0, .int .u8 0, .int .u64 0, .int .u64 0, .int .u64 0, .int .u64 0, .int .i64 0, .int .i64 0, .int .i64 0, .sl .nil [], .int .i64 0, .int .i64 0, .int .i64 0, .int .u8 0, .int .u64 0, .int .u64 0, .int .u64 0, .int .u64 0, .int .i64 0, .int .i64 0, .int .i64 0, .sl .nil [], .bool false]) := by kernel_rfl
@[go_sem] theorem bldz_40 : bldz X.P 40 = some [.int .i64 0, .int .i64 0, .int .i64 0, .int .u8 0, .int .u64 0, .int .u64 0, .int .u64 0, .int .u64 0, .int .i64 0, .int .i64 0, .int .i64 0, .sl .nil [], .int .i64 0, .int .i64 0, .int .i64 0, .int .u8 0, .int .u64 0, .int .u64 0, .int .u64 0, .int .u64 0, .int .i64 0, .int .i64 0, .int .i64 0, .sl .nil [], .bool false] := by kernel_rfl
@[go_sem] theorem fld_40_0 : fldo X.P 40 0 = some (0, 38) := by kernel_rfl
@[go_sem] theorem plc_40_0 : places X.P 40 0 = some (0, 12) := by kernel_rfl
@[go_sem] theorem fld_40_1 : fldo X.P 40 1 = some (12, 38) := by kernel_rfl
@[go_sem] theorem plc_40_1 : places X.P 40 1 = some (12, 12) := by kernel_rfl
@[go_sem] theorem fld_40_2 : fldo X.P 40 2 = some (24, 4) := by kernel_rfl
@[go_sem] theorem plc_40_2 : places X.P 40 2 = some (24, 1) := by kernel_rfl
@[go_sem] theorem shp_41 : shp X.P 41 = some (false, 1) := by kernel_rfl
@[go_sem] theorem zer_41 : zer X.P 41 = some (.sl .nil []) := by kernel_rfl
@[go_sem] theorem slc_41 : slc X.P 41 = some (99, 2, 24) := by kernel_rfl
@[go_sem] theorem und_41 : X.P.underlying 41 = some (Go.TypeDesc.slice 99) := by kernel_rfl
@[go_sem] theorem shp_43 : shp X.P 43 = some (true, 48) := by kernel_rfl
@[go_sem] theorem zer_43 : zer X.P 43 = some (.agg [.int .u8 0, .int .i64 0, .int .i64 0, .int .i64 0, .int .u8 0, .int .u64 0, .int .u64 0, .int .u64 0, .int .u64 0, .int .i64 0, .int .i64 0, .int .i64 0, .sl .nil [], .int .i64 0, .int .i64 0, .int .i64 0, .int .u8 0, .int .u64 0, .int .u64 0, .int .u64 0, .int .u64 0, .int .i64 0, .int .i64 0, .int .i64 0, .sl .nil [], .bool false, .str [], .str [], .str [], .int .i64 0, .int .i64 0, .int .i64 0, .int .u8 0, .int .u64 0, .int .u64 0, .int .u64 0, .int .u64 0, .int .i64 0, .int .i64 0, .int .i64 0, .sl .nil [], .sl .nil [], .int .i64 0, .bool false, .bool false, .str [], .str [], .int .i64 0]) := by kernel_rfl
@[go_sem] theorem bldz_43 : bldz X.P 43 = some [.int .u8 0, .int .i64 0, .int .i64 0, .int .i64 0, .int .u8 0, .int .u64 0, .int .u64 0, .int .u64 0, .int .u64 0, .int .i64 0, .int .i64 0, .int .i64 0, .sl .nil [], .int .i64 0, .int .i64 0, .int .i64 0, .int .u8 0, .int .u64 0, .int .u64 0, .int .u64 0, .int .u64 0, .int .i64 0, .int .i64 0, .int .i64 0, .sl .nil [], .bool false, .str [], .str [], .str [], .int .i64 0, .int .i64 0, .int .i64 0, .int .u8 0, .int .u64 0, .int .u64 0, .int .u64 0, .int .u64 0, .int .i64 0, .int .i64 0, .int .i64 0, .sl .nil [], .sl .nil [], .int .i64 0, .bool false, .bool false, .str [], .str [], .int .i64 0] := by kernel_rfl
@[go_sem] theorem fld_43_0 : fldo X.P 43 0 = some (0, 5) := by kernel_rfl
@[go_sem] theorem plc_43_0 : places X.P 43 0 = some (0, 1) := by kernel_rfl
@[go_sem] theorem fld_43_1 : fldo X.P 43 1 = some (1, 40) := by kernel_rfl
@[go_sem] theorem plc_43_1 : places X.P 43 1 = some (1, 25) := by kernel_rfl
@[go_sem] theorem fld_43_2 : fldo X.P 43 2 = some (26, 9) := by kernel_rfl
@[go_sem] theorem plc_43_2 : places X.P 43 2 = some (26, 1) := by kernel_rfl
@[go_sem] theorem fld_43_3 : fldo X.P 43 3 = some (27, 9) := by kernel_rfl
@[go_sem] theorem plc_43_3 : places X.P 43 3 = some (27, 1) := by kernel_rfl
@[go_sem] theorem fld_43_4 : fldo X.P 43 4 = some (28, 9) := by kernel_rfl
@[go_sem] theorem plc_43_4 : places X.P 43 4 = some (28, 1) := by kernel_rfl
@[go_sem] theorem fld_43_5 : fldo X.P 43 5 = some (29, 38) := by kernel_rfl
@[go_sem] theorem plc_43_5 : places X.P 43 5 = some (29, 12) := by kernel_rfl
@[go_sem] theorem fld_43_6 : fldo X.P 43 6 = some (41, 41) := by kernel_rfl
@[go_sem] theorem plc_43_6 : places X.P 43 6 = some (41, 1) := by kernel_rfl
@[go_sem] theorem fld_43_7 : fldo X.P 43 7 = some (42, 3) := by kernel_rfl
@[go_sem] theorem plc_43_7 : places X.P 43 7 = some (42, 1) := by kernel_rfl
@[go_sem] theorem fld_43_8 : fldo X.P 43 8 = some (43, 4) := by kernel_rfl
@[go_sem] theorem plc_43_8 : places X.P 43 8 = some (43, 1) := by kernel_rfl
@[go_sem] theorem fld_43_9 : fldo X.P 43 9 = some (44, 4) := by kernel_rfl
@[go_sem] theorem plc_43_9 : places X.P 43 9 = some (44, 1) := by kernel_rfl
@[go_sem] theorem fld_43_10 : fldo X.P 43 10 = some (45, 9) := by kernel_rfl
@[go_sem] theorem plc_43_10 : places X.P 43 10 = some (45, 1) := by kernel_rfl
@[go_sem] theorem fld_43_11 : fldo X.P 43 11 = some (46, 9) := by kernel_rfl
@[go_sem] theorem plc_43_11 : places X.P 43 11 = some (46, 1) := by kernel_rfl
@[go_sem] theorem fld_43_12 : fldo X.P 43 12 = some (47, 3) := by kernel_rfl
@[go_sem] theorem plc_43_12 : places X.P 43 12 = some (47, 1) := by kernel_rfl
@[go_sem] theorem shp_45 : shp X.P 45 = some (true, 50) := by kernel_rfl
@[go_sem] theorem zer_45 : zer X.P 45 = some (.agg [.int .u8 0, .int .i64 0, .int .i64 0, .int .i64 0, .int .u8 0, .int .u64 0, .int .u64 0, .int .u64 0, .int .u64 0, .int .i64 0, .int .i64 0, .int .i64 0, .sl .nil [], .int .i64 0, .int .i64 0, .int .i64 0, .int .u8 0, .int .u64 0, .int .u64 0, .int .u64 0, .int .u64 0, .int .i64 0, .int .i64 0, .int .i64 0, .sl .nil [], .bool false, .str [], .str [], .str [], .int .i64 0, .int .i64 0, .int .i64 0, .int .u8 0, .int .u64 0, .int .u64 0, .int .u64 0, .int .u64 0, .int .i64 0, .int .i64 0, .int .i64 0, .sl .nil [], .sl .nil [], .int .i64 0, .bool false, .bool false, .str [], .str [], .int .i64 0, .bool false, .int .i64 0]) := by kernel_rfl
@[go_sem] theorem bldz_45 : bldz X.P 45 = some [.int .u8 0, .int .i64 0, .int .i64 0, .int .i64 0, .int .u8 0, .int .u64 0, .int .u64 0, .int .u64 0, .int .u64 0, .int .i64 0, .int .i64 0, .int .i64 0, .sl .nil [], .int .i64 0, .int .i64 0, .int .i64 0, .int .u8 0, .int .u64 0, .int .u64 0, .int .u64 0, .int .u64 0, .int .i64 0, .int .i64 0, .int .i64 0, .sl .nil [], .bool false, .str [], .str [], .str [], .int .i64 0, .int .i64 0, .int .i64 0, .int .u8 0, .int .u64 0, .int .u64 0, .int .u64 0, .int .u64 0, .int .i64 0, .int .i64 0, .int .i64 0, .sl .nil [], .sl .nil [], .int .i64 0, .bool false, .bool false, .str [], .str [], .int .i64 0, .bool false, .int .i64 0] := by kernel_rfl
@[go_sem] theorem fld_45_0 : fldo X.P 45 0 = some (0, 43) := by kernel_rfl
@[go_sem] theorem plc_45_0 : places X.P 45 0 = some (0, 48) := by kernel_rfl
@[go_sem] theorem fld_45_1 : fldo X.P 45 1 = some (48, 4) := by kernel_rfl
@[go_sem] theorem plc_45_1 : places X.P 45 1 = some (48, 1) := by kernel_rfl
@[go_sem] theorem fld_45_2 : fldo X.P 45 2 = some (49, 3) := by kernel_rfl
@[go_sem] theorem plc_45_2 : places X.P 45 2 = some (49, 1) := by kernel_rfl
@[go_sem] theorem shp_48 : shp X.P 48 = some (false, 1) := by kernel_rfl
@[go_sem] theorem zer_48 : zer X.P 48 = some (.sl .nil []) := by kernel_rfl
@[go_sem] theorem slc_48 : slc X.P 48 = some (72, 50, 496) := by kernel_rfl
@[go_sem] theorem und_48 : X.P.underlying 48 = some (Go.TypeDesc.slice 72) := by kernel_rfl
@[go_sem] theorem shp_50 : shp X.P 50 = some (true, 2) := by kernel_rfl
@[go_sem] theorem zer_50 : zer X.P 50 = some (.agg [.bool false, .sl .nil []]) := by kernel_rfl
@[go_sem] theorem bldz_50 : bldz X.P 50 = some [.bool false, .sl .nil []] := by kernel_rfl
@[go_sem] theorem fld_50_0 : fldo X.P 50 0 = some (0, 4) := by kernel_rfl
@[go_sem] theorem plc_50_0 : places X.P 50 0 = some (0, 1) := by kernel_rfl
@[go_sem] theorem fld_50_1 : fldo X.P 50 1 = some (1, 48) := by kernel_rfl
@[go_sem] theorem plc_50_1 : places X.P 50 1 = some (1, 1) := by kernel_rfl
@[go_sem] theorem shp_60 : shp X.P 60 = some (true, 4) := by kernel_rfl
@[go_sem] theorem zer_60 : zer X.P 60 = some (.agg [.int .u64 0, .int .u64 0, .int .u64 0, .int .u64 0]) := by kernel_rfl
@[go_sem] theorem arr_60 : arr X.P 60 = some (4, 31) := by kernel_rfl
@[go_sem] theorem bldz_60 : bldz X.P 60 = some [.int .u64 0, .int .u64 0, .int .u64 0, .int .u64 0] := by kernel_rfl
@[go_sem] theorem und_60 : X.P.underlying 60 = some (Go.TypeDesc.array 4 31) := by kernel_rfl
@[go_sem] theorem plc_60_0 : places X.P 60 0 = some (0, 1) := by kernel_rfl
@[go_sem] theorem plc_60_1 : places X.P 60 1 = some (1, 1) := by kernel_rfl
@[go_sem] theorem plc_60_2 : places X.P 60 2 = some (2, 1) := by kernel_rfl
@[go_sem] theorem plc_60_3 : places X.P 60 3 = some (3, 1) := by kernel_rfl
@[go_sem] theorem plc_60_4 : places X.P 60 4 = some (4, 1) := by kernel_rfl
@[go_sem] theorem plc_60_5 : places X.P 60 5 = some (5, 1) := by kernel_rfl
@[go_sem] theorem plc_60_6 : places X.P 60 6 = some (6, 1) := by kernel_rfl
@[go_sem] theorem plc_60_7 : places X.P 60 7 = some (7, 1) := by kernel_rfl
@[go_sem] theorem plc_60_8 : places X.P 60 8 = some (8, 1) := by kernel_rfl
@[go_sem] theorem plc_60_9 : places X.P 60 9 = some (9, 1) := by kernel_rfl
@[go_sem] theorem plc_60_10 : places X.P 60 10 = some (10, 1) := by kernel_rfl
@[go_sem] theorem plc_60_11 : places X.P 60 11 = some (11, 1) := by kernel_rfl
@[go_sem] theorem plc_60_12 : places X.P 60 12 = some (12, 1) := by kernel_rfl
@[go_sem] theorem plc_60_13 : places X.P 60 13 = some (13, 1) := by kernel_rfl
@[go_sem] theorem plc_60_14 : places X.P 60 14 = some (14, 1) := by kernel_rfl
@[go_sem] theorem plc_60_15 : places X.P 60 15 = some (15, 1) := by kernel_rfl
@[go_sem] theorem plc_60_16 : places X.P 60 16 = some (16, 1) := by kernel_rfl
@[go_sem] theorem plc_60_17 : places X.P 60 17 = some (17, 1) := by kernel_rfl
@[go_sem] theorem plc_60_18 : places X.P 60 18 = some (18, 1) := by kernel_rfl
@[go_sem] theorem plc_60_19 : places X.P 60 19 = some (19, 1) := by kernel_rfl
@[go_sem] theorem shp_61 : shp X.P 61 = some (false, 1) := by kernel_rfl
@[go_sem] theorem zer_61 : zer X.P 61 = some (.sl .nil []) := by kernel_rfl
@[go_sem] theorem slc_61 : slc X.P 61 = some (63, 10, 96) := by kernel_rfl
@[go_sem] theorem und_61 : X.P.underlying 61 = some (Go.TypeDesc.slice 63) := by kernel_rfl
@[go_sem] theorem shp_63 : shp X.P 63 = some (true, 10) := by kernel_rfl
@[go_sem] theorem zer_63 : zer X.P 63 = some (.agg [.int .i64 0, .int .u8 0, .int .u64 0, .int .u64 0, .int .u64 0, .int .u64 0, .int .i64 0, .int .i64 0, .int .i64 0, .sl .nil []]) := by kernel_rfl
@[go_sem] theorem bldz_63 : bldz X.P 63 = some [.int .i64 0, .int .u8 0, .int .u64 0, .int .u64 0, .int .u64 0, .int .u64 0, .int .i64 0, .int .i64 0, .int .i64 0, .sl .nil []] := by kernel_rfl
@[go_sem] theorem fld_63_0 : fldo X.P 63 0 = some (0, 3) := by kernel_rfl
@[go_sem] theorem plc_63_0 : places X.P 63 0 = some (0, 1) := by kernel_rfl
@[go_sem] theorem fld_63_1 : fldo X.P 63 1 = some (1, 5) := by kernel_rfl
@[go_sem] theorem plc_63_1 : places X.P 63 1 = some (1, 1) := by kernel_rfl
@[go_sem] theorem fld_63_2 : fldo X.P 63 2 = some (2, 60) := by kernel_rfl
@[go_sem] theorem plc_63_2 : places X.P 63 2 = some (2, 4) := by kernel_rfl
@[go_sem] theorem fld_63_3 : fldo X.P 63 3 = some (6, 3) := by kernel_rfl
@[go_sem] theorem plc_63_3 : places X.P 63 3 = some (6, 1) := by kernel_rfl
@[go_sem] theorem fld_63_4 : fldo X.P 63 4 = some (7, 3) := by kernel_rfl
@[go_sem] theorem plc_63_4 : places X.P 63 4 = some (7, 1) := by kernel_rfl
@[go_sem] theorem fld_63_5 : fldo X.P 63 5 = some (8, 3) := by kernel_rfl
@[go_sem] theorem plc_63_5 : places X.P 63 5 = some (8, 1) := by kernel_rfl
@[go_sem] theorem fld_63_6 : fldo X.P 63 6 = some (9, 61) := by kernel_rfl
@[go_sem] theorem plc_63_6 : places X.P 63 6 = some (9, 1) := by kernel_rfl
@[go_sem] theorem shp_65 : shp X.P 65 = some (true, 12) := by kernel_rfl
@[go_sem] theorem zer_65 : zer X.P 65 = some (.agg [.int .i64 0, .int .i64 0, .int .i64 0, .int .u8 0, .int .u64 0, .int .u64 0, .int .u64 0, .int .u64 0, .int .i64 0, .int .i64 0, .int .i64 0, .sl .nil []]) := by kernel_rfl
@[go_sem] theorem bldz_65 : bldz X.P 65 = some [.int .i64 0, .int .i64 0, .int .i64 0, .int .u8 0, .int .u64 0, .int .u64 0, .int .u64 0, .int .u64 0, .int .i64 0, .int .i64 0, .int .i64 0, .sl .nil []] := by kernel_rfl
@[go_sem] theorem fld_65_0 : fldo X.P 65 0 = some (0, 3) := by kernel_rfl
@[go_sem] theorem plc_65_0 : places X.P 65 0 = some (0, 1) := by kernel_rfl
@[go_sem] theorem fld_65_1 : fldo X.P 65 1 = some (1, 3) := by kernel_rfl
@[go_sem] theorem plc_65_1 : places X.P 65 1 = some (1, 1) := by kernel_rfl
@[go_sem] theorem fld_65_2 : fldo X.P 65 2 = some (2, 63) := by kernel_rfl
@[go_sem] theorem plc_65_2 : places X.P 65 2 = some (2, 10) := by kernel_rfl
@[go_sem] theorem shp_67 : shp X.P 67 = some (true, 25) := by kernel_rfl
@[go_sem] theorem zer_67 : zer X.P 67 = some (.agg [.int .i64 0, .int .i64 0, .int .i64 0, .int .u8 0, .int .u64 0, .int .u64 0, .int .u64 0, .int .u64 0, .int .i64 0, .int .i64 0, .int .i64 0, .sl .nil [], .int .i64 0, .int .i64 0, .int .i64 0, .int .u8 0, .int .u64 0, .int .u64 0, .int .u64 0, .int .u64 0, .int .i64 0, .int .i64 0, .int .i64 0, .sl .nil [], .bool false]) := by kernel_rfl
@[go_sem] theorem bldz_67 : bldz X.P 67 = some [.int .i64 0, .int .i64 0, .int .i64 0, .int .u8 0, .int .u64 0, .int .u64 0, .int .u64 0, .int .u64 0, .int .i64 0, .int .i64 0, .int .i64 0, .sl .nil [], .int .i64 0, .int .i64 0, .int .i64 0, .int .u8 0, .int .u64 0, .int .u64 0, .int .u64 0, .int .u64 0, .int .i64 0, .int .i64 0, .int .i64 0, .sl .nil [], .bool false] := by kernel_rfl
@[go_sem] theorem fld_67_0 : fldo X.P 67 0 = some (0, 65) := by kernel_rfl
@[go_sem] theorem plc_67_0 : places X.P 67 0 = some (0, 12) := by kernel_rfl
@[go_sem] theorem fld_67_1 : fldo X.P 67 1 = some (12, 65) := by kernel_rfl
@[go_sem] theorem plc_67_1 : places X.P 67 1 = some (12, 12) := by kernel_rfl
@[go_sem] theorem fld_67_2 : fldo X.P 67 2 = some (24, 4) := by kernel_rfl
@[go_sem] theorem plc_67_2 : places X.P 67 2 = some (24, 1) := by kernel_rfl
@[go_sem] theorem shp_68 : shp X.P 68 = some (false, 1) := by kernel_rfl
@[go_sem] theorem zer_68 : zer X.P 68 = some (.sl .nil []) := by kernel_rfl
@[go_sem] theorem slc_68 : slc X.P 68 = some (93, 2, 24) := by kernel_rfl
@[go_sem] theorem und_68 : X.P.underlying 68 = some (Go.TypeDesc.slice 93) := by kernel_rfl
@[go_sem] theorem shp_70 : shp X.P 70 = some (true, 48) := by kernel_rfl
@[go_sem] theorem zer_70 : zer X.P 70 = some (.agg [.int .u8 0, .int .i64 0, .int .i64 0, .int .i64 0, .int .u8 0, .int .u64 0, .int .u64 0, .int .u64 0, .int .u64 0, .int .i64 0, .int .i64 0, .int .i64 0, .sl .nil [], .int .i64 0, .int .i64 0, .int .i64 0, .int .u8 0, .int .u64 0, .int .u64 0, .int .u64 0, .int .u64 0, .int .i64 0, .int .i64 0, .int .i64 0, .sl .nil [], .bool false, .str [], .str [], .str [], .int .i64 0, .int .i64 0, .int .i64 0, .int .u8 0, .int .u64 0, .int .u64 0, .int .u64 0, .int .u64 0, .int .i64 0, .int .i64 0, .int .i64 0, .sl .nil [], .sl .nil [], .int .i64 0, .bool false, .bool false, .str [], .str [], .int .i64 0]) := by kernel_rfl
@[go_sem] theorem bldz_70 : bldz X.P 70 = some [.int .u8 0, .int .i64 0, .int .i64 0, .int .i64 0, .int .u8 0, .int .u64 0, .int .u64 0, .int .u64 0, .int .u64 0, .int .i64 0, .int .i64 0, .int .i64 0, .sl .nil [], .int .i64 0, .int .i64 0, .int .i64 0, .int .u8 0, .int .u64 0, .int .u64 0, .int .u64 0, .int .u64 0, .int .i64 0, .int .i64 0, .int .i64 0, .sl .nil [], .bool false, .str [], .str [], .str [], .int .i64 0, .int .i64 0, .int .i64 0, .int .u8 0, .int .u64 0, .int .u64 0, .int .u64 0, .int .u64 0, .int .i64 0, .int .i64 0, .int .i64 0, .sl .nil [], .sl .nil [], .int .i64 0, .bool false, .bool false, .str [], .str [], .int .i64 0] := by kernel_rfl
@[go_sem] theorem fld_70_0 : fldo X.P 70 0 = some (0, 5) := by kernel_rfl
@[go_sem] theorem plc_70_0 : places X.P 70 0 = some (0, 1) := by kernel_rfl
@[go_sem] theorem fld_70_1 : fldo X.P 70 1 = some (1, 67) := by kernel_rfl
@[go_sem] theorem plc_70_1 : places X.P 70 1 = some (1, 25) := by kernel_rfl
@[go_sem] theorem fld_70_2 : fldo X.P 70 2 = some (26, 9) := by kernel_rfl
@[go_sem] theorem plc_70_2 : places X.P 70 2 = some (26, 1) := by kernel_rfl
@[go_sem] theorem fld_70_3 : fldo X.P 70 3 = some (27, 9) := by kernel_rfl
@[go_sem] theorem plc_70_3 : places X.P 70 3 = some (27, 1) := by kernel_rfl
@[go_sem] theorem fld_70_4 : fldo X.P 70 4 = some (28, 9) := by kernel_rfl
@[go_sem] theorem plc_70_4 : places X.P 70 4 = some (28, 1) := by kernel_rfl
@[go_sem] theorem fld_70_5 : fldo X.P 70 5 = some (29, 65) := by kernel_rfl
@[go_sem] theorem plc_70_5 : places X.P 70 5 = some (29, 12) := by kernel_rfl
@[go_sem] theorem fld_70_6 : fldo X.P 70 6 = some (41, 68) := by kernel_rfl
@[go_sem] theorem plc_70_6 : places X.P 70 6 = some (41, 1) := by kernel_rfl
@[go_sem] theorem fld_70_7 : fldo X.P 70 7 = some (42, 3) := by kernel_rfl
@[go_sem] theorem plc_70_7 : places X.P 70 7 = some (42, 1) := by kernel_rfl
@[go_sem] theorem fld_70_8 : fldo X.P 70 8 = some (43, 4) := by kernel_rfl
@[go_sem] theorem plc_70_8 : places X.P 70 8 = some (43, 1) := by kernel_rfl
@[go_sem] theorem fld_70_9 : fldo X.P 70 9 = some (44, 4) := by kernel_rfl
@[go_sem] theorem plc_70_9 : places X.P 70 9 = some (44, 1) := by kernel_rfl
@[go_sem] theorem fld_70_10 : fldo X.P 70 10 = some (45, 9) := by kernel_rfl
@[go_sem] theorem plc_70_10 : places X.P 70 10 = some (45, 1) := by kernel_rfl
@[go_sem] theorem fld_70_11 : fldo X.P 70 11 = some (46, 9) := by kernel_rfl
@[go_sem] theorem plc_70_11 : places X.P 70 11 = some (46, 1) := by kernel_rfl
@[go_sem] theorem fld_70_12 : fldo X.P 70 12 = some (47, 3) := by kernel_rfl
@[go_sem] theorem plc_70_12 : places X.P 70 12 = some (47, 1) := by kernel_rfl
@[go_sem] theorem shp_72 : shp X.P 72 = some (true, 50) := by kernel_rfl
@[go_sem] theorem zer_72 : zer X.P 72 = some (.agg [.int .u8 0, .int .i64 0, .int .i64 0, .int .i64 0, .int .u8 0, .int .u64 0, .int .u64 0, .int .u64 0, .int .u64 0, .int .i64 0, .int .i64 0, .int .i64 0, .sl .nil [], .int .i64 0, .int .i64 0, .int .i64 0, .int .u8 0, .int .u64 0, .int .u64 0, .int .u64 0, .int .u64 0, .int .i64 0, .int .i64 0, .int .i64 0, .sl .nil [], .bool false, .str [], .str [], .str [], .int .i64 0, .int .i64 0, .int .i64 0, .int .u8 0, .int .u64 0, .int .u64 0, .int .u64 0, .int .u64 0, .int .i64 0, .int .i64 0, .int .i64 0, .sl .nil [], .sl .nil [], .int .i64 0, .bool false, .bool false, .str [], .str [], .int .i64 0, .bool false, .int .i64 0]) := by kernel_rfl
@[go_sem] theorem bldz_72 : bldz X.P 72 = some [.int .u8 0, .int .i64 0, .int .i64 0, .int .i64 0, .int .u8 0, .int .u64 0, .int .u64 0, .int .u64 0, .int .u64 0, .int .i64 0, .int .i64 0, .int .i64 0, .sl .nil [], .int .i64 0, .int .i64 0, .int .i64 0, .int .u8 0, .int .u64 0, .int .u64 0, .int .u64 0, .int .u64 0, .int .i64 0, .int .i64 0, .int .i64 0, .sl .nil [], .bool false, .str [], .str [], .str [], .int .i64 0, .int .i64 0, .int .i64 0, .int .u8 0, .int .u64 0, .int .u64 0, .int .u64 0, .int .u64 0, .int .i64 0, .int .i64 0, .int .i64 0, .sl .nil [], .sl .nil [], .int .i64 0, .bool false, .bool false, .str [], .str [], .int .i64 0, .bool false, .int .i64 0] := by kernel_rfl
@[go_sem] theorem fld_72_0 : fldo X.P 72 0 = some (0, 70) := by kernel_rfl
@[go_sem] theorem plc_72_0 : places X.P 72 0 = some (0, 48) := by kernel_rfl
@[go_sem] theorem fld_72_1 : fldo X.P 72 1 = some (48, 4) := by kernel_rfl
@[go_sem] theorem plc_72_1 : places X.P 72 1 = some (48, 1) := by kernel_rfl
@[go_sem] theorem fld_72_2 : fldo X.P 72 2 = some (49, 3) := by kernel_rfl
@[go_sem] theorem plc_72_2 : places X.P 72 2 = some (49, 1) := by kernel_rfl
@[go_sem] theorem shp_75 : shp X.P 75 = some (false, 1) := by kernel_rfl
@[go_sem] theorem zer_75 : zer X.P 75 = some .junk := by kernel_rfl
@[go_sem] theorem shp_78 : shp X.P 78 = some (false, 1) := by kernel_rfl
@[go_sem] theorem zer_78 : zer X.P 78 = some .nilp := by kernel_rfl
@[go_sem] theorem und_78 : X.P.underlying 78 = some (Go.TypeDesc.pointer 107) := by kernel_rfl
@[go_sem] theorem shp_80 : shp X.P 80 = some (false, 1) := by kernel_rfl
@[go_sem] theorem zer_80 : zer X.P 80 = some (.sl .nil []) := by kernel_rfl
@[go_sem] theorem slc_80 : slc X.P 80 = some (3, 1, 8) := by kernel_rfl
@[go_sem] theorem und_80 : X.P.underlying 80 = some (Go.TypeDesc.slice 3) := by kernel_rfl
@[go_sem] theorem shp_93 : shp X.P 93 = some (true, 2) := by kernel_rfl
@[go_sem] theorem zer_93 : zer X.P 93 = some (.agg [.int .i64 0, .str []]) := by kernel_rfl
@[go_sem] theorem bldz_93 : bldz X.P 93 = some [.int .i64 0, .str []] := by kernel_rfl
@[go_sem] theorem fld_93_0 : fldo X.P 93 0 = some (0, 3) := by kernel_rfl
@[go_sem] theorem plc_93_0 : places X.P 93 0 = some (0, 1) := by kernel_rfl
@[go_sem] theorem fld_93_1 : fldo X.P 93 1 = some (1, 9) := by kernel_rfl
@[go_sem] theorem plc_93_1 : places X.P 93 1 = some (1, 1) := by kernel_rfl
@[go_sem] theorem shp_99 : shp X.P 99 = some (true, 2) := by kernel_rfl
@[go_sem] theorem zer_99 : zer X.P 99 = some (.agg [.int .i64 0, .str []]) := by kernel_rfl
@[go_sem] theorem bldz_99 : bldz X.P 99 = some [.int .i64 0, .str []] := by kernel_rfl
@[go_sem] theorem fld_99_0 : fldo X.P 99 0 = some (0, 3) := by kernel_rfl
@[go_sem] theorem plc_99_0 : places X.P 99 0 = some (0, 1) := by kernel_rfl
@[go_sem] theorem fld_99_1 : fldo X.P 99 1 = some (1, 9) := by kernel_rfl
@[go_sem] theorem plc_99_1 : places X.P 99 1 = some (1, 1) := by kernel_rfl
@[go_sem] theorem shp_114 : shp X.P 114 = some (false, 1) := by kernel_rfl
@[go_sem] theorem zer_114 : zer X.P 114 = some .junk := by kernel_rfl
@[go_sem] theorem shp_126 : shp X.P 126 = some (false, 1) := by kernel_rfl
@[go_sem] theorem zer_126 : zer X.P 126 = some (.int .i64 0) := by kernel_rfl
@[go_sem] theorem und_126 : X.P.underlying 126 = some (Go.TypeDesc.int .i64) := by kernel_rfl
@[go_sem] theorem shp_132 : shp X.P 132 = some (true, 9) := by kernel_rfl
@[go_sem] theorem zer_132 : zer X.P 132 = some (.agg [.int .i64 0, .int .u8 0, .int .u64 0, .int .u64 0, .int .u64 0, .int .u64 0, .int .i64 0, .int .i64 0, .int .i64 0]) := by kernel_rfl
@[go_sem] theorem bldz_132 : bldz X.P 132 = some [.int .i64 0, .int .u8 0, .int .u64 0, .int .u64 0, .int .u64 0, .int .u64 0, .int .i64 0, .int .i64 0, .int .i64 0] := by kernel_rfl
@[go_sem] theorem fld_132_0 : fldo X.P 132 0 = some (0, 3) := by kernel_rfl
@[go_sem] theorem plc_132_0 : places X.P 132 0 = some (0, 1) := by kernel_rfl
@[go_sem] theorem fld_132_1 : fldo X.P 132 1 = some (1, 5) := by kernel_rfl
@[go_sem] theorem plc_132_1 : places X.P 132 1 = some (1, 1) := by kernel_rfl
@[go_sem] theorem fld_132_2 : fldo X.P 132 2 = some (2, 33) := by kernel_rfl
@[go_sem] theorem plc_132_2 : places X.P 132 2 = some (2, 4) := by kernel_rfl
@[go_sem] theorem fld_132_3 : fldo X.P 132 3 = some (6, 3) := by kernel_rfl
@[go_sem] theorem plc_132_3 : places X.P 132 3 = some (6, 1) := by kernel_rfl
@[go_sem] theorem fld_132_4 : fldo X.P 132 4 = some (7, 3) := by kernel_rfl
@[go_sem] theorem plc_132_4 : places X.P 132 4 = some (7, 1) := by kernel_rfl
@[go_sem] theorem fld_132_5 : fldo X.P 132 5 = some (8, 3) := by kernel_rfl
@[go_sem] theorem plc_132_5 : places X.P 132 5 = some (8, 1) := by kernel_rfl
@[go_sem] theorem shp_148 : shp X.P 148 = some (false, 1) := by kernel_rfl
@[go_sem] theorem zer_148 : zer X.P 148 = some (.sl .nil []) := by kernel_rfl
@[go_sem] theorem slc_148 : slc X.P 148 = some (5, 1, 1) := by kernel_rfl
@[go_sem] theorem und_148 : X.P.underlying 148 = some (Go.TypeDesc.slice 5) := by kernel_rfl
@[go_sem] theorem shp_149 : shp X.P 149 = some (false, 1) := by kernel_rfl
@[go_sem] theorem zer_149 : zer X.P 149 = some .nilp := by kernel_rfl
@[go_sem] theorem und_149 : X.P.underlying 149 = some (Go.TypeDesc.pointer 151) := by kernel_rfl
@[go_sem] theorem shp_151 : shp X.P 151 = some (true, 2) := by kernel_rfl
@[go_sem] theorem zer_151 : zer X.P 151 = some (.agg [.nilp, .sl .nil []]) := by kernel_rfl
@[go_sem] theorem bldz_151 : bldz X.P 151 = some [.nilp, .sl .nil []] := by kernel_rfl
@[go_sem] theorem fld_151_0 : fldo X.P 151 0 = some (0, 149) := by kernel_rfl
@[go_sem] theorem plc_151_0 : places X.P 151 0 = some (0, 1) := by kernel_rfl
@[go_sem] theorem fld_151_1 : fldo X.P 151 1 = some (1, 148) := by kernel_rfl
@[go_sem] theorem plc_151_1 : places X.P 151 1 = some (1, 1) := by kernel_rfl
@[go_sem] theorem shp_166 : shp X.P 166 = some (true, 256) := by kernel_rfl
@[go_sem] theorem zer_166 : zer X.P 166 = some (.agg [.bool false, .bool false, .bool false, .bool false, .bool false, .bool false, .bool false, .bool false, .bool false, .bool false, .bool false, .bool false, .bool false, .bool false, .bool false, .bool false, .bool false, .bool false, .bool false, .bool false, .bool false, .bool false, .bool false, .bool false, .bool false, .bool false, .bool false, .bool false, .bool false, .bool false, .bool false, .bool false, .bool false, .bool false, .bool false, .bool false, .bool false, .bool false, .bool false, .bool false, .bool false, .bool false, .bool false, .bool false, .bool false, .bool false, .bool false, .bool false, .bool false, .bool false, .bool false, .bool false, .bool false, .bool false, .bool false, .bool false, .bool false, .bool false, .bool false, .bool false, .bool false, .bool false, .bool false, .bool false, .bool false, .bool false, .bool false, .bool false, .bool false, .bool false, .bool false, .bool false, .bool false, .bool false, .bool false, .bool false, .bool false, .bool false, .bool false, .bool false, .bool false, .bool false, .bool false, .bool false, .bool false, .bool false, .bool false, .bool false, .bool false, .bool false, .bool false, .bool false, .bool false, .bool false, .bool false, .bool false, .bool false, .bool false, .bool false, .bool false, .bool false, .bool false, .bool false, .bool false, .bool false, .bool false, .bool false, .bool false, .bool false, .bool false, .bool false, .bool false, .bool false, .bool false, .bool false, .bool false, .bool false, .bool false, .bool false, .bool false, .bool false, .bool false, .bool false, .bool false, .bool false, .bool false, .bool false, .bool false, .bool false, .bool false, .bool false, .bool false, .bool false, .bool false, .bool false, .bool false, .bool false, .bool false, .bool false, .bool false, .bool false, .bool false, .bool false, .bool false, .bool false, .bool false, .bool false, .bool false, .bool false, .bool false, .bool false, .bool false, .bool false, .bool false, .bool false, .bool false, .bool false, .bool false, .bool false, .bool false, .bool false, .bool false, .bool false, .bool false, .bool false, .bool false, .bool false, .bool false, .bool false, .bool false, .bool false, .bool false, .bool false, .bool false, .bool false, .bool false, .bool false, .bool false, .bool false, .bool false, .bool false, .bool false, .bool false, .bool false, .bool false, .bool false, .bool false, .bool false, .bool false, .bool false, .bool false, .bool false, .bool false, .bool false, .bool false, .bool false, .bool false, .bool false, .bool false, .bool false, .bool false, .bool false, .bool false, .bool false, .bool false, .bool false, .bool false, .bool false, .bool false, .bool false, .bool false, .bool false, .bool false, .bool false, .bool false, .bool false, .bool false, .bool false, .bool false, .bool false, .bool false, .bool false, .bool false, .bool false, .bool false, .bool false, .bool false, .bool false, .bool false, .bool false, .bool false, .bool false, .bool false, .bool false, .bool false, .bool false, .bool false, .bool false, .bool false, .bool false, .bool false, .bool false, .bool false, .bool false, .bool false, .bool false, .bool false, .bool false, .bool false, .bool false, .bool false, .bool false, .bool false, .bool false, .bool false, .bool false]) := by kernel_rfl
@[go_sem] theorem arr_166 : arr X.P 166 = some (256, 4) := by kernel_rfl
@[go_sem] theorem bldz_166 : bldz X.P 166 = some [.bool false, .bool false, .bool false, .bool false, .bool false, .bool false, .bool false, .bool false, .bool false, .bool false, .bool false, .bool false, .bool false, .bool false, .bool false, .bool false, .bool false, .bool false, .bool false, .bool false, .bool false, .bool false, .bool false, .bool false, .bool false, .bool false, .bool false, .bool false, .bool false, .bool false, .bool false, .bool false, .bool false, .bool false, .bool false, .bool false, .bool false, .bool false, .bool false, .bool false, .bool false, .bool false, .bool false, .bool false, .bool false, .bool false, .bool false, .bool false, .bool false, .bool false, .bool false, .bool false, .bool false, .bool false, .bool false, .bool false, .bool false, .bool false, .bool false, .bool false, .bool false, .bool false, .bool false, .bool false, .bool false, .bool false, .bool false, .bool false, .bool false, .bool false, .bool false, .bool false, .bool false, .bool false, .bool false, .bool false, .bool false, .bool false, .bool false, .bool false, .bool false, .bool false, .bool false, .bool false, .bool false, .bool false, .bool false, .bool false, .bool false, .bool false, .bool false, .bool false, .bool false, .bool false, .bool false, .bool false, .bool false, .bool false, .bool false, .bool false, .bool false, .bool false, .bool false, .bool false, .bool false, .bool false, .bool false, .bool false, .bool false, .bool false, .bool false, .bool false, .bool false, .bool false, .bool false, .bool false, .bool false, .bool false, .bool false, .bool false, .bool false, .bool false, .bool false, .bool false, .bool false, .bool false, .bool false, .bool false, .bool false, .bool false, .bool false, .bool false, .bool false, .bool false, .bool false, .bool false, .bool false, .bool false, .bool false, .bool false, .bool false, .bool false, .bool false, .bool false, .bool false, .bool false, .bool false, .bool false, .bool false, .bool false, .bool false, .bool false, .bool false, .bool false, .bool false, .bool false, .bool false, .bool false, .bool false, .bool false, .bool false, .bool false, .bool false, .bool false, .bool false, .bool false, .bool false, .bool false, .bool false, .bool false, .bool false, .bool false, .bool false, .bool false, .bool false, .bool false, .bool false, .bool false, .bool false, .bool false, .bool false, .bool false, .bool false, .bool false, .bool false, .bool false, .bool false, .bool false, .bool false, .bool false, .bool false, .bool false, .bool false, .bool false, .bool false, .bool false, .bool false, .bool false, .bool false, .bool false, .bool false, .bool false, .bool false, .bool false, .bool false, .bool false, .bool false, .bool false, .bool false, .bool false, .bool false, .bool false, .bool false, .bool false, .bool false, .bool false, .bool false, .bool false, .bool false, .bool false, .bool false, .bool false, .bool false, .bool false, .bool false, .bool false, .bool false, .bool false, .bool false, .bool false, .bool false, .bool false, .bool false, .bool false, .bool false, .bool false, .bool false, .bool false, .bool false, .bool false, .bool false, .bool false, .bool false, .bool false, .bool false, .bool false, .bool false, .bool false, .bool false, .bool false, .bool false, .bool false, .bool false, .bool false, .bool false, .bool false] := by kernel_rfl
@[go_sem] theorem und_166 : X.P.underlying 166 = some (Go.TypeDesc.array 256 4) := by kernel_rfl
@[go_sem] theorem plc_166_0 : places X.P 166 0 = some (0, 1) := by kernel_rfl
@[go_sem] theorem plc_166_1 : places X.P 166 1 = some (1, 1) := by kernel_rfl
@[go_sem] theorem plc_166_2 : places X.P 166 2 = some (2, 1) := by kernel_rfl
@[go_sem] theorem plc_166_3 : places X.P 166 3 = some (3, 1) := by kernel_rfl
@[go_sem] theorem plc_166_4 : places X.P 166 4 = some (4, 1) := by kernel_rfl
@[go_sem] theorem plc_166_5 : places X.P 166 5 = some (5, 1) := by kernel_rfl
@[go_sem] theorem plc_166_6 : places X.P 166 6 = some (6, 1) := by kernel_rfl
@[go_sem] theorem plc_166_7 : places X.P 166 7 = some (7, 1) := by kernel_rfl
@[go_sem] theorem plc_166_8 : places X.P 166 8 = some (8, 1) := by kernel_rfl
@[go_sem] theorem plc_166_9 : places X.P 166 9 = some (9, 1) := by kernel_rfl
@[go_sem] theorem plc_166_10 : places X.P 166 10 = some (10, 1) := by kernel_rfl
@[go_sem] theorem plc_166_11 : places X.P 166 11 = some (11, 1) := by kernel_rfl
@[go_sem] theorem plc_166_12 : places X.P 166 12 = some (12, 1) := by kernel_rfl
@[go_sem] theorem plc_166_13 : places X.P 166 13 = some (13, 1) := by kernel_rfl
@[go_sem] theorem plc_166_14 : places X.P 166 14 = some (14, 1) := by kernel_rfl
@[go_sem] theorem plc_166_15 : places X.P 166 15 = some (15, 1) := by kernel_rfl
@[go_sem] theorem plc_166_16 : places X.P 166 16 = some (16, 1) := by kernel_rfl
@[go_sem] theorem plc_166_17 : places X.P 166 17 = some (17, 1) := by kernel_rfl
@[go_sem] theorem plc_166_18 : places X.P 166 18 = some (18, 1) := by kernel_rfl
@[go_sem] theorem plc_166_19 : places X.P 166 19 = some (19, 1) := by kernel_rfl
@[go_sem] theorem shp_173 : shp X.P 173 = some (false, 1) := by kernel_rfl
@[go_sem] theorem zer_173 : zer X.P 173 = some .nilp := by kernel_rfl
@[go_sem] theorem und_173 : X.P.underlying 173 = some (Go.TypeDesc.pointer 5) := by kernel_rfl
@[go_sem] theorem shp_176 : shp X.P 176 = some (true, 3) := by kernel_rfl
@[go_sem] theorem zer_176 : zer X.P 176 = some (.agg [.sl .nil [], .nilp, .sl .nil []]) := by kernel_rfl
@[go_sem] theorem bldz_176 : bldz X.P 176 = some [.sl .nil [], .nilp, .sl .nil []] := by kernel_rfl
@[go_sem] theorem fld_176_0 : fldo X.P 176 0 = some (0, 41) := by kernel_rfl
@[go_sem] theorem plc_176_0 : places X.P 176 0 = some (0, 1) := by kernel_rfl
@[go_sem] theorem fld_176_1 : fldo X.P 176 1 = some (1, 151) := by kernel_rfl
@[go_sem] theorem plc_176_1 : places X.P 176 1 = some (1, 2) := by kernel_rfl
@[go_sem] theorem shp_186 : shp X.P 186 = some (false, 1) := by kernel_rfl
@[go_sem] theorem zer_186 : zer X.P 186 = some .nilp := by kernel_rfl
@[go_sem] theorem und_186 : X.P.underlying 186 = some Go.TypeDesc.unsafePointer := by kernel_rfl
@[go_sem] theorem shp_192 : shp X.P 192 = some (false, 1) := by kernel_rfl
@[go_sem] theorem zer_192 : zer X.P 192 = some .nilp := by kernel_rfl
@[go_sem] theorem und_192 : X.P.underlying 192 = some (Go.TypeDesc.pointer 176) := by kernel_rfl
@[go_sem] theorem shp_215 : shp X.P 215 = some (false, 1) := by kernel_rfl
@[go_sem] theorem zer_215 : zer X.P 215 = some .nilp := by kernel_rfl
@[go_sem] theorem und_215 : X.P.underlying 215 = some (Go.TypeDesc.pointer 218) := by kernel_rfl
@[go_sem] theorem shp_216 : shp X.P 216 = some (true, 10) := by kernel_rfl
@[go_sem] theorem zer_216 : zer X.P 216 = some (.agg [.bool false, .bool false, .bool false, .bool false, .bool false, .bool false, .bool false, .bool false, .bool false, .bool false]) := by kernel_rfl
@[go_sem] theorem arr_216 : arr X.P 216 = some (10, 4) := by kernel_rfl
@[go_sem] theorem bldz_216 : bldz X.P 216 = some [.bool false, .bool false, .bool false, .bool false, .bool false, .bool false, .bool false, .bool false, .bool false, .bool false] := by kernel_rfl
@[go_sem] theorem und_216 : X.P.underlying 216 = some (Go.TypeDesc.array 10 4) := by kernel_rfl
@[go_sem] theorem plc_216_0 : places X.P 216 0 = some (0, 1) := by kernel_rfl
@[go_sem] theorem plc_216_1 : places X.P 216 1 = some (1, 1) := by kernel_rfl
@[go_sem] theorem plc_216_2 : places X.P 216 2 = some (2, 1) := by kernel_rfl
@[go_sem] theorem plc_216_3 : places X.P 216 3 = some (3, 1) := by kernel_rfl
@[go_sem] theorem plc_216_4 : places X.P 216 4 = some (4, 1) := by kernel_rfl
@[go_sem] theorem plc_216_5 : places X.P 216 5 = some (5, 1) := by kernel_rfl
@[go_sem] theorem plc_216_6 : places X.P 216 6 = some (6, 1) := by kernel_rfl
@[go_sem] theorem plc_216_7 : places X.P 216 7 = some (7, 1) := by kernel_rfl
@[go_sem] theorem plc_216_8 : places X.P 216 8 = some (8, 1) := by kernel_rfl
@[go_sem] theorem plc_216_9 : places X.P 216 9 = some (9, 1) := by kernel_rfl
@[go_sem] theorem plc_216_10 : places X.P 216 10 = some (10, 1) := by kernel_rfl
@[go_sem] theorem plc_216_11 : places X.P 216 11 = some (11, 1) := by kernel_rfl
@[go_sem] theorem plc_216_12 : places X.P 216 12 = some (12, 1) := by kernel_rfl
@[go_sem] theorem plc_216_13 : places X.P 216 13 = some (13, 1) := by kernel_rfl
@[go_sem] theorem plc_216_14 : places X.P 216 14 = some (14, 1) := by kernel_rfl
@[go_sem] theorem plc_216_15 : places X.P 216 15 = some (15, 1) := by kernel_rfl
@[go_sem] theorem plc_216_16 : places X.P 216 16 = some (16, 1) := by kernel_rfl
@[go_sem] theorem plc_216_17 : places X.P 216 17 = some (17, 1) := by kernel_rfl
@[go_sem] theorem plc_216_18 : places X.P 216 18 = some (18, 1) := by kernel_rfl
@[go_sem] theorem plc_216_19 : places X.P 216 19 = some (19, 1) := by kernel_rfl
@[go_sem] theorem shp_218 : shp X.P 218 = some (true, 11) := by kernel_rfl
@[go_sem] theorem zer_218 : zer X.P 218 = some (.agg [.int .i64 0, .bool false, .bool false, .bool false, .bool false, .bool false, .bool false, .bool false, .bool false, .bool false, .bool false]) := by kernel_rfl
@[go_sem] theorem bldz_218 : bldz X.P 218 = some [.int .i64 0, .bool false, .bool false, .bool false, .bool false, .bool false, .bool false, .bool false, .bool false, .bool false, .bool false] := by kernel_rfl
@[go_sem] theorem fld_218_0 : fldo X.P 218 0 = some (0, 3) := by kernel_rfl
@[go_sem] theorem plc_218_0 : places X.P 218 0 = some (0, 1) := by kernel_rfl
@[go_sem] theorem fld_218_1 : fldo X.P 218 1 = some (1, 216) := by kernel_rfl
@[go_sem] theorem plc_218_1 : places X.P 218 1 = some (1, 10) := by kernel_rfl
end Go.Proofs.Tryz.E
