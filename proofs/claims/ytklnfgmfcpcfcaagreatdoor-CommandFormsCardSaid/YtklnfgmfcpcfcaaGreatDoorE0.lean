/- Walks: what the functions compute. -/
import Derived.Test.YtklnfgmfcpcfcaaGreatDoorMvE
import Derived.Test.YtklnfgmfcpcfcaaGreatDoorMvD
import Derived.Test.YtklnfgmfcpcfcaaGreatDoorMvG
import Derived.KernelRfl
import Derived.Test.YtklnfgmfcpcfcaaGreatDoorChecked
set_option linter.unusedVariables false
set_option linter.unusedSimpArgs false
/- The program's types, as the evaluator looks at them. -/
namespace Go.Proofs.Tryz.E
open Go.Mv

/-- The first place of a byte; -1: there is none. -/
def idxB : List UInt8 → Int → Int
  | [], _ => -1
  | b :: s, c => if (b.toNat : Int) = c then 0 else if idxB s c < 0 then -1 else idxB s c + 1
def idxByteP : Nat → Nat → List MV → Sto → Option (MV × Sto)
  | _, _, [.str s, .int .u8 c], σ => if 0 ≤ c ∧ c < 256 then some (.int .i64 (idxB s c), σ) else none
  | _, _, _, _ => none
/-- The first place of a text; -1: there is none. -/
def idxS : List UInt8 → List UInt8 → Int
  | [], t => if t = [] then 0 else -1
  | b :: s, t => if t <+: (b :: s) then 0 else if idxS s t < 0 then -1 else idxS s t + 1
def indexP : Nat → Nat → List MV → Sto → Option (MV × Sto)
  | _, _, [.str s, .str t], σ => if s.length < 4294967281 then some (.int .i64 (idxS s t), σ) else none
  | _, _, _, _ => none
/-- A text without the bytes of a set at its beginning. -/
def trimP : Nat → Nat → List MV → Sto → Option (MV × Sto)
  | _, _, [.str s, .str c], σ => if c = [48, 49, 50, 51, 52, 53, 54, 55, 56, 57] ∨ c = [32, 9] then some (.str (s.dropWhile (c.contains ·)), σ) else none
  | _, _, _, _ => none
/-- A lexer at a text's beginning, of its own. -/
def newP : Nat → Nat → List MV → Sto → Option (MV × Sto)
  | lim, d + 1, [.str s], σ => if lim ≤ d then some (.ptr ⟨d, 0, σ.ct d⟩ 0, (σ.set ⟨d, 0, σ.ct d⟩ [.str s, .int .i64 0]).tick d) else none
  | _, _, _, _ => none
/-- A row of its own. -/
def cloneP (z b : Nat) : Nat → Nat → List MV → Sto → Option (MV × Sto)
  | lim, d + 1, [.sl _ xs], σ =>
    if xs = [] then some (.sl .no [], σ) else
    if lim ≤ d ∧ okz z xs = true ∧ xs.length * b ≤ 140737488355328 then (xs.mapM datas).map fun ys => (.rs ⟨d, 0, σ.ct d⟩ 0 xs.length z, (σ.set ⟨d, 0, σ.ct d⟩ ys.flatten).tick d) else none
  | _, _, _, _ => none
/-- A Builder's place; its own address. -/
def isB (l : Mv.Loc) : Bool := decide (l.t = 1000000 + (68 * 1024 + 2))
def okA (l : Mv.Loc) : MV → Bool
  | .nilp => true
  | .ptr l' 0 => decide (l' = l)
  | _ => false
def wstrP : Nat → Nat → List MV → Sto → Option (MV × Sto)
  | lim, d + 1, [.ptr l 0, .str x], σ =>
    if lim ≤ l.d ∧ l.d ≤ d ∧ isB l = true then
      match σ.ob l with
      | some [p, .sl tk xs] => if okA l p = true then (bapp lim l.d 5 σ tk xs x).map fun r => (.tup [.int .i64 x.length, .junk], r.2.set l [.ptr l 0, r.1]) else none
      | _ => none
    else none
  | _, _, _, _ => none
def wbyteP : Nat → Nat → List MV → Sto → Option (MV × Sto)
  | lim, d + 1, [.ptr l 0, .int .u8 c], σ =>
    if lim ≤ l.d ∧ l.d ≤ d ∧ isB l = true ∧ 0 ≤ c ∧ c < 256 then
      match σ.ob l with
      | some [p, .sl tk xs] => if okA l p = true then (bapp lim l.d 5 σ tk xs [UInt8.ofNat c.toNat]).map fun r => (.junk, r.2.set l [.ptr l 0, r.1]) else none
      | _ => none
    else none
  | _, _, _, _ => none
/-- A Builder that is the second part of a command's builder. -/
def isB1 (l : Mv.Loc) : Bool := decide (l.t = 1000000 + (70 * 1024 + 3))
def okA1 (l : Mv.Loc) : MV → Bool
  | .nilp => true
  | .ptr l' 1 => decide (l' = l)
  | _ => false
def wbyteP1 : Nat → Nat → List MV → Sto → Option (MV × Sto)
  | lim, d + 1, [.ptr l 1, .int .u8 c], σ =>
    if lim ≤ l.d ∧ l.d ≤ d ∧ isB1 l = true ∧ 0 ≤ c ∧ c < 256 then
      match σ.ob l with
      | some [q, p, .sl tk xs] => if okA1 l p = true then (bapp lim l.d 5 σ tk xs [UInt8.ofNat c.toNat]).map fun r => (.junk, r.2.set l [q, .ptr l 1, r.1]) else none
      | _ => none
    else none
  | _, _, _, _ => none
/-- Cells that are bytes. -/
def inB : List (List MV) → Bool
  | [] => true
  | [.int .u8 n] :: r => decide (0 ≤ n ∧ n < 256) && inB r
  | _ => false
def bstrP : Nat → Nat → List MV → Sto → Option (MV × Sto)
  | lim, d + 1, [.ptr l 0], σ =>
    if lim ≤ l.d ∧ l.d ≤ d then
      match σ.ob l with
      | some [p, .sl .nil []] => some (.str [], σ)
      | some [p, .sl (.byt k c q) xs] =>
        match bytesOf xs with
        | some bs => if lim ≤ k ∧ k ≤ l.d ∧ q = 5 ∧ bs ≠ [] ∧ okz 1 xs = true ∧ (inB xs = true ∧ xs.length ≤ 140737488355328) ∧ σ.ow k c = some (xs.length, 1) then some (.str bs, (σ.own k c none).set l [p, .sl .no xs]) else none
        | none => none
      | _ => none
    else none
  | _, _, _, _ => none
def bstrP1 : Nat → Nat → List MV → Sto → Option (MV × Sto)
  | lim, d + 1, [.ptr l 1], σ =>
    if lim ≤ l.d ∧ l.d ≤ d then
      match σ.ob l with
      | some [q, p, .sl .nil []] => some (.str [], σ)
      | some [q, p, .sl (.byt k c e) xs] =>
        match bytesOf xs with
        | some bs => if lim ≤ k ∧ k ≤ l.d ∧ e = 5 ∧ bs ≠ [] ∧ okz 1 xs = true ∧ (inB xs = true ∧ xs.length ≤ 140737488355328) ∧ σ.ow k c = some (xs.length, 1) then some (.str bs, (σ.own k c none).set l [q, p, .sl .no xs]) else none
        | none => none
      | _ => none
    else none
  | _, _, _, _ => none
def at1 : List MV → Bool
  | .ptr _ 1 :: _ => true
  | _ => false
def wbyteQ (lim d : Nat) (ms : List MV) (σ : Sto) : Option (MV × Sto) := if at1 ms = true then wbyteP1 lim d ms σ else wbyteP lim d ms σ
def bstrQ (lim d : Nat) (ms : List MV) (σ : Sto) : Option (MV × Sto) := if at1 ms = true then bstrP1 lim d ms σ else bstrP lim d ms σ
/-- A text without the blanks at both ends. -/
def trimB (s : List UInt8) : List UInt8 := ((s.reverse.dropWhile (([32, 9] : List UInt8).contains ·)).reverse).dropWhile (([32, 9] : List UInt8).contains ·)
def trimAllP : Nat → Nat → List MV → Sto → Option (MV × Sto)
  | _, _, [.str s, .str c], σ => if c = [32, 9] ∧ s.length ≤ 9223372036854775807 then some (.str (trimB s), σ) else none
  | _, _, _, _ => none
/-- Whether a text has one of three signs. -/
def anyP : Nat → Nat → List MV → Sto → Option (MV × Sto)
  | _, _, [.str s, .str c], σ => if c = [10, 59, 125] ∧ s.length < 4294967281 then some (.bool (s.any (([10, 59, 125] : List UInt8).contains ·)), σ) else none
  | _, _, _, _ => none
def u4 : List Sh := [.i .u64, .i .u64, .i .u64, .i .u64]
noncomputable def X : Cfg where
  P := Go.Proofs.Tryz.prog
  eqT := fun t => if t = 34 then some u4 else if t = 131 then some ([.i .i64, .i .u8] ++ u4 ++ [.i .i64, .i .i64, .i .i64]) else if t = 75 then some [.i .i64, .s] else if t = 26 then some [.i .i64, .s] else none
  prim := fun f => if f = 190 then some (cloneP 10 96) else if f = 118 then some idxByteP else if f = 117 then some indexP else if f = 147 then some wstrP else if f = 20 then some wbyteQ else if f = 57 then some bstrQ else if f = 107 then some trimP else if f = 18 then some newP else if f = 65 then some anyP else if f = 66 then some trimAllP else none
  kp := fun b q => b = 0 ∧ q = fun x => ∃ m t i, x = .cells #[.int .i64 m] t i
  tg := fun t => decide (t = 68 ∨ t = 70)
  hotF := fun f => if f = 57 then true else if f = 121 then true else false
  kt := fun t => decide (t = 23 ∨ t = 66)

@[go_sem] theorem locX (t n : Nat) (o : Option Tmp) : locT X t n o = if t = 68 then (if n < 1024 then 1000000 + (t * 1024 + n) else dstT o) else if t = 70 then (if n < 1024 then 1000000 + (t * 1024 + n) else dstT o) else dstT o := by
  unfold locT X
  simp only [decide_eq_true_eq]
  by_cases h1 : t = 68
  · rw [if_pos (Or.inl h1), if_pos h1]
  · by_cases h2 : t = 70
    · rw [if_pos (Or.inr h2), if_neg h1, if_pos h2]
    · rw [if_neg (fun q => q.elim h1 h2), if_neg h1, if_neg h2]
@[go_sem] theorem dstT_some (t : Nat) : dstT (some t) = if t < 1000000 then t else 0 := rfl
@[go_sem] theorem dep_ptr (d : Nat) (l : Mv.Loc) (o : Nat) : dep d (.ptr l o) = decide (l.d < d) := rfl
@[go_sem] theorem ktX {α : Type} (t d : Nat) (m : MV) (x y : α) : (if (X.kt t && dep d m) = true then x else y) = if t = 23 then (if dep d m = true then x else y) else if t = 66 then (if dep d m = true then x else y) else y := by
  unfold X
  simp only [Bool.and_eq_true, decide_eq_true_eq]
  by_cases h1 : t = 23
  · simp [h1]
  · by_cases h2 : t = 66
    · simp [h2]
    · rw [if_neg (fun q => q.1.elim h1 h2), if_neg h1, if_neg h2]
@[go_sem] theorem shp_3 : shp X.P 3 = some (false, 1) := by kernel_rfl
@[go_sem] theorem zer_3 : zer X.P 3 = some (.int .i64 0) := by kernel_rfl
@[go_sem] theorem und_3 : X.P.underlying 3 = some (Go.TypeDesc.int .i64) := by kernel_rfl
@[go_sem] theorem shp_4 : shp X.P 4 = some (false, 1) := by kernel_rfl
@[go_sem] theorem zer_4 : zer X.P 4 = some (.bool false) := by kernel_rfl
@[go_sem] theorem und_4 : X.P.underlying 4 = some Go.TypeDesc.bool := by kernel_rfl
@[go_sem] theorem shp_5 : shp X.P 5 = some (false, 1) := by kernel_rfl
@[go_sem] theorem zer_5 : zer X.P 5 = some (.int .u8 0) := by kernel_rfl
@[go_sem] theorem und_5 : X.P.underlying 5 = some (Go.TypeDesc.int .u8) := by kernel_rfl
@[go_sem] theorem shp_9 : shp X.P 9 = some (false, 1) := by kernel_rfl
@[go_sem] theorem zer_9 : zer X.P 9 = some (.str []) := by kernel_rfl
@[go_sem] theorem und_9 : X.P.underlying 9 = some Go.TypeDesc.string := by kernel_rfl
@[go_sem] theorem shp_23 : shp X.P 23 = some (false, 1) := by kernel_rfl
@[go_sem] theorem zer_23 : zer X.P 23 = some (.sl .nil []) := by kernel_rfl
@[go_sem] theorem slc_23 : slc X.P 23 = some (26, 2, 24) := by kernel_rfl
@[go_sem] theorem und_23 : X.P.underlying 23 = some (Go.TypeDesc.slice 26) := by kernel_rfl
@[go_sem] theorem shp_26 : shp X.P 26 = some (true, 2) := by kernel_rfl
@[go_sem] theorem zer_26 : zer X.P 26 = some (.agg [.int .i64 0, .str []]) := by kernel_rfl
@[go_sem] theorem bldz_26 : bldz X.P 26 = some [.int .i64 0, .str []] := by kernel_rfl
@[go_sem] theorem fld_26_0 : fldo X.P 26 0 = some (0, 3) := by kernel_rfl
@[go_sem] theorem plc_26_0 : places X.P 26 0 = some (0, 1) := by kernel_rfl
@[go_sem] theorem fld_26_1 : fldo X.P 26 1 = some (1, 9) := by kernel_rfl
@[go_sem] theorem plc_26_1 : places X.P 26 1 = some (1, 1) := by kernel_rfl
@[go_sem] theorem shp_28 : shp X.P 28 = some (false, 1) := by kernel_rfl
@[go_sem] theorem zer_28 : zer X.P 28 = some (.sl .nil []) := by kernel_rfl
@[go_sem] theorem slc_28 : slc X.P 28 = some (75, 2, 24) := by kernel_rfl
@[go_sem] theorem und_28 : X.P.underlying 28 = some (Go.TypeDesc.slice 75) := by kernel_rfl
@[go_sem] theorem shp_32 : shp X.P 32 = some (false, 1) := by kernel_rfl
@[go_sem] theorem zer_32 : zer X.P 32 = some (.int .u64 0) := by kernel_rfl
@[go_sem] theorem und_32 : X.P.underlying 32 = some (Go.TypeDesc.int .u64) := by kernel_rfl
@[go_sem] theorem shp_34 : shp X.P 34 = some (true, 4) := by kernel_rfl
@[go_sem] theorem zer_34 : zer X.P 34 = some (.agg [.int .u64 0, .int .u64 0, .int .u64 0, .int .u64 0]) := by kernel_rfl
@[go_sem] theorem arr_34 : arr X.P 34 = some (4, 32) := by kernel_rfl
@[go_sem] theorem bldz_34 : bldz X.P 34 = some [.int .u64 0, .int .u64 0, .int .u64 0, .int .u64 0] := by kernel_rfl
@[go_sem] theorem und_34 : X.P.underlying 34 = some (Go.TypeDesc.array 4 32) := by kernel_rfl
@[go_sem] theorem plc_34_0 : places X.P 34 0 = some (0, 1) := by kernel_rfl
@[go_sem] theorem plc_34_1 : places X.P 34 1 = some (1, 1) := by kernel_rfl
@[go_sem] theorem plc_34_2 : places X.P 34 2 = some (2, 1) := by kernel_rfl
@[go_sem] theorem plc_34_3 : places X.P 34 3 = some (3, 1) := by kernel_rfl
@[go_sem] theorem plc_34_4 : places X.P 34 4 = some (4, 1) := by kernel_rfl
@[go_sem] theorem plc_34_5 : places X.P 34 5 = some (5, 1) := by kernel_rfl
@[go_sem] theorem plc_34_6 : places X.P 34 6 = some (6, 1) := by kernel_rfl
@[go_sem] theorem plc_34_7 : places X.P 34 7 = some (7, 1) := by kernel_rfl
@[go_sem] theorem plc_34_8 : places X.P 34 8 = some (8, 1) := by kernel_rfl
@[go_sem] theorem plc_34_9 : places X.P 34 9 = some (9, 1) := by kernel_rfl
@[go_sem] theorem plc_34_10 : places X.P 34 10 = some (10, 1) := by kernel_rfl
@[go_sem] theorem plc_34_11 : places X.P 34 11 = some (11, 1) := by kernel_rfl
@[go_sem] theorem plc_34_12 : places X.P 34 12 = some (12, 1) := by kernel_rfl
@[go_sem] theorem plc_34_13 : places X.P 34 13 = some (13, 1) := by kernel_rfl
@[go_sem] theorem plc_34_14 : places X.P 34 14 = some (14, 1) := by kernel_rfl
@[go_sem] theorem plc_34_15 : places X.P 34 15 = some (15, 1) := by kernel_rfl
@[go_sem] theorem plc_34_16 : places X.P 34 16 = some (16, 1) := by kernel_rfl
@[go_sem] theorem plc_34_17 : places X.P 34 17 = some (17, 1) := by kernel_rfl
@[go_sem] theorem plc_34_18 : places X.P 34 18 = some (18, 1) := by kernel_rfl
@[go_sem] theorem plc_34_19 : places X.P 34 19 = some (19, 1) := by kernel_rfl
@[go_sem] theorem shp_35 : shp X.P 35 = some (false, 1) := by kernel_rfl
@[go_sem] theorem zer_35 : zer X.P 35 = some (.sl .nil []) := by kernel_rfl
@[go_sem] theorem slc_35 : slc X.P 35 = some (37, 10, 96) := by kernel_rfl
@[go_sem] theorem und_35 : X.P.underlying 35 = some (Go.TypeDesc.slice 37) := by kernel_rfl
@[go_sem] theorem shp_37 : shp X.P 37 = some (true, 10) := by kernel_rfl
@[go_sem] theorem zer_37 : zer X.P 37 = some (.agg [.int .i64 0, .int .u8 0, .int .u64 0, .int .u64 0, .int .u64 0, .int .u64 0, .int .i64 0, .int .i64 0, .int .i64 0, .sl .nil []]) := by kernel_rfl
@[go_sem] theorem bldz_37 : bldz X.P 37 = some [.int .i64 0, .int .u8 0, .int .u64 0, .int .u64 0, .int .u64 0, .int .u64 0, .int .i64 0, .int .i64 0, .int .i64 0, .sl .nil []] := by kernel_rfl
@[go_sem] theorem fld_37_0 : fldo X.P 37 0 = some (0, 3) := by kernel_rfl
@[go_sem] theorem plc_37_0 : places X.P 37 0 = some (0, 1) := by kernel_rfl
@[go_sem] theorem fld_37_1 : fldo X.P 37 1 = some (1, 5) := by kernel_rfl
@[go_sem] theorem plc_37_1 : places X.P 37 1 = some (1, 1) := by kernel_rfl
@[go_sem] theorem fld_37_2 : fldo X.P 37 2 = some (2, 34) := by kernel_rfl
@[go_sem] theorem plc_37_2 : places X.P 37 2 = some (2, 4) := by kernel_rfl
@[go_sem] theorem fld_37_3 : fldo X.P 37 3 = some (6, 3) := by kernel_rfl
@[go_sem] theorem plc_37_3 : places X.P 37 3 = some (6, 1) := by kernel_rfl
@[go_sem] theorem fld_37_4 : fldo X.P 37 4 = some (7, 3) := by kernel_rfl
@[go_sem] theorem plc_37_4 : places X.P 37 4 = some (7, 1) := by kernel_rfl
@[go_sem] theorem fld_37_5 : fldo X.P 37 5 = some (8, 3) := by kernel_rfl
@[go_sem] theorem plc_37_5 : places X.P 37 5 = some (8, 1) := by kernel_rfl
@[go_sem] theorem fld_37_6 : fldo X.P 37 6 = some (9, 35) := by kernel_rfl
@[go_sem] theorem plc_37_6 : places X.P 37 6 = some (9, 1) := by kernel_rfl
@[go_sem] theorem shp_39 : shp X.P 39 = some (true, 12) := by kernel_rfl
@[go_sem] theorem zer_39 : zer X.P 39 = some (.agg [.int .i64 0, .int .i64 0, .int .i64 0, .int .u8 0, .int .u64 0, .int .u64 0, .int .u64 0, .int .u64 0, .int .i64 0, .int .i64 0, .int .i64 0, .sl .nil []]) := by kernel_rfl
@[go_sem] theorem bldz_39 : bldz X.P 39 = some [.int .i64 0, .int .i64 0, .int .i64 0, .int .u8 0, .int .u64 0, .int .u64 0, .int .u64 0, .int .u64 0, .int .i64 0, .int .i64 0, .int .i64 0, .sl .nil []] := by kernel_rfl
@[go_sem] theorem fld_39_0 : fldo X.P 39 0 = some (0, 3) := by kernel_rfl
@[go_sem] theorem plc_39_0 : places X.P 39 0 = some (0, 1) := by kernel_rfl
@[go_sem] theorem fld_39_1 : fldo X.P 39 1 = some (1, 3) := by kernel_rfl
@[go_sem] theorem plc_39_1 : places X.P 39 1 = some (1, 1) := by kernel_rfl
@[go_sem] theorem fld_39_2 : fldo X.P 39 2 = some (2, 37) := by kernel_rfl
@[go_sem] theorem plc_39_2 : places X.P 39 2 = some (2, 10) := by kernel_rfl
@[go_sem] theorem shp_41 : shp X.P 41 = some (true, 25) := by kernel_rfl
@[go_sem] theorem zer_41 : zer X.P 41 = some (.agg [.int .i64 0, .int .i64 0, .int .i64 0, .int .u8 0, .int .u64 0, .int .u64 0, .int .u64 0, .int .u64 0, .int .i64 0, .int .i64 0, .int .i64 0, .sl .nil [], .int .i64 0, .int .i64 0, .int .i64 0, .int .u8 0, .int .u64 0, .int .u64 0, .int .u64 0, .int .u64 0, .int .i64 0, .int .i64 0, .int .i64 0, .sl .nil [], .bool false]) := by kernel_rfl
@[go_sem] theorem bldz_41 : bldz X.P 41 = some [.int .i64 0, .int .i64 0, .int .i64 0, .int .u8 0, .int .u64 0, .int .u64 0, .int .u64 0, .int .u64 0, .int .i64 0, .int .i64 0, .int .i64 0, .sl .nil [], .int .i64 0, .int .i64 0, .int .i64 0, .int .u8 0, .int .u64 0, .int .u64 0, .int .u64 0, .int .u64 0, .int .i64 0, .int .i64 0, .int .i64 0, .sl .nil [], .bool false] := by kernel_rfl
@[go_sem] theorem fld_41_0 : fldo X.P 41 0 = some (0, 39) := by kernel_rfl
@[go_sem] theorem plc_41_0 : places X.P 41 0 = some (0, 12) := by kernel_rfl
@[go_sem] theorem fld_41_1 : fldo X.P 41 1 = some (12, 39) := by kernel_rfl
@[go_sem] theorem plc_41_1 : places X.P 41 1 = some (12, 12) := by kernel_rfl
@[go_sem] theorem fld_41_2 : fldo X.P 41 2 = some (24, 4) := by kernel_rfl
@[go_sem] theorem plc_41_2 : places X.P 41 2 = some (24, 1) := by kernel_rfl
@[go_sem] theorem shp_43 : shp X.P 43 = some (true, 48) := by kernel_rfl
@[go_sem] theorem zer_43 : zer X.P 43 = some (.agg [.int .u8 0, .int .i64 0, .int .i64 0, .int .i64 0, .int .u8 0, .int .u64 0, .int .u64 0, .int .u64 0, .int .u64 0, .int .i64 0, .int .i64 0, .int .i64 0, .sl .nil [], .int .i64 0, .int .i64 0, .int .i64 0, .int .u8 0, .int .u64 0, .int .u64 0, .int .u64 0, .int .u64 0, .int .i64 0, .int .i64 0, .int .i64 0, .sl .nil [], .bool false, .str [], .str [], .str [], .int .i64 0, .int .i64 0, .int .i64 0, .int .u8 0, .int .u64 0, .int .u64 0, .int .u64 0, .int .u64 0, .int .i64 0, .int .i64 0, .int .i64 0, .sl .nil [], .sl .nil [], .int .i64 0, .bool false, .bool false, .str [], .str [], .int .i64 0]) := by kernel_rfl
@[go_sem] theorem bldz_43 : bldz X.P 43 = some [.int .u8 0, .int .i64 0, .int .i64 0, .int .i64 0, .int .u8 0, .int .u64 0, .int .u64 0, .int .u64 0, .int .u64 0, .int .i64 0, .int .i64 0, .int .i64 0, .sl .nil [], .int .i64 0, .int .i64 0, .int .i64 0, .int .u8 0, .int .u64 0, .int .u64 0, .int .u64 0, .int .u64 0, .int .i64 0, .int .i64 0, .int .i64 0, .sl .nil [], .bool false, .str [], .str [], .str [], .int .i64 0, .int .i64 0, .int .i64 0, .int .u8 0, .int .u64 0, .int .u64 0, .int .u64 0, .int .u64 0, .int .i64 0, .int .i64 0, .int .i64 0, .sl .nil [], .sl .nil [], .int .i64 0, .bool false, .bool false, .str [], .str [], .int .i64 0] := by kernel_rfl
@[go_sem] theorem fld_43_0 : fldo X.P 43 0 = some (0, 5) := by kernel_rfl
@[go_sem] theorem plc_43_0 : places X.P 43 0 = some (0, 1) := by kernel_rfl
@[go_sem] theorem fld_43_1 : fldo X.P 43 1 = some (1, 41) := by kernel_rfl
@[go_sem] theorem plc_43_1 : places X.P 43 1 = some (1, 25) := by kernel_rfl
@[go_sem] theorem fld_43_2 : fldo X.P 43 2 = some (26, 9) := by kernel_rfl
@[go_sem] theorem plc_43_2 : places X.P 43 2 = some (26, 1) := by kernel_rfl
@[go_sem] theorem fld_43_3 : fldo X.P 43 3 = some (27, 9) := by kernel_rfl
@[go_sem] theorem plc_43_3 : places X.P 43 3 = some (27, 1) := by kernel_rfl
@[go_sem] theorem fld_43_4 : fldo X.P 43 4 = some (28, 9) := by kernel_rfl
@[go_sem] theorem plc_43_4 : places X.P 43 4 = some (28, 1) := by kernel_rfl
@[go_sem] theorem fld_43_5 : fldo X.P 43 5 = some (29, 39) := by kernel_rfl
@[go_sem] theorem plc_43_5 : places X.P 43 5 = some (29, 12) := by kernel_rfl
@[go_sem] theorem fld_43_6 : fldo X.P 43 6 = some (41, 28) := by kernel_rfl
@[go_sem] theorem plc_43_6 : places X.P 43 6 = some (41, 1) := by kernel_rfl
@[go_sem] theorem fld_43_7 : fldo X.P 43 7 = some (42, 3) := by kernel_rfl
@[go_sem] theorem plc_43_7 : places X.P 43 7 = some (42, 1) := by kernel_rfl
@[go_sem] theorem fld_43_8 : fldo X.P 43 8 = some (43, 4) := by kernel_rfl
@[go_sem] theorem plc_43_8 : places X.P 43 8 = some (43, 1) := by kernel_rfl
@[go_sem] theorem fld_43_9 : fldo X.P 43 9 = some (44, 4) := by kernel_rfl
@[go_sem] theorem plc_43_9 : places X.P 43 9 = some (44, 1) := by kernel_rfl
@[go_sem] theorem fld_43_10 : fldo X.P 43 10 = some (45, 9) := by kernel_rfl
@[go_sem] theorem plc_43_10 : places X.P 43 10 = some (45, 1) := by kernel_rfl
@[go_sem] theorem fld_43_11 : fldo X.P 43 11 = some (46, 9) := by kernel_rfl
@[go_sem] theorem plc_43_11 : places X.P 43 11 = some (46, 1) := by kernel_rfl
@[go_sem] theorem fld_43_12 : fldo X.P 43 12 = some (47, 3) := by kernel_rfl
@[go_sem] theorem plc_43_12 : places X.P 43 12 = some (47, 1) := by kernel_rfl
@[go_sem] theorem shp_46 : shp X.P 46 = some (true, 4) := by kernel_rfl
@[go_sem] theorem zer_46 : zer X.P 46 = some (.agg [.int .u64 0, .int .u64 0, .int .u64 0, .int .u64 0]) := by kernel_rfl
@[go_sem] theorem arr_46 : arr X.P 46 = some (4, 32) := by kernel_rfl
@[go_sem] theorem bldz_46 : bldz X.P 46 = some [.int .u64 0, .int .u64 0, .int .u64 0, .int .u64 0] := by kernel_rfl
@[go_sem] theorem und_46 : X.P.underlying 46 = some (Go.TypeDesc.array 4 32) := by kernel_rfl
@[go_sem] theorem plc_46_0 : places X.P 46 0 = some (0, 1) := by kernel_rfl
@[go_sem] theorem plc_46_1 : places X.P 46 1 = some (1, 1) := by kernel_rfl
@[go_sem] theorem plc_46_2 : places X.P 46 2 = some (2, 1) := by kernel_rfl
@[go_sem] theorem plc_46_3 : places X.P 46 3 = some (3, 1) := by kernel_rfl
@[go_sem] theorem plc_46_4 : places X.P 46 4 = some (4, 1) := by kernel_rfl
@[go_sem] theorem plc_46_5 : places X.P 46 5 = some (5, 1) := by kernel_rfl
@[go_sem] theorem plc_46_6 : places X.P 46 6 = some (6, 1) := by kernel_rfl
@[go_sem] theorem plc_46_7 : places X.P 46 7 = some (7, 1) := by kernel_rfl
@[go_sem] theorem plc_46_8 : places X.P 46 8 = some (8, 1) := by kernel_rfl
@[go_sem] theorem plc_46_9 : places X.P 46 9 = some (9, 1) := by kernel_rfl
@[go_sem] theorem plc_46_10 : places X.P 46 10 = some (10, 1) := by kernel_rfl
@[go_sem] theorem plc_46_11 : places X.P 46 11 = some (11, 1) := by kernel_rfl
@[go_sem] theorem plc_46_12 : places X.P 46 12 = some (12, 1) := by kernel_rfl
@[go_sem] theorem plc_46_13 : places X.P 46 13 = some (13, 1) := by kernel_rfl
@[go_sem] theorem plc_46_14 : places X.P 46 14 = some (14, 1) := by kernel_rfl
@[go_sem] theorem plc_46_15 : places X.P 46 15 = some (15, 1) := by kernel_rfl
@[go_sem] theorem plc_46_16 : places X.P 46 16 = some (16, 1) := by kernel_rfl
@[go_sem] theorem plc_46_17 : places X.P 46 17 = some (17, 1) := by kernel_rfl
@[go_sem] theorem plc_46_18 : places X.P 46 18 = some (18, 1) := by kernel_rfl
@[go_sem] theorem plc_46_19 : places X.P 46 19 = some (19, 1) := by kernel_rfl
@[go_sem] theorem shp_47 : shp X.P 47 = some (false, 1) := by kernel_rfl
@[go_sem] theorem zer_47 : zer X.P 47 = some (.sl .nil []) := by kernel_rfl
@[go_sem] theorem slc_47 : slc X.P 47 = some (49, 10, 96) := by kernel_rfl
@[go_sem] theorem und_47 : X.P.underlying 47 = some (Go.TypeDesc.slice 49) := by kernel_rfl
@[go_sem] theorem shp_49 : shp X.P 49 = some (true, 10) := by kernel_rfl
@[go_sem] theorem zer_49 : zer X.P 49 = some (.agg [.int .i64 0, .int .u8 0, .int .u64 0, .int .u64 0, .int .u64 0, .int .u64 0, .int .i64 0, .int .i64 0, .int .i64 0, .sl .nil []]) := by kernel_rfl
@[go_sem] theorem bldz_49 : bldz X.P 49 = some [.int .i64 0, .int .u8 0, .int .u64 0, .int .u64 0, .int .u64 0, .int .u64 0, .int .i64 0, .int .i64 0, .int .i64 0, .sl .nil []] := by kernel_rfl
@[go_sem] theorem fld_49_0 : fldo X.P 49 0 = some (0, 3) := by kernel_rfl
@[go_sem] theorem plc_49_0 : places X.P 49 0 = some (0, 1) := by kernel_rfl
@[go_sem] theorem fld_49_1 : fldo X.P 49 1 = some (1, 5) := by kernel_rfl
@[go_sem] theorem plc_49_1 : places X.P 49 1 = some (1, 1) := by kernel_rfl
@[go_sem] theorem fld_49_2 : fldo X.P 49 2 = some (2, 46) := by kernel_rfl
@[go_sem] theorem plc_49_2 : places X.P 49 2 = some (2, 4) := by kernel_rfl
@[go_sem] theorem fld_49_3 : fldo X.P 49 3 = some (6, 3) := by kernel_rfl
@[go_sem] theorem plc_49_3 : places X.P 49 3 = some (6, 1) := by kernel_rfl
@[go_sem] theorem fld_49_4 : fldo X.P 49 4 = some (7, 3) := by kernel_rfl
@[go_sem] theorem plc_49_4 : places X.P 49 4 = some (7, 1) := by kernel_rfl
@[go_sem] theorem fld_49_5 : fldo X.P 49 5 = some (8, 3) := by kernel_rfl
@[go_sem] theorem plc_49_5 : places X.P 49 5 = some (8, 1) := by kernel_rfl
@[go_sem] theorem fld_49_6 : fldo X.P 49 6 = some (9, 47) := by kernel_rfl
@[go_sem] theorem plc_49_6 : places X.P 49 6 = some (9, 1) := by kernel_rfl
@[go_sem] theorem shp_51 : shp X.P 51 = some (true, 12) := by kernel_rfl
@[go_sem] theorem zer_51 : zer X.P 51 = some (.agg [.int .i64 0, .int .i64 0, .int .i64 0, .int .u8 0, .int .u64 0, .int .u64 0, .int .u64 0, .int .u64 0, .int .i64 0, .int .i64 0, .int .i64 0, .sl .nil []]) := by kernel_rfl
@[go_sem] theorem bldz_51 : bldz X.P 51 = some [.int .i64 0, .int .i64 0, .int .i64 0, .int .u8 0, .int .u64 0, .int .u64 0, .int .u64 0, .int .u64 0, .int .i64 0, .int .i64 0, .int .i64 0, .sl .nil []] := by kernel_rfl
@[go_sem] theorem fld_51_0 : fldo X.P 51 0 = some (0, 3) := by kernel_rfl
@[go_sem] theorem plc_51_0 : places X.P 51 0 = some (0, 1) := by kernel_rfl
@[go_sem] theorem fld_51_1 : fldo X.P 51 1 = some (1, 3) := by kernel_rfl
@[go_sem] theorem plc_51_1 : places X.P 51 1 = some (1, 1) := by kernel_rfl
@[go_sem] theorem fld_51_2 : fldo X.P 51 2 = some (2, 49) := by kernel_rfl
@[go_sem] theorem plc_51_2 : places X.P 51 2 = some (2, 10) := by kernel_rfl
@[go_sem] theorem shp_53 : shp X.P 53 = some (true, 25) := by kernel_rfl
@[go_sem] theorem zer_53 : zer X.P 53 = some (.agg [.int .i64 0, .int .i64 0, .int .i64 0, .int .u8 0, .int .u64 0, .int .u64 0, .int .u64 0, .int .u64 0, .int .i64 0, .int .i64 0, .int .i64 0, .sl .nil [], .int .i64 0, .int .i64 0, .int .i64 0, .int .u8 0, .int .u64 0, .int .u64 0, .int .u64 0, .int .u64 0, .int .i64 0, .int .i64 0, .int .i64 0, .sl .nil [], .bool false]) := by kernel_rfl
@[go_sem] theorem bldz_53 : bldz X.P 53 = some [.int .i64 0, .int .i64 0, .int .i64 0, .int .u8 0, .int .u64 0, .int .u64 0, .int .u64 0, .int .u64 0, .int .i64 0, .int .i64 0, .int .i64 0, .sl .nil [], .int .i64 0, .int .i64 0, .int .i64 0, .int .u8 0, .int .u64 0, .int .u64 0, .int .u64 0, .int .u64 0, .int .i64 0, .int .i64 0, .int .i64 0, .sl .nil [], .bool false] := by kernel_rfl
@[go_sem] theorem fld_53_0 : fldo X.P 53 0 = some (0, 51) := by kernel_rfl
@[go_sem] theorem plc_53_0 : places X.P 53 0 = some (0, 12) := by kernel_rfl
@[go_sem] theorem fld_53_1 : fldo X.P 53 1 = some (12, 51) := by kernel_rfl
@[go_sem] theorem plc_53_1 : places X.P 53 1 = some (12, 12) := by kernel_rfl
@[go_sem] theorem fld_53_2 : fldo X.P 53 2 = some (24, 4) := by kernel_rfl
@[go_sem] theorem plc_53_2 : places X.P 53 2 = some (24, 1) := by kernel_rfl
@[go_sem] theorem shp_55 : shp X.P 55 = some (true, 48) := by kernel_rfl
@[go_sem] theorem zer_55 : zer X.P 55 = some (.agg [.int .u8 0, .int .i64 0, .int .i64 0, .int .i64 0, .int .u8 0, .int .u64 0, .int .u64 0, .int .u64 0, .int .u64 0, .int .i64 0, .int .i64 0, .int .i64 0, .sl .nil [], .int .i64 0, .int .i64 0, .int .i64 0, .int .u8 0, .int .u64 0, .int .u64 0, .int .u64 0, .int .u64 0, .int .i64 0, .int .i64 0, .int .i64 0, .sl .nil [], .bool false, .str [], .str [], .str [], .int .i64 0, .int .i64 0, .int .i64 0, .int .u8 0, .int .u64 0, .int .u64 0, .int .u64 0, .int .u64 0, .int .i64 0, .int .i64 0, .int .i64 0, .sl .nil [], .sl .nil [], .int .i64 0, .bool false, .bool false, .str [], .str [], .int .i64 0]) := by kernel_rfl
@[go_sem] theorem bldz_55 : bldz X.P 55 = some [.int .u8 0, .int .i64 0, .int .i64 0, .int .i64 0, .int .u8 0, .int .u64 0, .int .u64 0, .int .u64 0, .int .u64 0, .int .i64 0, .int .i64 0, .int .i64 0, .sl .nil [], .int .i64 0, .int .i64 0, .int .i64 0, .int .u8 0, .int .u64 0, .int .u64 0, .int .u64 0, .int .u64 0, .int .i64 0, .int .i64 0, .int .i64 0, .sl .nil [], .bool false, .str [], .str [], .str [], .int .i64 0, .int .i64 0, .int .i64 0, .int .u8 0, .int .u64 0, .int .u64 0, .int .u64 0, .int .u64 0, .int .i64 0, .int .i64 0, .int .i64 0, .sl .nil [], .sl .nil [], .int .i64 0, .bool false, .bool false, .str [], .str [], .int .i64 0] := by kernel_rfl
@[go_sem] theorem fld_55_0 : fldo X.P 55 0 = some (0, 5) := by kernel_rfl
@[go_sem] theorem plc_55_0 : places X.P 55 0 = some (0, 1) := by kernel_rfl
@[go_sem] theorem fld_55_1 : fldo X.P 55 1 = some (1, 53) := by kernel_rfl
@[go_sem] theorem plc_55_1 : places X.P 55 1 = some (1, 25) := by kernel_rfl
@[go_sem] theorem fld_55_2 : fldo X.P 55 2 = some (26, 9) := by kernel_rfl
@[go_sem] theorem plc_55_2 : places X.P 55 2 = some (26, 1) := by kernel_rfl
@[go_sem] theorem fld_55_3 : fldo X.P 55 3 = some (27, 9) := by kernel_rfl
@[go_sem] theorem plc_55_3 : places X.P 55 3 = some (27, 1) := by kernel_rfl
@[go_sem] theorem fld_55_4 : fldo X.P 55 4 = some (28, 9) := by kernel_rfl
@[go_sem] theorem plc_55_4 : places X.P 55 4 = some (28, 1) := by kernel_rfl
@[go_sem] theorem fld_55_5 : fldo X.P 55 5 = some (29, 51) := by kernel_rfl
@[go_sem] theorem plc_55_5 : places X.P 55 5 = some (29, 12) := by kernel_rfl
@[go_sem] theorem fld_55_6 : fldo X.P 55 6 = some (41, 23) := by kernel_rfl
@[go_sem] theorem plc_55_6 : places X.P 55 6 = some (41, 1) := by kernel_rfl
@[go_sem] theorem fld_55_7 : fldo X.P 55 7 = some (42, 3) := by kernel_rfl
@[go_sem] theorem plc_55_7 : places X.P 55 7 = some (42, 1) := by kernel_rfl
@[go_sem] theorem fld_55_8 : fldo X.P 55 8 = some (43, 4) := by kernel_rfl
@[go_sem] theorem plc_55_8 : places X.P 55 8 = some (43, 1) := by kernel_rfl
@[go_sem] theorem fld_55_9 : fldo X.P 55 9 = some (44, 4) := by kernel_rfl
@[go_sem] theorem plc_55_9 : places X.P 55 9 = some (44, 1) := by kernel_rfl
@[go_sem] theorem fld_55_10 : fldo X.P 55 10 = some (45, 9) := by kernel_rfl
@[go_sem] theorem plc_55_10 : places X.P 55 10 = some (45, 1) := by kernel_rfl
@[go_sem] theorem fld_55_11 : fldo X.P 55 11 = some (46, 9) := by kernel_rfl
@[go_sem] theorem plc_55_11 : places X.P 55 11 = some (46, 1) := by kernel_rfl
@[go_sem] theorem fld_55_12 : fldo X.P 55 12 = some (47, 3) := by kernel_rfl
@[go_sem] theorem plc_55_12 : places X.P 55 12 = some (47, 1) := by kernel_rfl
@[go_sem] theorem shp_60 : shp X.P 60 = some (false, 1) := by kernel_rfl
@[go_sem] theorem zer_60 : zer X.P 60 = some (.int .i64 0) := by kernel_rfl
@[go_sem] theorem und_60 : X.P.underlying 60 = some (Go.TypeDesc.int .i64) := by kernel_rfl
@[go_sem] theorem shp_63 : shp X.P 63 = some (false, 1) := by kernel_rfl
@[go_sem] theorem zer_63 : zer X.P 63 = some .nilp := by kernel_rfl
@[go_sem] theorem und_63 : X.P.underlying 63 = some (Go.TypeDesc.pointer 104) := by kernel_rfl
@[go_sem] theorem shp_65 : shp X.P 65 = some (false, 1) := by kernel_rfl
@[go_sem] theorem zer_65 : zer X.P 65 = some .nilp := by kernel_rfl
@[go_sem] theorem und_65 : X.P.underlying 65 = some (Go.TypeDesc.pointer 68) := by kernel_rfl
@[go_sem] theorem shp_66 : shp X.P 66 = some (false, 1) := by kernel_rfl
@[go_sem] theorem zer_66 : zer X.P 66 = some (.sl .nil []) := by kernel_rfl
@[go_sem] theorem slc_66 : slc X.P 66 = some (5, 1, 1) := by kernel_rfl
@[go_sem] theorem und_66 : X.P.underlying 66 = some (Go.TypeDesc.slice 5) := by kernel_rfl
@[go_sem] theorem shp_68 : shp X.P 68 = some (true, 2) := by kernel_rfl
@[go_sem] theorem zer_68 : zer X.P 68 = some (.agg [.nilp, .sl .nil []]) := by kernel_rfl
@[go_sem] theorem bldz_68 : bldz X.P 68 = some [.nilp, .sl .nil []] := by kernel_rfl
@[go_sem] theorem fld_68_0 : fldo X.P 68 0 = some (0, 65) := by kernel_rfl
@[go_sem] theorem plc_68_0 : places X.P 68 0 = some (0, 1) := by kernel_rfl
@[go_sem] theorem fld_68_1 : fldo X.P 68 1 = some (1, 66) := by kernel_rfl
@[go_sem] theorem plc_68_1 : places X.P 68 1 = some (1, 1) := by kernel_rfl
@[go_sem] theorem shp_70 : shp X.P 70 = some (true, 3) := by kernel_rfl
@[go_sem] theorem zer_70 : zer X.P 70 = some (.agg [.sl .nil [], .nilp, .sl .nil []]) := by kernel_rfl
@[go_sem] theorem bldz_70 : bldz X.P 70 = some [.sl .nil [], .nilp, .sl .nil []] := by kernel_rfl
@[go_sem] theorem fld_70_0 : fldo X.P 70 0 = some (0, 23) := by kernel_rfl
@[go_sem] theorem plc_70_0 : places X.P 70 0 = some (0, 1) := by kernel_rfl
@[go_sem] theorem fld_70_1 : fldo X.P 70 1 = some (1, 68) := by kernel_rfl
@[go_sem] theorem plc_70_1 : places X.P 70 1 = some (1, 2) := by kernel_rfl
@[go_sem] theorem shp_75 : shp X.P 75 = some (true, 2) := by kernel_rfl
@[go_sem] theorem zer_75 : zer X.P 75 = some (.agg [.int .i64 0, .str []]) := by kernel_rfl
@[go_sem] theorem bldz_75 : bldz X.P 75 = some [.int .i64 0, .str []] := by kernel_rfl
@[go_sem] theorem fld_75_0 : fldo X.P 75 0 = some (0, 3) := by kernel_rfl
@[go_sem] theorem plc_75_0 : places X.P 75 0 = some (0, 1) := by kernel_rfl
@[go_sem] theorem fld_75_1 : fldo X.P 75 1 = some (1, 9) := by kernel_rfl
@[go_sem] theorem plc_75_1 : places X.P 75 1 = some (1, 1) := by kernel_rfl
@[go_sem] theorem shp_105 : shp X.P 105 = some (false, 1) := by kernel_rfl
@[go_sem] theorem zer_105 : zer X.P 105 = some .nilp := by kernel_rfl
@[go_sem] theorem und_105 : X.P.underlying 105 = some (Go.TypeDesc.pointer 70) := by kernel_rfl
@[go_sem] theorem shp_109 : shp X.P 109 = some (false, 1) := by kernel_rfl
@[go_sem] theorem zer_109 : zer X.P 109 = some .junk := by kernel_rfl
@[go_sem] theorem shp_129 : shp X.P 129 = some (false, 1) := by kernel_rfl
@[go_sem] theorem zer_129 : zer X.P 129 = some .nilp := by kernel_rfl
@[go_sem] theorem und_129 : X.P.underlying 129 = some (Go.TypeDesc.pointer 5) := by kernel_rfl
@[go_sem] theorem shp_131 : shp X.P 131 = some (true, 9) := by kernel_rfl
@[go_sem] theorem zer_131 : zer X.P 131 = some (.agg [.int .i64 0, .int .u8 0, .int .u64 0, .int .u64 0, .int .u64 0, .int .u64 0, .int .i64 0, .int .i64 0, .int .i64 0]) := by kernel_rfl
@[go_sem] theorem bldz_131 : bldz X.P 131 = some [.int .i64 0, .int .u8 0, .int .u64 0, .int .u64 0, .int .u64 0, .int .u64 0, .int .i64 0, .int .i64 0, .int .i64 0] := by kernel_rfl
@[go_sem] theorem fld_131_0 : fldo X.P 131 0 = some (0, 3) := by kernel_rfl
@[go_sem] theorem plc_131_0 : places X.P 131 0 = some (0, 1) := by kernel_rfl
@[go_sem] theorem fld_131_1 : fldo X.P 131 1 = some (1, 5) := by kernel_rfl
@[go_sem] theorem plc_131_1 : places X.P 131 1 = some (1, 1) := by kernel_rfl
@[go_sem] theorem fld_131_2 : fldo X.P 131 2 = some (2, 46) := by kernel_rfl
@[go_sem] theorem plc_131_2 : places X.P 131 2 = some (2, 4) := by kernel_rfl
@[go_sem] theorem fld_131_3 : fldo X.P 131 3 = some (6, 3) := by kernel_rfl
@[go_sem] theorem plc_131_3 : places X.P 131 3 = some (6, 1) := by kernel_rfl
@[go_sem] theorem fld_131_4 : fldo X.P 131 4 = some (7, 3) := by kernel_rfl
@[go_sem] theorem plc_131_4 : places X.P 131 4 = some (7, 1) := by kernel_rfl
@[go_sem] theorem fld_131_5 : fldo X.P 131 5 = some (8, 3) := by kernel_rfl
@[go_sem] theorem plc_131_5 : places X.P 131 5 = some (8, 1) := by kernel_rfl
@[go_sem] theorem shp_86 : shp X.P 86 = some (false, 1) := by kernel_rfl
@[go_sem] theorem zer_86 : zer X.P 86 = some (.int .i64 0) := by kernel_rfl
@[go_sem] theorem und_86 : X.P.underlying 86 = some (Go.TypeDesc.int .i64) := by kernel_rfl
@[go_sem] theorem shp_145 : shp X.P 145 = some (true, 10) := by kernel_rfl
@[go_sem] theorem zer_145 : zer X.P 145 = some (.agg [.bool false, .bool false, .bool false, .bool false, .bool false, .bool false, .bool false, .bool false, .bool false, .bool false]) := by kernel_rfl
@[go_sem] theorem arr_145 : arr X.P 145 = some (10, 4) := by kernel_rfl
@[go_sem] theorem bldz_145 : bldz X.P 145 = some [.bool false, .bool false, .bool false, .bool false, .bool false, .bool false, .bool false, .bool false, .bool false, .bool false] := by kernel_rfl
@[go_sem] theorem und_145 : X.P.underlying 145 = some (Go.TypeDesc.array 10 4) := by kernel_rfl
@[go_sem] theorem plc_145_0 : places X.P 145 0 = some (0, 1) := by kernel_rfl
@[go_sem] theorem plc_145_1 : places X.P 145 1 = some (1, 1) := by kernel_rfl
@[go_sem] theorem plc_145_2 : places X.P 145 2 = some (2, 1) := by kernel_rfl
@[go_sem] theorem plc_145_3 : places X.P 145 3 = some (3, 1) := by kernel_rfl
@[go_sem] theorem plc_145_4 : places X.P 145 4 = some (4, 1) := by kernel_rfl
@[go_sem] theorem plc_145_5 : places X.P 145 5 = some (5, 1) := by kernel_rfl
@[go_sem] theorem plc_145_6 : places X.P 145 6 = some (6, 1) := by kernel_rfl
@[go_sem] theorem plc_145_7 : places X.P 145 7 = some (7, 1) := by kernel_rfl
@[go_sem] theorem plc_145_8 : places X.P 145 8 = some (8, 1) := by kernel_rfl
@[go_sem] theorem plc_145_9 : places X.P 145 9 = some (9, 1) := by kernel_rfl
@[go_sem] theorem plc_145_10 : places X.P 145 10 = some (10, 1) := by kernel_rfl
@[go_sem] theorem plc_145_11 : places X.P 145 11 = some (11, 1) := by kernel_rfl
@[go_sem] theorem plc_145_12 : places X.P 145 12 = some (12, 1) := by kernel_rfl
@[go_sem] theorem plc_145_13 : places X.P 145 13 = some (13, 1) := by kernel_rfl
@[go_sem] theorem plc_145_14 : places X.P 145 14 = some (14, 1) := by kernel_rfl
@[go_sem] theorem plc_145_15 : places X.P 145 15 = some (15, 1) := by kernel_rfl
@[go_sem] theorem plc_145_16 : places X.P 145 16 = some (16, 1) := by kernel_rfl
@[go_sem] theorem plc_145_17 : places X.P 145 17 = some (17, 1) := by kernel_rfl
@[go_sem] theorem plc_145_18 : places X.P 145 18 = some (18, 1) := by kernel_rfl
@[go_sem] theorem plc_145_19 : places X.P 145 19 = some (19, 1) := by kernel_rfl
@[go_sem] theorem shp_152 : shp X.P 152 = some (false, 1) := by kernel_rfl
@[go_sem] theorem zer_152 : zer X.P 152 = some .nilp := by kernel_rfl
@[go_sem] theorem und_152 : X.P.underlying 152 = some (Go.TypeDesc.pointer 154) := by kernel_rfl
@[go_sem] theorem shp_154 : shp X.P 154 = some (true, 11) := by kernel_rfl
@[go_sem] theorem zer_154 : zer X.P 154 = some (.agg [.int .i64 0, .bool false, .bool false, .bool false, .bool false, .bool false, .bool false, .bool false, .bool false, .bool false, .bool false]) := by kernel_rfl
@[go_sem] theorem bldz_154 : bldz X.P 154 = some [.int .i64 0, .bool false, .bool false, .bool false, .bool false, .bool false, .bool false, .bool false, .bool false, .bool false, .bool false] := by kernel_rfl
@[go_sem] theorem fld_154_0 : fldo X.P 154 0 = some (0, 3) := by kernel_rfl
@[go_sem] theorem plc_154_0 : places X.P 154 0 = some (0, 1) := by kernel_rfl
@[go_sem] theorem fld_154_1 : fldo X.P 154 1 = some (1, 145) := by kernel_rfl
@[go_sem] theorem plc_154_1 : places X.P 154 1 = some (1, 10) := by kernel_rfl
@[go_sem] theorem shp_182 : shp X.P 182 = some (false, 1) := by kernel_rfl
@[go_sem] theorem zer_182 : zer X.P 182 = some (.sl .nil []) := by kernel_rfl
@[go_sem] theorem slc_182 : slc X.P 182 = some (3, 1, 8) := by kernel_rfl
@[go_sem] theorem und_182 : X.P.underlying 182 = some (Go.TypeDesc.slice 3) := by kernel_rfl
end Go.Proofs.Tryz.E
