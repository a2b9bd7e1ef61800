/- Walks: what the functions compute. -/
import Derived.Test.YtgdecplonaaahaaDoorE17
set_option linter.unusedVariables false
set_option linter.unusedSimpArgs false
/- A bracket's members, on the other side. -/
namespace Go.Proofs.Tryd.E
open Go.Mv
set_option maxHeartbeats 4000000
set_option maxRecDepth 20000
theorem pre_two (b c x y : UInt8) (r : List UInt8) : preS (b :: c :: r) [x, y] = (b == x && c == y) := by
  rw [preS, Bool.eq_iff_iff]; simp
theorem pre_two1 (b x y : UInt8) : preS [b] [x, y] = false := by simp [preS]
theorem pre_one (b x : UInt8) (r : List UInt8) : preS (b :: r) [x] = (b == x) := by
  rw [preS, Bool.eq_iff_iff]; simp
theorem pre_nil (p : List UInt8) (h : p ≠ []) : preS [] p = false := by
  simp only [preS, List.take_nil, beq_eq_false_iff_ne]; exact fun e => h e.symm
theorem cut_at (s : List UInt8) (n i j : Nat) : (s.take (n + j)).drop (n + i) = ((s.drop n).take j).drop i := by
  rw [List.drop_take, List.drop_take, List.drop_drop]
  congr 1
  omega
theorem at_drop {s t : List UInt8} {n : Nat} (h : s.drop n = t) (i : Nat) : s[n + i]? = t[i]? := by rw [← h, List.getElem?_drop]
def sngV (o : Option (UInt8 × Nat)) (n : Nat) : MV := match o with
  | some x => .tup [.int .u8 x.1.toNat, .int .i64 (n + x.2 : Nat), .bool true]
  | none => .tup [.int .u8 0, .int .i64 0, .bool false]
theorem sngV_some (x : UInt8 × Nat) (n : Nat) : sngV (some x) n = .tup [.int .u8 x.1.toNat, .int .i64 (n + x.2 : Nat), .bool true] := rfl
theorem sngV_none (n : Nat) : sngV none n = .tup [.int .u8 0, .int .i64 0, .bool false] := rfl
theorem tnat1 (n k : Nat) : ((n : Int) + (k : Int)).toNat = n + k := by omega
theorem k92_10 : ((92 : UInt8) == 10) = false := rfl
theorem k92_91 : ((92 : UInt8) == 91) = false := rfl
theorem k92_92 : ((92 : UInt8) == 92) = true := rfl
theorem k91_10 : ((91 : UInt8) == 10) = false := rfl
theorem k91_91 : ((91 : UInt8) == 91) = true := rfl
theorem k91_92 : ((91 : UInt8) == 92) = false := rfl
theorem single_two (b c : UInt8) (r : List UInt8) : singleS (b :: c :: r) = if (b == 10) = true then none else if (b == 91 && c == 46) = true then namedS 46 (b :: c :: r) else if (b == 92 && c == 110) = true then some (10, 2) else some (b, 1) := by
  simp only [singleS, pre_two]
theorem single_one (b : UInt8) : singleS [b] = if (b == 10) = true then none else some (b, 1) := by
  simp only [singleS, pre_two1, Bool.false_eq_true, if_false]
theorem len3 {t : List UInt8} (h : 3 ≤ t.length) : ∃ a b c r, t = a :: b :: c :: r := by
  match t, h with
  | a :: b :: c :: r, _ => exact ⟨a, b, c, r, rfl⟩
  | [], h => simp at h
  | [_], h => simp at h
  | [_, _], h => simp at h
theorem idx_short (u : List UInt8) (h : u.length < 2) : idxS u [58, 93] = -1 := by
  match u, h with
  | [], _ => rfl
  | [b], _ =>
    have : ¬ ([58, 93] : List UInt8) <+: [b] := fun q => by have := q.length_le; simp at this
    simp [idxS, this]
  | _ :: _ :: _, h => simp only [List.length_cons] at h; omega
theorem idx_hit (u : List UInt8) (h : u.take 2 = [58, 93]) : idxS u [58, 93] = 0 := by
  match u, h with
  | b :: u, h =>
    have : ([58, 93] : List UInt8) <+: (b :: u) := List.prefix_iff_eq_take.2 h.symm
    simp [idxS, this]
theorem idx_miss (b : UInt8) (u : List UInt8) (h : ¬ (b :: u).take 2 = [58, 93]) : idxS (b :: u) [58, 93] = if idxS u [58, 93] < 0 then -1 else idxS u [58, 93] + 1 := by
  have : ¬ ([58, 93] : List UInt8) <+: (b :: u) := fun q => h (List.prefix_iff_eq_take.1 q).symm
  simp [idxS, this]
theorem idxS_ge : ∀ (s t : List UInt8), -1 ≤ idxS s t
  | [], t => by simp only [idxS]; split <;> omega
  | b :: s, t => by
    have := idxS_ge s t
    simp only [idxS]
    split
    · omega
    · split <;> omega
/-- A member's answer. -/
def MemR (n : Nat) (o : Option (List Int × Nat)) (v : MV) : Prop := match o with
  | some x => v = .tup [.agg (encS x.1), .int .i64 (n + x.2 : Nat), .bool true]
  | none => ∃ q k, v = .tup [.agg (encS q), .int .i64 k, .bool false] ∧ q.length = 4
theorem MemR_some {n : Nat} {x : List Int × Nat} {v : MV} : MemR n (some x) v ↔ v = .tup [.agg (encS x.1), .int .i64 (n + x.2 : Nat), .bool true] := Iff.rfl
theorem MemR_none {n : Nat} {v : MV} : MemR n none v ↔ ∃ q k, v = .tup [.agg (encS q), .int .i64 k, .bool false] ∧ q.length = 4 := Iff.rfl
end Go.Proofs.Tryd.E
