/- Walks: what the functions compute. -/
import Derived.Test.YtnlnlcapbolibaaGreatDoorE17
set_option linter.unusedVariables false
set_option linter.unusedSimpArgs false
/- A bracket's members, on the other side. -/
namespace Go.Proofs.Tryz.E
open Go.Mv
set_option maxHeartbeats 4000000
set_option maxRecDepth 20000
theorem pre_two (b c x y : UInt8) (r : List UInt8) : preS (b :: c :: r) [x, y] = (b == x && c == y) := by
  rw [preS, Bool.eq_iff_iff]; simp
theorem pre_two1 (b x y : UInt8) : preS [b] [x, y] = false := by simp [preS]
theorem pre_one (b x : UInt8) (r : List UInt8) : preS (b :: r) [x] = (b == x) := by
  rw [preS, Bool.eq_iff_iff]; simp
theorem pre_nil (p : List UInt8) (h : p ≠ []) : preS [] p = false := by
  simp only [preS, List.take_nil, beq_eq_false_iff_ne]; exact fun e => h e.symm
theorem cut_at (s : List UInt8) (n i j : Nat) : (s.take (n + j)).drop (n + i) = ((s.drop n).take j).drop i := by
  rw [List.drop_take, List.drop_take, List.drop_drop]
  congr 1
  omega
theorem at_drop {s t : List UInt8} {n : Nat} (h : s.drop n = t) (i : Nat) : s[n + i]? = t[i]? := by rw [← h, List.getElem?_drop]
def sngV (o : Option (UInt8 × Nat)) (n : Nat) : MV := match o with
  | some x => .tup [.int .u8 x.1.toNat, .int .i64 (n + x.2 : Nat), .bool true]
  | none => .tup [.int .u8 0, .int .i64 0, .bool false]
theorem sngV_some (x : UInt8 × Nat) (n : Nat) : sngV (some x) n = .tup [.int .u8 x.1.toNat, .int .i64 (n + x.2 : Nat), .bool true] := rfl
theorem sngV_none (n : Nat) : sngV none n = .tup [.int .u8 0, .int .i64 0, .bool false] := rfl
theorem tnat1 (n k : Nat) : ((n : Int) + (k : Int)).toNat = n + k := by omega
theorem k92_10 : ((92 : UInt8) == 10) = false := rfl
theorem k92_91 : ((92 : UInt8) == 91) = false := rfl
theorem k92_92 : ((92 : UInt8) == 92) = true := rfl
theorem k91_10 : ((91 : UInt8) == 10) = false := rfl
theorem k91_91 : ((91 : UInt8) == 91) = true := rfl
theorem k91_92 : ((91 : UInt8) == 92) = false := rfl
theorem single_two (b c : UInt8) (r : List UInt8) : singleS (b :: c :: r) = if (b == 10) = true then none else if (b == 91 && c == 46) = true then namedS 46 (b :: c :: r) else if (b == 92 && c == 110) = true then some (10, 2) else some (b, 1) := by
  simp only [singleS, pre_two]
theorem single_one (b : UInt8) : singleS [b] = if (b == 10) = true then none else some (b, 1) := by
  simp only [singleS, pre_two1, Bool.false_eq_true, if_false]
theorem len3 {t : List UInt8} (h : 3 ≤ t.length) : ∃ a b c r, t = a :: b :: c :: r := by
  match t, h with
  | a :: b :: c :: r, _ => exact ⟨a, b, c, r, rfl⟩
  | [], h => simp at h
  | [_], h => simp at h
  | [_, _], h => simp at h
theorem w80 (s : List UInt8) (n : Nat) (hs : s.length ≤ 1000000) (hn : n ≤ s.length) (lim d : Nat) (σ : Sto) (hu : σ.Und d) : Ret lim d 123 [.str s, .int .i64 n] σ (sngV (singleS (s.drop n)) n) σ := by
  have hul : (s.drop n).length = s.length - n := List.length_drop
  have w1 := wr64 ((n : Int) + 1) (by omega) (by omega)
  have w2 := wr64 ((n : Int) + 2) (by omega) (by omega)
  have w3 := wr64 ((n : Int) + 3) (by omega) (by omega)
  have w5 := wr64 ((n : Int) + 5) (by omega) (by omega)
  have ws := wr64 ((s.length : Int) - n) (by omega) (by omega)
  have t1 : ((n : Int) + 1).toNat = n + 1 := by omega
  have t2 : ((n : Int) + 2).toNat = n + 2 := by omega
  have t3 : ((n : Int) + 3).toNat = n + 3 := by omega
  have t5 : ((n : Int) + 5).toNat = n + 5 := by omega
  have p1 : (0 : Int) ≤ (n : Int) + 1 := by omega
  have p2 : (0 : Int) ≤ (n : Int) + 2 := by omega
  have p3 : (0 : Int) ≤ (n : Int) + 3 := by omega
  have p5 : (0 : Int) ≤ (n : Int) + 5 := by omega
  generalize ht : s.drop n = t at hul
  have hat := fun i => at_drop ht i
  have hct := fun i j => cut_at s n i j
  rw [ht] at hct
  have g0 := hat 0
  have g1 := hat 1
  have g2 := hat 2
  have c35 := hct 3 5
  simp only [Nat.add_zero] at g0
  unfold Ret
  rw [WF_body (C := X) rfl Go.Proofs.Tryz.func123 rfl (by kernel_rfl)]; simp only [Go.Proofs.Tryz.results123]
  match t, hul, g0, g1, g2, c35 with
  | [], hul, g0, g1, g2, c35 =>
    simp only [List.length_nil] at hul
    have e1 : ((s.length : Int) ≤ (n : Int)) := by omega
    simp -implicitDefEqProofs -dsimp only [↓reduceIte, ↓W_seq, go_sem, WR_nil, evNews, Nat.reduceEqDiff, Nat.reduceAdd, Nat.reduceMul, Nat.reduceLeDiff, Nat.reduceLT, Int.cast_ofNat_Int, Int.reduceBNe, Int.reduceToNat, Int.reduceLT, Int.reduceLE, Int.reduceAdd, Int.reduceNeg, Int.reduceEq, reduceCtorEq, enc, e1, single_nil, sngV_none, cut_und _ _ hu]
  | [b], hul, g0, g1, g2, c35 =>
    simp only [List.length_cons, List.length_nil] at hul
    have e1 : ¬ ((s.length : Int) ≤ (n : Int)) := by omega
    have e2 : ¬ ((2 : Int) ≤ (s.length : Int) - n) := by omega
    rw [single_one]
    simp -implicitDefEqProofs -dsimp only [↓reduceIte, ↓W_seq, go_sem, WR_nil, evNews, Nat.reduceEqDiff, Nat.reduceAdd, Nat.reduceMul, Nat.reduceLeDiff, Nat.reduceLT, Int.cast_ofNat_Int, Int.reduceBNe, Int.reduceToNat, Int.reduceLT, Int.reduceLE, Int.reduceAdd, Int.reduceNeg, Int.reduceEq, reduceCtorEq, enc, e1, e2, g0, ws, w1]
    cases b == 10 <;> simp -implicitDefEqProofs -dsimp only [↓reduceIte, ↓W_seq, go_sem, WR_nil, evNews, Nat.reduceEqDiff, Nat.reduceAdd, Nat.reduceMul, Nat.reduceLeDiff, Nat.reduceLT, Int.cast_ofNat_Int, Int.reduceBNe, Int.reduceToNat, Int.reduceLT, Int.reduceLE, Int.reduceAdd, Int.reduceNeg, Int.reduceEq, reduceCtorEq, enc, sngV_none, sngV_some, cut_und _ _ hu, Int.natCast_add]
  | b :: c :: r, hul, g0, g1, g2, c35 =>
    simp only [List.length_cons] at hul
    have e1 : ¬ ((s.length : Int) ≤ (n : Int)) := by omega
    have e2 : ((2 : Int) ≤ (s.length : Int) - n) := by omega
    simp only [List.getElem?_cons_zero, List.getElem?_cons_succ] at g0 g1 g2
    rw [single_two]
    by_cases hb : b = 92
    · subst hb
      simp -implicitDefEqProofs -dsimp only [↓reduceIte, ↓W_seq, go_sem, WR_nil, evNews, Nat.reduceEqDiff, Nat.reduceAdd, Nat.reduceMul, Nat.reduceLeDiff, Nat.reduceLT, Int.cast_ofNat_Int, Int.reduceBNe, Int.reduceToNat, Int.reduceLT, Int.reduceLE, Int.reduceAdd, Int.reduceNeg, Int.reduceEq, reduceCtorEq, enc, e1, e2, g0, g1, ws, w1, w2, t1, p1, k92_10, k92_91, k92_92]
      cases c == 110 <;> simp -implicitDefEqProofs -dsimp only [↓reduceIte, ↓W_seq, go_sem, WR_nil, evNews, Nat.reduceEqDiff, Nat.reduceAdd, Nat.reduceMul, Nat.reduceLeDiff, Nat.reduceLT, Int.cast_ofNat_Int, Int.reduceBNe, Int.reduceToNat, Int.reduceLT, Int.reduceLE, Int.reduceAdd, Int.reduceNeg, Int.reduceEq, reduceCtorEq, enc, sngV_none, sngV_some, cut_und _ _ hu, Int.natCast_add, k92_10, k92_91, k92_92]
      rfl
    · have hb' : (b == 92) = false := beq_eq_false_iff_ne.2 hb
      by_cases hb2 : b = 91
      · subst hb2
        cases hc : c == 46
        · simp -implicitDefEqProofs -dsimp only [↓reduceIte, ↓W_seq, go_sem, WR_nil, evNews, Nat.reduceEqDiff, Nat.reduceAdd, Nat.reduceMul, Nat.reduceLeDiff, Nat.reduceLT, Int.cast_ofNat_Int, Int.reduceBNe, Int.reduceToNat, Int.reduceLT, Int.reduceLE, Int.reduceAdd, Int.reduceNeg, Int.reduceEq, reduceCtorEq, enc, e1, e2, g0, g1, ws, w1, w2, t1, p1, k91_10, k91_91, k91_92, hc]
          simp -implicitDefEqProofs -dsimp only [↓reduceIte, ↓W_seq, go_sem, WR_nil, evNews, Nat.reduceEqDiff, Nat.reduceAdd, Nat.reduceMul, Nat.reduceLeDiff, Nat.reduceLT, Int.cast_ofNat_Int, Int.reduceBNe, Int.reduceToNat, Int.reduceLT, Int.reduceLE, Int.reduceAdd, Int.reduceNeg, Int.reduceEq, reduceCtorEq, enc, sngV_none, sngV_some, cut_und _ _ hu, Int.natCast_add, k91_10, k91_91, k91_92, hc]
        · by_cases h5 : (91 :: c :: r).length < 5
          · rw [named_short 46 h5]
            have e5 : ((s.length : Int) - n < 5) := by simp at h5; omega
            simp -implicitDefEqProofs -dsimp only [↓reduceIte, ↓W_seq, go_sem, WR_nil, evNews, Nat.reduceEqDiff, Nat.reduceAdd, Nat.reduceMul, Nat.reduceLeDiff, Nat.reduceLT, Int.cast_ofNat_Int, Int.reduceBNe, Int.reduceToNat, Int.reduceLT, Int.reduceLE, Int.reduceAdd, Int.reduceNeg, Int.reduceEq, reduceCtorEq, enc, e1, e2, e5, g0, g1, ws, w1, w2, t1, p1, k91_10, k91_91, k91_92, hc, sngV_none, cut_und _ _ hu]
          · have h5' : 3 ≤ r.length := by simp at h5; omega
            obtain ⟨c', x, y, r', rfl⟩ := len3 h5'
            simp only [List.getElem?_cons_zero, List.take_succ_cons, List.take_zero, List.drop_succ_cons, List.drop_zero] at g2 c35
            simp only [List.length_cons] at hul
            rw [named_at]
            have e5 : ¬ ((s.length : Int) - n < 5) := by omega
            have e6 : (n : Int) + 5 ≤ (s.length : Int) := by omega
            have e7 : (n : Int) + 3 ≤ ((n + 5 : Nat) : Int) := by omega
            have e8 : (n : Int) + 3 ≤ (n : Int) + 5 := by omega
            simp -implicitDefEqProofs -dsimp only [↓reduceIte, ↓W_seq, go_sem, WR_nil, evNews, Nat.reduceEqDiff, Nat.reduceAdd, Nat.reduceMul, Nat.reduceLeDiff, Nat.reduceLT, Int.cast_ofNat_Int, Int.reduceBNe, Int.reduceToNat, Int.reduceLT, Int.reduceLE, Int.reduceAdd, Int.reduceNeg, Int.reduceEq, reduceCtorEq, enc, e1, e2, e5, e6, e7, g0, g1, g2, c35, ws, w1, w2, w3, w5, t1, t2, t3, t5, p1, p2, p3, p5, k91_10, k91_91, k91_92, hc, two_beq, ba_data]
            cases h10 : c' == 10 <;> cases hx : x == 46 <;> cases hy : y == 93 <;> simp -implicitDefEqProofs -dsimp only [↓reduceIte, ↓W_seq, go_sem, WR_nil, evNews, Nat.reduceEqDiff, Nat.reduceAdd, Nat.reduceMul, Nat.reduceLeDiff, Nat.reduceLT, Int.cast_ofNat_Int, Int.reduceBNe, Int.reduceToNat, Int.reduceLT, Int.reduceLE, Int.reduceAdd, Int.reduceNeg, Int.reduceEq, reduceCtorEq, enc, e6, e7, e8, t3, t5, p3, p5, c35, two_beq, h10, hx, hy, sngV_none, sngV_some, cut_und _ _ hu, Int.natCast_add]
      · have hb2' : (b == 91) = false := beq_eq_false_iff_ne.2 hb2
        cases h10 : b == 10 <;> simp -implicitDefEqProofs -dsimp only [↓reduceIte, ↓W_seq, go_sem, WR_nil, evNews, Nat.reduceEqDiff, Nat.reduceAdd, Nat.reduceMul, Nat.reduceLeDiff, Nat.reduceLT, Int.cast_ofNat_Int, Int.reduceBNe, Int.reduceToNat, Int.reduceLT, Int.reduceLE, Int.reduceAdd, Int.reduceNeg, Int.reduceEq, reduceCtorEq, enc, e1, e2, g0, g1, ws, w1, w2, t1, p1, hb', hb2', h10, sngV_none, sngV_some, cut_und _ _ hu, Int.natCast_add]
theorem idx_short (u : List UInt8) (h : u.length < 2) : idxS u [58, 93] = -1 := by
  match u, h with
  | [], _ => rfl
  | [b], _ =>
    have : ¬ ([58, 93] : List UInt8) <+: [b] := fun q => by have := q.length_le; simp at this
    simp [idxS, this]
  | _ :: _ :: _, h => simp only [List.length_cons] at h; omega
theorem idx_hit (u : List UInt8) (h : u.take 2 = [58, 93]) : idxS u [58, 93] = 0 := by
  match u, h with
  | b :: u, h =>
    have : ([58, 93] : List UInt8) <+: (b :: u) := List.prefix_iff_eq_take.2 h.symm
    simp [idxS, this]
theorem idx_miss (b : UInt8) (u : List UInt8) (h : ¬ (b :: u).take 2 = [58, 93]) : idxS (b :: u) [58, 93] = if idxS u [58, 93] < 0 then -1 else idxS u [58, 93] + 1 := by
  have : ¬ ([58, 93] : List UInt8) <+: (b :: u) := fun q => h (List.prefix_iff_eq_take.1 q).symm
  simp [idxS, this]
theorem idxS_ge : ∀ (s t : List UInt8), -1 ≤ idxS s t
  | [], t => by simp only [idxS]; split <;> omega
  | b :: s, t => by
    have := idxS_ge s t
    simp only [idxS]
    split
    · omega
    · split <;> omega
/-- A member's answer. -/
def MemR (n : Nat) (o : Option (List Int × Nat)) (v : MV) : Prop := match o with
  | some x => v = .tup [.agg (encS x.1), .int .i64 (n + x.2 : Nat), .bool true]
  | none => ∃ q k, v = .tup [.agg (encS q), .int .i64 k, .bool false] ∧ q.length = 4
theorem MemR_some {n : Nat} {x : List Int × Nat} {v : MV} : MemR n (some x) v ↔ v = .tup [.agg (encS x.1), .int .i64 (n + x.2 : Nat), .bool true] := Iff.rfl
theorem MemR_none {n : Nat} {v : MV} : MemR n none v ↔ ∃ q k, v = .tup [.agg (encS q), .int .i64 k, .bool false] ∧ q.length = 4 := Iff.rfl
end Go.Proofs.Tryz.E
