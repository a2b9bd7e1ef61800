/- Walks: what the functions compute. -/
import Derived.Test.YtklnfgmfcpcfcaaGreatDoorT1
import Derived.Test.YtklnfgmfcpcfcaaGreatDoorA5
set_option linter.unusedVariables false
set_option linter.unusedSimpArgs false
/- The names of commands: what they need, how many addresses they may have. -/
namespace Go.Proofs.Tryz.E
open Go.Mv
set_option maxHeartbeats 4000000
set_option maxRecDepth 20000
/-- A byte is among others. -/
def inS (s : List UInt8) (c : Int) : Bool := s.any fun b => (b.toNat : Int) == c
theorem w692 (s : List UInt8) (c : Int) (hs : s.length ≤ 1000000) (lim d : Nat) (σ : Sto) (hu : σ.Und d) : Ret lim d 45 [.str s, .int .u8 c] σ (.bool (inS s c)) σ := by
  unfold Ret
  rw [WF_body (C := X) rfl Go.Proofs.Tryz.func45 rfl (by kernel_rfl)]; simp only [Go.Proofs.Tryz.results45]
  simp -implicitDefEqProofs -dsimp only [↓reduceIte, ↓W_seq, go_sem, WR_nil, evNews, Nat.reduceEqDiff, Nat.reduceAdd, Nat.reduceMul, Nat.reduceLeDiff, Nat.reduceLT, Int.cast_ofNat_Int, Int.reduceBNe, Int.reduceToNat, Int.reduceLT, Int.reduceLE, Int.reduceAdd, Int.reduceNeg, Int.reduceEq, reduceCtorEq, enc]
  refine loop_h (I := fun k a st => ∃ (i : Nat), i + k = s.length ∧ a 8 = .int .i64 i ∧ a 7 = .int .i64 s.length ∧ a 0 = .str s ∧ a 1 = .int .u8 c ∧ inS (s.drop i) c = inS s c ∧ st = σ) ?_ s.length _ _ ?_
  · rintro k a st ⟨i, hk, h8, h7, h0, h1, hE, rfl⟩
    by_cases hi : i < s.length
    · have e1 : ((i : Int) < (s.length : Int)) := by omega
      have x1 : IntKind.i64.wrap ((i : Int) + 1) = ((i + 1 : Nat) : Int) := by rw [wr64 _ (by omega) (by omega)]; omega
      have hb : s[i]? = some s[i] := List.getElem?_eq_getElem hi
      rw [List.drop_eq_getElem_cons hi] at hE
      generalize s[i] = b at hb hE
      cases hq : ((b.toNat : Int) == c)
      · simp -implicitDefEqProofs -dsimp only [↓reduceIte, ↓W_seq, go_sem, WR_nil, evNews, Nat.reduceEqDiff, Nat.reduceAdd, Nat.reduceMul, Nat.reduceLeDiff, Nat.reduceLT, Int.cast_ofNat_Int, Int.reduceBNe, Int.reduceToNat, Int.reduceLT, Int.reduceLE, Int.reduceAdd, Int.reduceNeg, Int.reduceEq, reduceCtorEq, enc, e1, x1, h8, h7, h0, h1, hb, hq]
        exact ⟨k - 1, by omega, i + 1, by omega, rfl, by simpa [inS, hq] using hE⟩
      · have hr : inS s c = true := by rw [← hE]; simp [inS, hq]
        simp -implicitDefEqProofs -dsimp only [↓reduceIte, ↓W_seq, go_sem, WR_nil, evNews, Nat.reduceEqDiff, Nat.reduceAdd, Nat.reduceMul, Nat.reduceLeDiff, Nat.reduceLT, Int.cast_ofNat_Int, Int.reduceBNe, Int.reduceToNat, Int.reduceLT, Int.reduceLE, Int.reduceAdd, Int.reduceNeg, Int.reduceEq, reduceCtorEq, enc, e1, x1, h8, h7, h0, h1, hb, hq, hr, cut_und _ _ hu]
    · have e1 : ¬ ((i : Int) < (s.length : Int)) := by omega
      have hr : inS s c = false := by rw [← hE, List.drop_eq_nil_of_le (by omega)]; rfl
      simp -implicitDefEqProofs -dsimp only [↓reduceIte, ↓W_seq, go_sem, WR_nil, evNews, Nat.reduceEqDiff, Nat.reduceAdd, Nat.reduceMul, Nat.reduceLeDiff, Nat.reduceLT, Int.cast_ofNat_Int, Int.reduceBNe, Int.reduceToNat, Int.reduceLT, Int.reduceLE, Int.reduceAdd, Int.reduceNeg, Int.reduceEq, reduceCtorEq, enc, e1, h8, h7, h0, h1, hr, cut_und _ _ hu]
  · refine ⟨0, Nat.zero_add _, ?_⟩
    simp -implicitDefEqProofs -dsimp only [↓reduceIte, ↓W_seq, go_sem, WR_nil, evNews, Nat.reduceEqDiff, Nat.reduceAdd, Nat.reduceMul, Nat.reduceLeDiff, Nat.reduceLT, Int.cast_ofNat_Int, Int.reduceBNe, Int.reduceToNat, Int.reduceLT, Int.reduceLE, Int.reduceAdd, Int.reduceNeg, Int.reduceEq, reduceCtorEq, enc, List.drop_zero]
/-- What a name's command needs; how many addresses it may have. -/
def kindN (c : Int) : Int × Int :=
  if c = 123 then (0, 2) else
  if c = 100 then (0, 2) else
  if c = 68 then (0, 2) else
  if c = 103 then (0, 2) else
  if c = 71 then (0, 2) else
  if c = 104 then (0, 2) else
  if c = 72 then (0, 2) else
  if c = 108 then (0, 2) else
  if c = 110 then (0, 2) else
  if c = 78 then (0, 2) else
  if c = 112 then (0, 2) else
  if c = 80 then (0, 2) else
  if c = 120 then (0, 2) else
  if c = 125 then (0, 0) else
  if c = 61 then (0, 1) else
  if c = 113 then (0, 1) else
  if c = 58 then (1, 0) else
  if c = 98 then (2, 2) else
  if c = 116 then (2, 2) else
  if c = 97 then (3, 1) else
  if c = 105 then (3, 1) else
  if c = 99 then (3, 2) else
  if c = 114 then (4, 1) else
  if c = 119 then (4, 2) else
  if c = 115 then (5, 2) else
  if c = 121 then (6, 2) else
  if c = 35 then (7, 0) else
  (8, 0)
def mostN (c : Int) : Int := if inS [125, 58, 35] c = true then 0 else if inS [97, 105, 114, 61, 113] c = true then 1 else if inS [123, 98, 116, 99, 119, 115, 121, 100, 68, 103, 71, 104, 72, 108, 110, 78, 112, 80, 120] c = true then 2 else -1
section
set_option maxHeartbeats 16000000
theorem w677 (c : Int) (lim d : Nat) (σ : Sto) (hu : σ.Und d) : Ret lim d 32 [.int .u8 c] σ (.tup [.int .i64 (kindN c).1, .int .i64 (kindN c).2]) σ := by
  unfold Ret
  rw [WF_body (C := X) rfl Go.Proofs.Tryz.func32 rfl (by kernel_rfl)]; simp only [Go.Proofs.Tryz.results32]
  by_cases h123 : c = 123
  · subst h123
    have hK : kindN 123 = (0, 2) := by decide
    rw [hK]
    simp -implicitDefEqProofs -dsimp only [↓reduceIte, ↓W_seq, go_sem, WR_nil, evNews, Nat.reduceEqDiff, Nat.reduceAdd, Nat.reduceMul, Nat.reduceLeDiff, Nat.reduceLT, Int.cast_ofNat_Int, Int.reduceBNe, Int.reduceToNat, Int.reduceLT, Int.reduceLE, Int.reduceAdd, Int.reduceNeg, Int.reduceEq, reduceCtorEq, enc, cut_und _ _ hu]
  have e123 : (c == 123) = false := by rw [beq_eq_false_iff_ne]; exact h123
  by_cases h100 : c = 100
  · subst h100
    have hK : kindN 100 = (0, 2) := by decide
    rw [hK]
    simp -implicitDefEqProofs -dsimp only [↓reduceIte, ↓W_seq, go_sem, WR_nil, evNews, Nat.reduceEqDiff, Nat.reduceAdd, Nat.reduceMul, Nat.reduceLeDiff, Nat.reduceLT, Int.cast_ofNat_Int, Int.reduceBNe, Int.reduceToNat, Int.reduceLT, Int.reduceLE, Int.reduceAdd, Int.reduceNeg, Int.reduceEq, reduceCtorEq, enc, cut_und _ _ hu]
  have e100 : (c == 100) = false := by rw [beq_eq_false_iff_ne]; exact h100
  by_cases h68 : c = 68
  · subst h68
    have hK : kindN 68 = (0, 2) := by decide
    rw [hK]
    simp -implicitDefEqProofs -dsimp only [↓reduceIte, ↓W_seq, go_sem, WR_nil, evNews, Nat.reduceEqDiff, Nat.reduceAdd, Nat.reduceMul, Nat.reduceLeDiff, Nat.reduceLT, Int.cast_ofNat_Int, Int.reduceBNe, Int.reduceToNat, Int.reduceLT, Int.reduceLE, Int.reduceAdd, Int.reduceNeg, Int.reduceEq, reduceCtorEq, enc, cut_und _ _ hu]
  have e68 : (c == 68) = false := by rw [beq_eq_false_iff_ne]; exact h68
  by_cases h103 : c = 103
  · subst h103
    have hK : kindN 103 = (0, 2) := by decide
    rw [hK]
    simp -implicitDefEqProofs -dsimp only [↓reduceIte, ↓W_seq, go_sem, WR_nil, evNews, Nat.reduceEqDiff, Nat.reduceAdd, Nat.reduceMul, Nat.reduceLeDiff, Nat.reduceLT, Int.cast_ofNat_Int, Int.reduceBNe, Int.reduceToNat, Int.reduceLT, Int.reduceLE, Int.reduceAdd, Int.reduceNeg, Int.reduceEq, reduceCtorEq, enc, cut_und _ _ hu]
  have e103 : (c == 103) = false := by rw [beq_eq_false_iff_ne]; exact h103
  by_cases h71 : c = 71
  · subst h71
    have hK : kindN 71 = (0, 2) := by decide
    rw [hK]
    simp -implicitDefEqProofs -dsimp only [↓reduceIte, ↓W_seq, go_sem, WR_nil, evNews, Nat.reduceEqDiff, Nat.reduceAdd, Nat.reduceMul, Nat.reduceLeDiff, Nat.reduceLT, Int.cast_ofNat_Int, Int.reduceBNe, Int.reduceToNat, Int.reduceLT, Int.reduceLE, Int.reduceAdd, Int.reduceNeg, Int.reduceEq, reduceCtorEq, enc, cut_und _ _ hu]
  have e71 : (c == 71) = false := by rw [beq_eq_false_iff_ne]; exact h71
  by_cases h104 : c = 104
  · subst h104
    have hK : kindN 104 = (0, 2) := by decide
    rw [hK]
    simp -implicitDefEqProofs -dsimp only [↓reduceIte, ↓W_seq, go_sem, WR_nil, evNews, Nat.reduceEqDiff, Nat.reduceAdd, Nat.reduceMul, Nat.reduceLeDiff, Nat.reduceLT, Int.cast_ofNat_Int, Int.reduceBNe, Int.reduceToNat, Int.reduceLT, Int.reduceLE, Int.reduceAdd, Int.reduceNeg, Int.reduceEq, reduceCtorEq, enc, cut_und _ _ hu]
  have e104 : (c == 104) = false := by rw [beq_eq_false_iff_ne]; exact h104
  by_cases h72 : c = 72
  · subst h72
    have hK : kindN 72 = (0, 2) := by decide
    rw [hK]
    simp -implicitDefEqProofs -dsimp only [↓reduceIte, ↓W_seq, go_sem, WR_nil, evNews, Nat.reduceEqDiff, Nat.reduceAdd, Nat.reduceMul, Nat.reduceLeDiff, Nat.reduceLT, Int.cast_ofNat_Int, Int.reduceBNe, Int.reduceToNat, Int.reduceLT, Int.reduceLE, Int.reduceAdd, Int.reduceNeg, Int.reduceEq, reduceCtorEq, enc, cut_und _ _ hu]
  have e72 : (c == 72) = false := by rw [beq_eq_false_iff_ne]; exact h72
  by_cases h108 : c = 108
  · subst h108
    have hK : kindN 108 = (0, 2) := by decide
    rw [hK]
    simp -implicitDefEqProofs -dsimp only [↓reduceIte, ↓W_seq, go_sem, WR_nil, evNews, Nat.reduceEqDiff, Nat.reduceAdd, Nat.reduceMul, Nat.reduceLeDiff, Nat.reduceLT, Int.cast_ofNat_Int, Int.reduceBNe, Int.reduceToNat, Int.reduceLT, Int.reduceLE, Int.reduceAdd, Int.reduceNeg, Int.reduceEq, reduceCtorEq, enc, cut_und _ _ hu]
  have e108 : (c == 108) = false := by rw [beq_eq_false_iff_ne]; exact h108
  by_cases h110 : c = 110
  · subst h110
    have hK : kindN 110 = (0, 2) := by decide
    rw [hK]
    simp -implicitDefEqProofs -dsimp only [↓reduceIte, ↓W_seq, go_sem, WR_nil, evNews, Nat.reduceEqDiff, Nat.reduceAdd, Nat.reduceMul, Nat.reduceLeDiff, Nat.reduceLT, Int.cast_ofNat_Int, Int.reduceBNe, Int.reduceToNat, Int.reduceLT, Int.reduceLE, Int.reduceAdd, Int.reduceNeg, Int.reduceEq, reduceCtorEq, enc, cut_und _ _ hu]
  have e110 : (c == 110) = false := by rw [beq_eq_false_iff_ne]; exact h110
  by_cases h78 : c = 78
  · subst h78
    have hK : kindN 78 = (0, 2) := by decide
    rw [hK]
    simp -implicitDefEqProofs -dsimp only [↓reduceIte, ↓W_seq, go_sem, WR_nil, evNews, Nat.reduceEqDiff, Nat.reduceAdd, Nat.reduceMul, Nat.reduceLeDiff, Nat.reduceLT, Int.cast_ofNat_Int, Int.reduceBNe, Int.reduceToNat, Int.reduceLT, Int.reduceLE, Int.reduceAdd, Int.reduceNeg, Int.reduceEq, reduceCtorEq, enc, cut_und _ _ hu]
  have e78 : (c == 78) = false := by rw [beq_eq_false_iff_ne]; exact h78
  by_cases h112 : c = 112
  · subst h112
    have hK : kindN 112 = (0, 2) := by decide
    rw [hK]
    simp -implicitDefEqProofs -dsimp only [↓reduceIte, ↓W_seq, go_sem, WR_nil, evNews, Nat.reduceEqDiff, Nat.reduceAdd, Nat.reduceMul, Nat.reduceLeDiff, Nat.reduceLT, Int.cast_ofNat_Int, Int.reduceBNe, Int.reduceToNat, Int.reduceLT, Int.reduceLE, Int.reduceAdd, Int.reduceNeg, Int.reduceEq, reduceCtorEq, enc, cut_und _ _ hu]
  have e112 : (c == 112) = false := by rw [beq_eq_false_iff_ne]; exact h112
  by_cases h80 : c = 80
  · subst h80
    have hK : kindN 80 = (0, 2) := by decide
    rw [hK]
    simp -implicitDefEqProofs -dsimp only [↓reduceIte, ↓W_seq, go_sem, WR_nil, evNews, Nat.reduceEqDiff, Nat.reduceAdd, Nat.reduceMul, Nat.reduceLeDiff, Nat.reduceLT, Int.cast_ofNat_Int, Int.reduceBNe, Int.reduceToNat, Int.reduceLT, Int.reduceLE, Int.reduceAdd, Int.reduceNeg, Int.reduceEq, reduceCtorEq, enc, cut_und _ _ hu]
  have e80 : (c == 80) = false := by rw [beq_eq_false_iff_ne]; exact h80
  by_cases h120 : c = 120
  · subst h120
    have hK : kindN 120 = (0, 2) := by decide
    rw [hK]
    simp -implicitDefEqProofs -dsimp only [↓reduceIte, ↓W_seq, go_sem, WR_nil, evNews, Nat.reduceEqDiff, Nat.reduceAdd, Nat.reduceMul, Nat.reduceLeDiff, Nat.reduceLT, Int.cast_ofNat_Int, Int.reduceBNe, Int.reduceToNat, Int.reduceLT, Int.reduceLE, Int.reduceAdd, Int.reduceNeg, Int.reduceEq, reduceCtorEq, enc, cut_und _ _ hu]
  have e120 : (c == 120) = false := by rw [beq_eq_false_iff_ne]; exact h120
  by_cases h125 : c = 125
  · subst h125
    have hK : kindN 125 = (0, 0) := by decide
    rw [hK]
    simp -implicitDefEqProofs -dsimp only [↓reduceIte, ↓W_seq, go_sem, WR_nil, evNews, Nat.reduceEqDiff, Nat.reduceAdd, Nat.reduceMul, Nat.reduceLeDiff, Nat.reduceLT, Int.cast_ofNat_Int, Int.reduceBNe, Int.reduceToNat, Int.reduceLT, Int.reduceLE, Int.reduceAdd, Int.reduceNeg, Int.reduceEq, reduceCtorEq, enc, cut_und _ _ hu]
  have e125 : (c == 125) = false := by rw [beq_eq_false_iff_ne]; exact h125
  by_cases h61 : c = 61
  · subst h61
    have hK : kindN 61 = (0, 1) := by decide
    rw [hK]
    simp -implicitDefEqProofs -dsimp only [↓reduceIte, ↓W_seq, go_sem, WR_nil, evNews, Nat.reduceEqDiff, Nat.reduceAdd, Nat.reduceMul, Nat.reduceLeDiff, Nat.reduceLT, Int.cast_ofNat_Int, Int.reduceBNe, Int.reduceToNat, Int.reduceLT, Int.reduceLE, Int.reduceAdd, Int.reduceNeg, Int.reduceEq, reduceCtorEq, enc, cut_und _ _ hu]
  have e61 : (c == 61) = false := by rw [beq_eq_false_iff_ne]; exact h61
  by_cases h113 : c = 113
  · subst h113
    have hK : kindN 113 = (0, 1) := by decide
    rw [hK]
    simp -implicitDefEqProofs -dsimp only [↓reduceIte, ↓W_seq, go_sem, WR_nil, evNews, Nat.reduceEqDiff, Nat.reduceAdd, Nat.reduceMul, Nat.reduceLeDiff, Nat.reduceLT, Int.cast_ofNat_Int, Int.reduceBNe, Int.reduceToNat, Int.reduceLT, Int.reduceLE, Int.reduceAdd, Int.reduceNeg, Int.reduceEq, reduceCtorEq, enc, cut_und _ _ hu]
  have e113 : (c == 113) = false := by rw [beq_eq_false_iff_ne]; exact h113
  by_cases h58 : c = 58
  · subst h58
    have hK : kindN 58 = (1, 0) := by decide
    rw [hK]
    simp -implicitDefEqProofs -dsimp only [↓reduceIte, ↓W_seq, go_sem, WR_nil, evNews, Nat.reduceEqDiff, Nat.reduceAdd, Nat.reduceMul, Nat.reduceLeDiff, Nat.reduceLT, Int.cast_ofNat_Int, Int.reduceBNe, Int.reduceToNat, Int.reduceLT, Int.reduceLE, Int.reduceAdd, Int.reduceNeg, Int.reduceEq, reduceCtorEq, enc, cut_und _ _ hu]
  have e58 : (c == 58) = false := by rw [beq_eq_false_iff_ne]; exact h58
  by_cases h98 : c = 98
  · subst h98
    have hK : kindN 98 = (2, 2) := by decide
    rw [hK]
    simp -implicitDefEqProofs -dsimp only [↓reduceIte, ↓W_seq, go_sem, WR_nil, evNews, Nat.reduceEqDiff, Nat.reduceAdd, Nat.reduceMul, Nat.reduceLeDiff, Nat.reduceLT, Int.cast_ofNat_Int, Int.reduceBNe, Int.reduceToNat, Int.reduceLT, Int.reduceLE, Int.reduceAdd, Int.reduceNeg, Int.reduceEq, reduceCtorEq, enc, cut_und _ _ hu]
  have e98 : (c == 98) = false := by rw [beq_eq_false_iff_ne]; exact h98
  by_cases h116 : c = 116
  · subst h116
    have hK : kindN 116 = (2, 2) := by decide
    rw [hK]
    simp -implicitDefEqProofs -dsimp only [↓reduceIte, ↓W_seq, go_sem, WR_nil, evNews, Nat.reduceEqDiff, Nat.reduceAdd, Nat.reduceMul, Nat.reduceLeDiff, Nat.reduceLT, Int.cast_ofNat_Int, Int.reduceBNe, Int.reduceToNat, Int.reduceLT, Int.reduceLE, Int.reduceAdd, Int.reduceNeg, Int.reduceEq, reduceCtorEq, enc, cut_und _ _ hu]
  have e116 : (c == 116) = false := by rw [beq_eq_false_iff_ne]; exact h116
  by_cases h97 : c = 97
  · subst h97
    have hK : kindN 97 = (3, 1) := by decide
    rw [hK]
    simp -implicitDefEqProofs -dsimp only [↓reduceIte, ↓W_seq, go_sem, WR_nil, evNews, Nat.reduceEqDiff, Nat.reduceAdd, Nat.reduceMul, Nat.reduceLeDiff, Nat.reduceLT, Int.cast_ofNat_Int, Int.reduceBNe, Int.reduceToNat, Int.reduceLT, Int.reduceLE, Int.reduceAdd, Int.reduceNeg, Int.reduceEq, reduceCtorEq, enc, cut_und _ _ hu]
  have e97 : (c == 97) = false := by rw [beq_eq_false_iff_ne]; exact h97
  by_cases h105 : c = 105
  · subst h105
    have hK : kindN 105 = (3, 1) := by decide
    rw [hK]
    simp -implicitDefEqProofs -dsimp only [↓reduceIte, ↓W_seq, go_sem, WR_nil, evNews, Nat.reduceEqDiff, Nat.reduceAdd, Nat.reduceMul, Nat.reduceLeDiff, Nat.reduceLT, Int.cast_ofNat_Int, Int.reduceBNe, Int.reduceToNat, Int.reduceLT, Int.reduceLE, Int.reduceAdd, Int.reduceNeg, Int.reduceEq, reduceCtorEq, enc, cut_und _ _ hu]
  have e105 : (c == 105) = false := by rw [beq_eq_false_iff_ne]; exact h105
  by_cases h99 : c = 99
  · subst h99
    have hK : kindN 99 = (3, 2) := by decide
    rw [hK]
    simp -implicitDefEqProofs -dsimp only [↓reduceIte, ↓W_seq, go_sem, WR_nil, evNews, Nat.reduceEqDiff, Nat.reduceAdd, Nat.reduceMul, Nat.reduceLeDiff, Nat.reduceLT, Int.cast_ofNat_Int, Int.reduceBNe, Int.reduceToNat, Int.reduceLT, Int.reduceLE, Int.reduceAdd, Int.reduceNeg, Int.reduceEq, reduceCtorEq, enc, cut_und _ _ hu]
  have e99 : (c == 99) = false := by rw [beq_eq_false_iff_ne]; exact h99
  by_cases h114 : c = 114
  · subst h114
    have hK : kindN 114 = (4, 1) := by decide
    rw [hK]
    simp -implicitDefEqProofs -dsimp only [↓reduceIte, ↓W_seq, go_sem, WR_nil, evNews, Nat.reduceEqDiff, Nat.reduceAdd, Nat.reduceMul, Nat.reduceLeDiff, Nat.reduceLT, Int.cast_ofNat_Int, Int.reduceBNe, Int.reduceToNat, Int.reduceLT, Int.reduceLE, Int.reduceAdd, Int.reduceNeg, Int.reduceEq, reduceCtorEq, enc, cut_und _ _ hu]
  have e114 : (c == 114) = false := by rw [beq_eq_false_iff_ne]; exact h114
  by_cases h119 : c = 119
  · subst h119
    have hK : kindN 119 = (4, 2) := by decide
    rw [hK]
    simp -implicitDefEqProofs -dsimp only [↓reduceIte, ↓W_seq, go_sem, WR_nil, evNews, Nat.reduceEqDiff, Nat.reduceAdd, Nat.reduceMul, Nat.reduceLeDiff, Nat.reduceLT, Int.cast_ofNat_Int, Int.reduceBNe, Int.reduceToNat, Int.reduceLT, Int.reduceLE, Int.reduceAdd, Int.reduceNeg, Int.reduceEq, reduceCtorEq, enc, cut_und _ _ hu]
  have e119 : (c == 119) = false := by rw [beq_eq_false_iff_ne]; exact h119
  by_cases h115 : c = 115
  · subst h115
    have hK : kindN 115 = (5, 2) := by decide
    rw [hK]
    simp -implicitDefEqProofs -dsimp only [↓reduceIte, ↓W_seq, go_sem, WR_nil, evNews, Nat.reduceEqDiff, Nat.reduceAdd, Nat.reduceMul, Nat.reduceLeDiff, Nat.reduceLT, Int.cast_ofNat_Int, Int.reduceBNe, Int.reduceToNat, Int.reduceLT, Int.reduceLE, Int.reduceAdd, Int.reduceNeg, Int.reduceEq, reduceCtorEq, enc, cut_und _ _ hu]
  have e115 : (c == 115) = false := by rw [beq_eq_false_iff_ne]; exact h115
  by_cases h121 : c = 121
  · subst h121
    have hK : kindN 121 = (6, 2) := by decide
    rw [hK]
    simp -implicitDefEqProofs -dsimp only [↓reduceIte, ↓W_seq, go_sem, WR_nil, evNews, Nat.reduceEqDiff, Nat.reduceAdd, Nat.reduceMul, Nat.reduceLeDiff, Nat.reduceLT, Int.cast_ofNat_Int, Int.reduceBNe, Int.reduceToNat, Int.reduceLT, Int.reduceLE, Int.reduceAdd, Int.reduceNeg, Int.reduceEq, reduceCtorEq, enc, cut_und _ _ hu]
  have e121 : (c == 121) = false := by rw [beq_eq_false_iff_ne]; exact h121
  by_cases h35 : c = 35
  · subst h35
    have hK : kindN 35 = (7, 0) := by decide
    rw [hK]
    simp -implicitDefEqProofs -dsimp only [↓reduceIte, ↓W_seq, go_sem, WR_nil, evNews, Nat.reduceEqDiff, Nat.reduceAdd, Nat.reduceMul, Nat.reduceLeDiff, Nat.reduceLT, Int.cast_ofNat_Int, Int.reduceBNe, Int.reduceToNat, Int.reduceLT, Int.reduceLE, Int.reduceAdd, Int.reduceNeg, Int.reduceEq, reduceCtorEq, enc, cut_und _ _ hu]
  have e35 : (c == 35) = false := by rw [beq_eq_false_iff_ne]; exact h35
  have hK : kindN c = (8, 0) := by simp only [kindN, h123, h100, h68, h103, h71, h104, h72, h108, h110, h78, h112, h80, h120, h125, h61, h113, h58, h98, h116, h97, h105, h99, h114, h119, h115, h121, h35, if_false]
  rw [hK]
  simp -implicitDefEqProofs -dsimp only [↓reduceIte, ↓W_seq, go_sem, WR_nil, evNews, Nat.reduceEqDiff, Nat.reduceAdd, Nat.reduceMul, Nat.reduceLeDiff, Nat.reduceLT, Int.cast_ofNat_Int, Int.reduceBNe, Int.reduceToNat, Int.reduceLT, Int.reduceLE, Int.reduceAdd, Int.reduceNeg, Int.reduceEq, reduceCtorEq, enc, e123, e100, e68, e103, e71, e104, e72, e108, e110, e78, e112, e80, e120, e125, e61, e113, e58, e98, e116, e97, e105, e99, e114, e119, e115, e121, e35, cut_und _ _ hu]
end
theorem w689 (c : Int) (lim d : Nat) (σ : Sto) (hu : σ.Und d) : Ret lim d 40 [.int .u8 c] σ (.int .i64 (mostN c)) σ := by
  have hun := und_succ hu
  unfold Ret
  unfold mostN
  rw [WF_body (C := X) rfl Go.Proofs.Tryz.func40 rfl (by kernel_rfl)]; simp only [Go.Proofs.Tryz.results40]
  simp -implicitDefEqProofs -dsimp only [↓reduceIte, ↓W_seq, go_sem, WR_nil, evNews, Nat.reduceEqDiff, Nat.reduceAdd, Nat.reduceMul, Nat.reduceLeDiff, Nat.reduceLT, Int.cast_ofNat_Int, Int.reduceBNe, Int.reduceToNat, Int.reduceLT, Int.reduceLE, Int.reduceAdd, Int.reduceNeg, Int.reduceEq, reduceCtorEq, enc]
  refine (w692 [125, 58, 35] c (by decide) lim (d + 1) _ hun).wh ?_
  cases h1 : inS [125, 58, 35] c
  rotate_left
  · simp -implicitDefEqProofs -dsimp only [↓reduceIte, ↓W_seq, go_sem, WR_nil, evNews, Nat.reduceEqDiff, Nat.reduceAdd, Nat.reduceMul, Nat.reduceLeDiff, Nat.reduceLT, Int.cast_ofNat_Int, Int.reduceBNe, Int.reduceToNat, Int.reduceLT, Int.reduceLE, Int.reduceAdd, Int.reduceNeg, Int.reduceEq, reduceCtorEq, enc, cut_und _ _ hu]
  simp -implicitDefEqProofs -dsimp only [↓reduceIte, ↓W_seq, go_sem, WR_nil, evNews, Nat.reduceEqDiff, Nat.reduceAdd, Nat.reduceMul, Nat.reduceLeDiff, Nat.reduceLT, Int.cast_ofNat_Int, Int.reduceBNe, Int.reduceToNat, Int.reduceLT, Int.reduceLE, Int.reduceAdd, Int.reduceNeg, Int.reduceEq, reduceCtorEq, enc]
  refine (w692 [97, 105, 114, 61, 113] c (by decide) lim (d + 1) _ hun).wh ?_
  cases h2 : inS [97, 105, 114, 61, 113] c
  rotate_left
  · simp -implicitDefEqProofs -dsimp only [↓reduceIte, ↓W_seq, go_sem, WR_nil, evNews, Nat.reduceEqDiff, Nat.reduceAdd, Nat.reduceMul, Nat.reduceLeDiff, Nat.reduceLT, Int.cast_ofNat_Int, Int.reduceBNe, Int.reduceToNat, Int.reduceLT, Int.reduceLE, Int.reduceAdd, Int.reduceNeg, Int.reduceEq, reduceCtorEq, enc, cut_und _ _ hu]
  simp -implicitDefEqProofs -dsimp only [↓reduceIte, ↓W_seq, go_sem, WR_nil, evNews, Nat.reduceEqDiff, Nat.reduceAdd, Nat.reduceMul, Nat.reduceLeDiff, Nat.reduceLT, Int.cast_ofNat_Int, Int.reduceBNe, Int.reduceToNat, Int.reduceLT, Int.reduceLE, Int.reduceAdd, Int.reduceNeg, Int.reduceEq, reduceCtorEq, enc]
  refine (w692 [123, 98, 116, 99, 119, 115, 121, 100, 68, 103, 71, 104, 72, 108, 110, 78, 112, 80, 120] c (by decide) lim (d + 1) _ hun).wh ?_
  cases h3 : inS [123, 98, 116, 99, 119, 115, 121, 100, 68, 103, 71, 104, 72, 108, 110, 78, 112, 80, 120] c
  · simp -implicitDefEqProofs -dsimp only [↓reduceIte, ↓W_seq, go_sem, WR_nil, evNews, Nat.reduceEqDiff, Nat.reduceAdd, Nat.reduceMul, Nat.reduceLeDiff, Nat.reduceLT, Int.cast_ofNat_Int, Int.reduceBNe, Int.reduceToNat, Int.reduceLT, Int.reduceLE, Int.reduceAdd, Int.reduceNeg, Int.reduceEq, reduceCtorEq, enc, cut_und _ _ hu]
  · simp -implicitDefEqProofs -dsimp only [↓reduceIte, ↓W_seq, go_sem, WR_nil, evNews, Nat.reduceEqDiff, Nat.reduceAdd, Nat.reduceMul, Nat.reduceLeDiff, Nat.reduceLT, Int.cast_ofNat_Int, Int.reduceBNe, Int.reduceToNat, Int.reduceLT, Int.reduceLE, Int.reduceAdd, Int.reduceNeg, Int.reduceEq, reduceCtorEq, enc, cut_und _ _ hu]
/-- The names, by both sides. -/
structure NmR (c : Int) : Prop where
  n7 : ((kindN c).1 == 7) = (c == 35)
  n8 : ((kindN c).1 == 8) = decide (mostN c < 0)
  ms : ((kindN c).1 == 8) = false → mostN c = (kindN c).2
  n1 : ((kindN c).1 == 1) = (c == 58)
  n2 : ((kindN c).1 == 2) = inS [98, 116] c
  n3 : ((kindN c).1 == 3) = inS [97, 105, 99] c
  n4 : ((kindN c).1 == 4) = inS [114, 119] c
  n5 : ((kindN c).1 == 5) = (c == 115)
  n6 : ((kindN c).1 == 6) = (c == 121)
  n12 : ((kindN c).1 == 1 || (kindN c).1 == 2) = inS [58, 98, 116] c
theorem nm_ok (c : Int) : NmR c := by
  by_cases h123 : c = 123
  · subst h123; exact ⟨by decide, by decide, by decide, by decide, by decide, by decide, by decide, by decide, by decide, by decide⟩
  by_cases h100 : c = 100
  · subst h100; exact ⟨by decide, by decide, by decide, by decide, by decide, by decide, by decide, by decide, by decide, by decide⟩
  by_cases h68 : c = 68
  · subst h68; exact ⟨by decide, by decide, by decide, by decide, by decide, by decide, by decide, by decide, by decide, by decide⟩
  by_cases h103 : c = 103
  · subst h103; exact ⟨by decide, by decide, by decide, by decide, by decide, by decide, by decide, by decide, by decide, by decide⟩
  by_cases h71 : c = 71
  · subst h71; exact ⟨by decide, by decide, by decide, by decide, by decide, by decide, by decide, by decide, by decide, by decide⟩
  by_cases h104 : c = 104
  · subst h104; exact ⟨by decide, by decide, by decide, by decide, by decide, by decide, by decide, by decide, by decide, by decide⟩
  by_cases h72 : c = 72
  · subst h72; exact ⟨by decide, by decide, by decide, by decide, by decide, by decide, by decide, by decide, by decide, by decide⟩
  by_cases h108 : c = 108
  · subst h108; exact ⟨by decide, by decide, by decide, by decide, by decide, by decide, by decide, by decide, by decide, by decide⟩
  by_cases h110 : c = 110
  · subst h110; exact ⟨by decide, by decide, by decide, by decide, by decide, by decide, by decide, by decide, by decide, by decide⟩
  by_cases h78 : c = 78
  · subst h78; exact ⟨by decide, by decide, by decide, by decide, by decide, by decide, by decide, by decide, by decide, by decide⟩
  by_cases h112 : c = 112
  · subst h112; exact ⟨by decide, by decide, by decide, by decide, by decide, by decide, by decide, by decide, by decide, by decide⟩
  by_cases h80 : c = 80
  · subst h80; exact ⟨by decide, by decide, by decide, by decide, by decide, by decide, by decide, by decide, by decide, by decide⟩
  by_cases h120 : c = 120
  · subst h120; exact ⟨by decide, by decide, by decide, by decide, by decide, by decide, by decide, by decide, by decide, by decide⟩
  by_cases h125 : c = 125
  · subst h125; exact ⟨by decide, by decide, by decide, by decide, by decide, by decide, by decide, by decide, by decide, by decide⟩
  by_cases h61 : c = 61
  · subst h61; exact ⟨by decide, by decide, by decide, by decide, by decide, by decide, by decide, by decide, by decide, by decide⟩
  by_cases h113 : c = 113
  · subst h113; exact ⟨by decide, by decide, by decide, by decide, by decide, by decide, by decide, by decide, by decide, by decide⟩
  by_cases h58 : c = 58
  · subst h58; exact ⟨by decide, by decide, by decide, by decide, by decide, by decide, by decide, by decide, by decide, by decide⟩
  by_cases h98 : c = 98
  · subst h98; exact ⟨by decide, by decide, by decide, by decide, by decide, by decide, by decide, by decide, by decide, by decide⟩
  by_cases h116 : c = 116
  · subst h116; exact ⟨by decide, by decide, by decide, by decide, by decide, by decide, by decide, by decide, by decide, by decide⟩
  by_cases h97 : c = 97
  · subst h97; exact ⟨by decide, by decide, by decide, by decide, by decide, by decide, by decide, by decide, by decide, by decide⟩
  by_cases h105 : c = 105
  · subst h105; exact ⟨by decide, by decide, by decide, by decide, by decide, by decide, by decide, by decide, by decide, by decide⟩
  by_cases h99 : c = 99
  · subst h99; exact ⟨by decide, by decide, by decide, by decide, by decide, by decide, by decide, by decide, by decide, by decide⟩
  by_cases h114 : c = 114
  · subst h114; exact ⟨by decide, by decide, by decide, by decide, by decide, by decide, by decide, by decide, by decide, by decide⟩
  by_cases h119 : c = 119
  · subst h119; exact ⟨by decide, by decide, by decide, by decide, by decide, by decide, by decide, by decide, by decide, by decide⟩
  by_cases h115 : c = 115
  · subst h115; exact ⟨by decide, by decide, by decide, by decide, by decide, by decide, by decide, by decide, by decide, by decide⟩
  by_cases h121 : c = 121
  · subst h121; exact ⟨by decide, by decide, by decide, by decide, by decide, by decide, by decide, by decide, by decide, by decide⟩
  by_cases h35 : c = 35
  · subst h35; exact ⟨by decide, by decide, by decide, by decide, by decide, by decide, by decide, by decide, by decide, by decide⟩
  have hK : kindN c = (8, 0) := by simp only [kindN, h123, h100, h68, h103, h71, h104, h72, h108, h110, h78, h112, h80, h120, h125, h61, h113, h58, h98, h116, h97, h105, h99, h114, h119, h115, h121, h35, if_false]
  have hi : ∀ s : List UInt8, (∀ b ∈ s, c ≠ (b.toNat : Int)) → inS s c = false := fun s h => by
    simp only [inS, List.any_eq_false, beq_iff_eq]
    exact fun b hb e => h b hb e.symm
  have hM : mostN c = -1 := by
    unfold mostN
    rw [hi _ (by intro b hb; simp at hb; rcases hb with rfl | rfl | rfl <;> assumption), hi _ (by intro b hb; simp at hb; rcases hb with rfl | rfl | rfl | rfl | rfl <;> assumption), hi _ (by intro b hb; simp at hb; rcases hb with rfl | rfl | rfl | rfl | rfl | rfl | rfl | rfl | rfl | rfl | rfl | rfl | rfl | rfl | rfl | rfl | rfl | rfl | rfl <;> assumption)]
    rfl
  refine ⟨?_, ?_, ?_, ?_, ?_, ?_, ?_, ?_, ?_, ?_⟩
  · rw [hK, beq_eq_false_iff_ne.2 h35]; rfl
  · rw [hK, hM]; rfl
  · rw [hK]; intro h; cases h
  · rw [hK, beq_eq_false_iff_ne.2 h58]; rfl
  · rw [hK, hi _ (by intro b hb; simp at hb; rcases hb with rfl | rfl <;> assumption)]; rfl
  · rw [hK, hi _ (by intro b hb; simp at hb; rcases hb with rfl | rfl | rfl <;> assumption)]; rfl
  · rw [hK, hi _ (by intro b hb; simp at hb; rcases hb with rfl | rfl <;> assumption)]; rfl
  · rw [hK, beq_eq_false_iff_ne.2 h115]; rfl
  · rw [hK, beq_eq_false_iff_ne.2 h121]; rfl
  · rw [hK, hi _ (by intro b hb; simp at hb; rcases hb with rfl | rfl | rfl <;> assumption)]; rfl
def allowB (nm k k2 : Int) (b : Bool) : Bool := !((kindN nm).1 == 8) && (decide (manyG k k2 ≤ (kindN nm).2) && (decide (0 < (kindN nm).2) || !b))
theorem w678 (nm k v : Int) (x : Nd) (k2 v2 : Int) (y : Nd) (b : Bool) (lim d : Nat) (σ : Sto) (hu : σ.Und d) : Ret lim d 33 [.int .u8 nm, .agg (encG k v x k2 v2 y b)] σ (.bool (allowB nm k k2 b)) σ := by
  have hun := und_succ hu
  have hw := w677 nm lim (d + 1)
  have hc := w307g k v x k2 v2 y b lim (d + 1)
  unfold allowB
  unfold Ret
  generalize kindN nm = q at hw ⊢
  obtain ⟨n, m⟩ := q
  simp only at hw ⊢
  generalize manyG k k2 = g at hc ⊢
  obtain ⟨x0, x1, x2, x3, x4, x5, x6, x7, x8, x9⟩ := x
  obtain ⟨y0, y1, y2, y3, y4, y5, y6, y7, y8, y9⟩ := y
  rw [WF_body (C := X) rfl Go.Proofs.Tryz.func33 rfl (by kernel_rfl)]; simp only [Go.Proofs.Tryz.results33]
  simp -implicitDefEqProofs -dsimp only [↓reduceIte, ↓W_seq, go_sem, WR_nil, evNews, Nat.reduceEqDiff, Nat.reduceAdd, Nat.reduceMul, Nat.reduceLeDiff, Nat.reduceLT, Int.cast_ofNat_Int, Int.reduceBNe, Int.reduceToNat, Int.reduceLT, Int.reduceLE, Int.reduceAdd, Int.reduceNeg, Int.reduceEq, reduceCtorEq, enc, encG, encA, List.cons_append, List.nil_append]
  refine (hw _ (by simp only [u_tick, u_mine]; exact hun)).wh ?_
  cases h1 : n == 8
  rotate_left
  · have g1 : (n != 8) = false := by rw [bne, h1]; rfl
    simp -implicitDefEqProofs -dsimp only [↓reduceIte, ↓W_seq, go_sem, WR_nil, evNews, Nat.reduceEqDiff, Nat.reduceAdd, Nat.reduceMul, Nat.reduceLeDiff, Nat.reduceLT, Int.cast_ofNat_Int, Int.reduceBNe, Int.reduceToNat, Int.reduceLT, Int.reduceLE, Int.reduceAdd, Int.reduceNeg, Int.reduceEq, reduceCtorEq, enc, g1, cut_und _ _ hu, Bool.false_and, Bool.not_true]
  have g1 : (n != 8) = true := by rw [bne, h1]; rfl
  simp -implicitDefEqProofs -dsimp only [↓reduceIte, ↓W_seq, go_sem, WR_nil, evNews, Nat.reduceEqDiff, Nat.reduceAdd, Nat.reduceMul, Nat.reduceLeDiff, Nat.reduceLT, Int.cast_ofNat_Int, Int.reduceBNe, Int.reduceToNat, Int.reduceLT, Int.reduceLE, Int.reduceAdd, Int.reduceNeg, Int.reduceEq, reduceCtorEq, enc, g1, encG, encA, List.cons_append, List.nil_append]
  refine (hc _ (by simp only [u_tick, u_mine]; exact hun)).wh ?_
  by_cases h2 : g ≤ m
  rotate_left
  · simp -implicitDefEqProofs -dsimp only [↓reduceIte, ↓W_seq, go_sem, WR_nil, evNews, Nat.reduceEqDiff, Nat.reduceAdd, Nat.reduceMul, Nat.reduceLeDiff, Nat.reduceLT, Int.cast_ofNat_Int, Int.reduceBNe, Int.reduceToNat, Int.reduceLT, Int.reduceLE, Int.reduceAdd, Int.reduceNeg, Int.reduceEq, reduceCtorEq, enc, h2, cut_und _ _ hu, Bool.false_and]
  by_cases h3 : 0 < m
  · simp -implicitDefEqProofs -dsimp only [↓reduceIte, ↓W_seq, go_sem, WR_nil, evNews, Nat.reduceEqDiff, Nat.reduceAdd, Nat.reduceMul, Nat.reduceLeDiff, Nat.reduceLT, Int.cast_ofNat_Int, Int.reduceBNe, Int.reduceToNat, Int.reduceLT, Int.reduceLE, Int.reduceAdd, Int.reduceNeg, Int.reduceEq, reduceCtorEq, enc, h2, h3, cut_und _ _ hu, Bool.true_and]
  · simp -implicitDefEqProofs -dsimp only [↓reduceIte, ↓W_seq, go_sem, WR_nil, evNews, Nat.reduceEqDiff, Nat.reduceAdd, Nat.reduceMul, Nat.reduceLeDiff, Nat.reduceLT, Int.cast_ofNat_Int, Int.reduceBNe, Int.reduceToNat, Int.reduceLT, Int.reduceLE, Int.reduceAdd, Int.reduceNeg, Int.reduceEq, reduceCtorEq, enc, h2, h3, cut_und _ _ hu, Bool.true_and, encG, encA, List.cons_append, List.nil_append]
end Go.Proofs.Tryz.E
