/- Walks: what the functions compute. -/
import Derived.Test.YtibjgennjjhfdaaE29
set_option linter.unusedVariables false
set_option linter.unusedSimpArgs false
/- What is read of a text: its size; awake. -/
namespace Go.Proofs.Try.E
open Go.Mv
set_option maxHeartbeats 4000000
set_option maxRecDepth 20000
theorem parse_sz (s : List UInt8) (hs : s.length ≤ 100000) : sz (parseS s).1 ≤ 1000000 := by
  obtain ⟨G, -⟩ := hr_par s hs 10 ⟨0, 0, false⟩ rfl (by simp) (by simp) (by simp)
  rw [parse_eq]
  generalize parS s 10 ⟨0, 0, false⟩ = x at G
  have g2 := G.in'
  have hsz : sz x.1 ≤ 1000000 := by
    cases hbb : x.2.bad with
    | false => have := (G.good hbb).2; simp only at this g2; omega
    | true => have := G.bad' hbb; simp only at this g2; omega
  split
  · simp [sz_z0]
  · split
    · exact hsz
    · simp [sz_z0]
theorem parse_formed (s : List UInt8) (h : (parseS s).2.2 = 0) : formedB (parseS s).1 = true := by
  rw [parse_eq] at h ⊢
  split
  · rename_i h1; rw [if_pos h1] at h; cases h
  · rename_i h1
    rw [if_neg h1] at h
    split
    · assumption
    · rename_i h2; rw [if_neg h2] at h; cases h
theorem wake_err : (parseS [97, 124, 98]).2.2 = 0 := by decide +kernel
theorem wake_kind : (parseS [97, 124, 98]).1.kind = 9 := by decide +kernel
theorem w7 (lim d : Nat) (hlim : lim ≤ d) (σ : Sto) (hu : σ.Und d) : Ret lim d 7 [] σ (.bool true) σ := by
  have hun := und_succ hu
  unfold Ret
  rw [WF_body (C := X) rfl Go.Proofs.Try.func7 rfl (by kernel_rfl)]; simp only [Go.Proofs.Try.results7]
  simp -implicitDefEqProofs -dsimp only [↓reduceIte, not_false_eq_true, ↓W_seq, go_sem, WR_nil, evNews, if_true, if_false, and_true, true_and, Nat.reduceEqDiff, Nat.reduceAdd, Nat.reduceMul, Nat.reduceLeDiff, Nat.reduceLT, Int.cast_ofNat_Int, Int.reduceBNe, Int.reduceToNat, Int.reduceLT, Int.reduceLE, Int.reduceToNat, Int.reduceAdd, Int.reduceNeg, Int.natCast_zero, Int.natCast_one, Int.le_refl, Int.reduceEq, Int.lt_irrefl, reduceCtorEq, enc, ba_data]
  refine (w8 [97, 124, 98] (by simp) lim (d + 1) (by omega) _ ?_).wh ?_
  · exact hun
  unfold parseV
  have h1 := wake_err
  have h2 := wake_kind
  generalize parseS [97, 124, 98] = x at h1 h2
  simp -implicitDefEqProofs -dsimp only [↓reduceIte, not_false_eq_true, ↓W_seq, go_sem, WR_nil, evNews, if_true, if_false, and_true, true_and, Nat.reduceEqDiff, Nat.reduceAdd, Nat.reduceMul, Nat.reduceLeDiff, Nat.reduceLT, Int.cast_ofNat_Int, Int.reduceBNe, Int.reduceToNat, Int.reduceLT, Int.reduceLE, Int.reduceToNat, Int.reduceAdd, Int.reduceNeg, Int.natCast_zero, Int.natCast_one, Int.le_refl, Int.reduceEq, Int.lt_irrefl, reduceCtorEq, enc, h1, enc_take, enc_kind, h2, cut_und _ _ hu]
theorem parse_sz8 (s : List UInt8) (hs : s.length ≤ 100000) : sz (parseS s).1 ≤ 8 * s.length + 3 := by
  obtain ⟨G, -⟩ := hr_par s hs 10 ⟨0, 0, false⟩ rfl (by simp) (by simp) (by simp)
  rw [parse_eq]
  generalize parS s 10 ⟨0, 0, false⟩ = x at G
  have g2 := G.in'
  have hsz : sz x.1 ≤ 8 * s.length + 3 := by
    cases hbb : x.2.bad with
    | false => have := (G.good hbb).2; simp only at this g2; omega
    | true => have := G.bad' hbb; simp only at this g2; omega
  split
  · simp [sz_z0]
  · split
    · exact hsz
    · simp [sz_z0]
@[go_sem] theorem cvt_by (tk : Tok) (n : Int) : cvtO X.P 43 9 (.sl tk [[.int .u8 n]]) = some (.str [UInt8.ofNat n.toNat]) := by
  have h1 : X.P.underlying 43 = some (.slice 5) := by kernel_rfl
  have h2 : X.P.underlying 9 = some .string := by kernel_rfl
  have h3 : X.P.underlying 5 = some (.int .u8) := by kernel_rfl
  simp only [cvtO, h1, h2, h3, bytesOf, Option.map_some]
end Go.Proofs.Try.E
