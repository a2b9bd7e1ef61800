/- Walks: what the functions compute. -/
import Derived.Test.YtliekadkahdghaaGreatDoorL2
set_option linter.unusedVariables false
set_option linter.unusedSimpArgs false
/- Addresses that are numbers, or the last line: one, the second, both. -/
namespace Go.Proofs.Tryz.E
open Go.Mv
set_option maxHeartbeats 4000000
set_option maxRecDepth 20000
def adrL (k v : Int) : List MV := .int .i64 k :: .int .i64 v :: enc (.mk 0 0 0 0 0 0 0 0 0 [])
/-- An address is read at a place: its kind, its number, the place behind it. -/
def OneL (s : List UInt8) (n : Nat) (k v : Int) (m : Nat) : Prop :=
  (k = 1 ∧ (∃ c, s[n]? = some c ∧ 48 ≤ c.toNat ∧ c.toNat ≤ 57) ∧ v = numV ((s.drop n).take (dgL s n)) ∧ numV ((s.drop n).take (dgL s n)) ≤ 1000000000 ∧ (∀ i, i < dgL s n → ∃ c, (s.drop n)[i]? = some c ∧ 48 ≤ c.toNat ∧ c.toNat ≤ 57) ∧ 0 < dgL s n ∧ m = n + dgL s n) ∨
  (k = 2 ∧ v = 0 ∧ s[n]? = some 36 ∧ m = n + 1)
section
variable (s : List UInt8) (hs : s.length ≤ 1000000)
include hs
theorem w308 (n : Nat) (hn : n < s.length) (k v : Int) (m : Nat) (h : OneL s n k v m) (p : Mv.Loc) (lim d : Nat) (hp : p.d < d) (hlim : lim ≤ p.d) (σ : Sto) (hu : σ.Und d) (ho : σ.ob p = some (encL s n)) :
    Ret lim d 22 [.ptr p 0, .bool false] σ (.tup [.agg (adrL k v), .int .i64 0]) (σ.set p (encL s m)) := by
  have hun := und_succ hu
  have hne := ne_my hp
  have hmy := my_ne hp
  have hp1 := Nat.lt_succ_of_lt hp
  have hob1 : ∀ (t c : Nat) (cs : List MV), ((σ.set ⟨d, t, c⟩ cs).tick d).ob p = some (encL s n) := fun t c cs => by simp only [go_sem, hne, if_false]; exact ho
  unfold Ret adrL
  rw [WF_body (C := X) rfl Go.Proofs.Tryz.func22 rfl (by kernel_rfl)]; simp only [Go.Proofs.Tryz.results22]
  simp -implicitDefEqProofs -dsimp only [↓reduceIte, not_false_eq_true, ↓W_seq, go_sem, WR_nil, evNews, if_true, if_false, and_true, true_and, Nat.reduceEqDiff, Nat.reduceAdd, Nat.reduceMul, Nat.reduceLeDiff, Nat.reduceLT, Int.cast_ofNat_Int, Int.reduceBNe, Int.reduceToNat, Int.reduceLT, Int.reduceLE, Int.reduceToNat, Int.reduceAdd, Int.reduceNeg, Int.natCast_zero, Int.natCast_one, Int.le_refl, Int.reduceEq, Int.lt_irrefl, reduceCtorEq, enc]
  refine (w309 s n (by omega) p lim (d + 1) hp1 _ (by simp only [u_tick, u_mine]; exact hun) (hob1 ..)).wh ?_
  rcases h with ⟨rfl, ⟨c, hc, c1, c2⟩, rfl, h1, h2, h3, rfl⟩ | ⟨rfl, rfl, hc, rfl⟩
  · have e0 : pkL s n = c := by simp [pkL, hc]
    have e1 : (48 : Int) ≤ (c.toNat : Int) := by omega
    have e2 : (c.toNat : Int) ≤ 57 := by omega
    simp -implicitDefEqProofs -dsimp only [↓reduceIte, not_false_eq_true, ↓W_seq, go_sem, WR_nil, evNews, if_true, if_false, and_true, true_and, Nat.reduceEqDiff, Nat.reduceAdd, Nat.reduceMul, Nat.reduceLeDiff, Nat.reduceLT, Int.cast_ofNat_Int, Int.reduceBNe, Int.reduceToNat, Int.reduceLT, Int.reduceLE, Int.reduceToNat, Int.reduceAdd, Int.reduceNeg, Int.natCast_zero, Int.natCast_one, Int.le_refl, Int.reduceEq, Int.lt_irrefl, reduceCtorEq, enc, e0, e1, e2]
    refine (w313 s hs n (by omega) h1 h2 p lim (d + 1) hp1 hlim _ (by simp only [u_tick, u_mine]; exact hun) (hob1 ..)).wh ?_
    simp -implicitDefEqProofs -dsimp only [↓reduceIte, not_false_eq_true, ↓W_seq, go_sem, WR_nil, evNews, if_true, if_false, and_true, true_and, Nat.reduceEqDiff, Nat.reduceAdd, Nat.reduceMul, Nat.reduceLeDiff, Nat.reduceLT, Int.cast_ofNat_Int, Int.reduceBNe, Int.reduceToNat, Int.reduceLT, Int.reduceLE, Int.reduceToNat, Int.reduceAdd, Int.reduceNeg, Int.natCast_zero, Int.natCast_one, Int.le_refl, Int.reduceEq, Int.lt_irrefl, reduceCtorEq, enc, h3, Bool.not_true, Bool.false_eq_true, hne, hmy, encs, cut_set _ _ _ _ hp, cut_und _ _ hu]
  · have e0 : pkL s n = 36 := by simp [pkL, hc]
    simp -implicitDefEqProofs -dsimp only [↓reduceIte, not_false_eq_true, ↓W_seq, go_sem, WR_nil, evNews, if_true, if_false, and_true, true_and, Nat.reduceEqDiff, Nat.reduceAdd, Nat.reduceMul, Nat.reduceLeDiff, Nat.reduceLT, Int.cast_ofNat_Int, Int.reduceBNe, Int.reduceToNat, Int.reduceLT, Int.reduceLE, Int.reduceToNat, Int.reduceAdd, Int.reduceNeg, Int.natCast_zero, Int.natCast_one, Int.le_refl, Int.reduceEq, Int.lt_irrefl, reduceCtorEq, enc, e0, UInt8.reduceToNat]
    refine (w312 s hs n hn p lim (d + 1) hp1 hlim _ (by simp only [u_tick, u_mine]; exact hun) (hob1 ..)).wh ?_
    simp -implicitDefEqProofs -dsimp only [↓reduceIte, not_false_eq_true, ↓W_seq, go_sem, WR_nil, evNews, if_true, if_false, and_true, true_and, Nat.reduceEqDiff, Nat.reduceAdd, Nat.reduceMul, Nat.reduceLeDiff, Nat.reduceLT, Int.cast_ofNat_Int, Int.reduceBNe, Int.reduceToNat, Int.reduceLT, Int.reduceLE, Int.reduceToNat, Int.reduceAdd, Int.reduceNeg, Int.natCast_zero, Int.natCast_one, Int.le_refl, Int.reduceEq, Int.lt_irrefl, reduceCtorEq, enc, hne, hmy, encs, cut_set _ _ _ _ hp, cut_und _ _ hu]
theorem w310 (n : Nat) (hn : n < s.length) (hb : n + 1 + blL s (n + 1) < s.length) (k v : Int) (m : Nat) (h : OneL s (n + 1 + blL s (n + 1)) k v m) (p : Mv.Loc) (lim d : Nat) (hp : p.d < d) (hlim : lim ≤ p.d) (σ : Sto) (hu : σ.Und d) (ho : σ.ob p = some (encL s n)) :
    Ret lim d 24 [.ptr p 0, .bool false] σ (.tup [.agg (adrL k v), .int .i64 0]) (σ.set p (encL s m)) := by
  have hun := und_succ hu
  have hne := ne_my hp
  have hmy := my_ne hp
  have hp1 := Nat.lt_succ_of_lt hp
  have hk0 : (k == 0) = false := by
    rcases h with ⟨rfl, _⟩ | ⟨rfl, _⟩ <;> rfl
  unfold Ret
  rw [WF_body (C := X) rfl Go.Proofs.Tryz.func24 rfl (by kernel_rfl)]; simp only [Go.Proofs.Tryz.results24]
  simp -implicitDefEqProofs -dsimp only [↓reduceIte, not_false_eq_true, ↓W_seq, go_sem, WR_nil, evNews, if_true, if_false, and_true, true_and, Nat.reduceEqDiff, Nat.reduceAdd, Nat.reduceMul, Nat.reduceLeDiff, Nat.reduceLT, Int.cast_ofNat_Int, Int.reduceBNe, Int.reduceToNat, Int.reduceLT, Int.reduceLE, Int.reduceToNat, Int.reduceAdd, Int.reduceNeg, Int.natCast_zero, Int.natCast_one, Int.le_refl, Int.reduceEq, Int.lt_irrefl, reduceCtorEq, enc]
  refine (w312 s hs n hn p lim (d + 1) hp1 hlim _ (by simp only [u_tick, u_mine]; exact hun) (by simp only [go_sem, hne, if_false]; exact ho)).wh ?_
  simp -implicitDefEqProofs -dsimp only [↓reduceIte, not_false_eq_true, ↓W_seq, go_sem, WR_nil, evNews, if_true, if_false, and_true, true_and, Nat.reduceEqDiff, Nat.reduceAdd, Nat.reduceMul, Nat.reduceLeDiff, Nat.reduceLT, Int.cast_ofNat_Int, Int.reduceBNe, Int.reduceToNat, Int.reduceLT, Int.reduceLE, Int.reduceToNat, Int.reduceAdd, Int.reduceNeg, Int.natCast_zero, Int.natCast_one, Int.le_refl, Int.reduceEq, Int.lt_irrefl, reduceCtorEq, enc]
  refine (w311 s hs (n + 1) (by omega) p lim (d + 1) hp1 hlim _ (by simp only [u_set _ _ _ _ hp1, u_tick, u_mine]; exact hun) (by simp only [go_sem, if_true])).wh ?_
  simp -implicitDefEqProofs -dsimp only [↓reduceIte, not_false_eq_true, ↓W_seq, go_sem, WR_nil, evNews, if_true, if_false, and_true, true_and, Nat.reduceEqDiff, Nat.reduceAdd, Nat.reduceMul, Nat.reduceLeDiff, Nat.reduceLT, Int.cast_ofNat_Int, Int.reduceBNe, Int.reduceToNat, Int.reduceLT, Int.reduceLE, Int.reduceToNat, Int.reduceAdd, Int.reduceNeg, Int.natCast_zero, Int.natCast_one, Int.le_refl, Int.reduceEq, Int.lt_irrefl, reduceCtorEq, enc]
  refine (w308 s hs _ hb k v m h p lim (d + 1) hp1 hlim _ (by simp only [u_set _ _ _ _ hp1, u_tick, u_mine]; exact hun) (by simp only [go_sem, if_true])).wh ?_
  simp -implicitDefEqProofs -dsimp only [↓reduceIte, not_false_eq_true, ↓W_seq, go_sem, WR_nil, evNews, if_true, if_false, and_true, true_and, Nat.reduceEqDiff, Nat.reduceAdd, Nat.reduceMul, Nat.reduceLeDiff, Nat.reduceLT, Int.cast_ofNat_Int, Int.reduceBNe, Int.reduceToNat, Int.reduceLT, Int.reduceLE, Int.reduceToNat, Int.reduceAdd, Int.reduceNeg, Int.natCast_zero, Int.natCast_one, Int.le_refl, Int.reduceEq, Int.lt_irrefl, reduceCtorEq, enc, adrL, encs, hk0, hne, hmy, cut_set _ _ _ _ hp, cut_und _ _ hu]
theorem w305 (k v : Int) (m1 : Nat) (h1 : OneL s 0 k v m1) (hm1 : m1 + 1 < s.length) (h44 : s[m1]? = some 44) (k2 v2 : Int) (m2 m3 : Nat) (e2 : m2 = m1 + 1 + blL s (m1 + 1)) (hm2 : m2 < s.length) (h2 : OneL s m2 k2 v2 m3) (hm3 : m3 ≤ s.length) (m4 : Nat) (e4 : m4 = m3 + blL s m3) (hm4 : m4 < s.length)
    (b : Bool) (hb : (pkL s m4 == 33) = b) (m5 : Nat) (e5 : m5 = if b = true then m4 + 1 + blL s (m4 + 1) else m4) (p : Mv.Loc) (lim d : Nat) (hp : p.d < d) (hlim : lim ≤ p.d) (σ : Sto) (hu : σ.Und d) (ho : σ.ob p = some (encL s 0)) :
    Ret lim d 14 [.ptr p 0, .bool false] σ (.tup [.agg (adrL k v ++ adrL k2 v2 ++ [.bool b]), .int .i64 0]) (σ.set p (encL s m5)) := by
  have hun := und_succ hu
  have hne := ne_my hp
  have hmy := my_ne hp
  have hp1 := Nat.lt_succ_of_lt hp
  have hk0 : (k != 0) = true := by
    rcases h1 with ⟨rfl, _⟩ | ⟨rfl, _⟩ <;> rfl
  have e44 : pkL s m1 = 44 := by simp [pkL, h44]
  have hU : ∀ σ' : Sto, σ'.Und (d + 1) → σ'.Und (d + 1) := fun _ h => h
  unfold Ret
  rw [WF_body (C := X) rfl Go.Proofs.Tryz.func14 rfl (by kernel_rfl)]; simp only [Go.Proofs.Tryz.results14]
  simp -implicitDefEqProofs -dsimp only [↓reduceIte, not_false_eq_true, ↓W_seq, go_sem, WR_nil, evNews, if_true, if_false, and_true, true_and, Nat.reduceEqDiff, Nat.reduceAdd, Nat.reduceMul, Nat.reduceLeDiff, Nat.reduceLT, Int.cast_ofNat_Int, Int.reduceBNe, Int.reduceToNat, Int.reduceLT, Int.reduceLE, Int.reduceToNat, Int.reduceAdd, Int.reduceNeg, Int.natCast_zero, Int.natCast_one, Int.le_refl, Int.reduceEq, Int.lt_irrefl, reduceCtorEq, enc]
  refine (w308 s hs 0 (by omega) k v m1 h1 p lim (d + 1) hp1 hlim _ (by simp only [u_tick, u_mine]; exact hun) (by simp only [go_sem, hne, if_false]; exact ho)).wh ?_
  simp -implicitDefEqProofs -dsimp only [↓reduceIte, not_false_eq_true, ↓W_seq, go_sem, WR_nil, evNews, if_true, if_false, and_true, true_and, Nat.reduceEqDiff, Nat.reduceAdd, Nat.reduceMul, Nat.reduceLeDiff, Nat.reduceLT, Int.cast_ofNat_Int, Int.reduceBNe, Int.reduceToNat, Int.reduceLT, Int.reduceLE, Int.reduceToNat, Int.reduceAdd, Int.reduceNeg, Int.natCast_zero, Int.natCast_one, Int.le_refl, Int.reduceEq, Int.lt_irrefl, reduceCtorEq, enc, adrL, encs, hne, hmy, hk0]
  refine (w309 s m1 (by omega) p lim (d + 1) hp1 _ (by simp only [u_set _ _ _ _ hp1, u_tick, u_mine]; exact hun) (by simp only [go_sem, hne, if_false, if_true])).wh ?_
  simp -implicitDefEqProofs -dsimp only [↓reduceIte, not_false_eq_true, ↓W_seq, go_sem, WR_nil, evNews, if_true, if_false, and_true, true_and, Nat.reduceEqDiff, Nat.reduceAdd, Nat.reduceMul, Nat.reduceLeDiff, Nat.reduceLT, Int.cast_ofNat_Int, Int.reduceBNe, Int.reduceToNat, Int.reduceLT, Int.reduceLE, Int.reduceToNat, Int.reduceAdd, Int.reduceNeg, Int.natCast_zero, Int.natCast_one, Int.le_refl, Int.reduceEq, Int.lt_irrefl, reduceCtorEq, enc, e44, UInt8.reduceToNat]
  refine (w310 s hs m1 (by omega) (by omega) k2 v2 m3 (by rw [← e2]; exact h2) p lim (d + 1) hp1 hlim _ (by simp only [u_set _ _ _ _ hp1, u_tick, u_mine]; exact hun) (by simp only [go_sem, hne, if_false, if_true])).wh ?_
  simp -implicitDefEqProofs -dsimp only [↓reduceIte, not_false_eq_true, ↓W_seq, go_sem, WR_nil, evNews, if_true, if_false, and_true, true_and, Nat.reduceEqDiff, Nat.reduceAdd, Nat.reduceMul, Nat.reduceLeDiff, Nat.reduceLT, Int.cast_ofNat_Int, Int.reduceBNe, Int.reduceToNat, Int.reduceLT, Int.reduceLE, Int.reduceToNat, Int.reduceAdd, Int.reduceNeg, Int.natCast_zero, Int.natCast_one, Int.le_refl, Int.reduceEq, Int.lt_irrefl, reduceCtorEq, enc, adrL, encs, hne, hmy]
  refine (w311 s hs m3 hm3 p lim (d + 1) hp1 hlim _ (by simp only [u_set _ _ _ _ hp1, u_tick, u_mine]; exact hun) (by simp only [go_sem, hne, if_false, if_true])).wh ?_
  rw [← e4]
  have hbi : (((pkL s m4).toNat : Int) == 33) = b := by
    rw [← hb, Bool.eq_iff_iff, beq_iff_eq, beq_iff_eq]
    constructor
    · intro q; exact UInt8.toNat_inj.1 (by have : (33 : UInt8).toNat = 33 := rfl; omega)
    · intro q; rw [q]; rfl
  simp -implicitDefEqProofs -dsimp only [↓reduceIte, not_false_eq_true, ↓W_seq, go_sem, WR_nil, evNews, if_true, if_false, and_true, true_and, Nat.reduceEqDiff, Nat.reduceAdd, Nat.reduceMul, Nat.reduceLeDiff, Nat.reduceLT, Int.cast_ofNat_Int, Int.reduceBNe, Int.reduceToNat, Int.reduceLT, Int.reduceLE, Int.reduceToNat, Int.reduceAdd, Int.reduceNeg, Int.natCast_zero, Int.natCast_one, Int.le_refl, Int.reduceEq, Int.lt_irrefl, reduceCtorEq, enc]
  refine (w309 s m4 (by omega) p lim (d + 1) hp1 _ (by simp only [u_set _ _ _ _ hp1, u_tick, u_mine]; exact hun) (by simp only [go_sem, hne, if_false, if_true])).wh ?_
  simp -implicitDefEqProofs -dsimp only [↓reduceIte, not_false_eq_true, ↓W_seq, go_sem, WR_nil, evNews, if_true, if_false, and_true, true_and, Nat.reduceEqDiff, Nat.reduceAdd, Nat.reduceMul, Nat.reduceLeDiff, Nat.reduceLT, Int.cast_ofNat_Int, Int.reduceBNe, Int.reduceToNat, Int.reduceLT, Int.reduceLE, Int.reduceToNat, Int.reduceAdd, Int.reduceNeg, Int.natCast_zero, Int.natCast_one, Int.le_refl, Int.reduceEq, Int.lt_irrefl, reduceCtorEq, enc, hbi, hne, hmy]
  cases b
  · simp only [Bool.false_eq_true, if_false] at e5
    subst e5
    simp -implicitDefEqProofs -dsimp only [↓reduceIte, not_false_eq_true, ↓W_seq, go_sem, WR_nil, evNews, if_true, if_false, and_true, true_and, Nat.reduceEqDiff, Nat.reduceAdd, Nat.reduceMul, Nat.reduceLeDiff, Nat.reduceLT, Int.cast_ofNat_Int, Int.reduceBNe, Int.reduceToNat, Int.reduceLT, Int.reduceLE, Int.reduceToNat, Int.reduceAdd, Int.reduceNeg, Int.natCast_zero, Int.natCast_one, Int.le_refl, Int.reduceEq, Int.lt_irrefl, reduceCtorEq, enc, hne, hmy, cut_set _ _ _ _ hp, cut_und _ _ hu]
    rfl
  · simp only [if_true] at e5
    simp -implicitDefEqProofs -dsimp only [↓reduceIte, not_false_eq_true, ↓W_seq, go_sem, WR_nil, evNews, if_true, if_false, and_true, true_and, Nat.reduceEqDiff, Nat.reduceAdd, Nat.reduceMul, Nat.reduceLeDiff, Nat.reduceLT, Int.cast_ofNat_Int, Int.reduceBNe, Int.reduceToNat, Int.reduceLT, Int.reduceLE, Int.reduceToNat, Int.reduceAdd, Int.reduceNeg, Int.natCast_zero, Int.natCast_one, Int.le_refl, Int.reduceEq, Int.lt_irrefl, reduceCtorEq, enc, hne, hmy]
    refine (w312 s hs m4 hm4 p lim (d + 1) hp1 hlim _ (by simp only [u_set _ _ _ _ hp1, u_tick, u_mine]; exact hun) (by simp only [go_sem, hne, if_false, if_true])).wh ?_
    simp -implicitDefEqProofs -dsimp only [↓reduceIte, not_false_eq_true, ↓W_seq, go_sem, WR_nil, evNews, if_true, if_false, and_true, true_and, Nat.reduceEqDiff, Nat.reduceAdd, Nat.reduceMul, Nat.reduceLeDiff, Nat.reduceLT, Int.cast_ofNat_Int, Int.reduceBNe, Int.reduceToNat, Int.reduceLT, Int.reduceLE, Int.reduceToNat, Int.reduceAdd, Int.reduceNeg, Int.natCast_zero, Int.natCast_one, Int.le_refl, Int.reduceEq, Int.lt_irrefl, reduceCtorEq, enc, hne, hmy]
    refine (w311 s hs (m4 + 1) (by omega) p lim (d + 1) hp1 hlim _ (by simp only [u_set _ _ _ _ hp1, u_tick, u_mine]; exact hun) (by simp only [go_sem, hne, if_false, if_true])).wh ?_
    rw [← e5]
    simp -implicitDefEqProofs -dsimp only [↓reduceIte, not_false_eq_true, ↓W_seq, go_sem, WR_nil, evNews, if_true, if_false, and_true, true_and, Nat.reduceEqDiff, Nat.reduceAdd, Nat.reduceMul, Nat.reduceLeDiff, Nat.reduceLT, Int.cast_ofNat_Int, Int.reduceBNe, Int.reduceToNat, Int.reduceLT, Int.reduceLE, Int.reduceToNat, Int.reduceAdd, Int.reduceNeg, Int.natCast_zero, Int.natCast_one, Int.le_refl, Int.reduceEq, Int.lt_irrefl, reduceCtorEq, enc, hne, hmy, cut_set _ _ _ _ hp, cut_und _ _ hu]
    rfl
end
end Go.Proofs.Tryz.E
