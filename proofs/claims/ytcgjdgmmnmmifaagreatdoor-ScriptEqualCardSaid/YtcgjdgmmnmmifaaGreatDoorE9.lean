/- Walks: what the functions compute. -/
import Derived.Test.YtcgjdgmmnmmifaaGreatDoorE8
set_option linter.unusedVariables false
set_option linter.unusedSimpArgs false
/- Whether a node is formed: own, all. -/
namespace Go.Proofs.Tryz.E
open Go.Mv
set_option maxHeartbeats 4000000
set_option maxRecDepth 20000
def headE : Nd → Bool
  | .mk kd c s0 s1 s2 s3 n mn mx l => ((if kd = 1 then c else 0) == c && ((if kd = 3 then s0 else 0) == s0 && ((if kd = 3 then s1 else 0) == s1 && ((if kd = 3 then s2 else 0) == s2 && ((if kd = 3 then s3 else 0) == s3 &&
    ((if kd = 6 ∨ kd = 7 then n else 0) == n && ((if kd = 10 then mn else 0) == mn && (if kd = 10 then mx else 0) == mx)))))))
theorem headE_fold (kd c s0 s1 s2 s3 n mn mx : Int) (l : List Nd) : ((if kd = 1 then c else 0) == c && ((if kd = 3 then s0 else 0) == s0 && ((if kd = 3 then s1 else 0) == s1 && ((if kd = 3 then s2 else 0) == s2 && ((if kd = 3 then s3 else 0) == s3 &&
    ((if kd = 6 ∨ kd = 7 then n else 0) == n && ((if kd = 10 then mn else 0) == mn && (if kd = 10 then mx else 0) == mx))))))) = headE (.mk kd c s0 s1 s2 s3 n mn mx l) := rfl
theorem plain_eq (kd c s0 s1 s2 s3 n mn mx : Int) (l : List Nd) : plainB (.mk kd c s0 s1 s2 s3 n mn mx l) = (!decide (kd < 1) && !decide (10 < kd) && headE (.mk kd c s0 s1 s2 s3 n mn mx l) && !(decide (0 ≤ needK kd) && needK kd != l.length)) := by
  rw [Bool.eq_iff_iff]
  simp only [plainB, headE, needK, Bool.and_eq_true, Bool.not_eq_true', decide_eq_true_eq, decide_eq_false_iff_not, Bool.or_eq_true, beq_iff_eq, Bool.and_eq_false_iff, bne_eq_false_iff_eq]
  generalize l.length = k
  by_cases h1 : kd = 1
  · subst h1; simp; omega
  by_cases h3 : kd = 3
  · subst h3; simp; omega
  by_cases h6 : kd = 6
  · subst h6; simp; omega
  by_cases h7 : kd = 7
  · subst h7; simp; omega
  by_cases h8 : kd = 8
  · subst h8; simp; omega
  by_cases h9 : kd = 9
  · subst h9; simp; omega
  by_cases h10 : kd = 10
  · subst h10; simp; omega
  simp [h1, h3, h6, h7, h8, h9, h10]; omega
def notPlain (kd c s0 s1 s2 s3 n mn mx : Int) (l : List Nd) : Bool := if decide (kd < 1) = true then true else if decide (10 < kd) = true then true else if headE (.mk kd c s0 s1 s2 s3 n mn mx l) = false then true else if 0 ≤ needK kd then needK kd != l.length else false
theorem putC_head (x v : MV) (xs : List MV) : putC (x :: xs) [v] 0 = v :: xs := rfl
theorem w38 (kd c s0 s1 s2 s3 n mn mx : Int) (l : List Nd) (lim d : Nat) (σ : Sto) (hu : σ.Und d) (p : Mv.Loc) (hp : p.d < d) (hlim : lim ≤ p.d) (g : Int) (e : List Bool) (he : e.length = 10) (hg : 0 ≤ g) (hg9 : g ≤ 9) (ho : σ.ob p = some (encC g e)) :
    Ret lim d 154 [.ptr p 0, .agg (enc (.mk kd c s0 s1 s2 s3 n mn mx l))] σ (.bool (ownB (.mk kd c s0 s1 s2 s3 n mn mx l) g e)) (σ.set p (encC (ownG (.mk kd c s0 s1 s2 s3 n mn mx l) g) e)) := by
  have hun := und_succ hu
  have hne := ne_my hp
  have hmy := my_ne hp
  have hset := set_same ho
  have hset' := hset
  rw [encC] at hset'
  unfold Ret
  rw [WF_body (C := X) rfl Go.Proofs.Tryz.func154 rfl (by kernel_rfl)]; simp only [Go.Proofs.Tryz.results154]
  simp -implicitDefEqProofs -dsimp only [↓reduceIte, ↓W_seq, go_sem, enc]
  refine (w49 kd c s0 s1 s2 s3 n mn mx l lim (d + 1) _ ?_).wh ?_
  · simp only [go_sem, u_tick, u_mine]; exact hun
  have hlen : (needH (.mk kd c s0 s1 s2 s3 n mn mx l)).length = 9 := rfl
  simp -implicitDefEqProofs -dsimp only [↓reduceIte, ↓W_seq, go_sem, enc, needH]
  rw [D_dr (by kernel_rfl) rfl]
  have pe := plain_eq kd c s0 s1 s2 s3 n mn mx l
  by_cases k1 : kd < 1
  · rw [decide_eq_true k1] at pe
    simp only [Bool.not_true, Bool.false_and] at pe
    simp -implicitDefEqProofs -dsimp only [↓reduceIte, ↓W_seq, go_sem, enc, k1]
    simp only [ownB, ownG, pe, Bool.false_and, Bool.false_eq_true, false_and, if_false, hset, cut_und _ _ hu, and_self]
  by_cases k2 : 10 < kd
  · rw [decide_eq_true k2] at pe
    simp only [Bool.not_true, Bool.false_and, Bool.and_false] at pe
    simp -implicitDefEqProofs -dsimp only [↓reduceIte, ↓W_seq, go_sem, enc, k1, k2]
    simp only [ownB, ownG, pe, Bool.false_and, Bool.false_eq_true, false_and, if_false, hset, cut_und _ _ hu, and_self]
  simp -implicitDefEqProofs -dsimp only [↓reduceIte, ↓W_seq, go_sem, enc, k1, k2]
  refine (w27 kd c s0 s1 s2 s3 n mn mx l (d + 1) (d + 1) _ ?_).wh ?_
  · simp only [go_sem, u_tick, u_mine]; exact hun
  simp -implicitDefEqProofs -dsimp only [↓reduceIte, ↓W_seq, go_sem, enc, needH, headE_fold kd c s0 s1 s2 s3 n mn mx l]
  cases hH : headE (.mk kd c s0 s1 s2 s3 n mn mx l)
  · rw [hH] at pe
    simp -implicitDefEqProofs -dsimp only [↓reduceIte, ↓W_seq, go_sem, enc]
    simp only [Bool.and_false, Bool.false_and] at pe
    simp only [ownB, ownG, pe, Bool.false_and, Bool.false_eq_true, false_and, if_false, hset, cut_und _ _ hu, and_self]
  rw [hH] at pe
  cases hK : decide (0 ≤ needK kd) && needK kd != l.length
  · rw [hK, decide_eq_false k1, decide_eq_false k2] at pe
    simp only [Bool.not_false, Bool.and_self, Bool.and_true] at pe
    simp -implicitDefEqProofs -dsimp only [↓reduceIte, ↓W_seq, go_sem, enc, encs_len, hK]
    by_cases h6 : kd = 6
    · subst h6
      simp -implicitDefEqProofs -dsimp only [↓reduceIte, ↓W_seq, go_sem, enc, hne, hmy, ho, hp, hlim, encC, putC_head]
      rw [D_dr (by kernel_rfl) rfl]
      simp -implicitDefEqProofs -dsimp only [↓reduceIte, ↓W_seq, go_sem, enc, hne, hmy, ho, hp, hlim, encC, putC_head]
      simp only [ownB, ownG, pe, Bool.true_and, Nd.kind, and_self, if_true, cut_set _ _ _ _ hp, cut_mine, cut_und _ _ hu, wr64 (g + 1) (by omega) (by omega)]
    by_cases h7 : kd = 7
    · subst h7
      simp -implicitDefEqProofs -dsimp only [↓reduceIte, ↓W_seq, go_sem, enc, hne, hmy, ho, hp, hlim, encC, putC_head]
      rw [D_dr (by kernel_rfl) rfl]
      by_cases n1 : 0 < n
      · by_cases n2 : n ≤ 9
        · simp -implicitDefEqProofs -dsimp only [↓reduceIte, ↓W_seq, go_sem, enc, hne, hmy, ho, hp, hlim, encC, putC_head, n1, n2]
          have n3 : n.toNat < e.length := by omega
          have n4 := arrA g e n.toNat n3
          rw [encC] at n4
          have n5 : n < 10 := by omega
          have n6 : 0 ≤ n := by omega
          simp -implicitDefEqProofs -dsimp only [↓reduceIte, ↓W_seq, go_sem, enc, hne, hmy, ho, hp, hlim, encC, Nat.mul_one, Nat.add_comm 1, n4, n5, n6]
          simp only [ownB, ownG, pe, Bool.true_and, Nd.kind, and_self, if_true, if_false, Int.reduceEq, and_false, hset, hset', cut_und _ _ hu, n1, n2, decide_true, decide_false, Bool.false_and, Bool.and_false, Bool.true_and]
        · simp -implicitDefEqProofs -dsimp only [↓reduceIte, ↓W_seq, go_sem, enc, hne, hmy, ho, hp, hlim, encC, putC_head, n1, n2]
          simp only [ownB, ownG, pe, Bool.true_and, Nd.kind, and_self, if_true, if_false, Int.reduceEq, and_false, hset, hset', cut_und _ _ hu, n1, n2, decide_true, decide_false, Bool.false_and, Bool.and_false, Bool.true_and]
      · simp -implicitDefEqProofs -dsimp only [↓reduceIte, ↓W_seq, go_sem, enc, hne, hmy, ho, hp, hlim, encC, putC_head, n1]
        simp only [ownB, ownG, pe, Bool.true_and, Nd.kind, and_self, if_true, if_false, Int.reduceEq, and_false, n1, decide_false, Bool.false_and, hset, hset', cut_und _ _ hu]
    by_cases h8 : kd = 8
    · subst h8
      simp -implicitDefEqProofs -dsimp only [↓reduceIte, ↓W_seq, go_sem, enc, hne, hmy, ho, hp, hlim, encs_len]
      simp only [ownB, ownG, pe, Bool.true_and, Nd.kind, and_self, if_true, if_false, Int.reduceEq, and_false, hset, cut_und _ _ hu]
      refine ⟨congrArg _ ?_, trivial⟩
      rw [Bool.eq_iff_iff]; simp only [bne_iff_ne]; omega
    by_cases h9 : kd = 9
    · subst h9
      simp -implicitDefEqProofs -dsimp only [↓reduceIte, ↓W_seq, go_sem, enc, hne, hmy, ho, hp, hlim, encs_len]
      simp only [ownB, ownG, pe, Bool.true_and, Nd.kind, and_self, if_true, if_false, Int.reduceEq, and_false, hset, cut_und _ _ hu]
      refine ⟨congrArg _ ?_, trivial⟩
      rw [Bool.eq_iff_iff]; simp only [decide_eq_true_eq]; omega
    by_cases h10 : kd = 10
    · subst h10
      have hl1 : l.length = 1 := by
        simp only [needK, Int.reduceEq, or_true, if_true, Int.reduceLE, decide_true, Bool.true_and, bne_eq_false_iff_eq] at hK
        omega
      obtain ⟨y, rfl⟩ := List.length_eq_one_iff.1 hl1
      simp -implicitDefEqProofs -dsimp only [↓reduceIte, ↓W_seq, go_sem, enc, hne, hmy, ho, hp, hlim, encs_len]
      refine (w50 10 c s0 s1 s2 s3 n mn mx [y] lim (d + 1) _ ?_).wh ?_
      · simp only [go_sem, u_tick, u_mine]; exact hun
      simp -implicitDefEqProofs -dsimp only [↓reduceIte, ↓W_seq, go_sem, enc]
      cases hb : boundsB mn mx
      · simp -implicitDefEqProofs -dsimp only [↓reduceIte, ↓W_seq, go_sem, enc]
        simp only [ownB, ownG, pe, Bool.true_and, Nd.kind, and_self, if_true, if_false, Int.reduceEq, and_false, hset, cut_und _ _ hu, hb, Bool.false_and]
      · simp -implicitDefEqProofs -dsimp only [↓reduceIte, ↓W_seq, go_sem, enc, encs, enc_kind]
        refine (w51 4 5 10 y.kind lim (d + 1) _ ?_ _).wh ?_
        · simp only [go_sem, u_tick, u_mine, u_own]; exact hun
        simp -implicitDefEqProofs -dsimp only [↓reduceIte, ↓W_seq, go_sem, enc]
        simp only [ownB, ownG, pe, Bool.true_and, Nd.kind, and_self, if_true, if_false, Int.reduceEq, and_false, hset, cut_und _ _ hu, hb, Bool.false_and]
    simp -implicitDefEqProofs -dsimp only [↓reduceIte, ↓W_seq, go_sem, enc, (beq_eq_false_iff_ne.2 h6 : (kd == 6) = false), (beq_eq_false_iff_ne.2 h7 : (kd == 7) = false), (beq_eq_false_iff_ne.2 h8 : (kd == 8) = false), (beq_eq_false_iff_ne.2 h9 : (kd == 9) = false), (beq_eq_false_iff_ne.2 h10 : (kd == 10) = false)]
    simp only [ownB, ownG, pe, Bool.true_and, Nd.kind, and_self, if_true, if_false, h6, h7, h8, h9, h10, and_false, hset, cut_und _ _ hu]
  · rw [hK] at pe
    simp -implicitDefEqProofs -dsimp only [↓reduceIte, ↓W_seq, go_sem, enc, encs_len, hK]
    simp only [Bool.not_true, Bool.and_false] at pe
    simp only [ownB, ownG, pe, Bool.false_and, Bool.false_eq_true, false_and, if_false, hset, cut_und _ _ hu, and_self]
end Go.Proofs.Tryz.E
