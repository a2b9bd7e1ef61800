/- Walks: what the functions compute. -/
import Derived.Test.YtcgjdgmmnmmifaaGreatDoorS2
import Derived.Test.YtcgjdgmmnmmifaaGreatDoorE38v
set_option linter.unusedVariables false
set_option linter.unusedSimpArgs false
/- The law ScriptEqual: what it computes. -/
namespace Go.Proofs.Tryz.E
open Go.Mv
set_option maxHeartbeats 4000000
set_option maxRecDepth 20000
theorem encSc_len (q : Bool) (l : List It) : (encSc q l).length = 2 := rfl
theorem encSc_take (q : Bool) (l : List It) : (encSc q l).take 2 = encSc q l := rfl
theorem encSc_data (q : Bool) (l : List It) : (encSc q l).all MV.data = true := rfl
theorem encSc_era (q : Bool) (l : List It) : (encSc q l).map MV.era = encSc q l := rfl
theorem likeM_self (a : Cm) : likeM a a = true := by
  have : ∀ x : Nd, sameB x x = true := by
    refine Nd.ind fun kd c s0 s1 s2 s3 n mn mx l ih => ?_
    have : ∀ l : List Nd, (∀ y ∈ l, sameB y y = true) → samesB l l = true := by
      intro l
      induction l with
      | nil => intro _; rfl
      | cons y l ih => intro h; simp only [samesB, h y (List.mem_cons_self ..), ih fun z hz => h z (List.mem_cons_of_mem _ hz), Bool.and_self]
    simp only [sameB, beq_self_eq_true, Bool.and_self, this l ih]
  simp only [likeM, likeG, likeA, beq_self_eq_true, Bool.and_self, Bool.true_and, Bool.and_true, this, decide_true]
theorem likeIs_self : ∀ l : List It, likeIs l l = true
  | [] => rfl
  | x :: l => by simp only [likeIs, likeI, beq_self_eq_true, likeM_self, Bool.and_self, likeIs_self l]
theorem awk_ev (A B : List MV) : tells (mev X 60 2 2 6 [] ((((s0.set ⟨1, 2, 0⟩ A).set ⟨1, 3, 1⟩ B).tick 1).tick 1)) = some true := by kernel_rfl
theorem w712 (A B : List MV) (lim d : Nat) (hlim : lim = 0) (hd : d = 2) : Ret lim d 6 [] ((((s0.set ⟨1, 2, 0⟩ A).set ⟨1, 3, 1⟩ B).tick 1).tick 1) (.bool true) ((((s0.set ⟨1, 2, 0⟩ A).set ⟨1, 3, 1⟩ B).tick 1).tick 1) := by
  subst hlim hd
  exact closed_wf X_ok.keep X_lm rfl (by simp only [u_tick, u_mine]; exact und0 2) (by omega) (awk_ev A B)
theorem w711 (q q' : Bool) (l l' : List It) (lim d : Nat) (hlim : lim = 0) (hd : d = 1) : Ret lim d 5 [.agg (encSc q l), .agg (encSc q' l')] s0 (.bool true) s0 := by
  have hu : s0.Und 1 := und0 1
  have hun : s0.Und 2 := und0 2
  have hct : s0.ct 1 = 0 := rfl
  have hlen := encSc_len
  have hdat := encSc_data
  have hera := encSc_era
  have htak := encSc_take
  have hA := w712 (encSc q l) (encSc q' l') 0 2 rfl rfl
  have hFa := w713 q l 0 2
  have hFb := w713 q' l' 0 2
  unfold Ret
  subst hlim hd
  rw [WF_body (C := X) rfl Go.Proofs.Tryz.func5 rfl (by kernel_rfl)]; simp only [Go.Proofs.Tryz.results5]
  simp -implicitDefEqProofs -dsimp only [↓reduceIte, ↓W_seq, go_sem, enc, hct, hlen, hdat, hera]
  refine hA.wh ?_
  simp -implicitDefEqProofs -dsimp only [↓reduceIte, ↓W_seq, go_sem, enc, hct, hlen, hdat, hera, htak, List.drop_zero]
  refine whmS (hFa _ (by omega) (by simp only [u_tick, u_mine]; exact hun)) fun v s he => ?_
  obtain ⟨⟨f, rfl, hf⟩, rfl⟩ := he
  cases f
  · simp -implicitDefEqProofs -dsimp only [↓reduceIte, ↓W_seq, go_sem, enc, hct, hlen, hdat, hera, htak, List.drop_zero]
    refine hA.wh ?_
    simp -implicitDefEqProofs -dsimp only [↓reduceIte, ↓W_seq, go_sem, enc, cut_und _ _ hu]
  simp -implicitDefEqProofs -dsimp only [↓reduceIte, ↓W_seq, go_sem, enc, hct, hlen, hdat, hera, htak, List.drop_zero]
  refine whmS (hFb _ (by omega) (by simp only [u_tick, u_mine]; exact hun)) fun v s he => ?_
  obtain ⟨⟨f, rfl, hf'⟩, rfl⟩ := he
  cases f
  · simp -implicitDefEqProofs -dsimp only [↓reduceIte, ↓W_seq, go_sem, enc, hct, hlen, hdat, hera, htak, List.drop_zero]
    refine hA.wh ?_
    simp -implicitDefEqProofs -dsimp only [↓reduceIte, ↓W_seq, go_sem, enc, cut_und _ _ hu]
  obtain ⟨a1, a2⟩ := hf rfl
  obtain ⟨b1, b2⟩ := hf' rfl
  simp -implicitDefEqProofs -dsimp only [↓reduceIte, ↓W_seq, go_sem, enc, hct, hlen, hdat, hera, htak, List.drop_zero]
  rw [D_dr (by kernel_rfl) rfl]
  simp -implicitDefEqProofs -dsimp only [↓reduceIte, ↓W_seq, go_sem, enc, hct, hlen, hdat, hera, htak, List.drop_zero]
  refine (w714 q l a1 a2 2 2 _ (Nat.le_refl _) (by simp only [u_tick, u_mine]; exact hun)).wh ?_
  simp -implicitDefEqProofs -dsimp only [↓reduceIte, ↓W_seq, go_sem, enc, hct, hlen, hdat, hera, htak, List.drop_zero]
  refine (w714 q' l' b1 b2 2 2 _ (Nat.le_refl _) (by simp only [u_tick, u_mine]; exact hun)).wh ?_
  simp -implicitDefEqProofs -dsimp only [↓reduceIte, ↓W_seq, go_sem, enc, hct, hlen, hdat, hera, htak, List.drop_zero]
  refine (w715 q q' l l' (by omega) a2 2 2 _ (Nat.le_refl _) (by simp only [u_tick, u_mine]; exact hun)).wh ?_
  simp -implicitDefEqProofs -dsimp only [↓reduceIte, ↓W_seq, go_sem, enc, hct, hlen, hdat, hera, htak, List.drop_zero]
  refine (w718 q q' l l' (by omega) a2 2 2 _ (Nat.le_refl _) (by simp only [u_tick, u_mine]; exact hun)).wh ?_
  simp -implicitDefEqProofs -dsimp only [↓reduceIte, ↓W_seq, go_sem, enc, hct, hlen, hdat, hera, htak, List.drop_zero, beq_self_eq_true]
  refine (w714 q' l' b1 b2 2 2 _ (Nat.le_refl _) (by simp only [u_tick, u_mine]; exact hun)).wh ?_
  simp -implicitDefEqProofs -dsimp only [↓reduceIte, ↓W_seq, go_sem, enc, hct, hlen, hdat, hera, htak, List.drop_zero, beq_self_eq_true]
  refine (w714 q' l' b1 b2 2 2 _ (Nat.le_refl _) (by simp only [u_tick, u_mine]; exact hun)).wh ?_
  simp -implicitDefEqProofs -dsimp only [↓reduceIte, ↓W_seq, go_sem, enc, hct, hlen, hdat, hera, htak, List.drop_zero, beq_self_eq_true]
  refine (w715 q' q' l' l' (by omega) b2 2 2 _ (Nat.le_refl _) (by simp only [u_tick, u_mine]; exact hun)).wh ?_
  simp -implicitDefEqProofs -dsimp only [↓reduceIte, ↓W_seq, go_sem, enc, likeIs_self, beq_self_eq_true, Bool.and_self, cut_und _ _ hu]
end Go.Proofs.Tryz.E
