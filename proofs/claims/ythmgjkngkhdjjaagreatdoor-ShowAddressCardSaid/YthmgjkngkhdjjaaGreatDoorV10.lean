/- Walks: what the functions compute. -/
import Derived.Test.YthmgjkngkhdjjaaGreatDoorWA6
import Derived.Test.YthmgjkngkhdjjaaGreatDoorE38h
set_option linter.unusedVariables false
set_option linter.unusedSimpArgs false
/- The law ShowAddress: what it computes. -/
namespace Go.Proofs.Tryz.E
open Go.Mv
set_option maxHeartbeats 4000000
set_option maxRecDepth 20000
theorem awk_ev (G : List MV) : tells (mev X 60 2 2 4 [] ((s0.set ⟨1, 2, 0⟩ G).tick 1)) = some true := by kernel_rfl
theorem w702 (G : List MV) (lim d : Nat) (hlim : lim = 0) (hd : d = 2) : Ret lim d 4 [] ((s0.set ⟨1, 2, 0⟩ G).tick 1) (.bool true) ((s0.set ⟨1, 2, 0⟩ G).tick 1) := by
 subst hlim hd
 exact closed_wf X_ok.keep X_lm rfl (by simp only [u_tick, u_mine]; exact und0 2) (by omega) (awk_ev G)
theorem w701 (ext : Bool) (k v : Int) (x : Nd) (hx : okc x) (lim d : Nat) (hlim : lim = 0) (hd : d = 1) : Ret lim d 3 [.agg (encA k v x), .bool ext] s0 (.bool true) s0 := by
 have hu : s0.Und 1 := und0 1
 have hun : s0.Und 2 := und0 2
 have hu1 : ∀ cs, ((s0.set ⟨1, 2, 0⟩ cs).tick 1).Und 2 := fun cs => by simp only [u_tick, u_mine]; exact hun
 have hct : s0.ct 1 = 0 := rfl
 have hA := w702 (encA k v x) 0 2 rfl rfl
 have hF := w403 k v x 0 0 zn false 0 2
 have hfz : few zn = true := by decide +kernel
 rw [hfz, Bool.and_true] at hF
 have hT := fun h => w412 k v x h 0 2
 have hE := fun h => w703 ext k v x hx h 0 2 (by omega)
 have h15 := fun h => w415 k v x h 0 2
 have hfs := fun h => few_sz (x := x) h
 have hR := fun t (h : AdT ext k v x t) => w611 t (ad_len h) ext 0 (Nat.zero_le _)
 have hS := fun h h0 => w406 k v x h 0 0 zn h0 false k v x 0 0 zn false 0 2
 have hl := like_refl k v x 0 0 zn false
 have hlen : (encA k v x).length = 12 := adV_len (k, v, x)
 have htak : (encA k v x).take 12 = encA k v x := adV_take (k, v, x)
 have hdat : (encA k v x).all MV.data = true := adV_data (k, v, x)
 have hera : (encA k v x).map MV.era = encA k v x := adV_era (k, v, x)
 unfold Ret
 subst hlim hd
 obtain ⟨kd, c, a0, a1, a2, a3, n, mn, mx, l⟩ := x
 rw [WF_body (C := X) rfl func3 rfl (by kernel_rfl)]; simp only [results3]
 simp -implicitDefEqProofs -dsimp only [go_sem, hct]
 refine (hA).wh ?_
 simp -implicitDefEqProofs -dsimp only [go_sem, hlen, htak, List.drop_zero]
 refine (hF _ (by omega) (hu1 _)).wh ?_
 cases hf : few (.mk kd c a0 a1 a2 a3 n mn mx l)
 ·simp -implicitDefEqProofs -dsimp only [go_sem]
  refine (hA).wh ?_
  simp -implicitDefEqProofs -dsimp only [go_sem, cut_und _ _ hu]
 have hsz := hfs hf
 simp -implicitDefEqProofs -dsimp only [go_sem, hlen, htak, hera, List.drop_zero]
 refine (hT hsz _ (by omega) (hu1 _)).wh ?_
 simp -implicitDefEqProofs -dsimp only [go_sem, hera]
 refine WF.whm (hE hsz _ (hu1 _)) fun r s hr => ?_
 obtain ⟨hr, rfl⟩ := hr
 rcases hr with ⟨hfo, rfl⟩ | ⟨hfo, rfl⟩ | ⟨t, hfo, rfl, ht⟩
 ·unfold printV
  simp -implicitDefEqProofs -dsimp only [go_sem, hlen, htak, hera, List.drop_zero]
  refine (h15 hsz _ (by omega) (hu1 _)).wh ?_
  simp -implicitDefEqProofs -dsimp only [go_sem, hfo, beq_self_eq_true, cut_und _ _ hu]
 ·unfold printV
  simp -implicitDefEqProofs -dsimp only [go_sem, hlen, htak, hera, List.drop_zero]
  refine (h15 hsz _ (by omega) (hu1 _)).wh ?_
  simp -implicitDefEqProofs -dsimp only [go_sem, hfo, beq_self_eq_true, cut_und _ _ hu]
 ·unfold printV
  simp -implicitDefEqProofs -dsimp only [go_sem, hlen, htak, hera, List.drop_zero]
  refine (h15 hsz _ (by omega) (hu1 _)).wh ?_
  simp -implicitDefEqProofs -dsimp only [go_sem, hfo]
  have hrd : rangeR ext t 0 = ((((k, v, .mk kd c a0 a1 a2 a3 n mn mx l), (0, 0, zn), false), 0), t.length) := ad_rd ht
  refine (hR t ht ⟨1, 47, 1⟩ 0 2 (by decide) (by decide) _ (by simp only [u_tick, u_mine]; exact hun) rfl).wh ?_
  rw [hrd]
  simp -implicitDefEqProofs -dsimp only [go_sem, enc, hct, rgT, rgV, encG, encA, zn, encs, List.drop_zero]
  refine (hS hsz (by rw [sz_zn]; decide) _ (by omega) (by simp only [u_set _ _ _ _ (show (⟨1, 47, 1⟩ : Mv.Loc).d < 2 by decide), u_tick, u_mine]; exact hun)).wh ?_
  simp -implicitDefEqProofs -dsimp only [go_sem, hl]
  refine (w618 t t.length ⟨1, 47, 1⟩ 0 2 (by decide) _ (by simp only [u_set _ _ _ _ (show (⟨1, 47, 1⟩ : Mv.Loc).d < 2 by decide), u_tick, u_mine]; exact hun) rfl).wh ?_
  simp -implicitDefEqProofs -dsimp only [go_sem, Nat.le_refl, decide_true, cut_und _ _ hu]
end Go.Proofs.Tryz.E
