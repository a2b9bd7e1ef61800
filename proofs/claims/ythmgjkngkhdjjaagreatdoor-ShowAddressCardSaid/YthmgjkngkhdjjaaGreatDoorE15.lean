/- Walks: what the functions compute. -/
import Derived.Test.YthmgjkngkhdjjaaGreatDoorWE14
set_option linter.unusedVariables false
set_option linter.unusedSimpArgs false
/- Classes; what begins a text, what is cut. -/
namespace Go.Proofs.Tryz.E
open Go.Mv
set_option maxHeartbeats 4000000
set_option maxRecDepth 20000
theorem w90 (n : List UInt8) (lim d : Nat) (σ : Sto) (hu : σ.Und d) : Ret lim d 171 [.str n] σ (.str (rangesS n)) σ := by
 unfold Ret
 rw [WF_body (C := X) rfl func171 rfl (by kernel_rfl)]; simp only [results171]
 by_cases h0 : n = [117, 112, 112, 101, 114]
 ·have e : rangesS n = [65, 90] := by unfold rangesS; rw [if_pos h0]
  rw [e]
  simp -implicitDefEqProofs -dsimp only [go_sem, cut_und _ _ hu, (beq_iff_eq.2 h0 : (n == [117, 112, 112, 101, 114]) = true)]
 by_cases h1 : n = [108, 111, 119, 101, 114]
 ·have e : rangesS n = [97, 122] := by unfold rangesS; rw [if_neg h0, if_pos h1]
  rw [e]
  simp -implicitDefEqProofs -dsimp only [go_sem, cut_und _ _ hu, (beq_eq_false_iff_ne.2 h0 : (n == [117, 112, 112, 101, 114]) = false), (beq_iff_eq.2 h1 : (n == [108, 111, 119, 101, 114]) = true)]
 by_cases h2 : n = [97, 108, 112, 104, 97]
 ·have e : rangesS n = [65, 90, 97, 122] := by unfold rangesS; rw [if_neg h0, if_neg h1, if_pos h2]
  rw [e]
  simp -implicitDefEqProofs -dsimp only [go_sem, cut_und _ _ hu, (beq_eq_false_iff_ne.2 h0 : (n == [117, 112, 112, 101, 114]) = false), (beq_eq_false_iff_ne.2 h1 : (n == [108, 111, 119, 101, 114]) = false), (beq_iff_eq.2 h2 : (n == [97, 108, 112, 104, 97]) = true)]
 by_cases h3 : n = [100, 105, 103, 105, 116]
 ·have e : rangesS n = [48, 57] := by unfold rangesS; rw [if_neg h0, if_neg h1, if_neg h2, if_pos h3]
  rw [e]
  simp -implicitDefEqProofs -dsimp only [go_sem, cut_und _ _ hu, (beq_eq_false_iff_ne.2 h0 : (n == [117, 112, 112, 101, 114]) = false), (beq_eq_false_iff_ne.2 h1 : (n == [108, 111, 119, 101, 114]) = false), (beq_eq_false_iff_ne.2 h2 : (n == [97, 108, 112, 104, 97]) = false), (beq_iff_eq.2 h3 : (n == [100, 105, 103, 105, 116]) = true)]
 by_cases h4 : n = [97, 108, 110, 117, 109]
 ·have e : rangesS n = [65, 90, 97, 122, 48, 57] := by unfold rangesS; rw [if_neg h0, if_neg h1, if_neg h2, if_neg h3, if_pos h4]
  rw [e]
  simp -implicitDefEqProofs -dsimp only [go_sem, cut_und _ _ hu, (beq_eq_false_iff_ne.2 h0 : (n == [117, 112, 112, 101, 114]) = false), (beq_eq_false_iff_ne.2 h1 : (n == [108, 111, 119, 101, 114]) = false), (beq_eq_false_iff_ne.2 h2 : (n == [97, 108, 112, 104, 97]) = false), (beq_eq_false_iff_ne.2 h3 : (n == [100, 105, 103, 105, 116]) = false), (beq_iff_eq.2 h4 : (n == [97, 108, 110, 117, 109]) = true)]
 by_cases h5 : n = [120, 100, 105, 103, 105, 116]
 ·have e : rangesS n = [48, 57, 65, 70, 97, 102] := by unfold rangesS; rw [if_neg h0, if_neg h1, if_neg h2, if_neg h3, if_neg h4, if_pos h5]
  rw [e]
  simp -implicitDefEqProofs -dsimp only [go_sem, cut_und _ _ hu, (beq_eq_false_iff_ne.2 h0 : (n == [117, 112, 112, 101, 114]) = false), (beq_eq_false_iff_ne.2 h1 : (n == [108, 111, 119, 101, 114]) = false), (beq_eq_false_iff_ne.2 h2 : (n == [97, 108, 112, 104, 97]) = false), (beq_eq_false_iff_ne.2 h3 : (n == [100, 105, 103, 105, 116]) = false), (beq_eq_false_iff_ne.2 h4 : (n == [97, 108, 110, 117, 109]) = false), (beq_iff_eq.2 h5 : (n == [120, 100, 105, 103, 105, 116]) = true)]
 by_cases h6 : n = [98, 108, 97, 110, 107]
 ·have e : rangesS n = [32, 32, 9, 9] := by unfold rangesS; rw [if_neg h0, if_neg h1, if_neg h2, if_neg h3, if_neg h4, if_neg h5, if_pos h6]
  rw [e]
  simp -implicitDefEqProofs -dsimp only [go_sem, cut_und _ _ hu, (beq_eq_false_iff_ne.2 h0 : (n == [117, 112, 112, 101, 114]) = false), (beq_eq_false_iff_ne.2 h1 : (n == [108, 111, 119, 101, 114]) = false), (beq_eq_false_iff_ne.2 h2 : (n == [97, 108, 112, 104, 97]) = false), (beq_eq_false_iff_ne.2 h3 : (n == [100, 105, 103, 105, 116]) = false), (beq_eq_false_iff_ne.2 h4 : (n == [97, 108, 110, 117, 109]) = false), (beq_eq_false_iff_ne.2 h5 : (n == [120, 100, 105, 103, 105, 116]) = false), (beq_iff_eq.2 h6 : (n == [98, 108, 97, 110, 107]) = true)]
 by_cases h7 : n = [115, 112, 97, 99, 101]
 ·have e : rangesS n = [32, 32, 9, 13] := by unfold rangesS; rw [if_neg h0, if_neg h1, if_neg h2, if_neg h3, if_neg h4, if_neg h5, if_neg h6, if_pos h7]
  rw [e]
  simp -implicitDefEqProofs -dsimp only [go_sem, cut_und _ _ hu, (beq_eq_false_iff_ne.2 h0 : (n == [117, 112, 112, 101, 114]) = false), (beq_eq_false_iff_ne.2 h1 : (n == [108, 111, 119, 101, 114]) = false), (beq_eq_false_iff_ne.2 h2 : (n == [97, 108, 112, 104, 97]) = false), (beq_eq_false_iff_ne.2 h3 : (n == [100, 105, 103, 105, 116]) = false), (beq_eq_false_iff_ne.2 h4 : (n == [97, 108, 110, 117, 109]) = false), (beq_eq_false_iff_ne.2 h5 : (n == [120, 100, 105, 103, 105, 116]) = false), (beq_eq_false_iff_ne.2 h6 : (n == [98, 108, 97, 110, 107]) = false), (beq_iff_eq.2 h7 : (n == [115, 112, 97, 99, 101]) = true)]
 by_cases h8 : n = [99, 110, 116, 114, 108]
 ·have e : rangesS n = [0, 31, 127, 127] := by unfold rangesS; rw [if_neg h0, if_neg h1, if_neg h2, if_neg h3, if_neg h4, if_neg h5, if_neg h6, if_neg h7, if_pos h8]
  rw [e]
  simp -implicitDefEqProofs -dsimp only [go_sem, cut_und _ _ hu, (beq_eq_false_iff_ne.2 h0 : (n == [117, 112, 112, 101, 114]) = false), (beq_eq_false_iff_ne.2 h1 : (n == [108, 111, 119, 101, 114]) = false), (beq_eq_false_iff_ne.2 h2 : (n == [97, 108, 112, 104, 97]) = false), (beq_eq_false_iff_ne.2 h3 : (n == [100, 105, 103, 105, 116]) = false), (beq_eq_false_iff_ne.2 h4 : (n == [97, 108, 110, 117, 109]) = false), (beq_eq_false_iff_ne.2 h5 : (n == [120, 100, 105, 103, 105, 116]) = false), (beq_eq_false_iff_ne.2 h6 : (n == [98, 108, 97, 110, 107]) = false), (beq_eq_false_iff_ne.2 h7 : (n == [115, 112, 97, 99, 101]) = false), (beq_iff_eq.2 h8 : (n == [99, 110, 116, 114, 108]) = true)]
 by_cases h9 : n = [112, 114, 105, 110, 116]
 ·have e : rangesS n = [32, 126] := by unfold rangesS; rw [if_neg h0, if_neg h1, if_neg h2, if_neg h3, if_neg h4, if_neg h5, if_neg h6, if_neg h7, if_neg h8, if_pos h9]
  rw [e]
  simp -implicitDefEqProofs -dsimp only [go_sem, cut_und _ _ hu, (beq_eq_false_iff_ne.2 h0 : (n == [117, 112, 112, 101, 114]) = false), (beq_eq_false_iff_ne.2 h1 : (n == [108, 111, 119, 101, 114]) = false), (beq_eq_false_iff_ne.2 h2 : (n == [97, 108, 112, 104, 97]) = false), (beq_eq_false_iff_ne.2 h3 : (n == [100, 105, 103, 105, 116]) = false), (beq_eq_false_iff_ne.2 h4 : (n == [97, 108, 110, 117, 109]) = false), (beq_eq_false_iff_ne.2 h5 : (n == [120, 100, 105, 103, 105, 116]) = false), (beq_eq_false_iff_ne.2 h6 : (n == [98, 108, 97, 110, 107]) = false), (beq_eq_false_iff_ne.2 h7 : (n == [115, 112, 97, 99, 101]) = false), (beq_eq_false_iff_ne.2 h8 : (n == [99, 110, 116, 114, 108]) = false), (beq_iff_eq.2 h9 : (n == [112, 114, 105, 110, 116]) = true)]
 by_cases h10 : n = [103, 114, 97, 112, 104]
 ·have e : rangesS n = [33, 126] := by unfold rangesS; rw [if_neg h0, if_neg h1, if_neg h2, if_neg h3, if_neg h4, if_neg h5, if_neg h6, if_neg h7, if_neg h8, if_neg h9, if_pos h10]
  rw [e]
  simp -implicitDefEqProofs -dsimp only [go_sem, cut_und _ _ hu, (beq_eq_false_iff_ne.2 h0 : (n == [117, 112, 112, 101, 114]) = false), (beq_eq_false_iff_ne.2 h1 : (n == [108, 111, 119, 101, 114]) = false), (beq_eq_false_iff_ne.2 h2 : (n == [97, 108, 112, 104, 97]) = false), (beq_eq_false_iff_ne.2 h3 : (n == [100, 105, 103, 105, 116]) = false), (beq_eq_false_iff_ne.2 h4 : (n == [97, 108, 110, 117, 109]) = false), (beq_eq_false_iff_ne.2 h5 : (n == [120, 100, 105, 103, 105, 116]) = false), (beq_eq_false_iff_ne.2 h6 : (n == [98, 108, 97, 110, 107]) = false), (beq_eq_false_iff_ne.2 h7 : (n == [115, 112, 97, 99, 101]) = false), (beq_eq_false_iff_ne.2 h8 : (n == [99, 110, 116, 114, 108]) = false), (beq_eq_false_iff_ne.2 h9 : (n == [112, 114, 105, 110, 116]) = false), (beq_iff_eq.2 h10 : (n == [103, 114, 97, 112, 104]) = true)]
 by_cases h11 : n = [112, 117, 110, 99, 116]
 ·have e : rangesS n = [33, 47, 58, 64, 91, 96, 123, 126] := by unfold rangesS; rw [if_neg h0, if_neg h1, if_neg h2, if_neg h3, if_neg h4, if_neg h5, if_neg h6, if_neg h7, if_neg h8, if_neg h9, if_neg h10, if_pos h11]
  rw [e]
  simp -implicitDefEqProofs -dsimp only [go_sem, cut_und _ _ hu, (beq_eq_false_iff_ne.2 h0 : (n == [117, 112, 112, 101, 114]) = false), (beq_eq_false_iff_ne.2 h1 : (n == [108, 111, 119, 101, 114]) = false), (beq_eq_false_iff_ne.2 h2 : (n == [97, 108, 112, 104, 97]) = false), (beq_eq_false_iff_ne.2 h3 : (n == [100, 105, 103, 105, 116]) = false), (beq_eq_false_iff_ne.2 h4 : (n == [97, 108, 110, 117, 109]) = false), (beq_eq_false_iff_ne.2 h5 : (n == [120, 100, 105, 103, 105, 116]) = false), (beq_eq_false_iff_ne.2 h6 : (n == [98, 108, 97, 110, 107]) = false), (beq_eq_false_iff_ne.2 h7 : (n == [115, 112, 97, 99, 101]) = false), (beq_eq_false_iff_ne.2 h8 : (n == [99, 110, 116, 114, 108]) = false), (beq_eq_false_iff_ne.2 h9 : (n == [112, 114, 105, 110, 116]) = false), (beq_eq_false_iff_ne.2 h10 : (n == [103, 114, 97, 112, 104]) = false), (beq_iff_eq.2 h11 : (n == [112, 117, 110, 99, 116]) = true)]
 have e : rangesS n = [] := by unfold rangesS; rw [if_neg h0, if_neg h1, if_neg h2, if_neg h3, if_neg h4, if_neg h5, if_neg h6, if_neg h7, if_neg h8, if_neg h9, if_neg h10, if_neg h11]
 rw [e]
 simp -implicitDefEqProofs -dsimp only [go_sem, cut_und _ _ hu, (beq_eq_false_iff_ne.2 h0 : (n == [117, 112, 112, 101, 114]) = false), (beq_eq_false_iff_ne.2 h1 : (n == [108, 111, 119, 101, 114]) = false), (beq_eq_false_iff_ne.2 h2 : (n == [97, 108, 112, 104, 97]) = false), (beq_eq_false_iff_ne.2 h3 : (n == [100, 105, 103, 105, 116]) = false), (beq_eq_false_iff_ne.2 h4 : (n == [97, 108, 110, 117, 109]) = false), (beq_eq_false_iff_ne.2 h5 : (n == [120, 100, 105, 103, 105, 116]) = false), (beq_eq_false_iff_ne.2 h6 : (n == [98, 108, 97, 110, 107]) = false), (beq_eq_false_iff_ne.2 h7 : (n == [115, 112, 97, 99, 101]) = false), (beq_eq_false_iff_ne.2 h8 : (n == [99, 110, 116, 114, 108]) = false), (beq_eq_false_iff_ne.2 h9 : (n == [112, 114, 105, 110, 116]) = false), (beq_eq_false_iff_ne.2 h10 : (n == [103, 114, 97, 112, 104]) = false), (beq_eq_false_iff_ne.2 h11 : (n == [112, 117, 110, 99, 116]) = false)]
theorem withR_two (s : List Int) (a b : UInt8) (r : List UInt8) : withR s (a :: b :: r) = withR (withS s a.toNat b.toNat) r := rfl
theorem withR_nil (s : List Int) : withR s [] = s := rfl
theorem wl (s : List Int) (a b : Nat) (h : s.length = 4) : (withS s a b).length = 4 := by rw [withS_len, h]
theorem xd : withS (withS (withS z4 65 70) 97 102) 48 57 = withS (withS (withS z4 48 57) 65 70) 97 102 := by kernel_rfl
theorem w79 (n : List UInt8) (lim d : Nat) (σ : Sto) (hu : σ.Und d) : Ret lim d 163 [.str n] σ (.tup [.agg (encS (classS n)), .bool (!(rangesS n == []))]) σ := by
 have hun := und_succ hu
 unfold Ret
 rw [WF_body (C := X) rfl func163 rfl (by kernel_rfl)]; simp only [results163]
 by_cases h0 : n = [117, 112, 112, 101, 114]
 ·have e : rangesS n = [65, 90] := by unfold rangesS; rw [if_pos h0]
  unfold classS
  rw [e]
  simp -implicitDefEqProofs -dsimp only [go_sem, (beq_iff_eq.2 h0 : (n == [117, 112, 112, 101, 114]) = true)]
  refine (w78 z4 rfl 65 90 (by decide) (by decide) lim (d + 1) _ ?_).wh ?_
  ·simp only [go_sem, u_tick, u_mine]; exact hun
  simp -implicitDefEqProofs -dsimp only [go_sem, cut_und _ _ hu]
  rw [encS_put _ _ (by rw [(wl _ _ _ rfl)]; rfl), encS_take _ (wl _ _ _ rfl), encS_frz]
  refine ⟨(wl _ _ _ rfl), by rw [encS_len, (wl _ _ _ rfl)]; exact Nat.le_refl 4, _, rfl, ?_⟩
  simp only [withR_two, withR_nil]
  rfl
 by_cases h1 : n = [108, 111, 119, 101, 114]
 ·have e : rangesS n = [97, 122] := by unfold rangesS; rw [if_neg h0, if_pos h1]
  unfold classS
  rw [e]
  simp -implicitDefEqProofs -dsimp only [go_sem, (beq_eq_false_iff_ne.2 h0 : (n == [117, 112, 112, 101, 114]) = false), (beq_iff_eq.2 h1 : (n == [108, 111, 119, 101, 114]) = true)]
  refine (w78 z4 rfl 97 122 (by decide) (by decide) lim (d + 1) _ ?_).wh ?_
  ·simp only [go_sem, u_tick, u_mine]; exact hun
  simp -implicitDefEqProofs -dsimp only [go_sem, cut_und _ _ hu]
  rw [encS_put _ _ (by rw [(wl _ _ _ rfl)]; rfl), encS_take _ (wl _ _ _ rfl), encS_frz]
  refine ⟨(wl _ _ _ rfl), by rw [encS_len, (wl _ _ _ rfl)]; exact Nat.le_refl 4, _, rfl, ?_⟩
  simp only [withR_two, withR_nil]
  rfl
 by_cases h2 : n = [97, 108, 112, 104, 97]
 ·have e : rangesS n = [65, 90, 97, 122] := by unfold rangesS; rw [if_neg h0, if_neg h1, if_pos h2]
  unfold classS
  rw [e]
  simp -implicitDefEqProofs -dsimp only [go_sem, (beq_eq_false_iff_ne.2 h0 : (n == [117, 112, 112, 101, 114]) = false), (beq_eq_false_iff_ne.2 h1 : (n == [108, 111, 119, 101, 114]) = false), (beq_iff_eq.2 h2 : (n == [97, 108, 112, 104, 97]) = true)]
  refine (w78 z4 rfl 65 90 (by decide) (by decide) lim (d + 1) _ ?_).wh ?_
  ·simp only [go_sem, u_tick, u_mine]; exact hun
  simp -implicitDefEqProofs -dsimp only [go_sem]
  refine (w78 (withS z4 65 90) (wl _ _ _ rfl) 97 122 (by decide) (by decide) lim (d + 1) _ ?_).wh ?_
  ·simp only [go_sem, u_tick, u_mine]; exact hun
  simp -implicitDefEqProofs -dsimp only [go_sem, cut_und _ _ hu]
  rw [encS_put _ _ (by rw [(wl _ _ _ (wl _ _ _ rfl))]; rfl), encS_take _ (wl _ _ _ (wl _ _ _ rfl)), encS_frz]
  refine ⟨(wl _ _ _ (wl _ _ _ rfl)), by rw [encS_len, (wl _ _ _ (wl _ _ _ rfl))]; exact Nat.le_refl 4, _, rfl, ?_⟩
  simp only [withR_two, withR_nil]
  rfl
 by_cases h3 : n = [100, 105, 103, 105, 116]
 ·have e : rangesS n = [48, 57] := by unfold rangesS; rw [if_neg h0, if_neg h1, if_neg h2, if_pos h3]
  unfold classS
  rw [e]
  simp -implicitDefEqProofs -dsimp only [go_sem, (beq_eq_false_iff_ne.2 h0 : (n == [117, 112, 112, 101, 114]) = false), (beq_eq_false_iff_ne.2 h1 : (n == [108, 111, 119, 101, 114]) = false), (beq_eq_false_iff_ne.2 h2 : (n == [97, 108, 112, 104, 97]) = false), (beq_iff_eq.2 h3 : (n == [100, 105, 103, 105, 116]) = true)]
  refine (w78 z4 rfl 48 57 (by decide) (by decide) lim (d + 1) _ ?_).wh ?_
  ·simp only [go_sem, u_tick, u_mine]; exact hun
  simp -implicitDefEqProofs -dsimp only [go_sem, cut_und _ _ hu]
  rw [encS_put _ _ (by rw [(wl _ _ _ rfl)]; rfl), encS_take _ (wl _ _ _ rfl), encS_frz]
  refine ⟨(wl _ _ _ rfl), by rw [encS_len, (wl _ _ _ rfl)]; exact Nat.le_refl 4, _, rfl, ?_⟩
  simp only [withR_two, withR_nil]
  rfl
 by_cases h4 : n = [97, 108, 110, 117, 109]
 ·have e : rangesS n = [65, 90, 97, 122, 48, 57] := by unfold rangesS; rw [if_neg h0, if_neg h1, if_neg h2, if_neg h3, if_pos h4]
  unfold classS
  rw [e]
  simp -implicitDefEqProofs -dsimp only [go_sem, (beq_eq_false_iff_ne.2 h0 : (n == [117, 112, 112, 101, 114]) = false), (beq_eq_false_iff_ne.2 h1 : (n == [108, 111, 119, 101, 114]) = false), (beq_eq_false_iff_ne.2 h2 : (n == [97, 108, 112, 104, 97]) = false), (beq_eq_false_iff_ne.2 h3 : (n == [100, 105, 103, 105, 116]) = false), (beq_iff_eq.2 h4 : (n == [97, 108, 110, 117, 109]) = true)]
  refine (w78 z4 rfl 65 90 (by decide) (by decide) lim (d + 1) _ ?_).wh ?_
  ·simp only [go_sem, u_tick, u_mine]; exact hun
  simp -implicitDefEqProofs -dsimp only [go_sem]
  refine (w78 (withS z4 65 90) (wl _ _ _ rfl) 97 122 (by decide) (by decide) lim (d + 1) _ ?_).wh ?_
  ·simp only [go_sem, u_tick, u_mine]; exact hun
  simp -implicitDefEqProofs -dsimp only [go_sem]
  refine (w78 (withS (withS z4 65 90) 97 122) (wl _ _ _ (wl _ _ _ rfl)) 48 57 (by decide) (by decide) lim (d + 1) _ ?_).wh ?_
  ·simp only [go_sem, u_tick, u_mine]; exact hun
  simp -implicitDefEqProofs -dsimp only [go_sem, cut_und _ _ hu]
  rw [encS_put _ _ (by rw [(wl _ _ _ (wl _ _ _ (wl _ _ _ rfl)))]; rfl), encS_take _ (wl _ _ _ (wl _ _ _ (wl _ _ _ rfl))), encS_frz]
  refine ⟨(wl _ _ _ (wl _ _ _ (wl _ _ _ rfl))), by rw [encS_len, (wl _ _ _ (wl _ _ _ (wl _ _ _ rfl)))]; exact Nat.le_refl 4, _, rfl, ?_⟩
  simp only [withR_two, withR_nil]
  rfl
 by_cases h5 : n = [120, 100, 105, 103, 105, 116]
 ·have e : rangesS n = [48, 57, 65, 70, 97, 102] := by unfold rangesS; rw [if_neg h0, if_neg h1, if_neg h2, if_neg h3, if_neg h4, if_pos h5]
  unfold classS
  rw [e]
  simp -implicitDefEqProofs -dsimp only [go_sem, (beq_eq_false_iff_ne.2 h0 : (n == [117, 112, 112, 101, 114]) = false), (beq_eq_false_iff_ne.2 h1 : (n == [108, 111, 119, 101, 114]) = false), (beq_eq_false_iff_ne.2 h2 : (n == [97, 108, 112, 104, 97]) = false), (beq_eq_false_iff_ne.2 h3 : (n == [100, 105, 103, 105, 116]) = false), (beq_eq_false_iff_ne.2 h4 : (n == [97, 108, 110, 117, 109]) = false), (beq_iff_eq.2 h5 : (n == [120, 100, 105, 103, 105, 116]) = true)]
  refine (w78 z4 rfl 65 70 (by decide) (by decide) lim (d + 1) _ ?_).wh ?_
  ·simp only [go_sem, u_tick, u_mine]; exact hun
  simp -implicitDefEqProofs -dsimp only [go_sem]
  refine (w78 (withS z4 65 70) (wl _ _ _ rfl) 97 102 (by decide) (by decide) lim (d + 1) _ ?_).wh ?_
  ·simp only [go_sem, u_tick, u_mine]; exact hun
  simp -implicitDefEqProofs -dsimp only [go_sem]
  refine (w78 (withS (withS z4 65 70) 97 102) (wl _ _ _ (wl _ _ _ rfl)) 48 57 (by decide) (by decide) lim (d + 1) _ ?_).wh ?_
  ·simp only [go_sem, u_tick, u_mine]; exact hun
  simp -implicitDefEqProofs -dsimp only [go_sem, cut_und _ _ hu]
  rw [encS_put _ _ (by rw [(wl _ _ _ (wl _ _ _ (wl _ _ _ rfl)))]; rfl), encS_take _ (wl _ _ _ (wl _ _ _ (wl _ _ _ rfl))), encS_frz]
  refine ⟨(wl _ _ _ (wl _ _ _ (wl _ _ _ rfl))), by rw [encS_len, (wl _ _ _ (wl _ _ _ (wl _ _ _ rfl)))]; exact Nat.le_refl 4, _, rfl, ?_⟩
  simp only [withR_two, withR_nil]
  rw [xd]
  rfl
 by_cases h6 : n = [98, 108, 97, 110, 107]
 ·have e : rangesS n = [32, 32, 9, 9] := by unfold rangesS; rw [if_neg h0, if_neg h1, if_neg h2, if_neg h3, if_neg h4, if_neg h5, if_pos h6]
  unfold classS
  rw [e]
  simp -implicitDefEqProofs -dsimp only [go_sem, (beq_eq_false_iff_ne.2 h0 : (n == [117, 112, 112, 101, 114]) = false), (beq_eq_false_iff_ne.2 h1 : (n == [108, 111, 119, 101, 114]) = false), (beq_eq_false_iff_ne.2 h2 : (n == [97, 108, 112, 104, 97]) = false), (beq_eq_false_iff_ne.2 h3 : (n == [100, 105, 103, 105, 116]) = false), (beq_eq_false_iff_ne.2 h4 : (n == [97, 108, 110, 117, 109]) = false), (beq_eq_false_iff_ne.2 h5 : (n == [120, 100, 105, 103, 105, 116]) = false), (beq_iff_eq.2 h6 : (n == [98, 108, 97, 110, 107]) = true)]
  refine (w78 z4 rfl 32 32 (by decide) (by decide) lim (d + 1) _ ?_).wh ?_
  ·simp only [go_sem, u_tick, u_mine]; exact hun
  simp -implicitDefEqProofs -dsimp only [go_sem]
  refine (w78 (withS z4 32 32) (wl _ _ _ rfl) 9 9 (by decide) (by decide) lim (d + 1) _ ?_).wh ?_
  ·simp only [go_sem, u_tick, u_mine]; exact hun
  simp -implicitDefEqProofs -dsimp only [go_sem, cut_und _ _ hu]
  rw [encS_put _ _ (by rw [(wl _ _ _ (wl _ _ _ rfl))]; rfl), encS_take _ (wl _ _ _ (wl _ _ _ rfl)), encS_frz]
  refine ⟨(wl _ _ _ (wl _ _ _ rfl)), by rw [encS_len, (wl _ _ _ (wl _ _ _ rfl))]; exact Nat.le_refl 4, _, rfl, ?_⟩
  simp only [withR_two, withR_nil]
  rfl
 by_cases h7 : n = [115, 112, 97, 99, 101]
 ·have e : rangesS n = [32, 32, 9, 13] := by unfold rangesS; rw [if_neg h0, if_neg h1, if_neg h2, if_neg h3, if_neg h4, if_neg h5, if_neg h6, if_pos h7]
  unfold classS
  rw [e]
  simp -implicitDefEqProofs -dsimp only [go_sem, (beq_eq_false_iff_ne.2 h0 : (n == [117, 112, 112, 101, 114]) = false), (beq_eq_false_iff_ne.2 h1 : (n == [108, 111, 119, 101, 114]) = false), (beq_eq_false_iff_ne.2 h2 : (n == [97, 108, 112, 104, 97]) = false), (beq_eq_false_iff_ne.2 h3 : (n == [100, 105, 103, 105, 116]) = false), (beq_eq_false_iff_ne.2 h4 : (n == [97, 108, 110, 117, 109]) = false), (beq_eq_false_iff_ne.2 h5 : (n == [120, 100, 105, 103, 105, 116]) = false), (beq_eq_false_iff_ne.2 h6 : (n == [98, 108, 97, 110, 107]) = false), (beq_iff_eq.2 h7 : (n == [115, 112, 97, 99, 101]) = true)]
  refine (w78 z4 rfl 32 32 (by decide) (by decide) lim (d + 1) _ ?_).wh ?_
  ·simp only [go_sem, u_tick, u_mine]; exact hun
  simp -implicitDefEqProofs -dsimp only [go_sem]
  refine (w78 (withS z4 32 32) (wl _ _ _ rfl) 9 13 (by decide) (by decide) lim (d + 1) _ ?_).wh ?_
  ·simp only [go_sem, u_tick, u_mine]; exact hun
  simp -implicitDefEqProofs -dsimp only [go_sem, cut_und _ _ hu]
  rw [encS_put _ _ (by rw [(wl _ _ _ (wl _ _ _ rfl))]; rfl), encS_take _ (wl _ _ _ (wl _ _ _ rfl)), encS_frz]
  refine ⟨(wl _ _ _ (wl _ _ _ rfl)), by rw [encS_len, (wl _ _ _ (wl _ _ _ rfl))]; exact Nat.le_refl 4, _, rfl, ?_⟩
  simp only [withR_two, withR_nil]
  rfl
 by_cases h8 : n = [99, 110, 116, 114, 108]
 ·have e : rangesS n = [0, 31, 127, 127] := by unfold rangesS; rw [if_neg h0, if_neg h1, if_neg h2, if_neg h3, if_neg h4, if_neg h5, if_neg h6, if_neg h7, if_pos h8]
  unfold classS
  rw [e]
  simp -implicitDefEqProofs -dsimp only [go_sem, (beq_eq_false_iff_ne.2 h0 : (n == [117, 112, 112, 101, 114]) = false), (beq_eq_false_iff_ne.2 h1 : (n == [108, 111, 119, 101, 114]) = false), (beq_eq_false_iff_ne.2 h2 : (n == [97, 108, 112, 104, 97]) = false), (beq_eq_false_iff_ne.2 h3 : (n == [100, 105, 103, 105, 116]) = false), (beq_eq_false_iff_ne.2 h4 : (n == [97, 108, 110, 117, 109]) = false), (beq_eq_false_iff_ne.2 h5 : (n == [120, 100, 105, 103, 105, 116]) = false), (beq_eq_false_iff_ne.2 h6 : (n == [98, 108, 97, 110, 107]) = false), (beq_eq_false_iff_ne.2 h7 : (n == [115, 112, 97, 99, 101]) = false), (beq_iff_eq.2 h8 : (n == [99, 110, 116, 114, 108]) = true)]
  refine (w78 z4 rfl 0 31 (by decide) (by decide) lim (d + 1) _ ?_).wh ?_
  ·simp only [go_sem, u_tick, u_mine]; exact hun
  simp -implicitDefEqProofs -dsimp only [go_sem]
  refine (w78 (withS z4 0 31) (wl _ _ _ rfl) 127 127 (by decide) (by decide) lim (d + 1) _ ?_).wh ?_
  ·simp only [go_sem, u_tick, u_mine]; exact hun
  simp -implicitDefEqProofs -dsimp only [go_sem, cut_und _ _ hu]
  rw [encS_put _ _ (by rw [(wl _ _ _ (wl _ _ _ rfl))]; rfl), encS_take _ (wl _ _ _ (wl _ _ _ rfl)), encS_frz]
  refine ⟨(wl _ _ _ (wl _ _ _ rfl)), by rw [encS_len, (wl _ _ _ (wl _ _ _ rfl))]; exact Nat.le_refl 4, _, rfl, ?_⟩
  simp only [withR_two, withR_nil]
  rfl
 by_cases h9 : n = [112, 114, 105, 110, 116]
 ·have e : rangesS n = [32, 126] := by unfold rangesS; rw [if_neg h0, if_neg h1, if_neg h2, if_neg h3, if_neg h4, if_neg h5, if_neg h6, if_neg h7, if_neg h8, if_pos h9]
  unfold classS
  rw [e]
  simp -implicitDefEqProofs -dsimp only [go_sem, (beq_eq_false_iff_ne.2 h0 : (n == [117, 112, 112, 101, 114]) = false), (beq_eq_false_iff_ne.2 h1 : (n == [108, 111, 119, 101, 114]) = false), (beq_eq_false_iff_ne.2 h2 : (n == [97, 108, 112, 104, 97]) = false), (beq_eq_false_iff_ne.2 h3 : (n == [100, 105, 103, 105, 116]) = false), (beq_eq_false_iff_ne.2 h4 : (n == [97, 108, 110, 117, 109]) = false), (beq_eq_false_iff_ne.2 h5 : (n == [120, 100, 105, 103, 105, 116]) = false), (beq_eq_false_iff_ne.2 h6 : (n == [98, 108, 97, 110, 107]) = false), (beq_eq_false_iff_ne.2 h7 : (n == [115, 112, 97, 99, 101]) = false), (beq_eq_false_iff_ne.2 h8 : (n == [99, 110, 116, 114, 108]) = false), (beq_iff_eq.2 h9 : (n == [112, 114, 105, 110, 116]) = true)]
  refine (w78 z4 rfl 32 126 (by decide) (by decide) lim (d + 1) _ ?_).wh ?_
  ·simp only [go_sem, u_tick, u_mine]; exact hun
  simp -implicitDefEqProofs -dsimp only [go_sem, cut_und _ _ hu]
  rw [encS_put _ _ (by rw [(wl _ _ _ rfl)]; rfl), encS_take _ (wl _ _ _ rfl), encS_frz]
  refine ⟨(wl _ _ _ rfl), by rw [encS_len, (wl _ _ _ rfl)]; exact Nat.le_refl 4, _, rfl, ?_⟩
  simp only [withR_two, withR_nil]
  rfl
 by_cases h10 : n = [103, 114, 97, 112, 104]
 ·have e : rangesS n = [33, 126] := by unfold rangesS; rw [if_neg h0, if_neg h1, if_neg h2, if_neg h3, if_neg h4, if_neg h5, if_neg h6, if_neg h7, if_neg h8, if_neg h9, if_pos h10]
  unfold classS
  rw [e]
  simp -implicitDefEqProofs -dsimp only [go_sem, (beq_eq_false_iff_ne.2 h0 : (n == [117, 112, 112, 101, 114]) = false), (beq_eq_false_iff_ne.2 h1 : (n == [108, 111, 119, 101, 114]) = false), (beq_eq_false_iff_ne.2 h2 : (n == [97, 108, 112, 104, 97]) = false), (beq_eq_false_iff_ne.2 h3 : (n == [100, 105, 103, 105, 116]) = false), (beq_eq_false_iff_ne.2 h4 : (n == [97, 108, 110, 117, 109]) = false), (beq_eq_false_iff_ne.2 h5 : (n == [120, 100, 105, 103, 105, 116]) = false), (beq_eq_false_iff_ne.2 h6 : (n == [98, 108, 97, 110, 107]) = false), (beq_eq_false_iff_ne.2 h7 : (n == [115, 112, 97, 99, 101]) = false), (beq_eq_false_iff_ne.2 h8 : (n == [99, 110, 116, 114, 108]) = false), (beq_eq_false_iff_ne.2 h9 : (n == [112, 114, 105, 110, 116]) = false), (beq_iff_eq.2 h10 : (n == [103, 114, 97, 112, 104]) = true)]
  refine (w78 z4 rfl 33 126 (by decide) (by decide) lim (d + 1) _ ?_).wh ?_
  ·simp only [go_sem, u_tick, u_mine]; exact hun
  simp -implicitDefEqProofs -dsimp only [go_sem, cut_und _ _ hu]
  rw [encS_put _ _ (by rw [(wl _ _ _ rfl)]; rfl), encS_take _ (wl _ _ _ rfl), encS_frz]
  refine ⟨(wl _ _ _ rfl), by rw [encS_len, (wl _ _ _ rfl)]; exact Nat.le_refl 4, _, rfl, ?_⟩
  simp only [withR_two, withR_nil]
  rfl
 by_cases h11 : n = [112, 117, 110, 99, 116]
 ·have e : rangesS n = [33, 47, 58, 64, 91, 96, 123, 126] := by unfold rangesS; rw [if_neg h0, if_neg h1, if_neg h2, if_neg h3, if_neg h4, if_neg h5, if_neg h6, if_neg h7, if_neg h8, if_neg h9, if_neg h10, if_pos h11]
  unfold classS
  rw [e]
  simp -implicitDefEqProofs -dsimp only [go_sem, (beq_eq_false_iff_ne.2 h0 : (n == [117, 112, 112, 101, 114]) = false), (beq_eq_false_iff_ne.2 h1 : (n == [108, 111, 119, 101, 114]) = false), (beq_eq_false_iff_ne.2 h2 : (n == [97, 108, 112, 104, 97]) = false), (beq_eq_false_iff_ne.2 h3 : (n == [100, 105, 103, 105, 116]) = false), (beq_eq_false_iff_ne.2 h4 : (n == [97, 108, 110, 117, 109]) = false), (beq_eq_false_iff_ne.2 h5 : (n == [120, 100, 105, 103, 105, 116]) = false), (beq_eq_false_iff_ne.2 h6 : (n == [98, 108, 97, 110, 107]) = false), (beq_eq_false_iff_ne.2 h7 : (n == [115, 112, 97, 99, 101]) = false), (beq_eq_false_iff_ne.2 h8 : (n == [99, 110, 116, 114, 108]) = false), (beq_eq_false_iff_ne.2 h9 : (n == [112, 114, 105, 110, 116]) = false), (beq_eq_false_iff_ne.2 h10 : (n == [103, 114, 97, 112, 104]) = false), (beq_iff_eq.2 h11 : (n == [112, 117, 110, 99, 116]) = true)]
  refine (w78 z4 rfl 33 47 (by decide) (by decide) lim (d + 1) _ ?_).wh ?_
  ·simp only [go_sem, u_tick, u_mine]; exact hun
  simp -implicitDefEqProofs -dsimp only [go_sem]
  refine (w78 (withS z4 33 47) (wl _ _ _ rfl) 58 64 (by decide) (by decide) lim (d + 1) _ ?_).wh ?_
  ·simp only [go_sem, u_tick, u_mine]; exact hun
  simp -implicitDefEqProofs -dsimp only [go_sem]
  refine (w78 (withS (withS z4 33 47) 58 64) (wl _ _ _ (wl _ _ _ rfl)) 91 96 (by decide) (by decide) lim (d + 1) _ ?_).wh ?_
  ·simp only [go_sem, u_tick, u_mine]; exact hun
  simp -implicitDefEqProofs -dsimp only [go_sem]
  refine (w78 (withS (withS (withS z4 33 47) 58 64) 91 96) (wl _ _ _ (wl _ _ _ (wl _ _ _ rfl))) 123 126 (by decide) (by decide) lim (d + 1) _ ?_).wh ?_
  ·simp only [go_sem, u_tick, u_mine]; exact hun
  simp -implicitDefEqProofs -dsimp only [go_sem, cut_und _ _ hu]
  rw [encS_put _ _ (by rw [(wl _ _ _ (wl _ _ _ (wl _ _ _ (wl _ _ _ rfl))))]; rfl), encS_take _ (wl _ _ _ (wl _ _ _ (wl _ _ _ (wl _ _ _ rfl)))), encS_frz]
  refine ⟨(wl _ _ _ (wl _ _ _ (wl _ _ _ (wl _ _ _ rfl)))), by rw [encS_len, (wl _ _ _ (wl _ _ _ (wl _ _ _ (wl _ _ _ rfl))))]; exact Nat.le_refl 4, _, rfl, ?_⟩
  simp only [withR_two, withR_nil]
  rfl
 have e : rangesS n = [] := by unfold rangesS; rw [if_neg h0, if_neg h1, if_neg h2, if_neg h3, if_neg h4, if_neg h5, if_neg h6, if_neg h7, if_neg h8, if_neg h9, if_neg h10, if_neg h11]
 unfold classS
 rw [e]
 simp -implicitDefEqProofs -dsimp only [go_sem, cut_und _ _ hu, (beq_eq_false_iff_ne.2 h0 : (n == [117, 112, 112, 101, 114]) = false), (beq_eq_false_iff_ne.2 h1 : (n == [108, 111, 119, 101, 114]) = false), (beq_eq_false_iff_ne.2 h2 : (n == [97, 108, 112, 104, 97]) = false), (beq_eq_false_iff_ne.2 h3 : (n == [100, 105, 103, 105, 116]) = false), (beq_eq_false_iff_ne.2 h4 : (n == [97, 108, 110, 117, 109]) = false), (beq_eq_false_iff_ne.2 h5 : (n == [120, 100, 105, 103, 105, 116]) = false), (beq_eq_false_iff_ne.2 h6 : (n == [98, 108, 97, 110, 107]) = false), (beq_eq_false_iff_ne.2 h7 : (n == [115, 112, 97, 99, 101]) = false), (beq_eq_false_iff_ne.2 h8 : (n == [99, 110, 116, 114, 108]) = false), (beq_eq_false_iff_ne.2 h9 : (n == [112, 114, 105, 110, 116]) = false), (beq_eq_false_iff_ne.2 h10 : (n == [103, 114, 97, 112, 104]) = false), (beq_eq_false_iff_ne.2 h11 : (n == [112, 117, 110, 99, 116]) = false)]
 rfl
def Ev : List UInt8 → Prop
 | [] => True
 | [_] => False
 | _ :: _ :: r => Ev r
theorem ranges_ev (n : List UInt8) : Ev (rangesS n) ∧ (rangesS n).length ≤ 8 := by
 have key : ∀ (c : Prop) [Decidable c] (a b : List UInt8), (Ev a ∧ a.length ≤ 8) → (Ev b ∧ b.length ≤ 8) → Ev (if c then a else b) ∧ (if c then a else b).length ≤ 8 := fun c _ a b h1 h2 => by
  by_cases h : c
  ·rw [if_pos h]; exact h1
  ·rw [if_neg h]; exact h2
 unfold rangesS
 refine key _ _ _ ⟨trivial, by decide⟩ ?_
 refine key _ _ _ ⟨trivial, by decide⟩ ?_
 refine key _ _ _ ⟨trivial, by decide⟩ ?_
 refine key _ _ _ ⟨trivial, by decide⟩ ?_
 refine key _ _ _ ⟨trivial, by decide⟩ ?_
 refine key _ _ _ ⟨trivial, by decide⟩ ?_
 refine key _ _ _ ⟨trivial, by decide⟩ ?_
 refine key _ _ _ ⟨trivial, by decide⟩ ?_
 refine key _ _ _ ⟨trivial, by decide⟩ ?_
 refine key _ _ _ ⟨trivial, by decide⟩ ?_
 refine key _ _ _ ⟨trivial, by decide⟩ ?_
 refine key _ _ _ ⟨trivial, by decide⟩ ?_
 exact ⟨trivial, by decide⟩
theorem ev_two {r : List UInt8} {i : Nat} (h : Ev (r.drop i)) (hi : i < r.length) : ∃ h2 : i + 1 < r.length, Ev (r.drop (i + 2)) ∧ ∀ s, withR s (r.drop i) = withR (withS s r[i].toNat r[i + 1].toNat) (r.drop (i + 2)) := by
 have e1 := List.drop_eq_getElem_cons hi
 by_cases h2 : i + 1 < r.length
 ·have e2 := List.drop_eq_getElem_cons h2
  rw [e2] at e1
  rw [e1] at h
  exact ⟨h2, h, fun s => by rw [e1]; rfl⟩
 ·rw [e1, List.drop_eq_nil_of_le (by omega)] at h
  exact h.elim
theorem w88 (n : List UInt8) (lim d : Nat) (σ : Sto) (hu : σ.Und d) : Ret lim d 166 [.str n] σ (.tup [.agg (encS (classS n)), .bool (!(rangesS n == []))]) σ := by
 have hun := und_succ hu
 obtain ⟨hev, hlen⟩ := ranges_ev n
 unfold Ret
 rw [WF_body (C := X) rfl func166 rfl (by kernel_rfl)]; simp only [results166]
 simp -implicitDefEqProofs -dsimp only [go_sem]
 refine (w90 n lim (d + 1) _ ?_).wh ?_
 ·simp only [go_sem, u_tick, u_mine]; exact hun
 unfold classS
 generalize rangesS n = r at hev hlen
 simp -implicitDefEqProofs -dsimp only [go_sem]
 refine loop_h (I := fun k m s' => ∃ (i : Nat) (t : List Int), i + k = r.length ∧ m 6 = .int .i64 i ∧ m 5 = .str r ∧ m 2 = .ptr ⟨d, 2, σ.ct d⟩ 0 ∧ m 4 = .ptr ⟨d, 4, σ.ct d + 1⟩ 0 ∧ s'.ob ⟨d, 4, σ.ct d + 1⟩ = some (encS t) ∧ t.length = 4 ∧ s'.ob ⟨d, 2, σ.ct d⟩ = some [.int .u64 0, .int .u64 0, .int .u64 0, .int .u64 0] ∧
  Ev (r.drop i) ∧ withR t (r.drop i) = withR z4 r ∧ s'.cut d = σ ∧ s'.Und (d + 1)) ?_ r.length _ _ ?_
 ·rintro k m s' ⟨i, t, hk, h6, h5, h2, h4, o4, ht, o2, he, hw, hcut, hus⟩
  by_cases hi : i < r.length
  ·have e1 : ((i : Int) < (r.length : Int)) := by omega
   obtain ⟨hi2, he2, hw2⟩ := ev_two he hi
   have g1 : r[i]? = some r[i] := List.getElem?_eq_getElem hi
   have g2 : r[i + 1]? = some r[i + 1] := List.getElem?_eq_getElem hi2
   have x1 := wr64 ((i : Int) + 1) (by omega) (by omega)
   have x2 := wr64 ((i : Int) + 2) (by omega) (by omega)
   have x3 : ((i : Int) + 1).toNat = i + 1 := by omega
   have x4 : (0 : Int) ≤ (i : Int) + 1 := by omega
   simp -implicitDefEqProofs -dsimp only [go_sem, e1, h6, h5]
   rw [D_dr (by kernel_rfl) rfl]
   simp -implicitDefEqProofs -dsimp only [go_sem, h6, h5, h4, o4, g1, g2, x1, x3, x4, ht, encS_take t ht]
   refine (w84 t ht r[i].toNat r[i + 1].toNat (UInt8.toNat_lt _) (UInt8.toNat_lt _) (d + 1) (d + 1) _ hus).wh ?_
   have hl4 : (withS t r[i].toNat r[i + 1].toNat).length = 4 := wl _ _ _ ht
   simp -implicitDefEqProofs -dsimp only [go_sem, h6, h5, h4, h2, o4, ht, hl4, x2]
   exact ⟨k - 2, by omega, i + 2, _, by omega, rfl, congrArg some (encS_put _ _ (by rw [encS_len, hl4, ht])), hl4, o2, he2, by rw [← hw2]; exact hw, hcut, by rw [u_mine]; exact hus⟩
  ·have e1 : ¬ ((i : Int) < (r.length : Int)) := by omega
   rw [List.drop_eq_nil_of_le (by omega), withR_nil] at hw
   simp -implicitDefEqProofs -dsimp only [go_sem, e1, h6, h5, h4, h2, o4, o2, ht, encS_take t ht]
   rw [encS_put _ _ (by rw [ht]; rfl), encS_take t ht, encS_frz, hw]
   exact ⟨by rw [encS_len, ← hw, ht]; exact Nat.le_refl 4, _, rfl, rfl, hcut⟩
 ·refine ⟨0, z4, Nat.zero_add _, ?_⟩
  simp -implicitDefEqProofs -dsimp only [go_sem, cut_und _ _ hu, u_tick, u_mine, hun]
  exact ⟨rfl, rfl, hev⟩
theorem w86 (s p : List UInt8) (hs : s.length ≤ 1000000) (lim d : Nat) (σ : Sto) (hu : σ.Und d) : Ret lim d 90 [.str s, .str p] σ (.bool (preS s p)) σ := by
 unfold Ret
 rw [WF_body (C := X) rfl func90 rfl (by kernel_rfl)]; simp only [results90]
 by_cases h : p.length ≤ s.length
 ·have e1 : ((p.length : Int) ≤ (s.length : Int)) := by omega
  simp -implicitDefEqProofs -dsimp only [go_sem, e1, cut_und _ _ hu]
  rfl
 ·have e1 : ¬ ((p.length : Int) ≤ (s.length : Int)) := by omega
  have e2 : preS s p = false := by
   unfold preS
   rw [beq_eq_false_iff_ne]
   intro q
   have := congrArg List.length q
   simp at this
   omega
  simp -implicitDefEqProofs -dsimp only [go_sem, e1, e2, cut_und _ _ hu]
theorem w81 (s p : List UInt8) (hs : s.length ≤ 1000000) (lim d : Nat) (σ : Sto) (hu : σ.Und d) : Ret lim d 66 [.str s, .str p] σ (.bool (preS s p)) σ := by
 unfold Ret
 rw [WF_body (C := X) rfl func66 rfl (by kernel_rfl)]; simp only [results66]
 simp -implicitDefEqProofs -dsimp only [go_sem]
 refine (w86 s p hs lim (d + 1) _ (und_succ hu)).wh ?_
 simp -implicitDefEqProofs -dsimp only [go_sem, cut_und _ _ hu]
theorem idxS_le : ∀ (s t : List UInt8), 0 ≤ idxS s t → idxS s t + t.length ≤ s.length
 | [], t, h => by
  simp only [idxS] at h ⊢
  split at h
  ·rename_i e; subst e; simp
  ·omega
 | b :: s, t, h => by
  simp only [idxS] at h ⊢
  split
  ·rename_i e; have := e.length_le; simp at this ⊢; omega
  ·rename_i e
   rw [if_neg e] at h
   split
   ·rename_i e2; rw [if_pos e2] at h; omega
   ·rename_i e2
    have := idxS_le s t (by omega)
    simp; omega
theorem wh91 (s t : List UInt8) (lim d : Nat) (σ : Sto) (hs : s.length ≤ 1000000) {Q : MV → Sto → Prop} (hq : Q (.int .i64 (idxS s t)) σ) : WFh X lim d 174 [.str s, .str t] σ (TagF Q) := by
 rw [← WF_h, WF_prim (p := indexP) rfl]
 refine ⟨(.int .i64 (idxS s t), σ), ?_, hq⟩
 simp only [indexP]
 rw [if_pos (by omega)]
def cutV (s t : List UInt8) : MV := if idxS s t < 0 then .tup [.str s, .str [], .bool false] else .tup [.str (s.take (idxS s t).toNat), .str (s.drop (idxS s t + t.length).toNat), .bool true]
theorem w89 (s t : List UInt8) (hs : s.length ≤ 1000000) (lim d : Nat) (σ : Sto) (hu : σ.Und d) : Ret lim d 170 [.str s, .str t] σ (cutV s t) σ := by
 unfold Ret
 rw [WF_body (C := X) rfl func170 rfl (by kernel_rfl)]; simp only [results170]
 simp -implicitDefEqProofs -dsimp only [go_sem]
 refine wh91 s t lim (d + 1) _ hs ?_
 have hle := idxS_le s t
 unfold cutV
 generalize idxS s t = i at hle
 by_cases h : i < 0
 ·have e1 : ¬ (0 ≤ i) := by omega
  simp -implicitDefEqProofs -dsimp only [go_sem, e1, h, cut_und _ _ hu]
 ·have e1 : 0 ≤ i := by omega
  have := hle e1
  have x1 := wr64 (i + t.length) (by omega) (by omega)
  have e2 : i ≤ s.length := by omega
  have e3 : i + t.length ≤ s.length := by omega
  have e4 : 0 ≤ i + t.length := by omega
  simp -implicitDefEqProofs -dsimp only [go_sem, e1]
  rw [D_lx [] (by kernel_rfl) (by kernel_rfl)]; simp -implicitDefEqProofs -dsimp only [go_sem, List.takeWhile_cons, List.dropWhile_cons, isTail, evNews, List.not_mem_nil, Bool.not_true, Bool.not_false, false_imp_iff, implies_true, ne_eq, x1, e1, e2, e3, e4, cut_und _ _ hu]
  simp only [h, if_false, List.take_length]
theorem w87 (s t : List UInt8) (hs : s.length ≤ 1000000) (lim d : Nat) (σ : Sto) (hu : σ.Und d) : Ret lim d 165 [.str s, .str t] σ (cutV s t) σ := by
 unfold Ret
 rw [WF_body (C := X) rfl func165 rfl (by kernel_rfl)]; simp only [results165]
 simp -implicitDefEqProofs -dsimp only [go_sem]
 refine (w89 s t hs lim (d + 1) _ (und_succ hu)).wh ?_
 unfold cutV
 split
 ·simp -implicitDefEqProofs -dsimp only [go_sem, cut_und _ _ hu]
 ·simp -implicitDefEqProofs -dsimp only [go_sem, cut_und _ _ hu]
def encR (s : List UInt8) (n : Nat) : List MV := [.str s, .int .i64 n]
theorem w73 (s t : List UInt8) (n : Nat) (hs : s.length ≤ 1000000) (p : Mv.Loc) (lim d : Nat) (hp : p.d < d) (σ : Sto) (hu : σ.Und d) (ho : σ.ob p = some (encR s n)) : Ret lim d 137 [.ptr p 0, .str t] σ (.bool (preS (s.drop n) t)) σ := by
 unfold Ret
 rw [WF_body (C := X) rfl func137 rfl (by kernel_rfl)]; simp only [results137]
 simp -implicitDefEqProofs -dsimp only [go_sem]
 rw [D_dr (by kernel_rfl) rfl]
 have hm : (if (s.length : Int) < (n : Int) then (s.length : Int) else (n : Int)) = ((min n s.length : Nat) : Int) := by split <;> omega
 have e2 : ((min n s.length : Nat) : Int) ≤ s.length := by omega
 rw [encR] at ho
 simp -implicitDefEqProofs -dsimp only [go_sem, ho, hm, e2, List.take_length]
 have hd : s.drop (min n s.length) = s.drop n := by
  by_cases h : n ≤ s.length
  ·rw [Nat.min_eq_left h]
  ·rw [Nat.min_eq_right (by omega), List.drop_length, List.drop_eq_nil_of_le (by omega)]
 rw [hd]
 refine (w81 (s.drop n) t (by rw [List.length_drop]; omega) (d + 1) (d + 1) _ (und_succ hu)).wh ?_
 simp -implicitDefEqProofs -dsimp only [go_sem, cut_und _ _ hu]
end Go.Proofs.Tryz.E
