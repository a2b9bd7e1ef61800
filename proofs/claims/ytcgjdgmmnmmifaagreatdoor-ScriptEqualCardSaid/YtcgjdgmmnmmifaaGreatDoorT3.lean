/- Walks: what the functions compute. -/
import Derived.Test.YtcgjdgmmnmmifaaGreatDoorT2
set_option linter.unusedVariables false
set_option linter.unusedSimpArgs false
/- A command as the package has it; whether it is of a size that is looked at. -/
namespace Go.Proofs.Tryz.E
open Go.Mv
set_option maxHeartbeats 4000000
set_option maxRecDepth 20000
theorem w656 (c : Cm) (hx : sz c.x ≤ 1000000) (hy : sz c.y ≤ 1000000) (hz : sz c.px ≤ 1000000) (hp : c.ps.length ≤ 60) (lim d : Nat) (σ : Sto) (hlim : lim ≤ d) (hu : σ.Und d) : Ret lim d 19 [.agg (encM c)] σ (.agg (encM c)) σ := by
  have hun := und_succ hu
  obtain ⟨nmA, kA, vA, ⟨xA0, xA1, xA2, xA3, xA4, xA5, xA6, xA7, xA8, xA9⟩, mA, uA, ⟨yA0, yA1, yA2, yA3, yA4, yA5, yA6, yA7, yA8, yA9⟩, bA, labA, txtA, filA, pkA, pvA, ⟨zA0, zA1, zA2, zA3, zA4, zA5, zA6, zA7, zA8, zA9⟩, psA, nthA, allA, prtA, frmA, ttoA, posA⟩ := c
  simp only at hx hy hz hp
  unfold Ret
  rw [WF_body (C := X) rfl Go.Proofs.Tryz.func19 rfl (by kernel_rfl)]; simp only [Go.Proofs.Tryz.results19]
  simp -implicitDefEqProofs -dsimp only [↓reduceIte, ↓W_seq, go_sem, enc, encM, encG, encA, List.cons_append, List.nil_append]
  rw [D_dr (by kernel_rfl) rfl]
  simp -implicitDefEqProofs -dsimp only [↓reduceIte, ↓W_seq, go_sem, enc, encM, encG, encA, List.cons_append, List.nil_append]
  refine (w405 kA vA (.mk xA0 xA1 xA2 xA3 xA4 xA5 xA6 xA7 xA8 xA9) hx mA uA (.mk yA0 yA1 yA2 yA3 yA4 yA5 yA6 yA7 yA8 yA9) hy bA (d + 1) (d + 1) _ (Nat.le_refl _) (by simp only [u_tick, u_mine]; exact hun)).wh ?_
  simp -implicitDefEqProofs -dsimp only [↓reduceIte, ↓W_seq, go_sem, enc, encM, encG, encA, List.cons_append, List.nil_append]
  refine (w412 pkA pvA (.mk zA0 zA1 zA2 zA3 zA4 zA5 zA6 zA7 zA8 zA9) hz (d + 1) (d + 1) _ (Nat.le_refl _) (by simp only [u_tick, u_mine]; exact hun)).wh ?_
  simp -implicitDefEqProofs -dsimp only [↓reduceIte, ↓W_seq, go_sem, enc, encM, encG, encA, List.cons_append, List.nil_append]
  refine (w657 psA hp (d + 1) (d + 1) _ (Nat.le_refl _) (by simp only [u_tick, u_mine]; exact hun)).wh ?_
  simp -implicitDefEqProofs -dsimp only [↓reduceIte, ↓W_seq, go_sem, enc, encM, encG, encA, List.cons_append, List.nil_append, cut_und _ _ hu]
theorem w655 (c : Cm) (lim d : Nat) (σ : Sto) (hlim : lim ≤ d) (hu : σ.Und d) : WF X lim d 15 [.agg (encM c)] σ fun v s' => (∃ f : Bool, v = .bool f ∧ (f = true → few c.x = true ∧ few c.y = true ∧ few c.px = true ∧ c.ps.length ≤ 60)) ∧ s' = σ := by
  have hun := und_succ hu
  obtain ⟨nmA, kA, vA, ⟨xA0, xA1, xA2, xA3, xA4, xA5, xA6, xA7, xA8, xA9⟩, mA, uA, ⟨yA0, yA1, yA2, yA3, yA4, yA5, yA6, yA7, yA8, yA9⟩, bA, labA, txtA, filA, pkA, pvA, ⟨zA0, zA1, zA2, zA3, zA4, zA5, zA6, zA7, zA8, zA9⟩, psA, nthA, allA, prtA, frmA, ttoA, posA⟩ := c
  rw [WF_body (C := X) rfl Go.Proofs.Tryz.func15 rfl (by kernel_rfl)]; simp only [Go.Proofs.Tryz.results15]
  simp -implicitDefEqProofs -dsimp only [↓reduceIte, ↓W_seq, go_sem, enc, encM, encG, encA, List.cons_append, List.nil_append, encPs_len]
  refine loop_h (I := fun k a s => ∃ (i : Nat) (m : Int), i + k = psA.length ∧ i ≤ 60 ∧ a 8 = .int .i64 i ∧ a 7 = .int .i64 psA.length ∧ a 3 = .int .i64 m ∧ a 1 = .ptr ⟨d, 1, σ.ct d⟩ 0 ∧ s.ob ⟨d, 1, σ.ct d⟩ = some (encM ⟨nmA, kA, vA, ⟨xA0, xA1, xA2, xA3, xA4, xA5, xA6, xA7, xA8, xA9⟩, mA, uA, ⟨yA0, yA1, yA2, yA3, yA4, yA5, yA6, yA7, yA8, yA9⟩, bA, labA, txtA, filA, pkA, pvA, ⟨zA0, zA1, zA2, zA3, zA4, zA5, zA6, zA7, zA8, zA9⟩, psA, nthA, allA, prtA, frmA, ttoA, posA⟩) ∧ s.cut d = σ ∧ s.Und (d + 1)) ?_ psA.length _ _ ?_
  · rintro k a s ⟨i, m, hk, hi60, h8, h7, h3, h1, o1, hs, hs2⟩
    simp only [encM, encG, encA, List.cons_append, List.nil_append, enc] at o1
    by_cases hi : i < psA.length
    · have e1 : ((i : Int) < (psA.length : Int)) := by omega
      have y7 := wr64 ((i : Int) + 1) (by omega) (by omega)
      by_cases h60 : 60 ≤ i
      · have e2 : ((60 : Int) ≤ (i : Int)) := by omega
        simp -implicitDefEqProofs -dsimp only [↓reduceIte, ↓W_seq, go_sem, enc, e1, e2, h8, h7, h3, h1, o1, encPs_at hi, encPt, hs]
        exact ⟨false, rfl, fun q => by cases q⟩
      · have e2 : ¬ ((60 : Int) ≤ (i : Int)) := by omega
        by_cases hgt : (3000 : Int) < IntKind.i64.wrap (m + (psA[i].2.length : Int))
        · simp -implicitDefEqProofs -dsimp only [↓reduceIte, ↓W_seq, go_sem, enc, e1, e2, hgt, h8, h7, h3, h1, o1, encPs_at hi, encPt, hs]
          exact ⟨false, rfl, fun q => by cases q⟩
        · simp -implicitDefEqProofs -dsimp only [↓reduceIte, ↓W_seq, go_sem, enc, e1, e2, hgt, h8, h7, h3, h1, o1, encPs_at hi, encPt, y7]
          exact ⟨k - 1, by omega, i + 1, _, by omega, by omega, rfl, rfl, by simp only [encM, encG, encA, List.cons_append, List.nil_append, enc], hs, hs2⟩
    · have e1 : ¬ ((i : Int) < (psA.length : Int)) := by omega
      have hpl : psA.length ≤ 60 := by omega
      simp -implicitDefEqProofs -dsimp only [↓reduceIte, ↓W_seq, go_sem, enc, e1, h8, h7, h3, h1, o1]
      refine (w403 kA vA (.mk xA0 xA1 xA2 xA3 xA4 xA5 xA6 xA7 xA8 xA9) mA uA (.mk yA0 yA1 yA2 yA3 yA4 yA5 yA6 yA7 yA8 yA9) bA lim (d + 1) _ (by omega) hs2).wh ?_
      cases hf1 : few (.mk xA0 xA1 xA2 xA3 xA4 xA5 xA6 xA7 xA8 xA9) && few (.mk yA0 yA1 yA2 yA3 yA4 yA5 yA6 yA7 yA8 yA9)
      · simp -implicitDefEqProofs -dsimp only [↓reduceIte, ↓W_seq, go_sem, enc, hf1, hs]
        exact ⟨false, rfl, fun q => by cases q⟩
      simp -implicitDefEqProofs -dsimp only [↓reduceIte, ↓W_seq, go_sem, enc, hf1, h8, h7, h3, h1, o1]
      refine (w410 (.mk zA0 zA1 zA2 zA3 zA4 zA5 zA6 zA7 zA8 zA9) lim (d + 1) _ (by omega) hs2).wh ?_
      cases hf2 : few (.mk zA0 zA1 zA2 zA3 zA4 zA5 zA6 zA7 zA8 zA9)
      · have hf2' := hf2
        simp only [few] at hf2'
        simp -implicitDefEqProofs -dsimp only [↓reduceIte, ↓W_seq, go_sem, enc, hf2', hs]
        exact ⟨false, rfl, fun q => by cases q⟩
      have hf2' := hf2
      simp only [few] at hf2'
      simp only [Bool.and_eq_true] at hf1
      simp -implicitDefEqProofs -dsimp only [↓reduceIte, ↓W_seq, go_sem, enc, hf2', h8, h7, h3, h1, o1, hs]
      exact ⟨_, rfl, fun _ => ⟨hf1.1, hf1.2, hpl⟩⟩
  · refine ⟨0, 0, Nat.zero_add _, ?_⟩
    simp -implicitDefEqProofs -dsimp only [↓reduceIte, ↓W_seq, go_sem, enc, encM, encG, encA, List.cons_append, List.nil_append, cut_und _ _ hu, u_tick, u_mine, hun]
end Go.Proofs.Tryz.E
