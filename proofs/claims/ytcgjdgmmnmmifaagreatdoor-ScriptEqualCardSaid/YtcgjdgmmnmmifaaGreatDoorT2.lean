/- Walks: what the functions compute. -/
import Derived.Test.YtcgjdgmmnmmifaaGreatDoorT1
set_option linter.unusedVariables false
set_option linter.unusedSimpArgs false
/- Two commands are alike, by both sides. -/
namespace Go.Proofs.Tryz.E
open Go.Mv
set_option maxHeartbeats 4000000
set_option maxRecDepth 20000
@[go_sem] theorem appR_cons {α : Type} (a : α) (l m : List α) : (a :: l).append m = a :: l.append m := rfl
@[go_sem] theorem appR_nil {α : Type} (m : List α) : ([] : List α).append m = m := rfl
/-- Two commands are alike, but for their places. -/
def likeM (a b : Cm) : Bool := a.nm == b.nm && (likeG a.k a.v a.x a.k2 a.v2 a.y a.b b.k b.v b.x b.k2 b.v2 b.y b.b && (a.lab == b.lab && (a.txt == b.txt && (a.fil == b.fil && (likeA a.pk a.pv a.px b.pk b.pv b.px && (decide (a.ps = b.ps) && (a.nth == b.nth && (a.all == b.all && (a.prt == b.prt && (a.frm == b.frm && a.tto == b.tto))))))))))
theorem w658 (a b : Cm) (hx : sz a.x ≤ 1000000) (hy : sz a.y ≤ 1000000) (hz : sz a.px ≤ 1000000) (hp : a.ps.length ≤ 1000000) (lim d : Nat) (σ : Sto) (hlim : lim ≤ d) (hu : σ.Und d) : Ret lim d 18 [.agg (encM a), .agg (encM b)] σ (.bool (likeM a b)) σ := by
  have hun := und_succ hu
  obtain ⟨nmA, kA, vA, ⟨xA0, xA1, xA2, xA3, xA4, xA5, xA6, xA7, xA8, xA9⟩, mA, uA, ⟨yA0, yA1, yA2, yA3, yA4, yA5, yA6, yA7, yA8, yA9⟩, bA, labA, txtA, filA, pkA, pvA, ⟨zA0, zA1, zA2, zA3, zA4, zA5, zA6, zA7, zA8, zA9⟩, psA, nthA, allA, prtA, frmA, ttoA, posA⟩ := a
  obtain ⟨nmB, kB, vB, ⟨xB0, xB1, xB2, xB3, xB4, xB5, xB6, xB7, xB8, xB9⟩, mB, uB, ⟨yB0, yB1, yB2, yB3, yB4, yB5, yB6, yB7, yB8, yB9⟩, bB, labB, txtB, filB, pkB, pvB, ⟨zB0, zB1, zB2, zB3, zB4, zB5, zB6, zB7, zB8, zB9⟩, psB, nthB, allB, prtB, frmB, ttoB, posB⟩ := b
  simp only at hx hy hz hp
  unfold Ret
  simp only [likeM]
  rw [WF_body (C := X) rfl Go.Proofs.Tryz.func18 rfl (by kernel_rfl)]; simp only [Go.Proofs.Tryz.results18]
  cases h1 : nmA == nmB
  · simp -implicitDefEqProofs -dsimp only [↓reduceIte, ↓W_seq, go_sem, enc, encM, encG, encA, List.cons_append, List.nil_append, h1, cut_und _ _ hu, Bool.false_and]
  simp -implicitDefEqProofs -dsimp only [↓reduceIte, ↓W_seq, go_sem, enc, encM, encG, encA, List.cons_append, List.nil_append, h1, Bool.true_and]
  refine (w404 kA vA (.mk xA0 xA1 xA2 xA3 xA4 xA5 xA6 xA7 xA8 xA9) hx mA uA (.mk yA0 yA1 yA2 yA3 yA4 yA5 yA6 yA7 yA8 yA9) hy bA kB vB (.mk xB0 xB1 xB2 xB3 xB4 xB5 xB6 xB7 xB8 xB9) mB uB (.mk yB0 yB1 yB2 yB3 yB4 yB5 yB6 yB7 yB8 yB9) bB lim (d + 1) _ (by omega) (by simp only [u_tick, u_mine]; exact hun)).wh ?_
  cases h2 : likeG kA vA (.mk xA0 xA1 xA2 xA3 xA4 xA5 xA6 xA7 xA8 xA9) mA uA (.mk yA0 yA1 yA2 yA3 yA4 yA5 yA6 yA7 yA8 yA9) bA kB vB (.mk xB0 xB1 xB2 xB3 xB4 xB5 xB6 xB7 xB8 xB9) mB uB (.mk yB0 yB1 yB2 yB3 yB4 yB5 yB6 yB7 yB8 yB9) bB
  · simp -implicitDefEqProofs -dsimp only [↓reduceIte, ↓W_seq, go_sem, enc, cut_und _ _ hu, Bool.false_and]
  cases h3 : labA == labB
  · simp -implicitDefEqProofs -dsimp only [↓reduceIte, ↓W_seq, go_sem, enc, encM, encG, encA, List.cons_append, List.nil_append, h3, cut_und _ _ hu, Bool.true_and, Bool.false_and]
  cases h4 : txtA == txtB
  · simp -implicitDefEqProofs -dsimp only [↓reduceIte, ↓W_seq, go_sem, enc, encM, encG, encA, List.cons_append, List.nil_append, h3, h4, cut_und _ _ hu, Bool.true_and, Bool.false_and]
  cases h5 : filA == filB
  · simp -implicitDefEqProofs -dsimp only [↓reduceIte, ↓W_seq, go_sem, enc, encM, encG, encA, List.cons_append, List.nil_append, h3, h4, h5, cut_und _ _ hu, Bool.true_and, Bool.false_and]
  simp -implicitDefEqProofs -dsimp only [↓reduceIte, ↓W_seq, go_sem, enc, encM, encG, encA, List.cons_append, List.nil_append, h3, h4, h5, Bool.true_and]
  refine (w411 pkA pvA (.mk zA0 zA1 zA2 zA3 zA4 zA5 zA6 zA7 zA8 zA9) hz pkB pvB (.mk zB0 zB1 zB2 zB3 zB4 zB5 zB6 zB7 zB8 zB9) lim (d + 1) _ (by omega) (by simp only [u_tick, u_mine]; exact hun)).wh ?_
  cases h6 : likeA pkA pvA (.mk zA0 zA1 zA2 zA3 zA4 zA5 zA6 zA7 zA8 zA9) pkB pvB (.mk zB0 zB1 zB2 zB3 zB4 zB5 zB6 zB7 zB8 zB9)
  · simp -implicitDefEqProofs -dsimp only [↓reduceIte, ↓W_seq, go_sem, enc, cut_und _ _ hu, Bool.false_and]
  simp -implicitDefEqProofs -dsimp only [↓reduceIte, ↓W_seq, go_sem, enc, encM, encG, encA, List.cons_append, List.nil_append, Bool.true_and]
  refine (w661 psA psB hp lim (d + 1) _ (by simp only [u_tick, u_mine]; exact hun)).wh ?_
  cases h7 : decide (psA = psB)
  · simp -implicitDefEqProofs -dsimp only [↓reduceIte, ↓W_seq, go_sem, enc, cut_und _ _ hu, Bool.false_and]
  cases h8 : nthA == nthB
  · simp -implicitDefEqProofs -dsimp only [↓reduceIte, ↓W_seq, go_sem, enc, encM, encG, encA, List.cons_append, List.nil_append, h8, cut_und _ _ hu, Bool.true_and, Bool.false_and]
  cases h9 : allA == allB
  · simp -implicitDefEqProofs -dsimp only [↓reduceIte, ↓W_seq, go_sem, enc, encM, encG, encA, List.cons_append, List.nil_append, h8, h9, cut_und _ _ hu, Bool.true_and, Bool.false_and]
  cases h10 : prtA == prtB
  · simp -implicitDefEqProofs -dsimp only [↓reduceIte, ↓W_seq, go_sem, enc, encM, encG, encA, List.cons_append, List.nil_append, h8, h9, h10, cut_und _ _ hu, Bool.true_and, Bool.false_and]
  cases h11 : frmA == frmB
  · simp -implicitDefEqProofs -dsimp only [↓reduceIte, ↓W_seq, go_sem, enc, encM, encG, encA, List.cons_append, List.nil_append, h8, h9, h10, h11, cut_und _ _ hu, Bool.true_and, Bool.false_and]
  simp -implicitDefEqProofs -dsimp only [↓reduceIte, ↓W_seq, go_sem, enc, encM, encG, encA, List.cons_append, List.nil_append, h8, h9, h10, h11, cut_und _ _ hu, Bool.true_and]
theorem w659 (a b : Cm) (hx : sz a.x ≤ 1000000) (hy : sz a.y ≤ 1000000) (hz : sz a.px ≤ 1000000) (hp : a.ps.length ≤ 1000000) (lim d : Nat) (σ : Sto) (hlim : lim ≤ d) (hu : σ.Und d) : Ret lim d 20 [.agg (encM a), .agg (encM b)] σ (.bool (likeM a b)) σ := by
  have hun := und_succ hu
  obtain ⟨nmA, kA, vA, ⟨xA0, xA1, xA2, xA3, xA4, xA5, xA6, xA7, xA8, xA9⟩, mA, uA, ⟨yA0, yA1, yA2, yA3, yA4, yA5, yA6, yA7, yA8, yA9⟩, bA, labA, txtA, filA, pkA, pvA, ⟨zA0, zA1, zA2, zA3, zA4, zA5, zA6, zA7, zA8, zA9⟩, psA, nthA, allA, prtA, frmA, ttoA, posA⟩ := a
  obtain ⟨nmB, kB, vB, ⟨xB0, xB1, xB2, xB3, xB4, xB5, xB6, xB7, xB8, xB9⟩, mB, uB, ⟨yB0, yB1, yB2, yB3, yB4, yB5, yB6, yB7, yB8, yB9⟩, bB, labB, txtB, filB, pkB, pvB, ⟨zB0, zB1, zB2, zB3, zB4, zB5, zB6, zB7, zB8, zB9⟩, psB, nthB, allB, prtB, frmB, ttoB, posB⟩ := b
  simp only at hx hy hz hp
  unfold Ret
  simp only [likeM]
  rw [WF_body (C := X) rfl Go.Proofs.Tryz.func20 rfl (by kernel_rfl)]; simp only [Go.Proofs.Tryz.results20]
  cases h1 : nmA == nmB
  · simp -implicitDefEqProofs -dsimp only [↓reduceIte, ↓W_seq, go_sem, enc, encM, encG, encA, List.cons_append, List.nil_append, h1, cut_und _ _ hu, Bool.false_and]
  simp -implicitDefEqProofs -dsimp only [↓reduceIte, ↓W_seq, go_sem, enc, encM, encG, encA, List.cons_append, List.nil_append, h1, Bool.true_and]
  refine (w406 kA vA (.mk xA0 xA1 xA2 xA3 xA4 xA5 xA6 xA7 xA8 xA9) hx mA uA (.mk yA0 yA1 yA2 yA3 yA4 yA5 yA6 yA7 yA8 yA9) hy bA kB vB (.mk xB0 xB1 xB2 xB3 xB4 xB5 xB6 xB7 xB8 xB9) mB uB (.mk yB0 yB1 yB2 yB3 yB4 yB5 yB6 yB7 yB8 yB9) bB lim (d + 1) _ (by omega) (by simp only [u_tick, u_mine]; exact hun)).wh ?_
  cases h2 : likeG kA vA (.mk xA0 xA1 xA2 xA3 xA4 xA5 xA6 xA7 xA8 xA9) mA uA (.mk yA0 yA1 yA2 yA3 yA4 yA5 yA6 yA7 yA8 yA9) bA kB vB (.mk xB0 xB1 xB2 xB3 xB4 xB5 xB6 xB7 xB8 xB9) mB uB (.mk yB0 yB1 yB2 yB3 yB4 yB5 yB6 yB7 yB8 yB9) bB
  · simp -implicitDefEqProofs -dsimp only [↓reduceIte, ↓W_seq, go_sem, enc, cut_und _ _ hu, Bool.false_and]
  cases h3 : labA == labB
  · simp -implicitDefEqProofs -dsimp only [↓reduceIte, ↓W_seq, go_sem, enc, encM, encG, encA, List.cons_append, List.nil_append, h3, cut_und _ _ hu, Bool.true_and, Bool.false_and]
  cases h4 : txtA == txtB
  · simp -implicitDefEqProofs -dsimp only [↓reduceIte, ↓W_seq, go_sem, enc, encM, encG, encA, List.cons_append, List.nil_append, h3, h4, cut_und _ _ hu, Bool.true_and, Bool.false_and]
  cases h5 : filA == filB
  · simp -implicitDefEqProofs -dsimp only [↓reduceIte, ↓W_seq, go_sem, enc, encM, encG, encA, List.cons_append, List.nil_append, h3, h4, h5, cut_und _ _ hu, Bool.true_and, Bool.false_and]
  simp -implicitDefEqProofs -dsimp only [↓reduceIte, ↓W_seq, go_sem, enc, encM, encG, encA, List.cons_append, List.nil_append, h3, h4, h5, Bool.true_and]
  refine (w413 pkA pvA (.mk zA0 zA1 zA2 zA3 zA4 zA5 zA6 zA7 zA8 zA9) hz pkB pvB (.mk zB0 zB1 zB2 zB3 zB4 zB5 zB6 zB7 zB8 zB9) lim (d + 1) _ (by omega) (by simp only [u_tick, u_mine]; exact hun)).wh ?_
  cases h6 : likeA pkA pvA (.mk zA0 zA1 zA2 zA3 zA4 zA5 zA6 zA7 zA8 zA9) pkB pvB (.mk zB0 zB1 zB2 zB3 zB4 zB5 zB6 zB7 zB8 zB9)
  · simp -implicitDefEqProofs -dsimp only [↓reduceIte, ↓W_seq, go_sem, enc, cut_und _ _ hu, Bool.false_and]
  simp -implicitDefEqProofs -dsimp only [↓reduceIte, ↓W_seq, go_sem, enc, encM, encG, encA, List.cons_append, List.nil_append, Bool.true_and]
  refine (w660 psA psB hp lim (d + 1) _ (by simp only [u_tick, u_mine]; exact hun)).wh ?_
  cases h7 : decide (psA = psB)
  · simp -implicitDefEqProofs -dsimp only [↓reduceIte, ↓W_seq, go_sem, enc, cut_und _ _ hu, Bool.false_and]
  cases h8 : nthA == nthB
  · simp -implicitDefEqProofs -dsimp only [↓reduceIte, ↓W_seq, go_sem, enc, encM, encG, encA, List.cons_append, List.nil_append, h8, cut_und _ _ hu, Bool.true_and, Bool.false_and]
  cases h9 : allA == allB
  · simp -implicitDefEqProofs -dsimp only [↓reduceIte, ↓W_seq, go_sem, enc, encM, encG, encA, List.cons_append, List.nil_append, h8, h9, cut_und _ _ hu, Bool.true_and, Bool.false_and]
  cases h10 : prtA == prtB
  · simp -implicitDefEqProofs -dsimp only [↓reduceIte, ↓W_seq, go_sem, enc, encM, encG, encA, List.cons_append, List.nil_append, h8, h9, h10, cut_und _ _ hu, Bool.true_and, Bool.false_and]
  cases h11 : frmA == frmB
  · simp -implicitDefEqProofs -dsimp only [↓reduceIte, ↓W_seq, go_sem, enc, encM, encG, encA, List.cons_append, List.nil_append, h8, h9, h10, h11, cut_und _ _ hu, Bool.true_and, Bool.false_and]
  simp -implicitDefEqProofs -dsimp only [↓reduceIte, ↓W_seq, go_sem, enc, encM, encG, encA, List.cons_append, List.nil_append, h8, h9, h10, h11, cut_und _ _ hu, Bool.true_and]
end Go.Proofs.Tryz.E
