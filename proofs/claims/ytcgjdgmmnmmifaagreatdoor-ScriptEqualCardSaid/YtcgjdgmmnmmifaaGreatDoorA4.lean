/- Walks: what the functions compute. -/
import Derived.Test.YtcgjdgmmnmmifaaGreatDoorA3
import Derived.Test.YtcgjdgmmnmmifaaGreatDoorA1
set_option linter.unusedVariables false
set_option linter.unusedSimpArgs false
/- Addresses: the same as the package has them, few, alike. -/
namespace Go.Proofs.Tryz.E
open Go.Mv
set_option maxHeartbeats 4000000
set_option maxRecDepth 20000
def few (x : Nd) : Bool := decide (0 < bndT x 40 400)
theorem few_sz {x : Nd} (h : few x = true) : sz x ≤ 1000000 := by
  simp only [few, decide_eq_true_eq] at h
  have := bnd_sz x 40 400 h
  omega
theorem w412 (k v : Int) (x : Nd) (hx : sz x ≤ 1000000) (lim d : Nat) (σ : Sto) (hlim : lim ≤ d) (hu : σ.Und d) : Ret lim d 34 [.agg (encA k v x)] σ (.agg (encA k v x)) σ := by
  have hun := und_succ hu
  unfold Ret
  obtain ⟨kd, c, s0, s1, s2, s3, n, mn, mx, l⟩ := x
  rw [WF_body (C := X) rfl Go.Proofs.Tryz.func34 rfl (by kernel_rfl)]; simp only [Go.Proofs.Tryz.results34]
  simp -implicitDefEqProofs -dsimp only [↓reduceIte, ↓W_seq, go_sem, enc, encA]
  rw [D_dr (by kernel_rfl) rfl]
  simp -implicitDefEqProofs -dsimp only [↓reduceIte, ↓W_seq, go_sem, enc, encA]
  refine (w417 (.mk kd c s0 s1 s2 s3 n mn mx l) hx (d + 1) (d + 1) _ (Nat.le_refl _) (by simp only [u_tick, u_mine]; exact hun)).wh ?_
  simp -implicitDefEqProofs -dsimp only [↓reduceIte, ↓W_seq, go_sem, enc, encA, cut_und _ _ hu]
theorem w405 (k v : Int) (x : Nd) (hx : sz x ≤ 1000000) (k2 v2 : Int) (y : Nd) (hy : sz y ≤ 1000000) (b : Bool) (lim d : Nat) (σ : Sto) (hlim : lim ≤ d) (hu : σ.Und d) : Ret lim d 33 [.agg (encG k v x k2 v2 y b)] σ (.agg (encG k v x k2 v2 y b)) σ := by
  have hun := und_succ hu
  unfold Ret
  obtain ⟨kd, c, s0, s1, s2, s3, n, mn, mx, l⟩ := x
  obtain ⟨kd', c', t0, t1, t2, t3, n', mn', mx', l'⟩ := y
  rw [WF_body (C := X) rfl Go.Proofs.Tryz.func33 rfl (by kernel_rfl)]; simp only [Go.Proofs.Tryz.results33]
  simp -implicitDefEqProofs -dsimp only [↓reduceIte, ↓W_seq, go_sem, enc, encG, encA, List.cons_append, List.nil_append]
  rw [D_dr (by kernel_rfl) rfl]
  simp -implicitDefEqProofs -dsimp only [↓reduceIte, ↓W_seq, go_sem, enc, encG, encA, List.cons_append, List.nil_append]
  refine (w412 k v (.mk kd c s0 s1 s2 s3 n mn mx l) hx (d + 1) (d + 1) _ (Nat.le_refl _) (by simp only [u_tick, u_mine]; exact hun)).wh ?_
  simp -implicitDefEqProofs -dsimp only [↓reduceIte, ↓W_seq, go_sem, enc, encG, encA, List.cons_append, List.nil_append]
  refine (w412 k2 v2 (.mk kd' c' t0 t1 t2 t3 n' mn' mx' l') hy (d + 1) (d + 1) _ (Nat.le_refl _) (by simp only [u_tick, u_mine]; exact hun)).wh ?_
  simp -implicitDefEqProofs -dsimp only [↓reduceIte, ↓W_seq, go_sem, enc, encG, encA, List.cons_append, List.nil_append, cut_und _ _ hu]
theorem w403 (k v : Int) (x : Nd) (k2 v2 : Int) (y : Nd) (b : Bool) (lim d : Nat) (σ : Sto) (hlim : lim ≤ d) (hu : σ.Und d) : Ret lim d 28 [.agg (encG k v x k2 v2 y b)] σ (.bool (few x && few y)) σ := by
  have hun := und_succ hu
  unfold Ret
  obtain ⟨kd, c, s0, s1, s2, s3, n, mn, mx, l⟩ := x
  obtain ⟨kd', c', t0, t1, t2, t3, n', mn', mx', l'⟩ := y
  rw [WF_body (C := X) rfl Go.Proofs.Tryz.func28 rfl (by kernel_rfl)]; simp only [Go.Proofs.Tryz.results28]
  simp -implicitDefEqProofs -dsimp only [↓reduceIte, ↓W_seq, go_sem, enc, encG, encA, List.cons_append, List.nil_append]
  refine (w410 (.mk kd c s0 s1 s2 s3 n mn mx l) lim (d + 1) _ (by omega) (by simp only [u_tick, u_mine]; exact hun)).wh ?_
  cases h1 : few (.mk kd c s0 s1 s2 s3 n mn mx l)
  · have h1' := h1
    simp only [few] at h1'
    simp -implicitDefEqProofs -dsimp only [↓reduceIte, ↓W_seq, go_sem, enc, h1', cut_und _ _ hu, Bool.false_and]
  · have h1' := h1
    simp only [few] at h1'
    simp -implicitDefEqProofs -dsimp only [↓reduceIte, ↓W_seq, go_sem, enc, h1', Bool.true_and]
    refine (w410 (.mk kd' c' t0 t1 t2 t3 n' mn' mx' l') lim (d + 1) _ (by omega) (by simp only [u_tick, u_mine]; exact hun)).wh ?_
    simp -implicitDefEqProofs -dsimp only [↓reduceIte, ↓W_seq, go_sem, enc, cut_und _ _ hu, few]
/-- Two addresses are alike. -/
def likeA (k v : Int) (x : Nd) (k' v' : Int) (x' : Nd) : Bool := k == k' && (v == v' && sameB x x')
theorem w411 (k v : Int) (x : Nd) (hx : sz x ≤ 1000000) (k' v' : Int) (x' : Nd) (lim d : Nat) (σ : Sto) (hlim : lim ≤ d) (hu : σ.Und d) : Ret lim d 31 [.agg (encA k v x), .agg (encA k' v' x')] σ (.bool (likeA k v x k' v' x')) σ := by
  have hun := und_succ hu
  unfold Ret likeA
  obtain ⟨kd, c, s0, s1, s2, s3, n, mn, mx, l⟩ := x
  obtain ⟨kd', c', t0, t1, t2, t3, n', mn', mx', l'⟩ := x'
  rw [WF_body (C := X) rfl Go.Proofs.Tryz.func31 rfl (by kernel_rfl)]; simp only [Go.Proofs.Tryz.results31]
  cases h1 : k == k'
  · simp -implicitDefEqProofs -dsimp only [↓reduceIte, ↓W_seq, go_sem, enc, encA, h1, cut_und _ _ hu, Bool.false_and]
  cases h2 : v == v'
  · simp -implicitDefEqProofs -dsimp only [↓reduceIte, ↓W_seq, go_sem, enc, encA, h1, h2, cut_und _ _ hu, Bool.false_and, Bool.true_and]
  simp -implicitDefEqProofs -dsimp only [↓reduceIte, ↓W_seq, go_sem, enc, encA, h1, h2, Bool.true_and]
  refine (w16g (.mk kd c s0 s1 s2 s3 n mn mx l) hx (.mk kd' c' t0 t1 t2 t3 n' mn' mx' l') lim (d + 1) _ (by omega) (by simp only [u_tick, u_mine]; exact hun)).wh ?_
  simp -implicitDefEqProofs -dsimp only [↓reduceIte, ↓W_seq, go_sem, enc, cut_und _ _ hu]
theorem w413 (k v : Int) (x : Nd) (hx : sz x ≤ 1000000) (k' v' : Int) (x' : Nd) (lim d : Nat) (σ : Sto) (hlim : lim ≤ d) (hu : σ.Und d) : Ret lim d 37 [.agg (encA k v x), .agg (encA k' v' x')] σ (.bool (likeA k v x k' v' x')) σ := by
  have hun := und_succ hu
  unfold Ret likeA
  obtain ⟨kd, c, s0, s1, s2, s3, n, mn, mx, l⟩ := x
  obtain ⟨kd', c', t0, t1, t2, t3, n', mn', mx', l'⟩ := x'
  rw [WF_body (C := X) rfl Go.Proofs.Tryz.func37 rfl (by kernel_rfl)]; simp only [Go.Proofs.Tryz.results37]
  cases h1 : k == k'
  · simp -implicitDefEqProofs -dsimp only [↓reduceIte, ↓W_seq, go_sem, enc, encA, h1, cut_und _ _ hu, Bool.false_and]
  cases h2 : v == v'
  · simp -implicitDefEqProofs -dsimp only [↓reduceIte, ↓W_seq, go_sem, enc, encA, h1, h2, cut_und _ _ hu, Bool.false_and, Bool.true_and]
  simp -implicitDefEqProofs -dsimp only [↓reduceIte, ↓W_seq, go_sem, enc, encA, h1, h2, Bool.true_and]
  refine (w10g (.mk kd c s0 s1 s2 s3 n mn mx l) hx (.mk kd' c' t0 t1 t2 t3 n' mn' mx' l') lim (d + 1) _ (by omega) (by simp only [u_tick, u_mine]; exact hun)).wh ?_
  simp -implicitDefEqProofs -dsimp only [↓reduceIte, ↓W_seq, go_sem, enc, cut_und _ _ hu]
@[go_sem] theorem bin_bbA (x y : Bool) : binO X.P X.eqT .eql 4 (.bool x) (.bool y) = some (.bool (x == y)) := by
  have h : X.P.underlying 4 = some .bool := by kernel_rfl
  simp only [binO, h]
def likeG (k v : Int) (x : Nd) (k2 v2 : Int) (y : Nd) (b : Bool) (k' v' : Int) (x' : Nd) (k2' v2' : Int) (y' : Nd) (b' : Bool) : Bool := likeA k v x k' v' x' && (likeA k2 v2 y k2' v2' y' && b == b')
theorem w404 (k v : Int) (x : Nd) (hx : sz x ≤ 1000000) (k2 v2 : Int) (y : Nd) (hy : sz y ≤ 1000000) (b : Bool) (k' v' : Int) (x' : Nd) (k2' v2' : Int) (y' : Nd) (b' : Bool) (lim d : Nat) (σ : Sto) (hlim : lim ≤ d) (hu : σ.Und d) :
    Ret lim d 30 [.agg (encG k v x k2 v2 y b), .agg (encG k' v' x' k2' v2' y' b')] σ (.bool (likeG k v x k2 v2 y b k' v' x' k2' v2' y' b')) σ := by
  have hun := und_succ hu
  unfold Ret likeG
  obtain ⟨kd, c, s0, s1, s2, s3, n, mn, mx, l⟩ := x
  obtain ⟨kd', c', t0, t1, t2, t3, n', mn', mx', l'⟩ := y
  obtain ⟨kd3, c3, q0, q1, q2, q3, n3, mn3, mx3, l3⟩ := x'
  obtain ⟨kd4, c4, r0, r1, r2, r3, n4, mn4, mx4, l4⟩ := y'
  rw [WF_body (C := X) rfl Go.Proofs.Tryz.func30 rfl (by kernel_rfl)]; simp only [Go.Proofs.Tryz.results30]
  simp -implicitDefEqProofs -dsimp only [↓reduceIte, ↓W_seq, go_sem, enc, encG, encA, List.cons_append, List.nil_append]
  refine (w411 k v (.mk kd c s0 s1 s2 s3 n mn mx l) hx k' v' (.mk kd3 c3 q0 q1 q2 q3 n3 mn3 mx3 l3) lim (d + 1) _ (by omega) (by simp only [u_tick, u_mine]; exact hun)).wh ?_
  cases h1 : likeA k v (.mk kd c s0 s1 s2 s3 n mn mx l) k' v' (.mk kd3 c3 q0 q1 q2 q3 n3 mn3 mx3 l3)
  · simp -implicitDefEqProofs -dsimp only [↓reduceIte, ↓W_seq, go_sem, enc, cut_und _ _ hu, Bool.false_and]
  simp -implicitDefEqProofs -dsimp only [↓reduceIte, ↓W_seq, go_sem, enc, Bool.true_and]
  refine (w411 k2 v2 (.mk kd' c' t0 t1 t2 t3 n' mn' mx' l') hy k2' v2' (.mk kd4 c4 r0 r1 r2 r3 n4 mn4 mx4 l4) lim (d + 1) _ (by omega) (by simp only [u_tick, u_mine]; exact hun)).wh ?_
  cases h2 : likeA k2 v2 (.mk kd' c' t0 t1 t2 t3 n' mn' mx' l') k2' v2' (.mk kd4 c4 r0 r1 r2 r3 n4 mn4 mx4 l4)
  · simp -implicitDefEqProofs -dsimp only [↓reduceIte, ↓W_seq, go_sem, enc, cut_und _ _ hu, Bool.false_and]
  simp -implicitDefEqProofs -dsimp only [↓reduceIte, ↓W_seq, go_sem, enc, Bool.true_and, cut_und _ _ hu]
theorem w406 (k v : Int) (x : Nd) (hx : sz x ≤ 1000000) (k2 v2 : Int) (y : Nd) (hy : sz y ≤ 1000000) (b : Bool) (k' v' : Int) (x' : Nd) (k2' v2' : Int) (y' : Nd) (b' : Bool) (lim d : Nat) (σ : Sto) (hlim : lim ≤ d) (hu : σ.Und d) :
    Ret lim d 36 [.agg (encG k v x k2 v2 y b), .agg (encG k' v' x' k2' v2' y' b')] σ (.bool (likeG k v x k2 v2 y b k' v' x' k2' v2' y' b')) σ := by
  have hun := und_succ hu
  unfold Ret likeG
  obtain ⟨kd, c, s0, s1, s2, s3, n, mn, mx, l⟩ := x
  obtain ⟨kd', c', t0, t1, t2, t3, n', mn', mx', l'⟩ := y
  obtain ⟨kd3, c3, q0, q1, q2, q3, n3, mn3, mx3, l3⟩ := x'
  obtain ⟨kd4, c4, r0, r1, r2, r3, n4, mn4, mx4, l4⟩ := y'
  rw [WF_body (C := X) rfl Go.Proofs.Tryz.func36 rfl (by kernel_rfl)]; simp only [Go.Proofs.Tryz.results36]
  simp -implicitDefEqProofs -dsimp only [↓reduceIte, ↓W_seq, go_sem, enc, encG, encA, List.cons_append, List.nil_append]
  refine (w413 k v (.mk kd c s0 s1 s2 s3 n mn mx l) hx k' v' (.mk kd3 c3 q0 q1 q2 q3 n3 mn3 mx3 l3) lim (d + 1) _ (by omega) (by simp only [u_tick, u_mine]; exact hun)).wh ?_
  cases h1 : likeA k v (.mk kd c s0 s1 s2 s3 n mn mx l) k' v' (.mk kd3 c3 q0 q1 q2 q3 n3 mn3 mx3 l3)
  · simp -implicitDefEqProofs -dsimp only [↓reduceIte, ↓W_seq, go_sem, enc, cut_und _ _ hu, Bool.false_and]
  simp -implicitDefEqProofs -dsimp only [↓reduceIte, ↓W_seq, go_sem, enc, Bool.true_and]
  refine (w413 k2 v2 (.mk kd' c' t0 t1 t2 t3 n' mn' mx' l') hy k2' v2' (.mk kd4 c4 r0 r1 r2 r3 n4 mn4 mx4 l4) lim (d + 1) _ (by omega) (by simp only [u_tick, u_mine]; exact hun)).wh ?_
  cases h2 : likeA k2 v2 (.mk kd' c' t0 t1 t2 t3 n' mn' mx' l') k2' v2' (.mk kd4 c4 r0 r1 r2 r3 n4 mn4 mx4 l4)
  · simp -implicitDefEqProofs -dsimp only [↓reduceIte, ↓W_seq, go_sem, enc, cut_und _ _ hu, Bool.false_and]
  simp -implicitDefEqProofs -dsimp only [↓reduceIte, ↓W_seq, go_sem, enc, Bool.true_and, cut_und _ _ hu]
end Go.Proofs.Tryz.E
