/- Walks: what the functions compute. Walks: what the functions compute. Walks: what the functions compute. -/
import Derived.Test.YthmgjkngkhdjjaaGreatDoorWA0
import Derived.Test.YthmgjkngkhdjjaaGreatDoorWA3
set_option linter.unusedVariables false
set_option linter.unusedSimpArgs false
/- Addresses that are arguments: as values without memory. -/
namespace Go.Proofs.Tryz.E
open Go.Mv
set_option maxHeartbeats 4000000
set_option maxRecDepth 20000
open Go.ChangeShapes Go.WideShapes Go.RowKit Go.Deep
def tys (P : Program) (t : TypeId) : Option (List TypeId) := match P.underlying t with
 | some (.struct fs) => some (fs.toList.map (·.type))
 | _ => none
theorem ty_int {P : Program} {n : Nat} {t : TypeId} {ms : List MV} {k : IntKind} (hu : P.underlying t = some (.int k)) (h : Ty P n t ms) : ∃ x, ms = [.int k x] ∧ (Lit.int k x).wf = true := by
 cases n with
 | zero => exact h.elim
 | succ n => simp only [Ty, hu] at h; exact h
theorem ty_slice {P : Program} {n : Nat} {t e : TypeId} {ms : List MV} (hu : P.underlying t = some (.slice e)) (h : Ty P n t ms) : ∃ (m : Nat) (xs : List (List MV)), n = m + 1 ∧ ms = [.sl .no xs] ∧ ∀ x ∈ xs, Ty P m e x := by
 cases n with
 | zero => exact h.elim
 | succ n => simp only [Ty, hu] at h; obtain ⟨xs, h1, h2⟩ := h; exact ⟨n, xs, rfl, h1, h2⟩
theorem ty_array {P : Program} {n k : Nat} {t e : TypeId} {ms : List MV} (hu : P.underlying t = some (.array k e)) (h : Ty P n t ms) : ∃ (m : Nat) (xs : List (List MV)), n = m + 1 ∧ xs.length = k ∧ ms = xs.flatten ∧ ∀ x ∈ xs, Ty P m e x := by
 cases n with
 | zero => exact h.elim
 | succ n => simp only [Ty, hu] at h; obtain ⟨xs, h1, h2, h3⟩ := h; exact ⟨n, xs, rfl, h1, h2, h3⟩
theorem ty_struct {P : Program} {n : Nat} {t : TypeId} {ms : List MV} {l : List TypeId} (hu : tys P t = some l) (h : Ty P n t ms) : ∃ (m : Nat) (xs : List (List MV)), n = m + 1 ∧ xs.length = l.length ∧ ms = xs.flatten ∧ ∀ (i : Nat) (u : TypeId) (x : List MV), l[i]? = some u → xs[i]? = some x → Ty P m u x := by
 cases n with
 | zero => exact h.elim
 | succ n =>
  unfold tys at hu
  simp only [Ty] at h
  split at hu
  ·rename_i fs hf
   cases hu
   rw [hf] at h
   obtain ⟨xs, h1, h2, h3⟩ := h
   refine ⟨n, xs, rfl, by simp [h1], h2, fun i u x hu hx => ?_⟩
   rw [List.getElem?_map] at hu
   obtain ⟨f, hf', rfl⟩ := Option.map_eq_some_iff.1 hu
   exact h3 i f x (by simpa using hf') hx
  ·cases hu
theorem und_node : tys X.P 27 = some [3, 5, 24, 3, 3, 3, 25] := by kernel_rfl
theorem und_adr : tys X.P 29 = some [3, 3, 27] := by kernel_rfl
theorem und_set4 : X.P.underlying 24 = some (.array 4 22) := by kernel_rfl
theorem und_kids : X.P.underlying 25 = some (.slice 27) := by kernel_rfl
theorem und_i : X.P.underlying 3 = some (.int .i64) := by kernel_rfl
theorem und_b8 : X.P.underlying 5 = some (.int .u8) := by kernel_rfl
theorem und_u64 : X.P.underlying 22 = some (.int .u64) := by kernel_rfl
theorem lst3 {α : Type} {l : List α} (h : l.length = 3) : ∃ a b c, l = [a, b, c] := by
 match l, h with
 | [a, b, c], _ => exact ⟨a, b, c, rfl⟩
theorem lst4 {α : Type} {l : List α} (h : l.length = 4) : ∃ a b c d, l = [a, b, c, d] := by
 match l, h with
 | [a, b, c, d], _ => exact ⟨a, b, c, d, rfl⟩
theorem lst7 {α : Type} {l : List α} (h : l.length = 7) : ∃ a b c d e f g, l = [a, b, c, d, e, f, g] := by
 match l, h with
 | [a, b, c, d, e, f, g], _ => exact ⟨a, b, c, d, e, f, g, rfl⟩
def encA (k n : Int) (x : Nd) : List MV := .int .i64 k :: .int .i64 n :: enc x
def encG (k n : Int) (x : Nd) (k2 n2 : Int) (y : Nd) (b : Bool) : List MV := encA k n x ++ encA k2 n2 y ++ [.bool b]
theorem vr_agg {W : World} {g : Gh} {s : Sto} {ms : List MV} {v : Value} (hv : ∃ cs, v = .agg cs) (hl : ms.length = v.cells.toList.length) (hp : ∀ c ∈ ms, c.pur = true) (h : ∀ (i : Nat) (c : MV), ms[i]? = some c → VR W g s c (v.cells.toList[i]?.getD Go.undef)) : VR W g s (.agg ms) v := by
 obtain ⟨cs, rfl⟩ := hv
 simp only [Value.cells] at hl h
 exact .agg ms cs (by simpa using hl) (fun c hc => flat_of_pur (hp c hc)) fun i c hc => by simpa using h i c hc
def few (x : Nd) : Bool := decide (0 < bndT x 40 400)
theorem few_sz {x : Nd} (h : few x = true) : sz x ≤ 1000000 := by
 simp only [few, decide_eq_true_eq] at h
 have := bnd_sz x 40 400 h
 omega
theorem w412 (k v : Int) (x : Nd) (hx : sz x ≤ 1000000) (lim d : Nat) (σ : Sto) (hlim : lim ≤ d) (hu : σ.Und d) : Ret lim d 7 [.agg (encA k v x)] σ (.agg (encA k v x)) σ := by
 have hun := und_succ hu
 unfold Ret
 obtain ⟨kd, c, s0, s1, s2, s3, n, mn, mx, l⟩ := x
 rw [WF_body (C := X) rfl func7 rfl (by kernel_rfl)]; simp only [results7]
 simp -implicitDefEqProofs -dsimp only [go_sem, enc, encA]
 rw [D_dr (by kernel_rfl) rfl]
 simp -implicitDefEqProofs -dsimp only [go_sem]
 refine (w417 (.mk kd c s0 s1 s2 s3 n mn mx l) hx (d + 1) (d + 1) _ (Nat.le_refl _) (by simp only [u_tick, u_mine]; exact hun)).wh ?_
 simp -implicitDefEqProofs -dsimp only [go_sem, enc, encA, cut_und _ _ hu]
theorem w403 (k v : Int) (x : Nd) (k2 v2 : Int) (y : Nd) (b : Bool) (lim d : Nat) (σ : Sto) (hlim : lim ≤ d) (hu : σ.Und d) : Ret lim d 5 [.agg (encG k v x k2 v2 y b)] σ (.bool (few x && few y)) σ := by
 have hun := und_succ hu
 unfold Ret
 obtain ⟨kd, c, s0, s1, s2, s3, n, mn, mx, l⟩ := x
 obtain ⟨kd', c', t0, t1, t2, t3, n', mn', mx', l'⟩ := y
 rw [WF_body (C := X) rfl func5 rfl (by kernel_rfl)]; simp only [results5]
 simp -implicitDefEqProofs -dsimp only [go_sem, enc, encG, encA, List.cons_append, List.nil_append]
 refine (w410 (.mk kd c s0 s1 s2 s3 n mn mx l) lim (d + 1) _ (by omega) (by simp only [u_tick, u_mine]; exact hun)).wh ?_
 cases h1 : few (.mk kd c s0 s1 s2 s3 n mn mx l)
 ·have h1' := h1
  simp only [few] at h1'
  simp -implicitDefEqProofs -dsimp only [go_sem, h1', cut_und _ _ hu, Bool.false_and]
 ·have h1' := h1
  simp only [few] at h1'
  simp -implicitDefEqProofs -dsimp only [go_sem, h1']
  refine (w410 (.mk kd' c' t0 t1 t2 t3 n' mn' mx' l') lim (d + 1) _ (by omega) (by simp only [u_tick, u_mine]; exact hun)).wh ?_
  simp -implicitDefEqProofs -dsimp only [go_sem, cut_und _ _ hu, few]
def likeA (k v : Int) (x : Nd) (k' v' : Int) (x' : Nd) : Bool := k == k' && (v == v' && sameB x x')
theorem w413 (k v : Int) (x : Nd) (hx : sz x ≤ 1000000) (k' v' : Int) (x' : Nd) (lim d : Nat) (σ : Sto) (hlim : lim ≤ d) (hu : σ.Und d) : Ret lim d 23 [.agg (encA k v x), .agg (encA k' v' x')] σ (.bool (likeA k v x k' v' x')) σ := by
 have hun := und_succ hu
 unfold Ret likeA
 obtain ⟨kd, c, s0, s1, s2, s3, n, mn, mx, l⟩ := x
 obtain ⟨kd', c', t0, t1, t2, t3, n', mn', mx', l'⟩ := x'
 rw [WF_body (C := X) rfl func23 rfl (by kernel_rfl)]; simp only [results23]
 cases h1 : k == k'
 ·simp -implicitDefEqProofs -dsimp only [go_sem, enc, encA, h1, cut_und _ _ hu, Bool.false_and]
 cases h2 : v == v'
 ·simp -implicitDefEqProofs -dsimp only [go_sem, enc, encA, h1, h2, cut_und _ _ hu, Bool.false_and, Bool.true_and]
 simp -implicitDefEqProofs -dsimp only [go_sem, enc, encA, h1, h2]
 refine (w10g (.mk kd c s0 s1 s2 s3 n mn mx l) hx (.mk kd' c' t0 t1 t2 t3 n' mn' mx' l') lim (d + 1) _ (by omega) (by simp only [u_tick, u_mine]; exact hun)).wh ?_
 simp -implicitDefEqProofs -dsimp only [go_sem, cut_und _ _ hu]
@[go_sem] theorem bin_bbA (x y : Bool) : binO X.P X.eqT .eql 4 (.bool x) (.bool y) = some (.bool (x == y)) := by
 have h : X.P.underlying 4 = some .bool := by kernel_rfl
 simp only [binO, h]
def likeG (k v : Int) (x : Nd) (k2 v2 : Int) (y : Nd) (b : Bool) (k' v' : Int) (x' : Nd) (k2' v2' : Int) (y' : Nd) (b' : Bool) : Bool := likeA k v x k' v' x' && (likeA k2 v2 y k2' v2' y' && b == b')
theorem w406 (k v : Int) (x : Nd) (hx : sz x ≤ 1000000) (k2 v2 : Int) (y : Nd) (hy : sz y ≤ 1000000) (b : Bool) (k' v' : Int) (x' : Nd) (k2' v2' : Int) (y' : Nd) (b' : Bool) (lim d : Nat) (σ : Sto) (hlim : lim ≤ d) (hu : σ.Und d) :
  Ret lim d 10 [.agg (encG k v x k2 v2 y b), .agg (encG k' v' x' k2' v2' y' b')] σ (.bool (likeG k v x k2 v2 y b k' v' x' k2' v2' y' b')) σ := by
 have hun := und_succ hu
 unfold Ret likeG
 obtain ⟨kd, c, s0, s1, s2, s3, n, mn, mx, l⟩ := x
 obtain ⟨kd', c', t0, t1, t2, t3, n', mn', mx', l'⟩ := y
 obtain ⟨kd3, c3, q0, q1, q2, q3, n3, mn3, mx3, l3⟩ := x'
 obtain ⟨kd4, c4, r0, r1, r2, r3, n4, mn4, mx4, l4⟩ := y'
 rw [WF_body (C := X) rfl func10 rfl (by kernel_rfl)]; simp only [results10]
 simp -implicitDefEqProofs -dsimp only [go_sem, enc, encG, encA, List.cons_append, List.nil_append]
 refine (w413 k v (.mk kd c s0 s1 s2 s3 n mn mx l) hx k' v' (.mk kd3 c3 q0 q1 q2 q3 n3 mn3 mx3 l3) lim (d + 1) _ (by omega) (by simp only [u_tick, u_mine]; exact hun)).wh ?_
 cases h1 : likeA k v (.mk kd c s0 s1 s2 s3 n mn mx l) k' v' (.mk kd3 c3 q0 q1 q2 q3 n3 mn3 mx3 l3)
 ·simp -implicitDefEqProofs -dsimp only [go_sem, cut_und _ _ hu, Bool.false_and]
 simp -implicitDefEqProofs -dsimp only [go_sem]
 refine (w413 k2 v2 (.mk kd' c' t0 t1 t2 t3 n' mn' mx' l') hy k2' v2' (.mk kd4 c4 r0 r1 r2 r3 n4 mn4 mx4 l4) lim (d + 1) _ (by omega) (by simp only [u_tick, u_mine]; exact hun)).wh ?_
 cases h2 : likeA k2 v2 (.mk kd' c' t0 t1 t2 t3 n' mn' mx' l') k2' v2' (.mk kd4 c4 r0 r1 r2 r3 n4 mn4 mx4 l4)
 ·simp -implicitDefEqProofs -dsimp only [go_sem, cut_und _ _ hu, Bool.false_and]
 simp -implicitDefEqProofs -dsimp only [go_sem, Bool.true_and, cut_und _ _ hu]
section
variable {C : Cfg} {lim d : Nat} {a : Nat → MV} {σ : Sto} {Q : (Nat → MV) → Sto → Prop} {l : List Oper} {b : Bool} {ops : Array Oper} {dst : Option Tmp} {op : Op} {ty : TypeId} {pos : String} {aft : Array Edge} {j : Nat} {w : Bool} {P : Program} {t : TypeId} {x y v : MV} {e : TypeId → Option (List Sh)}
@[go_sem] theorem g_build {ps : Array (Nat × Operand)} : WO C lim d ops (⟨dst, .build t ps, ty, pos, aft, some (j, w)⟩ :: l) a σ Q ↔ Opt (gdT ops a j w) fun b => Opt (gvO b (buildO C.P t (ps.toList.map fun p => (p.1, valO a p.2)))) fun v => WO C lim d ops l (putD a dst v) σ Q := WO_gp fun _ => rfl
end
def zn : Nd := .mk 0 0 0 0 0 0 0 0 0 []
def formA (k v : Int) (x : Nd) : Bool := if k = 3 then v == 0 && formedB x else if k = 1 then decide (0 ≤ v) && (decide (v ≤ 1000000000) && sameB x zn) else if k = 0 ∨ k = 2 ∨ k = 4 then v == 0 && sameB x zn else false
theorem w414 (k v : Int) (x : Nd) (hx : sz x ≤ 1000000) (lim d : Nat) (σ : Sto) (hlim : lim ≤ d) (hu : σ.Und d) : Ret lim d 25 [.agg (encA k v x)] σ (.bool (formA k v x)) σ := by
 have hun := und_succ hu
 unfold Ret
 obtain ⟨kd, c, s0, s1, s2, s3, n, mn, mx, l⟩ := x
 have h12 := w12 (.mk kd c s0 s1 s2 s3 n mn mx l) hx lim (d + 1)
 have h16 := w16g (.mk kd c s0 s1 s2 s3 n mn mx l) hx zn lim (d + 1)
 unfold formA
 rw [WF_body (C := X) rfl func25 rfl (by kernel_rfl)]; simp only [results25]
 by_cases h3 : k = 3
 ·subst h3
  cases h4 : v == 0
  ·simp -implicitDefEqProofs -dsimp only [go_sem, enc, encA, h4, beq_self_eq_true, cut_und _ _ hu, Bool.false_and]
  simp -implicitDefEqProofs -dsimp only [go_sem, enc, encA, h4, beq_self_eq_true]
  refine (h12 _ (by omega) (by simp only [u_tick, u_mine]; exact hun)).wh ?_
  simp -implicitDefEqProofs -dsimp only [go_sem, cut_und _ _ hu, Bool.true_and]
 have e3 := beq_ne h3
 by_cases h1 : k = 1
 ·subst h1
  cases h4 : decide (0 ≤ v)
  ·have h4' : ¬ 0 ≤ v := of_decide_eq_false h4
   simp -implicitDefEqProofs -dsimp only [go_sem, enc, encA, h4', e3, beq_self_eq_true, cut_und _ _ hu, Bool.false_and]
  ·have h4' : 0 ≤ v := of_decide_eq_true h4
   cases h5 : decide (v ≤ 1000000000)
   ·have h5' : ¬ v ≤ 1000000000 := of_decide_eq_false h5
    simp -implicitDefEqProofs -dsimp only [go_sem, enc, encA, h4', h5', e3, beq_self_eq_true, cut_und _ _ hu, Bool.false_and, Bool.true_and]
   ·have h5' : v ≤ 1000000000 := of_decide_eq_true h5
    simp -implicitDefEqProofs -dsimp only [go_sem, enc, encA, h4', h5', e3, beq_self_eq_true, Bool.true_and]
    refine (h16 _ (by omega) (by simp only [u_tick, u_mine]; exact hun)).wh ?_
    simp -implicitDefEqProofs -dsimp only [go_sem, cut_und _ _ hu]
 have e1 := beq_ne h1
 rw [if_neg h3, if_neg h1]
 cases h4 : v == 0
 ·simp -implicitDefEqProofs -dsimp only [go_sem, enc, encA, h4, e1, e3, cut_und _ _ hu, Bool.false_and, ite_self]
 ·by_cases q : k = 0 ∨ k = 2 ∨ k = 4
  ·rw [if_pos q]
   have g1 : (0 : Int) ≤ k := by omega
   have g2 : k ≤ 4 := by omega
   simp -implicitDefEqProofs -dsimp only [go_sem, enc, encA, h4, e1, e3, g1, g2, Bool.true_and]
   refine (h16 _ (by omega) (by simp only [u_tick, u_mine]; exact hun)).wh ?_
   simp -implicitDefEqProofs -dsimp only [go_sem, cut_und _ _ hu]
  ·rw [if_neg q]
   by_cases g1 : (0 : Int) ≤ k
   ·have g2 : ¬ k ≤ 4 := by omega
    simp -implicitDefEqProofs -dsimp only [go_sem, enc, encA, h4, e1, e3, g1, g2, cut_und _ _ hu]
   ·simp -implicitDefEqProofs -dsimp only [go_sem, enc, encA, h4, e1, e3, g1, cut_und _ _ hu]
theorem w415 (k v : Int) (x : Nd) (hx : sz x ≤ 1000000) (lim d : Nat) (σ : Sto) (hlim : lim ≤ d) (hu : σ.Und d) : Ret lim d 8 [.agg (encA k v x)] σ (.bool (formA k v x)) σ := by
 have hun := und_succ hu
 unfold Ret
 obtain ⟨kd, c, s0, s1, s2, s3, n, mn, mx, l⟩ := x
 have h25 := w25 (.mk kd c s0 s1 s2 s3 n mn mx l) hx lim (d + 1)
 have h10 := w10g (.mk kd c s0 s1 s2 s3 n mn mx l) hx zn lim (d + 1)
 unfold formA
 rw [WF_body (C := X) rfl func8 rfl (by kernel_rfl)]; simp only [results8]
 simp -implicitDefEqProofs -dsimp only [go_sem, enc, encA]
 refine (h10 _ (by omega) (by simp only [u_tick, u_mine]; exact hun)).wh ?_
 generalize sameB (.mk kd c s0 s1 s2 s3 n mn mx l) zn = z
 by_cases h1 : k = 1
 ·subst h1
  cases h4 : decide (0 ≤ v)
  ·have h4' : ¬ 0 ≤ v := of_decide_eq_false h4
   simp -implicitDefEqProofs -dsimp only [go_sem, h4', cut_und _ _ hu, Bool.false_and, beq_self_eq_true]
  ·have h4' : 0 ≤ v := of_decide_eq_true h4
   cases h5 : decide (v ≤ 1000000000)
   ·have h5' : ¬ v ≤ 1000000000 := of_decide_eq_false h5
    simp -implicitDefEqProofs -dsimp only [go_sem, h4', h5', cut_und _ _ hu, Bool.false_and, Bool.true_and, beq_self_eq_true]
   ·have h5' : v ≤ 1000000000 := of_decide_eq_true h5
    simp -implicitDefEqProofs -dsimp only [go_sem, h4', h5', cut_und _ _ hu, Bool.true_and, beq_self_eq_true]
 have e1 := beq_ne h1
 by_cases h3 : k = 3
 ·subst h3
  cases h4 : v == 0
  ·simp -implicitDefEqProofs -dsimp only [go_sem, h4, beq_self_eq_true, e1, cut_und _ _ hu, Bool.false_and]
  simp -implicitDefEqProofs -dsimp only [go_sem, h4, beq_self_eq_true, e1]
  refine (h25 _ (by omega) (by simp only [u_tick, u_mine]; exact hun)).wh ?_
  simp -implicitDefEqProofs -dsimp only [go_sem, cut_und _ _ hu, Bool.true_and]
 have e3 := beq_ne h3
 rw [if_neg h3, if_neg h1]
 by_cases q0 : k = 0
 ·subst q0
  cases h4 : v == 0
  ·simp -implicitDefEqProofs -dsimp only [go_sem, h4, beq_self_eq_true, e1, e3, cut_und _ _ hu, Bool.false_and, true_or]
  ·simp -implicitDefEqProofs -dsimp only [go_sem, h4, beq_self_eq_true, e1, e3, cut_und _ _ hu, Bool.true_and, true_or]
 have e0 := beq_ne q0
 by_cases q2 : k = 2
 ·subst q2
  cases h4 : v == 0
  ·simp -implicitDefEqProofs -dsimp only [go_sem, h4, beq_self_eq_true, e0, e1, e3, cut_und _ _ hu, Bool.false_and, true_or, or_true]
  ·simp -implicitDefEqProofs -dsimp only [go_sem, h4, beq_self_eq_true, e0, e1, e3, cut_und _ _ hu, Bool.true_and, true_or, or_true]
 have e2 := beq_ne q2
 by_cases q4 : k = 4
 ·subst q4
  cases h4 : v == 0
  ·simp -implicitDefEqProofs -dsimp only [go_sem, h4, beq_self_eq_true, e0, e2, e1, e3, cut_und _ _ hu, Bool.false_and, or_true]
  ·simp -implicitDefEqProofs -dsimp only [go_sem, h4, beq_self_eq_true, e0, e2, e1, e3, cut_und _ _ hu, Bool.true_and, or_true]
 have e4 := beq_ne q4
 simp -implicitDefEqProofs -dsimp only [go_sem, e0, e1, e2, e3, e4, q0, q2, q4, or_self, cut_und _ _ hu]
def formG (k v : Int) (x : Nd) (k2 v2 : Int) (y : Nd) : Bool := formA k v x && (formA k2 v2 y && (k != 0 || k2 == 0))
theorem w407 (k v : Int) (x : Nd) (hx : sz x ≤ 1000000) (k2 v2 : Int) (y : Nd) (hy : sz y ≤ 1000000) (b : Bool) (lim d : Nat) (σ : Sto) (hlim : lim ≤ d) (hu : σ.Und d) : Ret lim d 13 [.agg (encG k v x k2 v2 y b)] σ (.bool (formG k v x k2 v2 y)) σ := by
 have hun := und_succ hu
 unfold Ret formG
 have h1 := w414 k v x hx lim (d + 1)
 have h2 := w414 k2 v2 y hy lim (d + 1)
 obtain ⟨kd, c, s0, s1, s2, s3, n, mn, mx, l⟩ := x
 obtain ⟨kd', c', t0, t1, t2, t3, n', mn', mx', l'⟩ := y
 rw [WF_body (C := X) rfl func13 rfl (by kernel_rfl)]; simp only [results13]
 simp -implicitDefEqProofs -dsimp only [go_sem, enc, encG, encA, List.cons_append, List.nil_append]
 refine (h1 _ (by omega) (by simp only [u_tick, u_mine]; exact hun)).wh ?_
 cases formA k v (.mk kd c s0 s1 s2 s3 n mn mx l)
 ·simp -implicitDefEqProofs -dsimp only [go_sem, cut_und _ _ hu, Bool.false_and]
 simp -implicitDefEqProofs -dsimp only [go_sem]
 refine (h2 _ (by omega) (by simp only [u_tick, u_mine]; exact hun)).wh ?_
 cases formA k2 v2 (.mk kd' c' t0 t1 t2 t3 n' mn' mx' l')
 ·simp -implicitDefEqProofs -dsimp only [go_sem, cut_und _ _ hu, Bool.false_and]
 cases hk : k != 0
 ·simp -implicitDefEqProofs -dsimp only [go_sem, hk, Bool.true_and, Bool.false_or, cut_und _ _ hu]
 ·simp -implicitDefEqProofs -dsimp only [go_sem, hk, Bool.true_and, Bool.true_or, cut_und _ _ hu]
def manyG (k k2 : Int) : Int := if k = 0 then 0 else if k2 = 0 then 1 else 2
end Go.Proofs.Tryz.E
