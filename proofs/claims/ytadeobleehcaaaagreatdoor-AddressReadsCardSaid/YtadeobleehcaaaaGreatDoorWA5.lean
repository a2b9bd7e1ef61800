/- Walks: what the functions compute. Walks: what the functions compute. Walks: what the functions compute. Walks: what the functions compute. -/
import Derived.Test.YtadeobleehcaaaaGreatDoorWE3
import Derived.Deep.Slices
import Derived.OpenShut
import Derived.Carry
import Derived.Test.YtadeobleehcaaaaGreatDoorWQ0
set_option linter.unusedVariables false
set_option linter.unusedSimpArgs false
/- What is read of an argument, as a value without memory; trees among them. -/
namespace Go.Proofs.Tryz.E
open Go.Mv
set_option maxHeartbeats 4000000
set_option maxRecDepth 20000
open Go.ChangeShapes Go.WideShapes Go.RowKit Go.Deep

def Ty (P : Program) : Nat → TypeId → List MV → Prop
 | 0, _, _ => False
 | n + 1, t, ms => match P.underlying t with
  | some .bool => ∃ b, ms = [.bool b]
  | some (.int k) => ∃ x, ms = [.int k x] ∧ (Lit.int k x).wf = true
  | some .string => ∃ s : List UInt8, ms = [.str s] ∧ s.length ≤ maxLen
  | some (.slice e) => ∃ xs, ms = [.sl .no xs] ∧ ∀ x ∈ xs, Ty P n e x
  | some (.struct fs) => ∃ mss : List (List MV), mss.length = fs.size ∧ ms = mss.flatten ∧ ∀ (i : Nat) (f : Field) (m : List MV), fs[i]? = some f → mss[i]? = some m → Ty P n f.type m
  | some (.array k e) => ∃ mss : List (List MV), mss.length = k ∧ ms = mss.flatten ∧ ∀ m ∈ mss, Ty P n e m
  | _ => False

def cumB : Nat → List (Nat × Nat) → Option Nat
 | o, [] => some o
 | o, p :: l => if p.1 = o then cumB (o + p.2) l else none
def okS (P : Program) (S : List TypeId) : Bool := S.all fun t => match P.underlying t with
 | some .bool | some (.int _) | some .string => true
 | some (.slice e) => S.contains e && decide (0 < P.cellsOf e)
 | some (.struct fs) => (fs.toList.all fun f => S.contains f.type) && cumB 0 (fs.toList.map fun f => (f.offset, P.cellsOf f.type)) == some (P.cellsOf t)
 | some (.array n e) => S.contains e && P.cellsOf t == n * P.cellsOf e
 | _ => false

def tys (P : Program) (t : TypeId) : Option (List TypeId) := match P.underlying t with
 | some (.struct fs) => some (fs.toList.map (·.type))
 | _ => none
def encA (k n : Int) (x : Nd) : List MV := .int .i64 k :: .int .i64 n :: enc x
def encG (k n : Int) (x : Nd) (k2 n2 : Int) (y : Nd) (b : Bool) : List MV := encA k n x ++ encA k2 n2 y ++ [.bool b]
def few (x : Nd) : Bool := decide (0 < bndT x 40 400)
def likeA (k v : Int) (x : Nd) (k' v' : Int) (x' : Nd) : Bool := k == k' && (v == v' && sameB x x')
theorem w413 (k v : Int) (x : Nd) (hx : sz x ≤ 1000000) (k' v' : Int) (x' : Nd) (lim d : Nat) (σ : Sto) (hlim : lim ≤ d) (hu : σ.Und d) : Ret lim d 23 [.agg (encA k v x), .agg (encA k' v' x')] σ (.bool (likeA k v x k' v' x')) σ := by
 have hun := und_succ hu
 unfold Ret likeA
 obtain ⟨kd, c, s0, s1, s2, s3, n, mn, mx, l⟩ := x
 obtain ⟨kd', c', t0, t1, t2, t3, n', mn', mx', l'⟩ := x'
 rw [WF_body (C := X) rfl func23 rfl (by kernel_rfl)]; simp only [results23]
 cases h1 : k == k'
 ·simp -implicitDefEqProofs -dsimp only [↓reduceIte, ↓W_seq, go_sem, Nat.reduceEqDiff, Nat.reduceLT, enc, encA, h1, cut_und _ _ hu, Bool.false_and]
 cases h2 : v == v'
 ·simp -implicitDefEqProofs -dsimp only [↓reduceIte, ↓W_seq, go_sem, Nat.reduceEqDiff, Nat.reduceLT, enc, encA, h1, h2, cut_und _ _ hu, Bool.false_and, Bool.true_and]
 simp -implicitDefEqProofs -dsimp only [↓reduceIte, ↓W_seq, go_sem, Nat.reduceEqDiff, Nat.reduceAdd, Nat.reduceLT, enc, encA, h1, h2]
 refine (w10g (.mk kd c s0 s1 s2 s3 n mn mx l) hx (.mk kd' c' t0 t1 t2 t3 n' mn' mx' l') lim (d + 1) _ (by omega) (by simp only [u_tick, u_mine]; exact hun)).wh ?_
 simp -implicitDefEqProofs -dsimp only [↓reduceIte, go_sem, Nat.reduceEqDiff, cut_und _ _ hu]
@[go_sem] theorem bin_bbA (x y : Bool) : binO X.P X.eqT .eql 4 (.bool x) (.bool y) = some (.bool (x == y)) := by
 have h : X.P.underlying 4 = some .bool := by kernel_rfl
 simp only [binO, h]
def likeG (k v : Int) (x : Nd) (k2 v2 : Int) (y : Nd) (b : Bool) (k' v' : Int) (x' : Nd) (k2' v2' : Int) (y' : Nd) (b' : Bool) : Bool := likeA k v x k' v' x' && (likeA k2 v2 y k2' v2' y' && b == b')
theorem w406 (k v : Int) (x : Nd) (hx : sz x ≤ 1000000) (k2 v2 : Int) (y : Nd) (hy : sz y ≤ 1000000) (b : Bool) (k' v' : Int) (x' : Nd) (k2' v2' : Int) (y' : Nd) (b' : Bool) (lim d : Nat) (σ : Sto) (hlim : lim ≤ d) (hu : σ.Und d) :
  Ret lim d 8 [.agg (encG k v x k2 v2 y b), .agg (encG k' v' x' k2' v2' y' b')] σ (.bool (likeG k v x k2 v2 y b k' v' x' k2' v2' y' b')) σ := by
 have hun := und_succ hu
 unfold Ret likeG
 obtain ⟨kd, c, s0, s1, s2, s3, n, mn, mx, l⟩ := x
 obtain ⟨kd', c', t0, t1, t2, t3, n', mn', mx', l'⟩ := y
 obtain ⟨kd3, c3, q0, q1, q2, q3, n3, mn3, mx3, l3⟩ := x'
 obtain ⟨kd4, c4, r0, r1, r2, r3, n4, mn4, mx4, l4⟩ := y'
 rw [WF_body (C := X) rfl func8 rfl (by kernel_rfl)]; simp only [results8]
 simp -implicitDefEqProofs -dsimp only [↓reduceIte, ↓W_seq, go_sem, Nat.reduceEqDiff, Nat.reduceAdd, Nat.reduceLeDiff, Nat.reduceLT, enc, encG, encA, List.cons_append, List.nil_append]
 refine (w413 k v (.mk kd c s0 s1 s2 s3 n mn mx l) hx k' v' (.mk kd3 c3 q0 q1 q2 q3 n3 mn3 mx3 l3) lim (d + 1) _ (by omega) (by simp only [u_tick, u_mine]; exact hun)).wh ?_
 cases h1 : likeA k v (.mk kd c s0 s1 s2 s3 n mn mx l) k' v' (.mk kd3 c3 q0 q1 q2 q3 n3 mn3 mx3 l3)
 ·simp -implicitDefEqProofs -dsimp only [↓reduceIte, go_sem, Nat.reduceEqDiff, cut_und _ _ hu, Bool.false_and]
 simp -implicitDefEqProofs -dsimp only [↓reduceIte, go_sem, Nat.reduceEqDiff, Nat.reduceAdd, Nat.reduceLeDiff]
 refine (w413 k2 v2 (.mk kd' c' t0 t1 t2 t3 n' mn' mx' l') hy k2' v2' (.mk kd4 c4 r0 r1 r2 r3 n4 mn4 mx4 l4) lim (d + 1) _ (by omega) (by simp only [u_tick, u_mine]; exact hun)).wh ?_
 cases h2 : likeA k2 v2 (.mk kd' c' t0 t1 t2 t3 n' mn' mx' l') k2' v2' (.mk kd4 c4 r0 r1 r2 r3 n4 mn4 mx4 l4)
 ·simp -implicitDefEqProofs -dsimp only [↓reduceIte, go_sem, Nat.reduceEqDiff, cut_und _ _ hu, Bool.false_and]
 simp -implicitDefEqProofs -dsimp only [↓reduceIte, go_sem, Nat.reduceEqDiff, Bool.true_and, cut_und _ _ hu]
section
variable {C : Cfg} {lim d : Nat} {a : Nat → MV} {σ : Sto} {Q : (Nat → MV) → Sto → Prop} {l : List Oper} {b : Bool} {ops : Array Oper} {dst : Option Tmp} {op : Op} {ty : TypeId} {pos : String} {aft : Array Edge} {j : Nat} {w : Bool} {P : Program} {t : TypeId} {x y v : MV} {e : TypeId → Option (List Sh)}
@[go_sem] theorem g_build {ps : Array (Nat × Operand)} : WO C lim d ops (⟨dst, .build t ps, ty, pos, aft, some (j, w)⟩ :: l) a σ Q ↔ Opt (gdT ops a j w) fun b => Opt (gvO b (buildO C.P t (ps.toList.map fun p => (p.1, valO a p.2)))) fun v => WO C lim d ops l (putD a dst v) σ Q := WO_gp fun _ => rfl
end
def zn : Nd := .mk 0 0 0 0 0 0 0 0 0 []
def formA (k v : Int) (x : Nd) : Bool := if k = 3 then v == 0 && formedB x else if k = 1 then decide (0 ≤ v) && (decide (v ≤ 1000000000) && sameB x zn) else if k = 0 ∨ k = 2 ∨ k = 4 then v == 0 && sameB x zn else false
theorem w414 (k v : Int) (x : Nd) (hx : sz x ≤ 1000000) (lim d : Nat) (σ : Sto) (hlim : lim ≤ d) (hu : σ.Und d) : Ret lim d 25 [.agg (encA k v x)] σ (.bool (formA k v x)) σ := by
 have hun := und_succ hu
 unfold Ret
 obtain ⟨kd, c, s0, s1, s2, s3, n, mn, mx, l⟩ := x
 have h12 := w12 (.mk kd c s0 s1 s2 s3 n mn mx l) hx lim (d + 1)
 have h16 := w16g (.mk kd c s0 s1 s2 s3 n mn mx l) hx zn lim (d + 1)
 unfold formA
 rw [WF_body (C := X) rfl func25 rfl (by kernel_rfl)]; simp only [results25]
 by_cases h3 : k = 3
 ·subst h3
  cases h4 : v == 0
  ·simp -implicitDefEqProofs -dsimp only [↓reduceIte, ↓W_seq, go_sem, Nat.reduceEqDiff, Nat.reduceLT, enc, encA, h4, beq_self_eq_true, cut_und _ _ hu, Bool.false_and]
  simp -implicitDefEqProofs -dsimp only [↓reduceIte, ↓W_seq, go_sem, Nat.reduceEqDiff, Nat.reduceAdd, Nat.reduceLT, enc, encA, h4, beq_self_eq_true]
  refine (h12 _ (by omega) (by simp only [u_tick, u_mine]; exact hun)).wh ?_
  simp -implicitDefEqProofs -dsimp only [↓reduceIte, go_sem, Nat.reduceEqDiff, cut_und _ _ hu, Bool.true_and]
 have e3 := beq_ne h3
 by_cases h1 : k = 1
 ·subst h1
  cases h4 : decide (0 ≤ v)
  ·have h4' : ¬ 0 ≤ v := of_decide_eq_false h4
   simp -implicitDefEqProofs -dsimp only [↓reduceIte, ↓W_seq, go_sem, Nat.reduceEqDiff, Nat.reduceLT, Int.reduceEq, enc, encA, h4', e3, beq_self_eq_true, cut_und _ _ hu, Bool.false_and]
  ·have h4' : 0 ≤ v := of_decide_eq_true h4
   cases h5 : decide (v ≤ 1000000000)
   ·have h5' : ¬ v ≤ 1000000000 := of_decide_eq_false h5
    simp -implicitDefEqProofs -dsimp only [↓reduceIte, ↓W_seq, go_sem, Nat.reduceEqDiff, Nat.reduceLT, Int.reduceEq, enc, encA, h4', h5', e3, beq_self_eq_true, cut_und _ _ hu, Bool.false_and, Bool.true_and]
   ·have h5' : v ≤ 1000000000 := of_decide_eq_true h5
    simp -implicitDefEqProofs -dsimp only [↓reduceIte, ↓W_seq, go_sem, Nat.reduceEqDiff, Nat.reduceAdd, Nat.reduceLT, Int.reduceLE, Int.reduceEq, enc, encA, h4', h5', e3, beq_self_eq_true, Bool.true_and]
    refine (h16 _ (by omega) (by simp only [u_tick, u_mine]; exact hun)).wh ?_
    simp -implicitDefEqProofs -dsimp only [↓reduceIte, go_sem, Nat.reduceEqDiff, cut_und _ _ hu]
 have e1 := beq_ne h1
 rw [if_neg h3, if_neg h1]
 cases h4 : v == 0
 ·simp -implicitDefEqProofs -dsimp only [↓reduceIte, ↓W_seq, go_sem, Nat.reduceEqDiff, Nat.reduceLT, enc, encA, h4, e1, e3, cut_und _ _ hu, Bool.false_and, ite_self]
 ·by_cases q : k = 0 ∨ k = 2 ∨ k = 4
  ·rw [if_pos q]
   have g1 : (0 : Int) ≤ k := by omega
   have g2 : k ≤ 4 := by omega
   simp -implicitDefEqProofs -dsimp only [↓reduceIte, ↓W_seq, go_sem, Nat.reduceEqDiff, Nat.reduceAdd, Nat.reduceLT, enc, encA, h4, e1, e3, g1, g2, Bool.true_and]
   refine (h16 _ (by omega) (by simp only [u_tick, u_mine]; exact hun)).wh ?_
   simp -implicitDefEqProofs -dsimp only [↓reduceIte, go_sem, Nat.reduceEqDiff, cut_und _ _ hu]
  ·rw [if_neg q]
   by_cases g1 : (0 : Int) ≤ k
   ·have g2 : ¬ k ≤ 4 := by omega
    simp -implicitDefEqProofs -dsimp only [↓reduceIte, ↓W_seq, go_sem, Nat.reduceEqDiff, Nat.reduceLT, enc, encA, h4, e1, e3, g1, g2, cut_und _ _ hu]
   ·simp -implicitDefEqProofs -dsimp only [↓reduceIte, ↓W_seq, go_sem, Nat.reduceEqDiff, Nat.reduceLT, enc, encA, h4, e1, e3, g1, cut_und _ _ hu]
theorem w415 (k v : Int) (x : Nd) (hx : sz x ≤ 1000000) (lim d : Nat) (σ : Sto) (hlim : lim ≤ d) (hu : σ.Und d) : Ret lim d 26 [.agg (encA k v x)] σ (.bool (formA k v x)) σ := by
 have hun := und_succ hu
 unfold Ret
 obtain ⟨kd, c, s0, s1, s2, s3, n, mn, mx, l⟩ := x
 have h25 := w25 (.mk kd c s0 s1 s2 s3 n mn mx l) hx lim (d + 1)
 have h10 := w10g (.mk kd c s0 s1 s2 s3 n mn mx l) hx zn lim (d + 1)
 unfold formA
 rw [WF_body (C := X) rfl func26 rfl (by kernel_rfl)]; simp only [results26]
 simp -implicitDefEqProofs -dsimp only [↓reduceIte, ↓W_seq, go_sem, Nat.reduceEqDiff, Nat.reduceAdd, Nat.reduceLT, enc, encA]
 refine (h10 _ (by omega) (by simp only [u_tick, u_mine]; exact hun)).wh ?_
 generalize sameB (.mk kd c s0 s1 s2 s3 n mn mx l) zn = z
 by_cases h1 : k = 1
 ·subst h1
  cases h4 : decide (0 ≤ v)
  ·have h4' : ¬ 0 ≤ v := of_decide_eq_false h4
   simp -implicitDefEqProofs -dsimp only [↓reduceIte, ↓W_seq, go_sem, Nat.reduceEqDiff, Int.reduceEq, h4', cut_und _ _ hu, Bool.false_and, beq_self_eq_true]
  ·have h4' : 0 ≤ v := of_decide_eq_true h4
   cases h5 : decide (v ≤ 1000000000)
   ·have h5' : ¬ v ≤ 1000000000 := of_decide_eq_false h5
    simp -implicitDefEqProofs -dsimp only [↓reduceIte, ↓W_seq, go_sem, Nat.reduceEqDiff, Int.reduceEq, h4', h5', cut_und _ _ hu, Bool.false_and, Bool.true_and, beq_self_eq_true]
   ·have h5' : v ≤ 1000000000 := of_decide_eq_true h5
    simp -implicitDefEqProofs -dsimp only [↓reduceIte, ↓W_seq, go_sem, Nat.reduceEqDiff, Int.reduceEq, h4', h5', cut_und _ _ hu, Bool.true_and, beq_self_eq_true]
 have e1 := beq_ne h1
 by_cases h3 : k = 3
 ·subst h3
  cases h4 : v == 0
  ·simp -implicitDefEqProofs -dsimp only [↓reduceIte, ↓W_seq, go_sem, Nat.reduceEqDiff, h4, beq_self_eq_true, e1, cut_und _ _ hu, Bool.false_and]
  simp -implicitDefEqProofs -dsimp only [↓reduceIte, ↓W_seq, go_sem, Nat.reduceEqDiff, Nat.reduceAdd, h4, beq_self_eq_true, e1]
  refine (h25 _ (by omega) (by simp only [u_tick, u_mine]; exact hun)).wh ?_
  simp -implicitDefEqProofs -dsimp only [↓reduceIte, go_sem, Nat.reduceEqDiff, cut_und _ _ hu, Bool.true_and]
 have e3 := beq_ne h3
 rw [if_neg h3, if_neg h1]
 by_cases q0 : k = 0
 ·subst q0
  cases h4 : v == 0
  ·simp -implicitDefEqProofs -dsimp only [↓reduceIte, ↓W_seq, go_sem, Nat.reduceEqDiff, Int.reduceEq, h4, beq_self_eq_true, e1, e3, cut_und _ _ hu, Bool.false_and, true_or]
  ·simp -implicitDefEqProofs -dsimp only [↓reduceIte, ↓W_seq, go_sem, Nat.reduceEqDiff, Int.reduceEq, h4, beq_self_eq_true, e1, e3, cut_und _ _ hu, Bool.true_and, true_or]
 have e0 := beq_ne q0
 by_cases q2 : k = 2
 ·subst q2
  cases h4 : v == 0
  ·simp -implicitDefEqProofs -dsimp only [↓reduceIte, ↓W_seq, go_sem, Nat.reduceEqDiff, Int.reduceEq, h4, beq_self_eq_true, e0, e1, e3, cut_und _ _ hu, Bool.false_and, true_or, or_true]
  ·simp -implicitDefEqProofs -dsimp only [↓reduceIte, ↓W_seq, go_sem, Nat.reduceEqDiff, Int.reduceEq, h4, beq_self_eq_true, e0, e1, e3, cut_und _ _ hu, Bool.true_and, true_or, or_true]
 have e2 := beq_ne q2
 by_cases q4 : k = 4
 ·subst q4
  cases h4 : v == 0
  ·simp -implicitDefEqProofs -dsimp only [↓reduceIte, ↓W_seq, go_sem, Nat.reduceEqDiff, Int.reduceEq, h4, beq_self_eq_true, e0, e2, e1, e3, cut_und _ _ hu, Bool.false_and, or_true]
  ·simp -implicitDefEqProofs -dsimp only [↓reduceIte, ↓W_seq, go_sem, Nat.reduceEqDiff, Int.reduceEq, h4, beq_self_eq_true, e0, e2, e1, e3, cut_und _ _ hu, Bool.true_and, or_true]
 have e4 := beq_ne q4
 simp -implicitDefEqProofs -dsimp only [↓reduceIte, ↓W_seq, go_sem, Nat.reduceEqDiff, e0, e1, e2, e3, e4, q0, q2, q4, or_self, cut_und _ _ hu]
def formG (k v : Int) (x : Nd) (k2 v2 : Int) (y : Nd) : Bool := formA k v x && (formA k2 v2 y && (k != 0 || k2 == 0))
theorem w407 (k v : Int) (x : Nd) (hx : sz x ≤ 1000000) (k2 v2 : Int) (y : Nd) (hy : sz y ≤ 1000000) (b : Bool) (lim d : Nat) (σ : Sto) (hlim : lim ≤ d) (hu : σ.Und d) : Ret lim d 11 [.agg (encG k v x k2 v2 y b)] σ (.bool (formG k v x k2 v2 y)) σ := by
 have hun := und_succ hu
 unfold Ret formG
 have h1 := w414 k v x hx lim (d + 1)
 have h2 := w414 k2 v2 y hy lim (d + 1)
 obtain ⟨kd, c, s0, s1, s2, s3, n, mn, mx, l⟩ := x
 obtain ⟨kd', c', t0, t1, t2, t3, n', mn', mx', l'⟩ := y
 rw [WF_body (C := X) rfl func11 rfl (by kernel_rfl)]; simp only [results11]
 simp -implicitDefEqProofs -dsimp only [↓reduceIte, ↓W_seq, go_sem, Nat.reduceEqDiff, Nat.reduceAdd, Nat.reduceLeDiff, Nat.reduceLT, enc, encG, encA, List.cons_append, List.nil_append]
 refine (h1 _ (by omega) (by simp only [u_tick, u_mine]; exact hun)).wh ?_
 cases formA k v (.mk kd c s0 s1 s2 s3 n mn mx l)
 ·simp -implicitDefEqProofs -dsimp only [↓reduceIte, go_sem, Nat.reduceEqDiff, cut_und _ _ hu, Bool.false_and]
 simp -implicitDefEqProofs -dsimp only [↓reduceIte, go_sem, Nat.reduceEqDiff, Nat.reduceAdd, Nat.reduceLeDiff]
 refine (h2 _ (by omega) (by simp only [u_tick, u_mine]; exact hun)).wh ?_
 cases formA k2 v2 (.mk kd' c' t0 t1 t2 t3 n' mn' mx' l')
 ·simp -implicitDefEqProofs -dsimp only [↓reduceIte, go_sem, Nat.reduceEqDiff, cut_und _ _ hu, Bool.false_and]
 cases hk : k != 0
 ·simp -implicitDefEqProofs -dsimp only [↓reduceIte, go_sem, Nat.reduceEqDiff, hk, Bool.true_and, Bool.false_or, cut_und _ _ hu]
 ·simp -implicitDefEqProofs -dsimp only [↓reduceIte, go_sem, Nat.reduceEqDiff, hk, Bool.true_and, Bool.true_or, cut_und _ _ hu]
theorem w408 (k v : Int) (x : Nd) (hx : sz x ≤ 1000000) (k2 v2 : Int) (y : Nd) (hy : sz y ≤ 1000000) (b : Bool) (lim d : Nat) (σ : Sto) (hlim : lim ≤ d) (hu : σ.Und d) : Ret lim d 12 [.agg (encG k v x k2 v2 y b)] σ (.bool (formG k v x k2 v2 y)) σ := by
 have hun := und_succ hu
 unfold Ret formG
 have h1 := w415 k v x hx lim (d + 1)
 have h2 := w415 k2 v2 y hy lim (d + 1)
 obtain ⟨kd, c, s0, s1, s2, s3, n, mn, mx, l⟩ := x
 obtain ⟨kd', c', t0, t1, t2, t3, n', mn', mx', l'⟩ := y
 rw [WF_body (C := X) rfl func12 rfl (by kernel_rfl)]; simp only [results12]
 simp -implicitDefEqProofs -dsimp only [↓reduceIte, ↓W_seq, go_sem, Nat.reduceEqDiff, Nat.reduceAdd, Nat.reduceLeDiff, Nat.reduceLT, enc, encG, encA, List.cons_append, List.nil_append]
 refine (h1 _ (by omega) (by simp only [u_tick, u_mine]; exact hun)).wh ?_
 cases formA k v (.mk kd c s0 s1 s2 s3 n mn mx l)
 ·simp -implicitDefEqProofs -dsimp only [↓reduceIte, go_sem, Nat.reduceEqDiff, cut_und _ _ hu, Bool.false_and]
 simp -implicitDefEqProofs -dsimp only [↓reduceIte, go_sem, Nat.reduceEqDiff, Nat.reduceAdd, Nat.reduceLeDiff]
 refine (h2 _ (by omega) (by simp only [u_tick, u_mine]; exact hun)).wh ?_
 cases formA k2 v2 (.mk kd' c' t0 t1 t2 t3 n' mn' mx' l')
 ·simp -implicitDefEqProofs -dsimp only [↓reduceIte, go_sem, Nat.reduceEqDiff, cut_und _ _ hu, Bool.false_and]
 cases hk : k != 0
 ·simp -implicitDefEqProofs -dsimp only [↓reduceIte, go_sem, Nat.reduceEqDiff, hk, Bool.true_and, Bool.false_or, cut_und _ _ hu]
 ·simp -implicitDefEqProofs -dsimp only [↓reduceIte, go_sem, Nat.reduceEqDiff, hk, Bool.true_and, Bool.true_or, cut_und _ _ hu]
def manyG (k k2 : Int) : Int := if k = 0 then 0 else if k2 = 0 then 1 else 2
end Go.Proofs.Tryz.E
