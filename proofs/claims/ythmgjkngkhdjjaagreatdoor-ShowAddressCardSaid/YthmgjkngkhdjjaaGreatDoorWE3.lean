/- Walks: what the functions compute. Walks: what the functions compute. Walks: what the functions compute. -/
import Derived.Test.YthmgjkngkhdjjaaGreatDoorE0
import Derived.IntWalk
set_option linter.unusedVariables false
set_option linter.unusedSimpArgs false
/- Nodes. -/
namespace Go.Proofs.Tryz.E
open Go.Mv
attribute [go_sem ↓] reduceIte W_seq
attribute [go_sem] WR_nil evNews Nat.reduceEqDiff Nat.reduceAdd Nat.reduceMul Nat.reduceLeDiff Nat.reduceLT Int.cast_ofNat_Int Int.reduceBNe Int.reduceToNat Int.reduceLT Int.reduceLE Int.reduceAdd Int.reduceNeg Int.reduceEq reduceCtorEq Bool.false_and Bool.false_eq_true
inductive Nd where
 | mk (kind c : Int) (s0 s1 s2 s3 : Int) (n mn mx : Int) (l : List Nd)
mutual
def enc : Nd → List MV
 | .mk kind c s0 s1 s2 s3 n mn mx l => [.int .i64 kind, .int .u8 c, .int .u64 s0, .int .u64 s1, .int .u64 s2, .int .u64 s3, .int .i64 n, .int .i64 mn, .int .i64 mx, .sl .no (encs l)]
def encs : List Nd → List (List MV)
 | [] => []
 | x :: l => enc x :: encs l
end
theorem encs_len : ∀ l, (encs l).length = l.length
 | [] => rfl
 | x :: l => by simp [encs, encs_len l]
theorem encs_at : ∀ (l : List Nd) (i : Nat), (encs l)[i]? = l[i]?.map enc
 | [], i => by simp [encs]
 | x :: l, 0 => by simp [encs]
 | x :: l, i + 1 => by simp [encs, encs_at l i]
theorem enc_len (x : Nd) : (enc x).length = 10 := by cases x; simp [enc]
theorem enc_era (x : Nd) : (enc x).map MV.era = enc x := by cases x; simp [enc, MV.era]
def Ret (lim d : Nat) (f : FuncId) (args : List MV) (σ : Sto) (v : MV) (σ' : Sto) : Prop := WF X lim d f args σ fun v' s' => v' = v ∧ s' = σ'
theorem Ret.wf {lim d : Nat} {f : FuncId} {args : List MV} {σ : Sto} {v : MV} {σ' : Sto} (h : Ret lim d f args σ v σ') {Q : MV → Sto → Prop} (hq : Q v σ') : WF X lim d f args σ Q :=
 h.mono fun v' s' e => by rw [e.1, e.2]; exact hq
theorem cut_tick (σ : Sto) (d : Nat) : (σ.tick d).cut d = σ.cut d := by
 refine Sto.ext' (fun _ => rfl) (fun _ _ => rfl) fun d' => ?_
 simp only [Sto.cut, Sto.tick, upd]
 split
 ·rw [if_neg (by omega)]
 ·rfl
theorem cut_own (σ : Sto) (d c : Nat) (v : Option (Nat × Nat)) : (σ.own d c v).cut d = σ.cut d := by
 refine Sto.ext' (fun _ => rfl) (fun d' c' => ?_) fun _ => rfl
 simp only [Sto.cut, Sto.own]
 split
 ·rw [if_neg (by omega)]
 ·rfl
theorem cut_mine (σ : Sto) (d t c : Nat) (cs : List MV) : (σ.set ⟨d, t, c⟩ cs).cut d = σ.cut d := by
 refine Sto.ext' (fun l => ?_) (fun _ _ => rfl) fun _ => rfl
 simp only [Sto.cut, Sto.set]
 split
 ·rename_i hl
  rw [if_neg (by rintro rfl; exact absurd hl (Nat.lt_irrefl d))]
 ·rfl
theorem cut_set (σ : Sto) (d : Nat) (l : Mv.Loc) (cs : List MV) (h : l.d < d) : (σ.set l cs).cut d = (σ.cut d).set l cs := by
 refine Sto.ext' (fun l' => ?_) (fun _ _ => rfl) fun _ => rfl
 simp only [Sto.cut, Sto.set]
 by_cases e : l' = l
 ·subst e; simp [h]
 ·simp [e]
theorem cut_und (σ : Sto) (d : Nat) (h : σ.Und d) : σ.cut d = σ := by
 refine Sto.ext' (fun l => ?_) (fun d' c => ?_) fun d' => ?_
 ·simp only [Sto.cut]; split
  ·rfl
  ·rw [h.ob l (by omega)]
 ·simp only [Sto.cut]; split
  ·rfl
  ·rw [h.ow d' c (by omega)]
 ·simp only [Sto.cut]; split
  ·rfl
  ·rw [h.ct d' (by omega)]
theorem set_set (σ : Sto) (l : Mv.Loc) (a b : List MV) : (σ.set l a).set l b = σ.set l b := by
 refine Sto.ext' (fun l' => ?_) (fun _ _ => rfl) fun _ => rfl
 simp only [Sto.set]; split <;> rfl
theorem und_succ {σ : Sto} {d : Nat} (h : σ.Und d) : σ.Und (d + 1) := ⟨fun l hl => h.ob l (by omega), fun d' c hl => h.ow d' c (by omega), fun d' hl => h.ct d' (by omega)⟩
theorem und_set {σ : Sto} {d : Nat} (h : σ.Und d) {l : Mv.Loc} (hl : l.d < d) (cs : List MV) : (σ.set l cs).Und d :=
 ⟨fun l' hl' => by simp only [Sto.set]; rw [if_neg (by rintro rfl; omega)]; exact h.ob l' hl', h.ow, h.ct⟩
theorem und_tick {σ : Sto} {d k : Nat} (h : σ.Und d) (hk : k < d) : (σ.tick k).Und d :=
 ⟨h.ob, h.ow, fun d' hl => by simp only [Sto.tick, upd]; rw [if_neg (by omega)]; exact h.ct d' hl⟩
theorem und_own {σ : Sto} {d k : Nat} (h : σ.Und d) (hk : k < d) (c : Nat) (v : Option (Nat × Nat)) : (σ.own k c v).Und d :=
 ⟨h.ob, fun d' c' hl => by simp only [Sto.own]; rw [if_neg (by omega)]; exact h.ow d' c' hl, h.ct⟩
@[go_sem] theorem ldC_eq (P : Program) (t : TypeId) (cs : List MV) (o : Nat) : ldC P t cs o = (shp P t).bind fun x => if x.1 = true then if o + x.2 ≤ cs.length then some (.agg ((cs.drop o).take x.2)) else none else cs[o]? := by
 unfold ldC
 cases shp P t with
 | none => rfl
 | some x => obtain ⟨b, n⟩ := x; cases b <;> rfl
@[go_sem] theorem stO_ptr (P : Program) (lim d : Nat) (t : TypeId) (σ : Sto) (l : Mv.Loc) (o : Nat) (v : MV) : stO P lim d t σ (.ptr l o) v = (shp P t).bind fun x => v.cells.bind fun new => (σ.ob l).bind fun cs =>
  if new.length = x.2 ∧ o + x.2 ≤ cs.length then if l.d < d then (if lim ≤ l.d then (datas new).map fun new => σ.set l (putC cs new o) else none) else if l.d = d then some (σ.set l (putC cs new o)) else none else none := by
 unfold stO
 simp only
 generalize v.cells = c
 generalize σ.ob l = ob
 cases shp P t with
 | none => rfl
 | some x => cases c <;> cases ob <;> rfl
@[go_sem] theorem iaO_sl (P : Program) (t : TypeId) (tk : Tok) (xs : List (List MV)) (k : IntKind) (i : Int) : iaO P t (.sl tk xs) (.int k i) = (slc P t).bind fun x => if 0 ≤ i then (xs[i.toNat]?).bind fun cs => if cs.length = x.2.1 then some (.ep cs 0) else none else none := by
 unfold iaO
 cases slc P t <;> rfl
def lenT : TypeDesc → MV → Option MV
 | .string, .str s => some (.int .i64 s.length)
 | .slice _, .sl _ xs => some (.int .i64 xs.length)
 | .slice _, .rs _ _ n _ => some (.int .i64 n)
 | .array n _, _ => some (.int .i64 n)
 | _, _ => none
@[go_sem] theorem lenO_eq (P : Program) (t : TypeId) (v : MV) : lenO P t v = (P.underlying t).bind fun u => lenT u v := by
 unfold lenO
 cases P.underlying t with
 | none => rfl
 | some u => cases u <;> cases v <;> rfl
@[go_sem] theorem lenT_str (s : List UInt8) : lenT .string (.str s) = some (.int .i64 s.length) := rfl
@[go_sem] theorem lenT_sl (e : TypeId) (tk : Tok) (xs : List (List MV)) : lenT (.slice e) (.sl tk xs) = some (.int .i64 xs.length) := rfl
@[go_sem] theorem lenT_arr (n : Nat) (e : TypeId) (v : MV) : lenT (.array n e) v = some (.int .i64 n) := by cases v <;> rfl
@[go_sem] theorem datas_eq (cs : List MV) : datas cs = if cs.all MV.data = true then some (cs.map MV.era) else none := rfl
@[go_sem] theorem set_tick (σ : Sto) (d : Nat) (l : Mv.Loc) (cs : List MV) : (σ.tick d).set l cs = (σ.set l cs).tick d := rfl
theorem putC_whole (cs new : List MV) (h : cs.length = new.length) : putC cs new 0 = new := by
 unfold putC
 simp [← h]
theorem enc_take (x : Nd) : (enc x).take 10 = enc x := by rw [← enc_len x]; simp
theorem enc_data (x : Nd) : (enc x).all MV.data = true := by cases x; simp [enc, MV.data]
@[go_sem] theorem putC_enc (a b c d e f g h i j : MV) (x : Nd) : putC [a, b, c, d, e, f, g, h, i, j] (enc x) 0 = enc x := putC_whole _ _ (by simp [enc_len])
attribute [go_sem] enc_len enc_take enc_data enc_era set_set cut_tick cut_own cut_mine Nat.lt_irrefl decide_true decide_false Int.toNat_natCast Nat.le_refl Int.natCast_nonneg
@[go_sem] theorem d_lt (d : Nat) : (d < d + 1) = True := by simp
@[go_sem] theorem resO_one (P : Program) (t : Tmp) (a : Nat → MV) (σ : Sto) : resO P [.tmp t] a σ = some (a t) := rfl
@[go_sem] theorem resO_cell (P : Program) (x : Tmp) (t : TypeId) (a : Nat → MV) (σ : Sto) : resO P [.cell x t] a σ = ldO P σ t (a x) := by
 unfold resO
 simp only [List.mapM_cons, List.mapM_nil, resV]
 cases ldO P σ t (a x) <;> rfl
@[go_sem] theorem resO_two (P : Program) (t u : Tmp) (a : Nat → MV) (σ : Sto) : resO P [.tmp t, .tmp u] a σ = some (.tup [a t, a u]) := rfl
@[go_sem] theorem resO_three (P : Program) (t u v : Tmp) (a : Nat → MV) (σ : Sto) : resO P [.tmp t, .tmp u, .tmp v] a σ = some (.tup [a t, a u, a v]) := rfl
@[go_sem] theorem resO_none (P : Program) (a : Nat → MV) (σ : Sto) : resO P [] a σ = some (.tup []) := rfl
theorem Nd.ind {P : Nd → Prop} (h : ∀ kind c s0 s1 s2 s3 n mn mx l, (∀ y ∈ l, P y) → P (.mk kind c s0 s1 s2 s3 n mn mx l)) : ∀ x, P x
 | .mk kind c s0 s1 s2 s3 n mn mx l => h kind c s0 s1 s2 s3 n mn mx l fun y hy => Nd.ind h y
termination_by x => SizeOf.sizeOf x
decreasing_by
 have := List.sizeOf_lt_of_mem hy
 simp
 omega
mutual
def sz : Nd → Nat
 | .mk _ _ _ _ _ _ _ _ _ l => 1 + szs l
def szs : List Nd → Nat
 | [] => 0
 | x :: l => sz x + szs l
end
theorem sz_pos (x : Nd) : 1 ≤ sz x := by cases x; simp [sz]
theorem sz_le : ∀ (l : List Nd) (y : Nd), y ∈ l → sz y ≤ szs l
 | x :: l, y, h => by
  simp only [szs]
  rcases List.mem_cons.1 h with rfl | h
  ·omega
  ·have := sz_le l y h; omega
theorem len_le : ∀ (l : List Nd), l.length ≤ szs l
 | [] => by simp [szs]
 | x :: l => by have := len_le l; have := sz_pos x; simp [szs]; omega
theorem wr64 (x : Int) (h : -9223372036854775808 ≤ x) (h2 : x < 9223372036854775808) : IntKind.i64.wrap x = x := by
 rw [IntWalk.i64_left, IntWalk.wrap64_in _ ⟨h, by omega⟩]
theorem loop_ind {C : Cfg} {lim d : Nat} {x : Code} {Q : Mv.Ex → (Nat → MV) → Sto → Prop} (I : Nat → (Nat → MV) → Sto → Prop)
  (step : ∀ i a σ, I i a σ → W C lim d x a σ (andThen (fun a σ => ∃ j, j < i ∧ I j a σ) Q)) : ∀ i a σ, I i a σ → W C lim d (.loop x) a σ Q := by
 intro i
 induction i using Nat.strongRecOn with
 | _ i ih =>
  intro a σ hI
  rw [W_loop]
  refine (step i a σ hI).mono fun e a' σ' h => ?_
  cases e with
  | nrm => obtain ⟨j, hj, hI'⟩ := h; exact ih j hj a' σ' hI'
  | exit id => exact h
  | ret => exact h
@[go_sem] theorem mm_max2 (k : IntKind) (x y : Int) : mm true [.int k x, .int k y] = some (.int k (if y > x then y else x)) := by simp [mm, mmGo]
@[go_sem] theorem mm_min2 (k : IntKind) (x y : Int) : mm false [.int k x, .int k y] = some (.int k (if y < x then y else x)) := by simp [mm, mmGo]
mutual
def cnt : Nd → Int
 | .mk _ _ _ _ _ _ _ _ _ l => cnts 1 l
def cnts : Int → List Nd → Int
 | k, [] => k
 | k, x :: l => cnts (IntKind.i64.wrap (k + cnt x)) l
end
mutual
def dep : Nd → Int
 | .mk _ _ _ _ _ _ _ _ _ l => IntKind.i64.wrap (deps 0 l + 1)
def deps : Int → List Nd → Int
 | k, [] => k
 | k, x :: l => deps (if dep x > k then dep x else k) l
end
theorem cnts_at {l : List Nd} {i : Nat} (h : i < l.length) (m : Int) : cnts m (l.drop i) = cnts (IntKind.i64.wrap (m + cnt l[i])) (l.drop (i + 1)) := by rw [List.drop_eq_getElem_cons h, cnts]
theorem deps_at {l : List Nd} {i : Nat} (h : i < l.length) (m : Int) : deps m (l.drop i) = deps (if dep l[i] > m then dep l[i] else m) (l.drop (i + 1)) := by rw [List.drop_eq_getElem_cons h, deps]
theorem und_new {σ : Sto} {d : Nat} (h : σ.Und (d + 1)) (t c : Nat) (cs : List MV) : ((σ.set ⟨d, t, c⟩ cs).tick d).Und (d + 1) := und_tick (und_set h (Nat.lt_succ_self d) _) (Nat.lt_succ_self d)
set_option maxHeartbeats 2000000
theorem w15 : ∀ (x : Nd), sz x ≤ 1000000 → ∀ (lim d : Nat) (σ : Sto), σ.Und d → Ret lim d 51 [.agg (enc x)] σ (.int .i64 (cnt x)) σ := by
 refine Nd.ind fun kind c s0 s1 s2 s3 n mn mx l ih hsz lim d σ hu => ?_
 have hl := len_le l
 simp only [sz] at hsz
 unfold Ret
 rw [WF_body (C := X) rfl func51 rfl (by kernel_rfl)]
 simp only [go_sem, Nat.reduceLT, W_seq, results51, enc, Nat.reduceEqDiff, Nat.reduceAdd]
 refine loop_ind (I := fun k a s => ∃ (i : Nat) (m : Int), i + k = l.length ∧ a 9 = .int .i64 i ∧ a 8 = .int .i64 l.length ∧ a 7 = .sl .no (encs l) ∧ a 3 = .int .i64 m ∧ cnts m (l.drop i) = cnts 1 l ∧ s.cut d = σ ∧ s.Und (d + 1)) ?_ l.length _ _ ?_
 ·rintro k a s ⟨i, m, hk, h9, h8, h7, h3, hc, hs, hs2⟩
  by_cases hi : i < l.length
  ·have e1 : ((i : Int) < (l.length : Int)) := by omega
   have e2 : l[i]? = some l[i] := List.getElem?_eq_getElem hi
   have hm := List.getElem_mem hi
   have hy := sz_le l _ hm
   simp only [go_sem, Nat.reduceLT, W_seq, e1, e2, h9, h8, h7, h3, encs_at, Nat.reduceEqDiff, Nat.reduceAdd]
   refine (ih l[i] hm (by omega) lim (d + 1) _ (und_new hs2 _ _ _)).wf ?_
   simp only [go_sem]
   exact ⟨k - 1, by omega, i + 1, _, by omega, by rw [wr64 _ (by omega) (by omega)]; rfl, rfl, by rw [← hc, cnts_at hi], hs, und_new hs2 _ _ _⟩
  ·have e1 : ¬ ((i : Int) < (l.length : Int)) := by omega
   simp only [go_sem, Nat.reduceLT, W_seq, e1, h9, h8, h7, h3, encs_at, Nat.reduceEqDiff, Nat.reduceAdd]
   rw [List.drop_eq_nil_of_le (by omega), cnts] at hc
   exact ⟨by rw [hc, cnt], hs⟩
 ·refine ⟨0, 1, Nat.zero_add _, rfl, congrArg (fun (n : Nat) => MV.int .i64 n) (encs_len l), rfl, rfl, rfl, ?_, und_new (und_succ hu) _ _ _⟩
  simp only [go_sem, cut_und _ _ hu]
theorem w35 : ∀ (x : Nd), sz x ≤ 1000000 → ∀ (lim d : Nat) (σ : Sto), σ.Und d → Ret lim d 30 [.agg (enc x)] σ (.int .i64 (cnt x)) σ := by
 refine Nd.ind fun kind c s0 s1 s2 s3 n mn mx l ih hsz lim d σ hu => ?_
 have hl := len_le l
 simp only [sz] at hsz
 unfold Ret
 rw [WF_body (C := X) rfl func30 rfl (by kernel_rfl)]
 simp only [go_sem, Nat.reduceLT, W_seq, results30, enc, Nat.reduceEqDiff, Nat.reduceAdd]
 refine loop_ind (I := fun k a s => ∃ (i : Nat) (m : Int), i + k = l.length ∧ a 8 = .int .i64 i ∧ a 7 = .int .i64 l.length ∧ a 1 = .ptr ⟨d, 1, σ.ct d⟩ 0 ∧ a 3 = .int .i64 m ∧ cnts m (l.drop i) = cnts 1 l ∧ s.cut d = σ ∧ s.Und (d + 1) ∧ s.ob ⟨d, 1, σ.ct d⟩ = some (enc (.mk kind c s0 s1 s2 s3 n mn mx l))) ?_ l.length _ _ ?_
 ·rintro k a s ⟨i, m, hk, h8, h7, h1, h3, hc, hs, hs2, ho⟩
  by_cases hi : i < l.length
  ·have e1 : ((i : Int) < (l.length : Int)) := by omega
   have e2 : l[i]? = some l[i] := List.getElem?_eq_getElem hi
   have hm := List.getElem_mem hi
   have hy := sz_le l _ hm
   simp only [go_sem, W_seq, e1, e2, h8, h7, h1, h3, ho, enc, encs_at, Nat.reduceEqDiff, Nat.reduceAdd]
   refine (ih l[i] hm (by omega) lim (d + 1) _ hs2).wf ?_
   simp only [go_sem]
   exact ⟨k - 1, by omega, i + 1, _, by omega, by rw [wr64 _ (by omega) (by omega)]; rfl, rfl, by rw [← hc, cnts_at hi], hs, hs2, by rw [ho, enc]⟩
  ·have e1 : ¬ ((i : Int) < (l.length : Int)) := by omega
   simp only [go_sem, W_seq, e1, h8, h7, h3, Nat.reduceEqDiff]
   rw [List.drop_eq_nil_of_le (by omega), cnts] at hc
   exact ⟨by rw [hc, cnt], hs⟩
 ·refine ⟨0, 1, Nat.zero_add _, rfl, congrArg (fun (n : Nat) => MV.int .i64 n) (encs_len l), rfl, rfl, rfl, ?_, und_new (und_succ hu) _ _ _, ?_⟩
  ·simp only [go_sem, cut_und _ _ hu]
  ·simp only [go_sem, enc]
theorem w14 : ∀ (x : Nd), sz x ≤ 1000000 → ∀ (lim d : Nat) (σ : Sto), σ.Und d → Ret lim d 52 [.agg (enc x)] σ (.int .i64 (dep x)) σ := by
 refine Nd.ind fun kind c s0 s1 s2 s3 n mn mx l ih hsz lim d σ hu => ?_
 have hl := len_le l
 simp only [sz] at hsz
 unfold Ret
 rw [WF_body (C := X) rfl func52 rfl (by kernel_rfl)]
 simp only [go_sem, Nat.reduceLT, W_seq, results52, enc, Nat.reduceEqDiff, Nat.reduceAdd]
 refine loop_ind (I := fun k a s => ∃ (i : Nat) (m : Int), i + k = l.length ∧ a 9 = .int .i64 i ∧ a 8 = .int .i64 l.length ∧ a 7 = .sl .no (encs l) ∧ a 3 = .int .i64 m ∧ deps m (l.drop i) = deps 0 l ∧ s.cut d = σ ∧ s.Und (d + 1)) ?_ l.length _ _ ?_
 ·rintro k a s ⟨i, m, hk, h9, h8, h7, h3, hc, hs, hs2⟩
  by_cases hi : i < l.length
  ·have e1 : ((i : Int) < (l.length : Int)) := by omega
   have e2 : l[i]? = some l[i] := List.getElem?_eq_getElem hi
   have hm := List.getElem_mem hi
   have hy := sz_le l _ hm
   simp only [go_sem, Nat.reduceLT, W_seq, e1, e2, h9, h8, h7, h3, encs_at, Nat.reduceEqDiff, Nat.reduceAdd]
   refine (ih l[i] hm (by omega) lim (d + 1) _ (und_new hs2 _ _ _)).wf ?_
   simp only [go_sem]
   exact ⟨k - 1, by omega, i + 1, _, by omega, by rw [wr64 _ (by omega) (by omega)]; rfl, rfl, by rw [← hc, deps_at hi], hs, und_new hs2 _ _ _⟩
  ·have e1 : ¬ ((i : Int) < (l.length : Int)) := by omega
   simp only [go_sem, Nat.reduceLT, W_seq, e1, h9, h8, h7, h3, encs_at, Nat.reduceEqDiff, Nat.reduceAdd]
   rw [List.drop_eq_nil_of_le (by omega), deps] at hc
   exact ⟨by rw [hc, dep], hs⟩
 ·refine ⟨0, 0, Nat.zero_add _, rfl, congrArg (fun (n : Nat) => MV.int .i64 n) (encs_len l), rfl, rfl, rfl, ?_, und_new (und_succ hu) _ _ _⟩
  simp only [go_sem, cut_und _ _ hu]
theorem w36 : ∀ (x : Nd), sz x ≤ 1000000 → ∀ (lim d : Nat) (σ : Sto), σ.Und d → Ret lim d 31 [.agg (enc x)] σ (.int .i64 (dep x)) σ := by
 refine Nd.ind fun kind c s0 s1 s2 s3 n mn mx l ih hsz lim d σ hu => ?_
 have hl := len_le l
 simp only [sz] at hsz
 unfold Ret
 rw [WF_body (C := X) rfl func31 rfl (by kernel_rfl)]
 simp only [go_sem, Nat.reduceLT, W_seq, results31, enc, Nat.reduceEqDiff, Nat.reduceAdd]
 refine loop_ind (I := fun k a s => ∃ (i : Nat) (m : Int), i + k = l.length ∧ a 8 = .int .i64 i ∧ a 7 = .int .i64 l.length ∧ a 1 = .ptr ⟨d, 1, σ.ct d⟩ 0 ∧ a 3 = .int .i64 m ∧ deps m (l.drop i) = deps 0 l ∧ s.cut d = σ ∧ s.Und (d + 1) ∧ s.ob ⟨d, 1, σ.ct d⟩ = some (enc (.mk kind c s0 s1 s2 s3 n mn mx l))) ?_ l.length _ _ ?_
 ·rintro k a s ⟨i, m, hk, h8, h7, h1, h3, hc, hs, hs2, ho⟩
  by_cases hi : i < l.length
  ·have e1 : ((i : Int) < (l.length : Int)) := by omega
   have e2 : l[i]? = some l[i] := List.getElem?_eq_getElem hi
   have hm := List.getElem_mem hi
   have hy := sz_le l _ hm
   simp only [go_sem, W_seq, e1, e2, h8, h7, h1, h3, ho, enc, encs_at, Nat.reduceEqDiff, Nat.reduceAdd]
   refine (ih l[i] hm (by omega) lim (d + 1) _ hs2).wf ?_
   simp only [go_sem]
   exact ⟨k - 1, by omega, i + 1, _, by omega, by rw [wr64 _ (by omega) (by omega)]; rfl, rfl, by rw [← hc, deps_at hi], hs, hs2, by rw [ho, enc]⟩
  ·have e1 : ¬ ((i : Int) < (l.length : Int)) := by omega
   simp only [go_sem, W_seq, e1, h8, h7, h3, Nat.reduceEqDiff]
   rw [List.drop_eq_nil_of_le (by omega), deps] at hc
   exact ⟨by rw [hc, dep], hs⟩
 ·refine ⟨0, 0, Nat.zero_add _, rfl, congrArg (fun (n : Nat) => MV.int .i64 n) (encs_len l), rfl, rfl, rfl, ?_, und_new (und_succ hu) _ _ _, ?_⟩
  ·simp only [go_sem, cut_und _ _ hu]
  ·simp only [go_sem, enc]
@[go_sem] theorem putC_succ (c : MV) (cs new : List MV) (o : Nat) : putC (c :: cs) new (o + 1) = c :: putC cs new o := by
 simp [putC, Nat.add_right_comm]
@[go_sem] theorem putC_cons (c x : MV) (cs new : List MV) : putC (c :: cs) (x :: new) 0 = x :: putC cs new 0 := by simp [putC]
@[go_sem] theorem putC_nil (cs : List MV) : putC cs [] 0 = cs := by simp [putC]
attribute [go_sem] List.take_succ_cons List.take_zero List.drop_succ_cons Nat.reduceLeDiff
@[go_sem] theorem lenT_rs (e : TypeId) (l : Mv.Loc) (o n s : Nat) : lenT (.slice e) (.rs l o n s) = some (.int .i64 n) := rfl
@[go_sem] theorem iaO_rs (P : Program) (t : TypeId) (l : Mv.Loc) (off len z : Nat) (k : IntKind) (i : Int) : iaO P t (.rs l off len z) (.int k i) = (slc P t).bind fun x => if z = x.2.1 ∧ 0 ≤ i ∧ i < len then some (.ptr l (off + i.toNat * x.2.1)) else none := by
 unfold iaO
 cases slc P t <;> rfl
@[go_sem] theorem frz_rs (σ : Sto) (d : Nat) (l : Mv.Loc) (off len s : Nat) : (MV.rs l off len s).frz σ d = if l.d < d then some (.rs l off len s) else (σ.ob l).bind fun cs => if off + len * s ≤ cs.length then ((chunks cs off s len).mapM datas).map fun xs => .sl .no xs else none := rfl
@[go_sem] theorem cells_rs (l : Mv.Loc) (o n s : Nat) : (MV.rs l o n s).cells = some [.rs l o n s] := rfl
@[go_sem] theorem era_rs (l : Mv.Loc) (o n s : Nat) : (MV.rs l o n s).era = .rs l o n s := rfl
@[go_sem] theorem arg_rs (l : Mv.Loc) (o n s : Nat) : (MV.rs l o n s).arg = .rs l o n s := rfl
theorem encs_nil (l : List Nd) : encs l = [] ↔ l = [] := by cases l <;> simp [encs]
theorem encs_okz : ∀ l, okz 10 (encs l) = true
 | [] => rfl
 | x :: l => by
  have := encs_okz l
  unfold okz at this ⊢
  simp [encs, enc_len, this]
theorem encs_datas : ∀ l, (encs l).mapM datas = some (encs l)
 | [] => rfl
 | x :: l => by
  rw [encs, List.mapM_cons, encs_datas l]
  simp [datas, enc_data, enc_era]
theorem flat_len : ∀ l, (encs l).flatten.length = l.length * 10
 | [] => rfl
 | x :: l => by simp [encs, enc_len, flat_len l, Nat.succ_mul]; omega
theorem flat_at : ∀ (l : List Nd) (i : Nat) (h : i < l.length), ((encs l).flatten.drop (i * 10)).take 10 = enc l[i]
 | x :: l, 0, h => by simp [encs, enc_len]
 | x :: l, i + 1, h => by
  have : (i + 1) * 10 = 10 + i * 10 := by omega
  rw [encs, List.flatten_cons, this, ← List.drop_drop, List.drop_append_of_le_length (by simp [enc_len])]
  simp only [List.getElem_cons_succ]
  have e : (enc x).drop 10 = [] := List.drop_eq_nil_of_le (by simp [enc_len])
  rw [e, List.nil_append]
  exact flat_at l i (by simpa using h)
theorem putC_same (cs : List MV) (o n : Nat) (h : o + n ≤ cs.length) : putC cs ((cs.drop o).take n) o = cs := by
 unfold putC
 have : ((cs.drop o).take n).length = n := by simp; omega
 rw [this, List.append_assoc, ← List.drop_drop, List.take_append_drop, List.take_append_drop]
theorem chunks_encs : ∀ (l : List Nd) (pre : List MV), chunks (pre ++ (encs l).flatten) pre.length 10 l.length = encs l
 | [], _ => rfl
 | x :: l, pre => by
  simp only [List.length_cons, chunks, encs, List.flatten_cons]
  have h1 : ((pre ++ (enc x ++ (encs l).flatten)).drop pre.length).take 10 = enc x := by
   rw [List.drop_left, List.take_append_of_le_length (by simp [enc_len]), enc_take]
  rw [h1, ← List.append_assoc]
  have h2 := chunks_encs l (pre ++ enc x)
  rw [List.length_append, enc_len] at h2
  rw [h2]
theorem set_same {σ : Sto} {l : Mv.Loc} {cs : List MV} (h : σ.ob l = some cs) : σ.set l cs = σ := by
 refine Sto.ext' (fun l' => ?_) (fun _ _ => rfl) fun _ => rfl
 simp only [Sto.set]
 split
 ·rename_i e; rw [e, h]
 ·rfl
theorem wf52 (lim d : Nat) (l : List Nd) (σ : Sto) (Q : MV → Sto → Prop) (hlim : lim ≤ d) (hl : l.length ≤ 1000000) :
  WF X lim (d + 1) 143 [.sl .no (encs l)] σ Q ↔ if l = [] then Q (.sl .no []) σ else Q (.rs ⟨d, 0, σ.ct d⟩ 0 l.length 10) ((σ.set ⟨d, 0, σ.ct d⟩ (encs l).flatten).tick d) := by
 rw [WF_prim (C := X) (p := cloneP 10 96) rfl]
 simp only [cloneP, encs_nil]
 by_cases h : l = []
 ·simp [h, Opt_some]
 ·have hc : lim ≤ d ∧ okz 10 (encs l) = true ∧ (encs l).length * 96 ≤ 140737488355328 := ⟨hlim, encs_okz l, by rw [encs_len]; omega⟩
  rw [if_neg h, if_neg h, if_pos hc, encs_datas]
  simp only [Option.map_some, Opt_some, encs_len]
set_option maxHeartbeats 2000000
theorem w39 : ∀ (x : Nd), sz x ≤ 1000000 → ∀ (lim d : Nat) (σ : Sto), lim ≤ d → σ.Und d → Ret lim d 128 [.agg (enc x)] σ (.agg (enc x)) σ := by
 refine Nd.ind fun kind c s0 s1 s2 s3 n mn mx l ih hsz lim d σ hlim hu => ?_
 have hl := len_le l
 simp only [sz] at hsz
 have hct := hu.ct d (Nat.le_refl d)
 unfold Ret
 rw [WF_body (C := X) rfl func128 rfl (by kernel_rfl)]
 simp only [go_sem, Nat.reduceLT, W_seq, results128, enc, hct, Nat.reduceEqDiff, Nat.reduceAdd, reduceCtorEq]
 rw [wf52 lim d l _ _ hlim (by omega)]
 by_cases hnil : l = []
 ·subst hnil
  rw [if_pos rfl]
  simp only [go_sem, Nat.reduceEqDiff, Nat.reduceAdd, reduceCtorEq]
  rw [W_loop]
  simp only [go_sem, W_seq, encs, Nat.reduceEqDiff, Nat.reduceAdd, reduceCtorEq, cut_und _ _ hu, Int.lt_irrefl]
 ·rw [if_neg hnil]
  simp only [go_sem, hct, Nat.reduceEqDiff, Nat.reduceAdd, reduceCtorEq]
  refine loop_ind (I := fun k a s => ∃ (i : Nat), i + k = l.length ∧ a 11 = .int .i64 i ∧ a 10 = .int .i64 l.length ∧ a 1 = .ptr ⟨d, 1, 0⟩ 0 ∧ a 2 = .ptr ⟨d, 2, 1⟩ 0 ∧ s.cut d = σ ∧ s.Und (d + 1) ∧
   s.ob ⟨d, 1, 0⟩ = some [.int .i64 kind, .int .u8 c, .int .u64 s0, .int .u64 s1, .int .u64 s2, .int .u64 s3, .int .i64 n, .int .i64 mn, .int .i64 mx, .rs ⟨d, 0, 2⟩ 0 l.length 10] ∧
   s.ob ⟨d, 2, 1⟩ = some [.int .i64 0, .int .u8 0, .int .u64 0, .int .u64 0, .int .u64 0, .int .u64 0, .int .i64 0, .int .i64 0, .int .i64 0, .sl .nil []] ∧ s.ob ⟨d, 0, 2⟩ = some (encs l).flatten) ?_ l.length _ _ ?_
  ·rintro k a s ⟨i, hk, h11, h10, h1, h2, hs, hs2, ho1, ho2, ho0⟩
   by_cases hi : i < l.length
   ·have e1 : ((i : Int) < (l.length : Int)) := by omega
    have e2 : l[i]? = some l[i] := List.getElem?_eq_getElem hi
    have e3 : i * 10 + 10 ≤ (encs l).flatten.length := by rw [flat_len]; omega
    have e4 : putC (encs l).flatten (enc l[i]) (i * 10) = (encs l).flatten := by rw [← flat_at l i hi]; exact putC_same _ _ _ e3
    have hm := List.getElem_mem hi
    have hy := sz_le l _ hm
    simp only [go_sem, W_seq, e1, h11, h10, h1, h2, Nat.reduceEqDiff]
    rw [W_dr (by kernel_rfl) rfl]
    simp only [go_sem, e1, h11, h10, h1, h2, ho1, ho0, e3, flat_at l i hi, Nat.reduceEqDiff, Nat.reduceAdd, reduceCtorEq]
    refine (ih l[i] hm (by omega) (d + 1) (d + 1) _ (Nat.le_refl _) hs2).wf ?_
    simp only [go_sem, e4, set_same ho0]
    exact ⟨k - 1, by omega, i + 1, by omega, by rw [wr64 _ (by omega) (by omega)]; rfl, hs, hs2, ho2⟩
   ·have e1 : ¬ ((i : Int) < (l.length : Int)) := by omega
    have e5 : chunks (encs l).flatten 0 10 l.length = encs l := by simpa using chunks_encs l []
    have e6 : l.length * 10 ≤ (encs l).flatten.length := by rw [flat_len]; exact Nat.le_refl _
    simp only [go_sem, W_seq, e1, h11, h10, h1, h2, ho1, ho2, ho0, Nat.reduceEqDiff, Nat.reduceAdd, reduceCtorEq, e5, e6, encs_datas, hs]
  ·refine ⟨0, Nat.zero_add _, rfl, rfl, rfl, rfl, ?_, ?_, ?_, ?_, ?_⟩
   ·simp only [go_sem, cut_und _ _ hu]
   ·exact und_tick (und_tick (und_tick (und_set (und_set (und_set (und_set (und_succ hu) (Nat.lt_succ_self d) _) (Nat.lt_succ_self d) _) (Nat.lt_succ_self d) _) (Nat.lt_succ_self d) _) (Nat.lt_succ_self d)) (Nat.lt_succ_self d)) (Nat.lt_succ_self d)
   all_goals simp only [go_sem, Nat.reduceEqDiff]
end Go.Proofs.Tryz.E
