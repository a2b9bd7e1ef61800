/- Walks: what the functions compute. -/
import Derived.Test.YtclnccgiicgooaaGreatDoorE0
import Derived.IntWalk
set_option linter.unusedVariables false
set_option linter.unusedSimpArgs false
/- Nodes. -/
namespace Go.Proofs.Tryz.E
open Go.Mv
attribute [go_sem] WR_nil evNews Nat.reduceEqDiff Nat.reduceAdd Nat.reduceMul Nat.reduceLeDiff Nat.reduceLT Int.cast_ofNat_Int Int.reduceBNe Int.reduceToNat Int.reduceLT Int.reduceLE Int.reduceAdd Int.reduceNeg Int.reduceEq reduceCtorEq Bool.false_and Bool.false_eq_true

inductive Nd where
  | mk (kind c : Int) (s0 s1 s2 s3 : Int) (n mn mx : Int) (l : List Nd)
mutual
def enc : Nd → List MV
  | .mk kind c s0 s1 s2 s3 n mn mx l => [.int .i64 kind, .int .u8 c, .int .u64 s0, .int .u64 s1, .int .u64 s2, .int .u64 s3, .int .i64 n, .int .i64 mn, .int .i64 mx, .sl .no (encs l)]
def encs : List Nd → List (List MV)
  | [] => []
  | x :: l => enc x :: encs l
end
theorem encs_len : ∀ l, (encs l).length = l.length
  | [] => rfl
  | x :: l => by simp [encs, encs_len l]
theorem encs_at : ∀ (l : List Nd) (i : Nat), (encs l)[i]? = l[i]?.map enc
  | [], i => by simp [encs]
  | x :: l, 0 => by simp [encs]
  | x :: l, i + 1 => by simp [encs, encs_at l i]
theorem enc_len (x : Nd) : (enc x).length = 10 := by cases x; simp [enc]
theorem enc_era (x : Nd) : (enc x).map MV.era = enc x := by cases x; simp [enc, MV.era]

/-- A call comes to a value and a store. -/
def Ret (lim d : Nat) (f : FuncId) (args : List MV) (σ : Sto) (v : MV) (σ' : Sto) : Prop := WF X lim d f args σ fun v' s' => v' = v ∧ s' = σ'
theorem Ret.wf {lim d : Nat} {f : FuncId} {args : List MV} {σ : Sto} {v : MV} {σ' : Sto} (h : Ret lim d f args σ v σ') {Q : MV → Sto → Prop} (hq : Q v σ') : WF X lim d f args σ Q :=
  h.mono fun v' s' e => by rw [e.1, e.2]; exact hq

theorem cut_tick (σ : Sto) (d : Nat) : (σ.tick d).cut d = σ.cut d := by
  refine Sto.ext' (fun _ => rfl) (fun _ _ => rfl) fun d' => ?_
  simp only [Sto.cut, Sto.tick, upd]
  split
  · rw [if_neg (by omega)]
  · rfl
theorem cut_own (σ : Sto) (d c : Nat) (v : Option (Nat × Nat)) : (σ.own d c v).cut d = σ.cut d := by
  refine Sto.ext' (fun _ => rfl) (fun d' c' => ?_) fun _ => rfl
  simp only [Sto.cut, Sto.own]
  split
  · rw [if_neg (by omega)]
  · rfl
theorem cut_mine (σ : Sto) (d t c : Nat) (cs : List MV) : (σ.set ⟨d, t, c⟩ cs).cut d = σ.cut d := by
  refine Sto.ext' (fun l => ?_) (fun _ _ => rfl) fun _ => rfl
  simp only [Sto.cut, Sto.set]
  split
  · rename_i hl
    rw [if_neg (by rintro rfl; exact absurd hl (Nat.lt_irrefl d))]
  · rfl
theorem cut_set (σ : Sto) (d : Nat) (l : Mv.Loc) (cs : List MV) (h : l.d < d) : (σ.set l cs).cut d = (σ.cut d).set l cs := by
  refine Sto.ext' (fun l' => ?_) (fun _ _ => rfl) fun _ => rfl
  simp only [Sto.cut, Sto.set]
  by_cases e : l' = l
  · subst e; simp [h]
  · simp [e]
theorem cut_und (σ : Sto) (d : Nat) (h : σ.Und d) : σ.cut d = σ := by
  refine Sto.ext' (fun l => ?_) (fun d' c => ?_) fun d' => ?_
  · simp only [Sto.cut]; split
    · rfl
    · rw [h.ob l (by omega)]
  · simp only [Sto.cut]; split
    · rfl
    · rw [h.ow d' c (by omega)]
  · simp only [Sto.cut]; split
    · rfl
    · rw [h.ct d' (by omega)]
theorem set_set (σ : Sto) (l : Mv.Loc) (a b : List MV) : (σ.set l a).set l b = σ.set l b := by
  refine Sto.ext' (fun l' => ?_) (fun _ _ => rfl) fun _ => rfl
  simp only [Sto.set]; split <;> rfl
theorem und_succ {σ : Sto} {d : Nat} (h : σ.Und d) : σ.Und (d + 1) := ⟨fun l hl => h.ob l (by omega), fun d' c hl => h.ow d' c (by omega), fun d' hl => h.ct d' (by omega)⟩
theorem und_set {σ : Sto} {d : Nat} (h : σ.Und d) {l : Mv.Loc} (hl : l.d < d) (cs : List MV) : (σ.set l cs).Und d :=
  ⟨fun l' hl' => by simp only [Sto.set]; rw [if_neg (by rintro rfl; omega)]; exact h.ob l' hl', h.ow, h.ct⟩
theorem und_tick {σ : Sto} {d k : Nat} (h : σ.Und d) (hk : k < d) : (σ.tick k).Und d :=
  ⟨h.ob, h.ow, fun d' hl => by simp only [Sto.tick, upd]; rw [if_neg (by omega)]; exact h.ct d' hl⟩
theorem und_own {σ : Sto} {d k : Nat} (h : σ.Und d) (hk : k < d) (c : Nat) (v : Option (Nat × Nat)) : (σ.own k c v).Und d :=
  ⟨h.ob, fun d' c' hl => by simp only [Sto.own]; rw [if_neg (by omega)]; exact h.ow d' c' hl, h.ct⟩
@[go_sem] theorem ldC_eq (P : Program) (t : TypeId) (cs : List MV) (o : Nat) : ldC P t cs o = (shp P t).bind fun x => if x.1 = true then if o + x.2 ≤ cs.length then some (.agg ((cs.drop o).take x.2)) else none else cs[o]? := by
  unfold ldC
  cases shp P t with
  | none => rfl
  | some x => obtain ⟨b, n⟩ := x; cases b <;> rfl
@[go_sem] theorem stO_ptr (P : Program) (lim d : Nat) (t : TypeId) (σ : Sto) (l : Mv.Loc) (o : Nat) (v : MV) : stO P lim d t σ (.ptr l o) v = (shp P t).bind fun x => v.cells.bind fun new => (σ.ob l).bind fun cs =>
    if new.length = x.2 ∧ o + x.2 ≤ cs.length then if l.d < d then (if lim ≤ l.d then (datas new).map fun new => σ.set l (putC cs new o) else none) else if l.d = d then some (σ.set l (putC cs new o)) else none else none := by
  unfold stO
  simp only
  generalize v.cells = c
  generalize σ.ob l = ob
  cases shp P t with
  | none => rfl
  | some x => cases c <;> cases ob <;> rfl
@[go_sem] theorem iaO_sl (P : Program) (t : TypeId) (tk : Tok) (xs : List (List MV)) (k : IntKind) (i : Int) : iaO P t (.sl tk xs) (.int k i) = (slc P t).bind fun x => if 0 ≤ i then (xs[i.toNat]?).bind fun cs => if cs.length = x.2.1 then some (.ep cs 0) else none else none := by
  unfold iaO
  cases slc P t <;> rfl
def lenT : TypeDesc → MV → Option MV
  | .string, .str s => some (.int .i64 s.length)
  | .slice _, .sl _ xs => some (.int .i64 xs.length)
  | .slice _, .rs _ _ n _ => some (.int .i64 n)
  | .array n _, _ => some (.int .i64 n)
  | _, _ => none
@[go_sem] theorem lenO_eq (P : Program) (t : TypeId) (v : MV) : lenO P t v = (P.underlying t).bind fun u => lenT u v := by
  unfold lenO
  cases P.underlying t with
  | none => rfl
  | some u => cases u <;> cases v <;> rfl
@[go_sem] theorem lenT_str (s : List UInt8) : lenT .string (.str s) = some (.int .i64 s.length) := rfl
@[go_sem] theorem lenT_sl (e : TypeId) (tk : Tok) (xs : List (List MV)) : lenT (.slice e) (.sl tk xs) = some (.int .i64 xs.length) := rfl
@[go_sem] theorem lenT_arr (n : Nat) (e : TypeId) (v : MV) : lenT (.array n e) v = some (.int .i64 n) := by cases v <;> rfl
@[go_sem] theorem datas_eq (cs : List MV) : datas cs = if cs.all MV.data = true then some (cs.map MV.era) else none := rfl

@[go_sem] theorem set_tick (σ : Sto) (d : Nat) (l : Mv.Loc) (cs : List MV) : (σ.tick d).set l cs = (σ.set l cs).tick d := rfl
theorem putC_whole (cs new : List MV) (h : cs.length = new.length) : putC cs new 0 = new := by
  unfold putC
  simp [← h]
theorem enc_take (x : Nd) : (enc x).take 10 = enc x := by rw [← enc_len x]; simp
theorem enc_data (x : Nd) : (enc x).all MV.data = true := by cases x; simp [enc, MV.data]
@[go_sem] theorem putC_enc (a b c d e f g h i j : MV) (x : Nd) : putC [a, b, c, d, e, f, g, h, i, j] (enc x) 0 = enc x := putC_whole _ _ (by simp [enc_len])
attribute [go_sem] enc_len enc_take enc_data enc_era set_set cut_tick cut_own cut_mine Nat.lt_irrefl decide_true decide_false Int.toNat_natCast Nat.le_refl Int.natCast_nonneg
@[go_sem] theorem d_lt (d : Nat) : (d < d + 1) = True := by simp
@[go_sem] theorem resO_one (P : Program) (t : Tmp) (a : Nat → MV) (σ : Sto) : resO P [.tmp t] a σ = some (a t) := rfl
@[go_sem] theorem resO_cell (P : Program) (x : Tmp) (t : TypeId) (a : Nat → MV) (σ : Sto) : resO P [.cell x t] a σ = ldO P σ t (a x) := by
  unfold resO
  simp only [List.mapM_cons, List.mapM_nil, resV]
  cases ldO P σ t (a x) <;> rfl
@[go_sem] theorem resO_two (P : Program) (t u : Tmp) (a : Nat → MV) (σ : Sto) : resO P [.tmp t, .tmp u] a σ = some (.tup [a t, a u]) := rfl
@[go_sem] theorem resO_three (P : Program) (t u v : Tmp) (a : Nat → MV) (σ : Sto) : resO P [.tmp t, .tmp u, .tmp v] a σ = some (.tup [a t, a u, a v]) := rfl
@[go_sem] theorem resO_none (P : Program) (a : Nat → MV) (σ : Sto) : resO P [] a σ = some (.tup []) := rfl

theorem Nd.ind {P : Nd → Prop} (h : ∀ kind c s0 s1 s2 s3 n mn mx l, (∀ y ∈ l, P y) → P (.mk kind c s0 s1 s2 s3 n mn mx l)) : ∀ x, P x
  | .mk kind c s0 s1 s2 s3 n mn mx l => h kind c s0 s1 s2 s3 n mn mx l fun y hy => Nd.ind h y
termination_by x => SizeOf.sizeOf x
decreasing_by
  have := List.sizeOf_lt_of_mem hy
  simp
  omega

mutual
def sz : Nd → Nat
  | .mk _ _ _ _ _ _ _ _ _ l => 1 + szs l
def szs : List Nd → Nat
  | [] => 0
  | x :: l => sz x + szs l
end
theorem sz_pos (x : Nd) : 1 ≤ sz x := by cases x; simp [sz]
theorem sz_le : ∀ (l : List Nd) (y : Nd), y ∈ l → sz y ≤ szs l
  | x :: l, y, h => by
    simp only [szs]
    rcases List.mem_cons.1 h with rfl | h
    · omega
    · have := sz_le l y h; omega
theorem len_le : ∀ (l : List Nd), l.length ≤ szs l
  | [] => by simp [szs]
  | x :: l => by have := len_le l; have := sz_pos x; simp [szs]; omega
theorem wr64 (x : Int) (h : -9223372036854775808 ≤ x) (h2 : x < 9223372036854775808) : IntKind.i64.wrap x = x := by
  rw [IntWalk.i64_left, IntWalk.wrap64_in _ ⟨h, by omega⟩]

theorem loop_ind {C : Cfg} {lim d : Nat} {x : Code} {Q : Mv.Ex → (Nat → MV) → Sto → Prop} (I : Nat → (Nat → MV) → Sto → Prop)
    (step : ∀ i a σ, I i a σ → W C lim d x a σ (andThen (fun a σ => ∃ j, j < i ∧ I j a σ) Q)) : ∀ i a σ, I i a σ → W C lim d (.loop x) a σ Q := by
  intro i
  induction i using Nat.strongRecOn with
  | _ i ih =>
    intro a σ hI
    rw [W_loop]
    refine (step i a σ hI).mono fun e a' σ' h => ?_
    cases e with
    | nrm => obtain ⟨j, hj, hI'⟩ := h; exact ih j hj a' σ' hI'
    | exit id => exact h
    | ret => exact h
    | goto l => exact h
end Go.Proofs.Tryz.E
