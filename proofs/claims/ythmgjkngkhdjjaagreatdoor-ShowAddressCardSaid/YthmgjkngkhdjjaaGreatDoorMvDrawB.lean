/- The evaluator without memory: a part of its proof. -/
import Derived.Test.YthmgjkngkhdjjaaGreatDoorWMvDraw
set_option linter.unusedVariables false
set_option linter.unusedSimpArgs false
/- Regions that draw their order, joined. -/
namespace Go.Mv
section
variable {C : Cfg} {w0 w w1 : World} {K : Kp} {g g1 : Gh} {s s1 : Sto} {lim d N n : Nat} {a a1 : Nat → MV} {act : Act} {Q : Exit → Act → World → Prop} {ops : Array Oper}
structure Free (ops : Array Oper) (n : Nat) : Prop where
 low : ∀ (i : Nat) (x : Oper), i < n → ops[i]? = some x → ∀ e ∈ x.after, Region.binds .any e = true → e.on < i
 uniq : ∀ (i j : Nat) (x y : Oper) (t : Tmp), i < n → j < n → i ≠ j → ops[i]? = some x → ops[j]? = some y → x.dst = some t → y.dst ≠ some t
 one : ∀ (i j : Nat) (x y : Oper), i < n → j < n → ops[i]? = some x → ops[j]? = some y → isNew x = true → isNew y = true → i = j
 look : ∀ (i j : Nat) (x y : Oper) (t : Tmp), i < n → j < n → ops[i]? = some x → ops[j]? = some y → y.dst = some t → t ∈ x.looksAt ops → j < i ∧ isNew y = false ∧ ∃ e ∈ x.after, Region.binds .any e = true ∧ e.on = j
theorem okFree_spec (h : okFree ops n = true) : Free ops n := by
 have key : ∀ (i : Nat) (x : Oper), i < n → ops[i]? = some x → (∀ e ∈ x.after, Region.binds .any e = true → e.on < i) ∧ ∀ (j : Nat) (y : Oper), j < n → ops[j]? = some y →
   (i ≠ j → (∀ t, x.dst = some t → y.dst ≠ some t) ∧ (isNew x = true → isNew y = true → False)) ∧ (∀ t, y.dst = some t → t ∈ x.looksAt ops → j < i ∧ isNew y = false ∧ ∃ e ∈ x.after, Region.binds .any e = true ∧ e.on = j) := by
  intro i x hi hx
  have h1 := List.all_eq_true.1 h i (List.mem_range.2 hi)
  simp only [hx, Bool.and_eq_true] at h1
  refine ⟨fun e he hb => ?_, fun j y hj hy => ?_⟩
  ·have := Array.all_eq_true_iff_forall_mem.1 h1.1 e he
   simpa [hb] using this
  ·have h2 := List.all_eq_true.1 h1.2 j (List.mem_range.2 hj)
   simp only [hy, Bool.and_eq_true] at h2
   refine ⟨fun hij => ⟨fun t ht => ?_, fun hnx hny => ?_⟩, fun t ht hl => ?_⟩
   ·have := h2.1
    simp [hij, ht] at this
    exact fun e => this.1 e
   ·have := h2.1
    simp [hij, hnx, hny] at this
   ·have := h2.2
    have hc : (x.looksAt ops).contains t = true := by simpa using hl
    simp only [ht, hc, Bool.not_true, Bool.false_or, Bool.and_eq_true, decide_eq_true_eq, Bool.not_eq_true'] at this
    obtain ⟨e, he, hb⟩ := Array.any_eq_true'.1 this.2
    simp only [Bool.and_eq_true, beq_iff_eq] at hb
    exact ⟨this.1.1, this.1.2, e, he, hb.1, hb.2⟩
 exact ⟨fun i x hi hx => (key i x hi hx).1, fun i j x y t hi hj hij hx hy => (((key i x hi hx).2 j y hj hy).1 hij).1 t, fun i j x y hi hj hx hy hnx hny => by
  by_cases e : i = j
  ·exact e
  ·exact ((((key i x hi hx).2 j y hj hy).1 e).2 hnx hny).elim, fun i j x y t hi hj hx hy => ((key i x hi hx).2 j y hj hy).2 t⟩
structure DI (w0 : World) (K : Kp) (N n : Nat) (ops : Array Oper) (P : Program) (w1 : World) (g1 : Gh) (s : Sto) (a a1 : Nat → MV) (L : Array Bool) (act : Act) (w : World) : Prop where
 hd : HeadInv .any ops n L
 sz : N ≤ act.tmps.size
 df : act.defers = []
 ex : ∃ (K' : Kp) (g : Gh), St w0 K' w g s ∧ Ev w1 g1 s w g s ∧
  (∀ t, (∀ (j : Nat) (o : Oper), j < n → ops[j]? = some o → o.dst = some t → L.getD j false = false) → VR w g s (a t) (act.tmps.getD t undef)) ∧
  (∀ (j : Nat) (o : Oper) (t : Tmp), j < n → ops[j]? = some o → isNew o = false → o.dst = some t → L.getD j false = true → VR w g s (a1 t) (act.tmps.getD t undef)) ∧
  ((K' = K ∧ ∀ (j : Nat) (o : Oper), j < n → ops[j]? = some o → isNew o = true → L.getD j false = false) ∨
   (∃ (b : Nat) (T : TypeId) (zv : Value) (j : Nat) (o : Oper) (t : Tmp), K' = K.add b (.cells zv.cells T (0, 0)) ∧ (∀ x, ¬ K.k b x) ∧ j < n ∧ ops[j]? = some o ∧ o.op = .alloc T ∧ o.dst = some t ∧ L.getD j false = true ∧
    act.tmps.getD t undef = .pointer (some ⟨b, 0, none⟩) ∧ (P.info? T).bind (·.zero) = some zv))
theorem getD_set_self {L : Array Bool} {i : Nat} (h : i < L.size) : (L.setIfInBounds i true).getD i false = true := by simp [h]
set_option maxHeartbeats 1000000 in
theorem DI.step (hC : C.OK) (hKO : C.KO K) {call : Call} (hc : CallOK C call) (hk : Keeps call) (hu : s.Und (d + 1)) (hf : Free ops n) (hdst : ∀ o ∈ ops, ∀ t, o.dst = some t → t < N)
  (hnew : ∀ (j : Nat) (o : Oper), j < n → ops[j]? = some o → isNew o = true → o.guard = none ∧ o.dst.isSome = true) (hz : ∀ (j : Nat) (o : Oper) (T : TypeId), j < n → ops[j]? = some o → o.op = .alloc T → ∃ zv cs, (C.P.info? T).bind (·.zero) = some zv ∧ (ofV zv).cells = some cs)
  (h1 : ∀ t, (∀ (j : Nat) (o : Oper), j < n → ops[j]? = some o → o.dst ≠ some t) → a1 t = a t) (ht : ∀ (j : Nat) (o : Oper), j < n → ops[j]? = some o → Told C call d ops s a1 o)
  {L : Array Bool} (hI : DI w0 K N n ops C.P w1 g1 s a a1 L act w) {i : Nat} (hi : i ∈ Region.ready .any ops L) (hin : i < n) {next : Act → World → Prop}
  (hnext : ∀ act' w', DI w0 K N n ops C.P w1 g1 s a a1 (L.setIfInBounds i true) act' w' → next act' w') : wpOp C.P ops Q i next act w := by
 obtain ⟨hd, sz, df, K', g, hS, hE, hA, hB, hK⟩ := hI
 obtain ⟨hunl, o, ho, hall⟩ := mem_ready.1 hi
 have hd' := hd.set hi hin
 have hil : i < L.size := by rw [hd.size]; exact (Array.getElem?_eq_some_iff.1 ho).1
 have hunl' := getD_both hunl
 have hdo := hdst o (Array.mem_of_getElem? ho)
 have hlook : ∀ t ∈ o.looksAt ops, VR w g s (a1 t) (act.tmps.getD t undef) := fun t htl => by
  by_cases hex : ∃ (j : Nat) (y : Oper), j < n ∧ ops[j]? = some y ∧ y.dst = some t
  ·obtain ⟨j, y, hj, hy, hyt⟩ := hex
   obtain ⟨hji, hyn, e, he, hb, hon⟩ := hf.look i j o y t hin hj ho hy hyt htl
   exact hB j y t hj hy hyn hyt (by have := hall e he hb; rwa [hon] at this)
  ·have hno : ∀ (j : Nat) (o : Oper), j < n → ops[j]? = some o → o.dst ≠ some t := fun j y hj hy hyt => hex ⟨j, y, hj, hy, hyt⟩
   rw [h1 t hno]
   exact hA t fun j y hj hy hyt => absurd hyt (hno j y hj hy)
 have hput : ∀ (u : Value) (t : Nat), o.dst ≠ some t → (act.put o.dst u).tmps.getD t undef = act.tmps.getD t undef := fun u t hne => by
  cases hod : o.dst with
  | none => rfl
  | some t0 => exact put_ne (by rintro rfl; exact hne hod)
 have hputs : ∀ (u : Value) (t : Nat), o.dst = some t → (act.put o.dst u).tmps.getD t undef = u := fun u t he => by
  rw [he]; exact put_same (Nat.lt_of_lt_of_le (hdo t he) sz)
 have hset : ∀ j, j ≠ i → (L.setIfInBounds i true).getD j false = L.getD j false := fun j hj => getD_set_ne false (Ne.symm hj)
 have hA' : ∀ (u : Value) (w' : World) (g' : Gh), Ev w g s w' g' s → ∀ t, (∀ (j : Nat) (o : Oper), j < n → ops[j]? = some o → o.dst = some t → (L.setIfInBounds i true).getD j false = false) → VR w' g' s (a t) ((act.put o.dst u).tmps.getD t undef) := fun u w' g' e t htt => by
  have hne : o.dst ≠ some t := fun he => by
   have := htt i o hin ho he
   rw [getD_set_self hil] at this
   cases this
  rw [hput u t hne]
  refine (hA t fun j y hj hy hyt => ?_).ev e
  by_cases hji : j = i
  ·subst hji; exact hunl'
  ·rw [← hset j hji]; exact htt j y hj hy hyt
 have hB' : ∀ (u : Value) (w' : World) (g' : Gh), Ev w g s w' g' s → ∀ (j : Nat) (y : Oper) (t : Tmp), j ≠ i → j < n → ops[j]? = some y → isNew y = false → y.dst = some t → (L.setIfInBounds i true).getD j false = true → VR w' g' s (a1 t) ((act.put o.dst u).tmps.getD t undef) := fun u w' g' e j y t hji hj hy hyn hyt hl => by
  rw [hput u t (hf.uniq j i y o t hj hin hji hy ho hyt)]
  rw [hset j hji] at hl
  exact (hB j y t hj hy hyn hyt hl).ev e
 obtain ⟨a', ha', hcase⟩ := ht i o hin ho
 have hx : ∀ x ∈ o.op.operands, VR w g s (valO a' x) (act.eval x) := fun x hxo => valR x fun t e => by
  subst e
  have htl : t ∈ o.looksAt ops := List.mem_append_left _ (List.mem_filterMap.2 ⟨.tmp t, by simpa using hxo, rfl⟩)
  rw [ha' t htl]
  exact hlook t htl
 have hwant : ∀ b, want ops a' o = some b → Region.wanted o (yielded ops act.tmps) = b := fun b hb => wantR (fun j v t hg hj => by
  have htl : t ∈ o.looksAt ops := List.mem_append_right _ (by simp [hg, hj])
  rw [ha' t htl]
  exact hlook t htl) hb
 unfold wpOp
 simp only [ho]
 rcases hcase with ⟨hw, hnw⟩ | ⟨hw, hnw, v, hv, hvd⟩ | ⟨hw, hvd⟩
 ·-- a new variable
  rw [hwant _ hw]
  simp only [if_true]
  left
  have hopT : ∃ T, o.op = .alloc T := by
   unfold isNew at hnw
   split at hnw
   ·rename_i T hT; exact ⟨T, hT⟩
   ·cases hnw
  obtain ⟨T, hT⟩ := hopT
  obtain ⟨zv, cs, hz1, hz2⟩ := hz i o T hin ho hT
  obtain ⟨inf, hi1, hi2⟩ := Option.bind_eq_some_iff.1 hz1
  rcases hK with ⟨rfl, hK⟩ | ⟨b, T', zv', j, y, t, _, _, hj, hy, hyo, _, hyl, _⟩
  ·obtain ⟨q1, q2⟩ := hS.keepNew (.cells zv.cells T (0, 0))
   have hex : execOp act.eval o = (do pure (.value (← Instr.alloc T true (.tuple #[])))) := by
    obtain ⟨dst, op, ty, pos, aft, gd⟩ := o
    simp only at hT
    subst hT
    rfl
   refine wp_value (u := .pointer (some ⟨w.heap.size, 0, none⟩)) (w' := w.alloc (.cells zv.cells T)) hex (by simp [Instr.alloc, zeroValue, typeInfo, hi1, hi2, newVar]; rfl) (hnext _ _ ⟨hd', by rw [put_size]; exact sz, by rw [put_df]; exact df, _, g, q1, hE.trans q2, hA' _ _ _ q2, fun j y t hj hy hyn hyt hl => ?_, .inr ?_⟩)
   ·refine hB' _ _ _ q2 j y t ?_ hj hy hyn hyt hl
    rintro rfl
    rw [ho] at hy
    cases hy
    rw [hnw] at hyn
    cases hyn
   ·obtain ⟨t, ht'⟩ := Option.isSome_iff_exists.1 (hnew i o hin ho hnw).2
    exact ⟨w.heap.size, T, zv, i, o, t, rfl, fun x hx => by have := getElem?_of_some (hS.old _ x hx); omega, hin, ho, hT, ht', getD_set_self hil, hputs _ t ht', hz1⟩
  ·exfalso
   have hny : isNew y = true := by unfold isNew; rw [hyo]
   have := hf.one i j o y hin hj ho hy hnw hny
   subst this
   rw [hunl'] at hyl
   cases hyl
 ·rw [hwant _ hw]
  simp only [if_true]
  left
  refine freeSound hC (by rcases hK with ⟨rfl, _⟩ | ⟨b, T, zv, j, y, t, rfl, _⟩ <;> first | exact hKO | exact fun b q h => (hKO b q h).imp fun x hx => ⟨hx.1, .inl hx.2⟩) hc hk hS hu hx hv fun u w' g' k1 k2 k3 => hnext _ _ ⟨hd', by rw [put_size]; exact sz, by rw [put_df]; exact df, K', g', k2, hE.trans k3, hA' _ _ _ k3, fun j y t hj hy hyn hyt hl => ?_, ?_⟩
  ·by_cases hji : j = i
   ·subst hji
    rw [ho] at hy
    cases hy
    rw [hputs u t hyt, hvd t hyt]
    exact k1
   ·exact hB' _ _ _ k3 j y t hji hj hy hyn hyt hl
  ·rcases hK with ⟨rfl, hK⟩ | ⟨b, T', zv', j, y, t, e1, e2, hj, hy, hyo, hyt, hyl, hyp, hyz⟩
   ·refine .inl ⟨rfl, fun j y hj hy hyn => ?_⟩
    have hji : j ≠ i := by rintro rfl; rw [ho] at hy; cases hy; rw [hnw] at hyn; cases hyn
    rw [hset j hji]
    exact hK j y hj hy hyn
   ·have hji : j ≠ i := by rintro rfl; rw [hunl'] at hyl; cases hyl
    refine .inr ⟨b, T', zv', j, y, t, e1, e2, hj, hy, hyo, hyt, by rw [hset j hji]; exact hyl, ?_, hyz⟩
    rw [hput u t (hf.uniq j i y o t hj hin hji hy ho hyt)]
    exact hyp
 ·rw [hwant _ hw]
  simp only [Bool.false_eq_true, if_false]
  have e0 : Ev w g s w g s := .refl _ _ _
  refine hnext _ _ ⟨hd', by rw [put_size]; exact sz, by rw [put_df]; exact df, K', g, hS, hE, hA' _ _ _ e0, fun j y t hj hy hyn hyt hl => ?_, ?_⟩
  ·by_cases hji : j = i
   ·subst hji
    rw [ho] at hy
    cases hy
    rw [hputs _ t hyt, hvd t hyt]
    exact .undef
   ·exact hB' _ _ _ e0 j y t hji hj hy hyn hyt hl
  ·have hnw : isNew o = false := by
    cases hq : isNew o with
    | false => rfl
    | true =>
     have := (hnew i o hin ho hq).1
     simp [want, this] at hw
   rcases hK with ⟨rfl, hK⟩ | ⟨b, T', zv', j, y, t, e1, e2, hj, hy, hyo, hyt, hyl, hyp, hyz⟩
   ·refine .inl ⟨rfl, fun j y hj hy hyn => ?_⟩
    have hji : j ≠ i := by rintro rfl; rw [ho] at hy; cases hy; rw [hnw] at hyn; cases hyn
    rw [hset j hji]
    exact hK j y hj hy hyn
   ·have hji : j ≠ i := by rintro rfl; rw [hunl'] at hyl; cases hyl
    refine .inr ⟨b, T', zv', j, y, t, e1, e2, hj, hy, hyo, hyt, by rw [hset j hji]; exact hyl, ?_, hyz⟩
    rw [hput _ t (hf.uniq j i y o t hj hin hji hy ho hyt)]
    exact hyp
theorem count_drop {α : Type} (i : α) (p p' : α → Bool) (hp : p i = true) (hp' : p' i = false) : ∀ (l : List α), l.Nodup → i ∈ l → (∀ j ∈ l, j ≠ i → p' j = p j) → (l.filter p).length = (l.filter p').length + 1
 | [], _, hi, _ => by cases hi
 | x :: l, hn, hi, h => by
  have hn' := List.nodup_cons.1 hn
  by_cases e : x = i
  ·subst e
   rw [List.filter_cons_of_pos hp, List.filter_cons_of_neg (by simp [hp'])]
   have : l.filter p = l.filter p' := List.filter_congr fun j hj => (h j (List.mem_cons_of_mem _ hj) (by rintro rfl; exact hn'.1 hj)).symm
   rw [this]
   rfl
  ·have hi' : i ∈ l := (List.mem_cons.1 hi).resolve_left (fun e' => e e'.symm)
   have ih := count_drop i p p' hp hp' l hn'.2 hi' fun j hj => h j (List.mem_cons_of_mem _ hj)
   have hx := h x (List.mem_cons_self ..) e
   by_cases hq : p x = true
   ·rw [List.filter_cons_of_pos hq, List.filter_cons_of_pos (by rw [hx]; exact hq)]
    simp only [List.length_cons]
    omega
   ·rw [List.filter_cons_of_neg hq, List.filter_cons_of_neg (by rw [hx]; exact hq)]
    exact ih
theorem least {p : Nat → Prop} : ∀ (i : Nat), p i → ∃ j, p j ∧ ∀ k, k < j → ¬ p k := by
 intro i
 induction i using Nat.strongRecOn with
 | _ i ih =>
  intro hi
  by_cases h : ∃ k, k < i ∧ p k
  ·obtain ⟨k, hk, hp⟩ := h
   exact ih k hk hp
  ·exact ⟨i, hi, fun k hk hp => h ⟨k, hk, hp⟩⟩
def undone (n : Nat) (L : Array Bool) : List Nat := (List.range n).filter fun i => !L.getD i false
theorem DI.go (hC : C.OK) (hKO : C.KO K) {call : Call} (hc : CallOK C call) (hk : Keeps call) (hu : s.Und (d + 1)) (hf : Free ops n) (hn : n ≤ ops.size) (hw : n < ops.size → Region.sinkB .any ops n = true ∧ Region.chainB .any ops n = true) (hdst : ∀ o ∈ ops, ∀ t, o.dst = some t → t < N)
  (hnew : ∀ (j : Nat) (o : Oper), j < n → ops[j]? = some o → isNew o = true → o.guard = none ∧ o.dst.isSome = true) (hz : ∀ (j : Nat) (o : Oper) (T : TypeId), j < n → ops[j]? = some o → o.op = .alloc T → ∃ zv cs, (C.P.info? T).bind (·.zero) = some zv ∧ (ofV zv).cells = some cs)
  (h1 : ∀ t, (∀ (j : Nat) (o : Oper), j < n → ops[j]? = some o → o.dst ≠ some t) → a1 t = a t) (ht : ∀ (j : Nat) (o : Oper), j < n → ops[j]? = some o → Told C call d ops s a1 o) {gas : Nat}
  (hend : ∀ L act w, DI w0 K N n ops C.P w1 g1 s a a1 L act w → (∀ i, i < n → L.getD i false = true) → wpAny C.P .any ops Q gas L act w) :
  ∀ (f : Nat) (L : Array Bool) (act : Act) (w : World), (undone n L).length = f → DI w0 K N n ops C.P w1 g1 s a a1 L act w → wpAny C.P .any ops Q (f + gas) L act w
 | 0, L, act, w, hl, hI => by
  rw [Nat.zero_add]
  refine hend L act w hI fun i hi => ?_
  have : undone n L = [] := List.eq_nil_of_length_eq_zero hl
  cases hq : L.getD i false with
  | true => rfl
  | false =>
   have : i ∈ undone n L := List.mem_filter.2 ⟨List.mem_range.2 hi, by simp only [hq]; rfl⟩
   simp_all
 | f + 1, L, act, w, hl, hI => by
  have hsz : L.size = ops.size := hI.hd.size
  have hex : ∃ i, i < n ∧ L.getD i false = false := by
   have : undone n L ≠ [] := by intro e; rw [e] at hl; cases hl
   obtain ⟨i, hi⟩ := List.exists_mem_of_ne_nil _ this
   obtain ⟨h1, h2⟩ := List.mem_filter.1 hi
   exact ⟨i, List.mem_range.1 h1, by simpa using h2⟩
  obtain ⟨i0, hi0⟩ := hex
  obtain ⟨i, ⟨hi, hiu⟩, hil⟩ := least (p := fun i => i < n ∧ L.getD i false = false) i0 hi0
  have hir : i ∈ Region.ready .any ops L := by
   have hlt : i < ops.size := by omega
   refine mem_ready.2 ⟨getD_in (by omega) hiu, ops[i], Array.getElem?_eq_getElem hlt, fun e he hb => ?_⟩
   have := hf.low i ops[i] hi (Array.getElem?_eq_getElem hlt) e he hb
   cases hq : L.getD e.on false with
   | true => rfl
   | false => exact absurd ⟨by omega, hq⟩ (hil e.on this)
  rw [show f + 1 + gas = (f + gas) + 1 by omega]
  refine ⟨fun h => (by rw [h] at hir; cases hir), fun j hj => ?_⟩
  have hjn : j < n := by
   rcases Nat.lt_or_ge j n with h | h
   ·exact h
   ·exfalso
    obtain ⟨_, o, ho, _⟩ := mem_ready.1 hj
    have hjs : j < ops.size := (Array.getElem?_eq_some_iff.1 ho).1
    obtain ⟨w1, w2⟩ := hw (by omega)
    exact tail_waits w1 w2 (by omega) hI.hd _ i rfl hi (getD_in (by omega) hiu) j h hj
  refine hI.step hC hKO hc hk hu hf hdst hnew hz h1 ht hj hjn fun act' w' hI' => DI.go hC hKO hc hk hu hf hn hw hdst hnew hz h1 ht hend f _ _ _ ?_ hI'
  obtain ⟨hju, _⟩ := mem_ready.1 hj
  have hju' := getD_both hju
  have := count_drop j (fun i => !L.getD i false) (fun i => !(L.setIfInBounds j true).getD i false) (by simp only [hju']; rfl) (by rw [getD_set_self (by omega)]; rfl) (List.range n) List.nodup_range (List.mem_range.2 hjn) (fun k _ hk => by rw [getD_set_ne false (Ne.symm hk)])
  unfold undone at hl ⊢
  omega
theorem takeWhile_at {α : Type} (p : α → Bool) (l : List α) (j : Nat) (h : j < (l.takeWhile p).length) : (l.takeWhile p)[j]? = l[j]? := by
 conv => rhs; rw [← List.takeWhile_append_dropWhile (p := p) (l := l)]
 rw [List.getElem?_append_left h]
theorem dropWhile_at {α : Type} (p : α → Bool) (l : List α) (j : Nat) : (l.dropWhile p)[j]? = l[(l.takeWhile p).length + j]? := by
 have e : l[(l.takeWhile p).length + j]? = (l.takeWhile p ++ l.dropWhile p)[(l.takeWhile p).length + j]? := by rw [List.takeWhile_append_dropWhile]
 rw [e, List.getElem?_append_right (by omega)]
 simp
set_option maxHeartbeats 1000000 in
theorem drawSound (hC : C.OK) (hKO : C.KO K) {call : Call} (hc : CallOK C call) (hk : Keeps call) {id : Nat} (hd : okDst N ops = true) (ho : okDraw ops = true) {r : (Nat → MV) × Sto} (he : evDraw C call lim d ops a s = some r) (ha : AR N w g s a act) (h : St w0 K w g s) (hu : s.Und (d + 1))
  (hq : ∀ act' w', Res w0 K N d w g s r.1 r.2 act' w' → Q .normal act' w') : (Code.region id ops true).wp C.P Q act w := by
 unfold evDraw at he
 obtain ⟨a1, he1, he⟩ := Option.bind_eq_some_iff.1 he
 obtain ⟨x, he2, he3⟩ := Option.bind_eq_some_iff.1 he
 simp only [okDraw] at ho
 have hpre : ∀ j, j < (ops.toList.takeWhile fun o => !isTail o).length → (ops.toList.takeWhile fun o => !isTail o)[j]? = ops[j]? := fun j hj => by rw [takeWhile_at _ _ _ hj]; simp
 have htl : ∀ j, (ops.toList.dropWhile fun o => !isTail o)[j]? = ops[(ops.toList.takeWhile fun o => !isTail o).length + j]? := fun j => by rw [dropWhile_at]; simp
 have hlen : (ops.toList.takeWhile fun o => !isTail o).length + (ops.toList.dropWhile fun o => !isTail o).length = ops.size := by
  rw [← List.length_append, List.takeWhile_append_dropWhile, Array.length_toList]
 revert hpre htl hlen he1 he2 he3 ho
 generalize (ops.toList.takeWhile fun o => !isTail o) = pre
 generalize (ops.toList.dropWhile fun o => !isTail o) = tl
 intro ho he1 he2 he3 hpre htl hlen
 simp only [Bool.and_eq_true, decide_eq_true_eq] at ho
 obtain ⟨⟨⟨⟨ho1, ho2⟩, ho3⟩, ho4⟩, ho5⟩ := ho
 have hf := okFree_spec ho1
 have hmem : ∀ (j : Nat) (o : Oper), j < pre.length → ops[j]? = some o → o ∈ pre := fun j o hj hoj => by
  rw [← hpre j hj] at hoj
  exact List.mem_of_getElem? hoj
 have hidx : ∀ (j : Nat) (o : Oper), pre[j]? = some o → j < pre.length ∧ ops[j]? = some o := fun j o hj => by
  have hl := (List.getElem?_eq_some_iff.1 hj).1
  exact ⟨hl, by rw [← hpre j hl]; exact hj⟩
 have hdst : ∀ o ∈ ops, ∀ t, o.dst = some t → t < N := fun o hoo t ht => by
  have := Array.all_eq_true_iff_forall_mem.1 hd o hoo
  simpa [ht] using this
 have hnew : ∀ (j : Nat) (o : Oper), j < pre.length → ops[j]? = some o → isNew o = true → o.guard = none ∧ o.dst.isSome = true := fun j o hj hoj hn => by
  have := List.all_eq_true.1 ho4 o (hmem j o hj hoj)
  simpa [hn] using this
 have hfil : pre.filter isNew = [] ∨ ∃ o, pre.filter isNew = [o] := by
  cases hq : pre.filter isNew with
  | nil => exact .inl rfl
  | cons o l =>
   rw [hq] at ho3
   cases l with
   | nil => exact .inr ⟨o, rfl⟩
   | cons o' l => simp at ho3
 have hone : ∀ (j : Nat) (o : Oper), j < pre.length → ops[j]? = some o → isNew o = true → pre.filter isNew = [o] := fun j o hj hoj hn => by
  have hm : o ∈ pre.filter isNew := List.mem_filter.2 ⟨hmem j o hj hoj, hn⟩
  rcases hfil with hq | ⟨o', hq⟩
  ·rw [hq] at hm; cases hm
  ·rw [hq] at hm
   have : o = o' := by simpa using hm
   rw [this]; exact hq
 rw [evNews_filter] at he2
 have hz : ∀ (j : Nat) (o : Oper) (T : TypeId), j < pre.length → ops[j]? = some o → o.op = .alloc T → ∃ zv cs, (C.P.info? T).bind (·.zero) = some zv ∧ (ofV zv).cells = some cs := fun j o T hj hoj hT => by
  rw [hone j o hj hoj (by unfold isNew; rw [hT])] at he2
  simp only [evNews, hT] at he2
  obtain ⟨cs, hcs, _⟩ := Option.bind_eq_some_iff.1 he2
  obtain ⟨z, hz1, hz2⟩ := Option.bind_eq_some_iff.1 hcs
  unfold zer at hz1
  obtain ⟨zv, hz3, rfl⟩ := Option.map_eq_some_iff.1 hz1
  exact ⟨zv, cs, hz3, hz2⟩
 obtain ⟨sp1, sp2⟩ := evOpsF_spec (s := s) pre a a1 he1 (fun i j x y hx hy hij t ht hl => by
  obtain ⟨hi, hx⟩ := hidx i x hx
  obtain ⟨hj, hy⟩ := hidx j y hy
  have := (hf.look i j x y t hi hj hx hy ht hl).1
  omega) (fun i j x y hx hy hij t ht => by
  obtain ⟨hi, hx⟩ := hidx i x hx
  obtain ⟨hj, hy⟩ := hidx j y hy
  exact hf.uniq i j x y t hi hj (by omega) hx hy ht)
 have h1 : ∀ t, (∀ (j : Nat) (o : Oper), j < pre.length → ops[j]? = some o → o.dst ≠ some t) → a1 t = a t := fun t htt => sp1 t fun y hy => by
  obtain ⟨j, hj⟩ := List.mem_iff_getElem?.1 hy
  obtain ⟨hj1, hj2⟩ := hidx j y hj
  exact htt j y hj1 hj2
 obtain ⟨hS1, hE1⟩ := h.same (w' := { w with drawn := w.drawn + 1 }) rfl rfl rfl rfl
 refine wp_region_any hC.mix ?_
 have hinit : DI w0 K N pre.length ops C.P { w with drawn := w.drawn + 1 } g s a a1 (Array.replicate ops.size false) act { w with drawn := w.drawn + 1 } := by
  refine ⟨⟨by simp, fun j oj _ hl => (by rw [getD_replicate_false] at hl; cases hl), fun t _ ht => getD_in (by simpa using ht) (getD_replicate_false _ _)⟩, ha.sz, ha.df, K, g, hS1, .refl _ _ _, fun t _ => (ha.rel t).ev hE1, fun j o t _ _ _ _ hl => (by rw [getD_replicate_false] at hl; cases hl), .inl ⟨rfl, fun j o _ _ _ => getD_replicate_false _ _⟩⟩
 have hcnt : (undone pre.length (Array.replicate ops.size false)).length = pre.length := by
  have : undone pre.length (Array.replicate ops.size false) = List.range pre.length := by
   unfold undone
   rw [List.filter_eq_self]
   intro i _
   rw [getD_replicate_false]
   rfl
  rw [this, List.length_range]
 have hfuel : ops.size = pre.length + tl.length := hlen.symm
 rw [show wpAny C.P .any ops Q ops.size = wpAny C.P .any ops Q (pre.length + tl.length) by rw [← hfuel]]
 refine DI.go hC hKO hc hk hu hf (by omega) (fun hlt => ?_) hdst hnew hz h1 (fun j o hj hoj => sp2 o (hmem j o hj hoj)) (fun L act' w' hI hall => ?_) _ _ _ _ hcnt hinit
 ·rw [if_neg (by omega)] at ho5
  simp only [Bool.and_eq_true] at ho5
  exact ⟨ho5.1.1, ho5.1.2⟩
 ·-- the tail
  have hLs : L.size = ops.size := hI.hd.size
  have hL : L = ((List.range ops.size).map fun i => decide (i < pre.length)).toArray := by
   apply Array.ext
   ·simp [hLs]
   ·intro i hi1 hi2
    have hiq : i < ops.size := by omega
    by_cases hip : i < pre.length
    ·have := hall i hip
     simp [hi1] at this
     simp [hip, this]
    ·have := hI.hd.tail i (by omega) hiq
     simp [hi1] at this
     simp [hip, this]
  have hseq : Region.seqB .any ops tl.length pre.length L = true := by
   split at ho5
   ·rename_i hpe
    have : tl.length = 0 := by omega
    rw [this]
    simp only [Region.seqB, List.isEmpty_iff]
    cases hr : Region.ready .any ops L with
    | nil => rfl
    | cons i l =>
     have hi : i ∈ Region.ready .any ops L := by rw [hr]; exact List.mem_cons_self ..
     obtain ⟨h1, o, ho, _⟩ := mem_ready.1 hi
     have hlt : i < ops.size := (Array.getElem?_eq_some_iff.1 ho).1
     have := hall i (by omega)
     rw [getD_both h1] at this
     cases this
   ·simp only [Bool.and_eq_true] at ho5
    have := ho5.2
    rw [show ops.size - pre.length = tl.length by omega] at this
    rw [hL]
    exact this
  refine wpAny_of_seq tl pre.length L act' w' htl hseq ?_
  obtain ⟨hd', sz, df, K', g', hS, hE, hA, hB, hK⟩ := hI
  have hfin : Res w0 K N d { w with drawn := w.drawn + 1 } g s x.1 x.2 act' w' := by
   rcases hK with ⟨rfl, hK⟩ | ⟨b, T, zv, j, o, t, rfl, e2, hj, hoj, hoT, hot, hol, hop, hoz⟩
   ·have hnil : pre.filter isNew = [] := by
     rcases hfil with hq | ⟨o, hq⟩
     ·exact hq
     ·have hm : o ∈ pre.filter isNew := by rw [hq]; exact List.mem_cons_self ..
      obtain ⟨m1, m2⟩ := List.mem_filter.1 hm
      obtain ⟨j, hj⟩ := List.mem_iff_getElem?.1 m1
      obtain ⟨hj1, hj2⟩ := hidx j o hj
      have := hK j o hj1 hj2 m2
      rw [hall j hj1] at this
      cases this
    rw [hnil] at he2
    cases he2
    refine ⟨g', ⟨sz, fun t => ?_, df⟩, hS, hE, hu⟩
    by_cases hex : ∃ (j : Nat) (y : Oper), j < pre.length ∧ ops[j]? = some y ∧ y.dst = some t
    ·obtain ⟨j, y, hj, hy, hyt⟩ := hex
     refine hB j y t hj hy ?_ hyt (hall j hj)
     cases hq : isNew y with
     | false => rfl
     | true => rw [hone j y hj hy hq] at hnil; cases hnil
    ·have hno : ∀ (j : Nat) (o : Oper), j < pre.length → ops[j]? = some o → o.dst ≠ some t := fun j y hj hy hyt => hex ⟨j, y, hj, hy, hyt⟩
     show VR w' g' s (a1 t) _
     rw [h1 t hno]
     exact hA t fun j y hj hy hyt => absurd hyt (hno j y hj hy)
   ·have hno : isNew o = true := by unfold isNew; rw [hoT]
    rw [hone j o hj hoj hno] at he2
    simp only [evNews, hoT] at he2
    obtain ⟨cs, hcs, he2⟩ := Option.bind_eq_some_iff.1 he2
    obtain ⟨z, hz1, hz2⟩ := Option.bind_eq_some_iff.1 hcs
    unfold zer at hz1
    rw [hoz] at hz1
    cases hz1
    cases he2
    have hcr : CR w' g' s cs zv.cells := (VR_ofV zv).cells hz2
    obtain ⟨g2, k1, k2, k3, k4⟩ := hS.adopt hu e2 (fun k hk => (h.kn k hk).1) (locT C T cs.length o.dst) (locT_ok rfl hcr.1.symm) hcr
    refine ⟨g2, ⟨sz, fun t' => ?_, df⟩, k2, hE.trans k3, k4⟩
    show VR w' g2 _ (putD a1 o.dst _ t') _
    rw [hot]
    simp only [putD]
    by_cases ht' : t' = t
    ·subst ht'
     rw [upd_same, hop]
     rw [hot] at k1
     exact k1
    ·rw [upd_ne _ _ ht']
     rw [hot] at k3
     refine VR.ev k3 ?_
     by_cases hex : ∃ (j : Nat) (y : Oper), j < pre.length ∧ ops[j]? = some y ∧ y.dst = some t'
     ·obtain ⟨j', y, hj', hy, hyt⟩ := hex
      refine hB j' y t' hj' hy ?_ hyt (hall j' hj')
      cases hq : isNew y with
      | false => rfl
      | true =>
       have := hf.one j j' o y hj hj' hoj hy hno hq
       subst this
       rw [hoj] at hy
       cases hy
       rw [hot] at hyt
       cases hyt
       exact absurd rfl ht'
     ·have hnod : ∀ (j : Nat) (o : Oper), j < pre.length → ops[j]? = some o → o.dst ≠ some t' := fun j y hj hy hyt => hex ⟨j, y, hj, hy, hyt⟩
      rw [h1 t' hnod]
      exact hA t' fun j y hj hy hyt => absurd hyt (hnod j y hj hy)
  obtain ⟨g3, m1, m2, m3, m4⟩ := hfin
  refine opsSound hC hKO hc tl (fun o hoo t hot => ?_) he3 m1 m2 m4 fun act2 w2 hr => hq act2 w2 (.after hE1 (.after m3 hr))
  obtain ⟨j, hj⟩ := List.mem_iff_getElem?.1 hoo
  rw [htl j] at hj
  exact hdst o (Array.mem_of_getElem? hj) t hot
end
end Go.Mv
