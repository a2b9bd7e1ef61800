/- The evaluator without memory: a part of its proof. -/
import Derived.Test.YtclnccgiicgooaaGreatDoorMvDraw
set_option linter.unusedVariables false
set_option linter.unusedSimpArgs false
/- Regions that draw their order, joined. -/
namespace Go.Mv
section
variable {C : Cfg} {w0 w w1 : World} {K : Kp} {g g1 : Gh} {s s1 : Sto} {lim d N n : Nat} {a a1 : Nat → MV} {act : Act} {Q : Exit → Act → World → Prop} {ops : Array Oper}

structure Free (ops : Array Oper) (n : Nat) : Prop where
  low : ∀ (i : Nat) (x : Oper), i < n → ops[i]? = some x → ∀ e ∈ x.after, Region.binds .any e = true → e.on < i
  uniq : ∀ (i j : Nat) (x y : Oper) (t : Tmp), i < n → j < n → i ≠ j → ops[i]? = some x → ops[j]? = some y → x.dst = some t → y.dst ≠ some t
  look : ∀ (i j : Nat) (x y : Oper) (t : Tmp), i < n → j < n → ops[i]? = some x → ops[j]? = some y → y.dst = some t → t ∈ x.looksAt ops → j < i ∧ isNew y = false ∧ ∃ e ∈ x.after, Region.binds .any e = true ∧ e.on = j
theorem okFree_spec (h : okFree ops n = true) : Free ops n := by
  have key : ∀ (i : Nat) (x : Oper), i < n → ops[i]? = some x → (∀ e ∈ x.after, Region.binds .any e = true → e.on < i) ∧ ∀ (j : Nat) (y : Oper), j < n → ops[j]? = some y →
      (i ≠ j → ∀ t, x.dst = some t → y.dst ≠ some t) ∧ (∀ t, y.dst = some t → t ∈ x.looksAt ops → j < i ∧ isNew y = false ∧ ∃ e ∈ x.after, Region.binds .any e = true ∧ e.on = j) := by
    intro i x hi hx
    have h1 := List.all_eq_true.1 h i (List.mem_range.2 hi)
    simp only [hx, Bool.and_eq_true] at h1
    refine ⟨fun e he hb => ?_, fun j y hj hy => ?_⟩
    · have := Array.all_eq_true_iff_forall_mem.1 h1.1 e he
      simpa [hb] using this
    · have h2 := List.all_eq_true.1 h1.2 j (List.mem_range.2 hj)
      simp only [hy, Bool.and_eq_true] at h2
      refine ⟨fun hij t ht => ?_, fun t ht hl => ?_⟩
      · have := h2.1
        simp [hij, ht] at this
        exact this
      · have := h2.2
        have hc : (x.looksAt ops).contains t = true := by simpa using hl
        simp only [ht, hc, Bool.not_true, Bool.false_or, Bool.and_eq_true, decide_eq_true_eq, Bool.not_eq_true'] at this
        obtain ⟨e, he, hb⟩ := Array.any_eq_true'.1 this.2
        simp only [Bool.and_eq_true, beq_iff_eq] at hb
        exact ⟨this.1.1, this.1.2, e, he, hb.1, hb.2⟩
  exact ⟨fun i x hi hx => (key i x hi hx).1, fun i j x y t hi hj hij hx hy => ((key i x hi hx).2 j y hj hy).1 hij t, fun i j x y t hi hj hx hy => ((key i x hi hx).2 j y hj hy).2 t⟩

/-! ### The variables that are made meanwhile -/
structure NB where
  b : Nat
  T : TypeId
  zv : Value
  t : Tmp
def Kp.adds (K : Kp) (bl : List NB) : Kp := { k := fun k y => K.k k y ∨ ∃ x ∈ bl, k = x.b ∧ y = .cells x.zv.cells x.T (0, 0), n := fun k => K.n k ∨ ∃ x ∈ bl, k = x.b }
theorem adds_nil (K : Kp) : K.adds [] = K := by
  cases K
  simp [Kp.adds]
theorem adds_mem (K : Kp) {bl : List NB} {x : NB} (hx : x ∈ bl) (hu : ∀ y ∈ bl, y.t = x.t → y = x) : K.adds bl = (K.adds (bl.filter fun y => y.t != x.t)).add x.b (.cells x.zv.cells x.T (0, 0)) := by
  have h1 : ∀ z : NB → Prop, (∃ y ∈ bl, z y) ↔ (∃ y ∈ bl.filter (fun y => y.t != x.t), z y) ∨ z x := fun z => by
    constructor
    · rintro ⟨y, hy, hz⟩
      by_cases e : y.t = x.t
      · rw [hu y hy e] at hz; exact .inr hz
      · exact .inl ⟨y, List.mem_filter.2 ⟨hy, by simpa using e⟩, hz⟩
    · rintro (⟨y, hy, hz⟩ | hz)
      · exact ⟨y, (List.mem_filter.1 hy).1, hz⟩
      · exact ⟨x, hx, hz⟩
  simp only [Kp.adds, Kp.add, Kp.mk.injEq]
  refine ⟨?_, ?_⟩
  · funext k y
    apply propext
    rw [h1 (fun z => k = z.b ∧ y = .cells z.zv.cells z.T (0, 0)), or_assoc]
  · funext k
    apply propext
    rw [h1 (fun z => k = z.b), or_assoc]
theorem adds_cons (K : Kp) (x : NB) (bl : List NB) : K.adds (x :: bl) = (K.adds bl).add x.b (.cells x.zv.cells x.T (0, 0)) := by
  simp only [Kp.adds, Kp.add, Kp.mk.injEq, List.mem_cons, exists_eq_or_imp]
  refine ⟨?_, ?_⟩
  · funext k y
    apply propext
    rw [or_assoc]
    exact or_congr Iff.rfl or_comm
  · funext k
    apply propext
    rw [or_assoc]
    exact or_congr Iff.rfl or_comm

theorem nb_pw : ∀ {bl : List NB}, bl.Pairwise (fun x y => x.t ≠ y.t ∧ x.b ≠ y.b) → ∀ x ∈ bl, ∀ y ∈ bl, x = y ∨ (x.t ≠ y.t ∧ x.b ≠ y.b)
  | [], _, x, hx, _, _ => by cases hx
  | z :: bl, h, x, hx, y, hy => by
    obtain ⟨h1, h2⟩ := List.pairwise_cons.1 h
    rcases List.mem_cons.1 hx with e1 | hx' <;> rcases List.mem_cons.1 hy with e2 | hy'
    · exact .inl (e1.trans e2.symm)
    · rw [e1]; exact .inr (h1 y hy')
    · rw [e2]; exact .inr ⟨(h1 x hx').1.symm, (h1 x hx').2.symm⟩
    · exact nb_pw h2 x hx' y hy'
/-- The blocks become objects, in the order in which they stand. -/
theorem adoptNews (hKn : ∀ k, K.n k → ∃ x, K.k k x) : ∀ (l : List Oper) {bl : List NB} {a : Nat → MV} {s : Sto} {g : Gh} {r : (Nat → MV) × Sto}, St w0 (K.adds bl) w g s → s.Und (d + 1) → (∀ x ∈ bl, (∀ y, ¬ K.k x.b y) ∧ (C.P.info? x.T).bind (·.zero) = some x.zv) →
    bl.Pairwise (fun x y => x.t ≠ y.t ∧ x.b ≠ y.b) → (∀ o ∈ l, ∃ x ∈ bl, o.dst = some x.t ∧ o.op = .alloc x.T) → (∀ x ∈ bl, ∃ o ∈ l, o.dst = some x.t) → l.Pairwise (fun o o' => o.dst ≠ o'.dst) → evNews C lim d l a s = some r →
    ∃ g', St w0 K w g' r.2 ∧ Ev w g s w g' r.2 ∧ r.2.Und (d + 1) ∧ (∀ x ∈ bl, VR w g' r.2 (r.1 x.t) (.pointer (some ⟨x.b, 0, none⟩))) ∧ (∀ t, (∀ x ∈ bl, x.t ≠ t) → r.1 t = a t) ∧
      ((∀ o ∈ l, ∀ T, o.op = .alloc T → C.up T (dstT o.dst) = 0) → s.ct d ≤ r.2.ct d ∧ ∀ q : Loc, (q.d ≠ d ∨ q.c < s.ct d) → r.2.ob q = s.ob q)
  | [], bl, a, s, g, r, hS, hu, _, _, _, h2, _, he => by
    cases he
    have : bl = [] := by
      cases bl with
      | nil => rfl
      | cons x bl => obtain ⟨o, ho, _⟩ := h2 x (List.mem_cons_self ..); cases ho
    subst this
    rw [adds_nil] at hS
    exact ⟨g, hS, .refl _ _ _, hu, by simp, fun _ _ => rfl, fun _ => ⟨Nat.le_refl _, fun _ _ => rfl⟩⟩
  | o :: l, bl, a, s, g, r, hS, hu, hbl, hpw, h1, h2, hl, he => by
    obtain ⟨x, hx, hdst, hop⟩ := h1 o (List.mem_cons_self ..)
    have huniq : ∀ y ∈ bl, y.t = x.t → y = x := fun y hy e => by
      by_cases h : y = x
      · exact h
      · exfalso
        rcases nb_pw hpw y hy x hx with q | q
        · exact h q
        · exact q.1 e
    have hbne : ∀ y ∈ bl, y.t ≠ x.t → y.b ≠ x.b := fun y hy e => by
      rcases nb_pw hpw y hy x hx with q | q
      · rw [q] at e; exact absurd rfl e
      · exact q.2
    rw [adds_mem K hx huniq] at hS
    simp only [evNews, hop] at he
    obtain ⟨cs, hcs, he⟩ := Option.bind_eq_some_iff.1 he
    obtain ⟨ra, hra, he⟩ := Option.bind_eq_some_iff.1 he
    obtain ⟨z, hz1, hz2⟩ := Option.bind_eq_some_iff.1 hcs
    unfold zer at hz1
    rw [(hbl x hx).2] at hz1
    cases hz1
    have hcr : CR w g s cs x.zv.cells := (VR_ofV x.zv).cells hz2
    have hrae : ra = allocO s (d - C.up x.T (dstT o.dst)) (locT C x.T cs.length o.dst) cs := by
      unfold allocU at hra
      split at hra
      · cases hra; rfl
      · cases hra
    obtain ⟨g1, k1, k2, k3, k4⟩ := hS.adoptAt hu (Nat.sub_le d (C.up x.T (dstT o.dst))) (fun y hy => by
        rcases hy with hy | ⟨z, hz, e, _⟩
        · exact (hbl x hx).1 y hy
        · obtain ⟨m1, m2⟩ := List.mem_filter.1 hz
          exact hbne z m1 (by simpa using m2) e.symm) (fun k hk => by
        rcases hk with hk | ⟨z, hz, e⟩
        · obtain ⟨y, hy⟩ := hKn k hk; exact ⟨y, .inl hy⟩
        · exact ⟨_, .inr ⟨z, hz, e, rfl⟩⟩) (locT C x.T cs.length o.dst) (locT_ok rfl hcr.1.symm) hcr (top_ofV hz2 _)
    rw [← hrae] at k1 k2 k3 k4
    have hl' := List.pairwise_cons.1 hl
    obtain ⟨g2, q1, q2, q3, q4, q5, q6⟩ := adoptNews hKn l (bl := bl.filter fun y => y.t != x.t) (g := g1) k2 k4 (fun y hy => hbl y (List.mem_filter.1 hy).1) (hpw.filter _) (fun o' ho' => by
        obtain ⟨y, hy, e1, e2⟩ := h1 o' (List.mem_cons_of_mem _ ho')
        refine ⟨y, List.mem_filter.2 ⟨hy, ?_⟩, e1, e2⟩
        have : o.dst ≠ o'.dst := hl'.1 o' ho'
        rw [hdst, e1] at this
        simp only [bne_iff_ne, ne_eq]
        intro e
        exact this (by rw [e])) (fun y hy => by
        obtain ⟨m1, m2⟩ := List.mem_filter.1 hy
        obtain ⟨o', ho', e⟩ := h2 y m1
        rcases List.mem_cons.1 ho' with rfl | ho'
        · rw [hdst] at e
          have e' : y.t = x.t := (Option.some.inj e).symm
          simp [e'] at m2
        · exact ⟨o', ho', e⟩) hl'.2 he
    refine ⟨g2, q1, k3.trans q2, q3, fun y hy => ?_, fun t ht => ?_, fun hup => ?_⟩
    · by_cases e : y.t = x.t
      · rw [huniq y hy e, q5 x.t (fun z hz e' => by have := (List.mem_filter.1 hz).2; simp [e'] at this), hdst]
        simp only [putD, upd_same]
        exact k1.ev q2
      · exact q4 y (List.mem_filter.2 ⟨hy, by simpa using e⟩)
    · rw [q5 t fun z hz => ht z (List.mem_filter.1 hz).1]
      refine putD_ne ?_
      rw [hdst]
      intro e
      cases e
      exact ht x hx rfl
    · obtain ⟨r1, r2⟩ := q6 fun o' ho' => hup o' (List.mem_cons_of_mem _ ho')
      have hu0 := hup o (List.mem_cons_self ..) x.T hop
      rw [hu0, Nat.sub_zero] at hrae
      have hct : ra.2.ct d = s.ct d + 1 := by rw [hrae]; simp [allocO, Sto.tick, Sto.set, upd]
      refine ⟨by omega, fun q hq => ?_⟩
      rw [r2 q (hq.imp id fun h => by omega), hrae]
      simp only [allocO, Sto.tick, Sto.set]
      rw [if_neg (by rintro rfl; simp at hq)]

/-- What is known of them while the free operations go on. -/
def NI (K : Kp) (n : Nat) (ops : Array Oper) (P : Program) (L : Array Bool) (act : Act) (bl : List NB) : Prop :=
  (∀ x ∈ bl, (∀ y, ¬ K.k x.b y) ∧ (P.info? x.T).bind (·.zero) = some x.zv ∧ act.tmps.getD x.t undef = .pointer (some ⟨x.b, 0, none⟩) ∧ ∃ (j : Nat) (o : Oper), j < n ∧ ops[j]? = some o ∧ o.op = .alloc x.T ∧ o.dst = some x.t ∧ L.getD j false = true) ∧
  bl.Pairwise (fun x y => x.t ≠ y.t ∧ x.b ≠ y.b) ∧
  ∀ (j : Nat) (o : Oper), j < n → ops[j]? = some o → isNew o = true → L.getD j false = true → ∃ x ∈ bl, o.dst = some x.t ∧ o.op = .alloc x.T
theorem getD_set_self {L : Array Bool} {i : Nat} (h : i < L.size) : (L.setIfInBounds i true).getD i false = true := by simp [h]
theorem NI.go {P : Program} {L : Array Bool} {bl : List NB} {u : Value} (h : NI K n ops P L act bl) (hf : Free ops n) {i : Nat} {o : Oper} (hin : i < n) (ho : ops[i]? = some o) (hunl : L.getD i false = false) (hnw : isNew o = false)
    (hput : ∀ (t : Nat), o.dst ≠ some t → (act.put o.dst u).tmps.getD t undef = act.tmps.getD t undef) : NI K n ops P (L.setIfInBounds i true) (act.put o.dst u) bl := by
  obtain ⟨h1, h2, h3⟩ := h
  have hset : ∀ j, j ≠ i → (L.setIfInBounds i true).getD j false = L.getD j false := fun j hj => getD_set_ne false (Ne.symm hj)
  refine ⟨fun x hx => ?_, h2, fun j y hj hy hyn hl => ?_⟩
  · obtain ⟨e1, e2, e3, j, y, hj, hy, hyo, hyt, hyl⟩ := h1 x hx
    have hji : j ≠ i := by rintro rfl; rw [hunl] at hyl; cases hyl
    refine ⟨e1, e2, ?_, j, y, hj, hy, hyo, hyt, by rw [hset j hji]; exact hyl⟩
    rw [hput x.t (hf.uniq j i y o x.t hj hin hji hy ho hyt)]
    exact e3
  · have hji : j ≠ i := by rintro rfl; rw [ho] at hy; cases hy; rw [hnw] at hyn; cases hyn
    rw [hset j hji] at hl
    exact h3 j y hj hy hyn hl

/-- While the free operations go on. -/
structure DI (w0 : World) (K : Kp) (N n : Nat) (ops : Array Oper) (P : Program) (w1 : World) (g1 : Gh) (s : Sto) (a a1 : Nat → MV) (L : Array Bool) (act : Act) (w : World) : Prop where
  hd : HeadInv .any ops n L
  sz : N ≤ act.tmps.size
  df : act.defers = []
  ex : ∃ (bl : List NB) (g : Gh), St w0 (K.adds bl) w g s ∧ Ev w1 g1 s w g s ∧
    (∀ t, (∀ (j : Nat) (o : Oper), j < n → ops[j]? = some o → o.dst = some t → L.getD j false = false) → VR w g s (a t) (act.tmps.getD t undef)) ∧
    (∀ (j : Nat) (o : Oper) (t : Tmp), j < n → ops[j]? = some o → isNew o = false → o.dst = some t → L.getD j false = true → VR w g s (a1 t) (act.tmps.getD t undef)) ∧
    NI K n ops P L act bl

set_option maxHeartbeats 1000000 in
/-- One free operation. -/
theorem DI.step (hC : C.OK) (hKO : C.KO K) {call : Call} (hc : CallOK C call) (hk : Keeps call) (hu : s.Und (d + 1)) (hf : Free ops n) (hdst : ∀ o ∈ ops, ∀ t, o.dst = some t → t < N)
    (hnew : ∀ (j : Nat) (o : Oper), j < n → ops[j]? = some o → isNew o = true → o.guard = none ∧ o.dst.isSome = true) (hz : ∀ (j : Nat) (o : Oper) (T : TypeId), j < n → ops[j]? = some o → o.op = .alloc T → ∃ zv cs, (C.P.info? T).bind (·.zero) = some zv ∧ (ofV zv).cells = some cs)
    (h1 : ∀ t, (∀ (j : Nat) (o : Oper), j < n → ops[j]? = some o → o.dst ≠ some t) → a1 t = a t) (ht : ∀ (j : Nat) (o : Oper), j < n → ops[j]? = some o → Told C call d ops s a1 o)
    {L : Array Bool} (hI : DI w0 K N n ops C.P w1 g1 s a a1 L act w) {i : Nat} (hi : i ∈ Region.ready .any ops L) (hin : i < n) {next : Act → World → Prop}
    (hnext : ∀ act' w', DI w0 K N n ops C.P w1 g1 s a a1 (L.setIfInBounds i true) act' w' → next act' w') : wpOp C.P ops Q i next act w := by
  obtain ⟨hd, sz, df, bl, g, hS, hE, hA, hB, hK⟩ := hI
  obtain ⟨hunl, o, ho, hall⟩ := mem_ready.1 hi
  have hd' := hd.set hi hin
  have hil : i < L.size := by rw [hd.size]; exact (Array.getElem?_eq_some_iff.1 ho).1
  have hunl' := getD_both hunl
  have hdo := hdst o (Array.mem_of_getElem? ho)
  -- what the operation looks at
  have hlook : ∀ t ∈ o.looksAt ops, VR w g s (a1 t) (act.tmps.getD t undef) := fun t htl => by
    by_cases hex : ∃ (j : Nat) (y : Oper), j < n ∧ ops[j]? = some y ∧ y.dst = some t
    · obtain ⟨j, y, hj, hy, hyt⟩ := hex
      obtain ⟨hji, hyn, e, he, hb, hon⟩ := hf.look i j o y t hin hj ho hy hyt htl
      exact hB j y t hj hy hyn hyt (by have := hall e he hb; rwa [hon] at this)
    · have hno : ∀ (j : Nat) (o : Oper), j < n → ops[j]? = some o → o.dst ≠ some t := fun j y hj hy hyt => hex ⟨j, y, hj, hy, hyt⟩
      rw [h1 t hno]
      exact hA t fun j y hj hy hyt => absurd hyt (hno j y hj hy)
  -- the other slots go on
  have hput : ∀ (u : Value) (t : Nat), o.dst ≠ some t → (act.put o.dst u).tmps.getD t undef = act.tmps.getD t undef := fun u t hne => by
    cases hod : o.dst with
    | none => rfl
    | some t0 => exact put_ne (by rintro rfl; exact hne hod)
  have hputs : ∀ (u : Value) (t : Nat), o.dst = some t → (act.put o.dst u).tmps.getD t undef = u := fun u t he => by
    rw [he]; exact put_same (Nat.lt_of_lt_of_le (hdo t he) sz)
  have hset : ∀ j, j ≠ i → (L.setIfInBounds i true).getD j false = L.getD j false := fun j hj => getD_set_ne false (Ne.symm hj)
  have hA' : ∀ (u : Value) (w' : World) (g' : Gh), Ev w g s w' g' s → ∀ t, (∀ (j : Nat) (o : Oper), j < n → ops[j]? = some o → o.dst = some t → (L.setIfInBounds i true).getD j false = false) → VR w' g' s (a t) ((act.put o.dst u).tmps.getD t undef) := fun u w' g' e t htt => by
    have hne : o.dst ≠ some t := fun he => by
      have := htt i o hin ho he
      rw [getD_set_self hil] at this
      cases this
    rw [hput u t hne]
    refine (hA t fun j y hj hy hyt => ?_).ev e
    by_cases hji : j = i
    · subst hji; exact hunl'
    · rw [← hset j hji]; exact htt j y hj hy hyt
  have hB' : ∀ (u : Value) (w' : World) (g' : Gh), Ev w g s w' g' s → ∀ (j : Nat) (y : Oper) (t : Tmp), j ≠ i → j < n → ops[j]? = some y → isNew y = false → y.dst = some t → (L.setIfInBounds i true).getD j false = true → VR w' g' s (a1 t) ((act.put o.dst u).tmps.getD t undef) := fun u w' g' e j y t hji hj hy hyn hyt hl => by
    rw [hput u t (hf.uniq j i y o t hj hin hji hy ho hyt)]
    rw [hset j hji] at hl
    exact (hB j y t hj hy hyn hyt hl).ev e
  obtain ⟨a', ha', hcase⟩ := ht i o hin ho
  have hx : ∀ x ∈ o.op.operands, VR w g s (valO a' x) (act.eval x) := fun x hxo => valR x fun t e => by
    subst e
    have htl : t ∈ o.looksAt ops := List.mem_append_left _ (List.mem_filterMap.2 ⟨.tmp t, by simpa using hxo, rfl⟩)
    rw [ha' t htl]
    exact hlook t htl
  have hwant : ∀ b, want ops a' o = some b → Region.wanted o (yielded ops act.tmps) = b := fun b hb => wantR (fun j v t hg hj => by
    have htl : t ∈ o.looksAt ops := List.mem_append_right _ (by simp [hg, hj])
    rw [ha' t htl]
    exact hlook t htl) hb
  unfold wpOp
  simp only [ho]
  rcases hcase with ⟨hw, hnw⟩ | ⟨hw, hnw, v, hv, hvd⟩ | ⟨hw, hvd⟩
  · -- a new variable
    rw [hwant _ hw]
    simp only [if_true]
    left
    have hopT : ∃ T, o.op = .alloc T := by
      unfold isNew at hnw
      split at hnw
      · rename_i T hT; exact ⟨T, hT⟩
      · cases hnw
    obtain ⟨T, hT⟩ := hopT
    obtain ⟨zv, cs, hz1, hz2⟩ := hz i o T hin ho hT
    obtain ⟨inf, hi1, hi2⟩ := Option.bind_eq_some_iff.1 hz1
    obtain ⟨q1, q2⟩ := hS.keepNew (.cells zv.cells T (0, 0))
    obtain ⟨t, ht'⟩ := Option.isSome_iff_exists.1 (hnew i o hin ho hnw).2
    have hex : execOp act.eval o = (do pure (.value (← Instr.alloc T true (.tuple #[])))) := by
      obtain ⟨dst, op, ty, pos, aft, gd⟩ := o
      simp only at hT
      subst hT
      rfl
    have q1' : St w0 (K.adds (⟨w.heap.size, T, zv, t⟩ :: bl)) (w.alloc (.cells zv.cells T)) g s := by rw [adds_cons]; exact q1
    obtain ⟨n1, n2, n3⟩ := hK
    refine wp_value (u := .pointer (some ⟨w.heap.size, 0, none⟩)) (w' := w.alloc (.cells zv.cells T)) hex (by simp [Instr.alloc, zeroValue, typeInfo, hi1, hi2, newVar]; rfl) (hnext _ _ ⟨hd', by rw [put_size]; exact sz, by rw [put_df]; exact df, _, g, q1', hE.trans q2, hA' _ _ _ q2, fun j y t hj hy hyn hyt hl => ?_, ?_⟩)
    · refine hB' _ _ _ q2 j y t ?_ hj hy hyn hyt hl
      rintro rfl
      rw [ho] at hy
      cases hy
      rw [hnw] at hyn
      cases hyn
    · have hold : ∀ x ∈ bl, ∃ (j : Nat) (y : Oper), j < n ∧ ops[j]? = some y ∧ y.op = .alloc x.T ∧ y.dst = some x.t ∧ L.getD j false = true ∧ j ≠ i ∧ o.dst ≠ some x.t := fun x hx => by
        obtain ⟨_, _, _, j, y, hj, hy, hyo, hyt, hyl⟩ := n1 x hx
        have hji : j ≠ i := by rintro rfl; rw [hunl'] at hyl; cases hyl
        exact ⟨j, y, hj, hy, hyo, hyt, hyl, hji, hf.uniq j i y o x.t hj hin hji hy ho hyt⟩
      refine ⟨fun x hx => ?_, List.pairwise_cons.2 ⟨fun x hx => ⟨?_, ?_⟩, n2⟩, fun j y hj hy hyn hl => ?_⟩
      · rcases List.mem_cons.1 hx with rfl | hx
        · exact ⟨fun y hy => by have := getElem?_of_some (hS.old _ y (.inl hy)); simp at this, hz1, hputs _ t ht', i, o, hin, ho, hT, ht', getD_set_self hil⟩
        · obtain ⟨e1, e2, e3, _⟩ := n1 x hx
          obtain ⟨j, y, hj, hy, hyo, hyt, hyl, hji, hne⟩ := hold x hx
          exact ⟨e1, e2, by rw [hput _ x.t hne]; exact e3, j, y, hj, hy, hyo, hyt, by rw [hset j hji]; exact hyl⟩
      · obtain ⟨_, _, _, _, _, _, _, _, hne⟩ := hold x hx
        intro e
        exact hne (by rw [ht']; exact congrArg some e)
      · intro e
        have := getElem?_of_some (hS.old x.b _ (.inr ⟨x, hx, rfl, rfl⟩))
        simp only at e
        omega
      · by_cases hji : j = i
        · subst hji
          rw [ho] at hy
          cases hy
          exact ⟨_, List.mem_cons_self .., ht', hT⟩
        · rw [hset j hji] at hl
          obtain ⟨x, hx, e⟩ := n3 j y hj hy hyn hl
          exact ⟨x, List.mem_cons_of_mem _ hx, e⟩
  · rw [hwant _ hw]
    simp only [if_true]
    left
    refine freeSound hC (fun b q h => (hKO b q h).imp fun x hx => ⟨hx.1, (Or.inl hx.2 : (K.adds bl).k b x)⟩) hc hk hS hu hx hv fun u w' g' k1 k2 k3 => hnext _ _ ⟨hd', by rw [put_size]; exact sz, by rw [put_df]; exact df, bl, g', k2, hE.trans k3, hA' _ _ _ k3, fun j y t hj hy hyn hyt hl => ?_, hK.go hf hin ho hunl' hnw (hput u)⟩
    by_cases hji : j = i
    · subst hji
      rw [ho] at hy
      cases hy
      rw [hputs u t hyt, hvd t hyt]
      exact k1
    · exact hB' _ _ _ k3 j y t hji hj hy hyn hyt hl
  · rw [hwant _ hw]
    simp only [Bool.false_eq_true, if_false]
    have e0 : Ev w g s w g s := .refl _ _ _
    have hnw : isNew o = false := by
      cases hq : isNew o with
      | false => rfl
      | true =>
        have := (hnew i o hin ho hq).1
        simp [want, this] at hw
    refine hnext _ _ ⟨hd', by rw [put_size]; exact sz, by rw [put_df]; exact df, bl, g, hS, hE, hA' _ _ _ e0, fun j y t hj hy hyn hyt hl => ?_, hK.go hf hin ho hunl' hnw (hput _)⟩
    by_cases hji : j = i
    · subst hji
      rw [ho] at hy
      cases hy
      rw [hputs _ t hyt, hvd t hyt]
      exact .undef
    · exact hB' _ _ _ e0 j y t hji hj hy hyn hyt hl

theorem count_drop {α : Type} (i : α) (p p' : α → Bool) (hp : p i = true) (hp' : p' i = false) : ∀ (l : List α), l.Nodup → i ∈ l → (∀ j ∈ l, j ≠ i → p' j = p j) → (l.filter p).length = (l.filter p').length + 1
  | [], _, hi, _ => by cases hi
  | x :: l, hn, hi, h => by
    have hn' := List.nodup_cons.1 hn
    by_cases e : x = i
    · subst e
      rw [List.filter_cons_of_pos hp, List.filter_cons_of_neg (by simp [hp'])]
      have : l.filter p = l.filter p' := List.filter_congr fun j hj => (h j (List.mem_cons_of_mem _ hj) (by rintro rfl; exact hn'.1 hj)).symm
      rw [this]
      rfl
    · have hi' : i ∈ l := (List.mem_cons.1 hi).resolve_left (fun e' => e e'.symm)
      have ih := count_drop i p p' hp hp' l hn'.2 hi' fun j hj => h j (List.mem_cons_of_mem _ hj)
      have hx := h x (List.mem_cons_self ..) e
      by_cases hq : p x = true
      · rw [List.filter_cons_of_pos hq, List.filter_cons_of_pos (by rw [hx]; exact hq)]
        simp only [List.length_cons]
        omega
      · rw [List.filter_cons_of_neg hq, List.filter_cons_of_neg (by rw [hx]; exact hq)]
        exact ih
theorem least {p : Nat → Prop} : ∀ (i : Nat), p i → ∃ j, p j ∧ ∀ k, k < j → ¬ p k := by
  intro i
  induction i using Nat.strongRecOn with
  | _ i ih =>
    intro hi
    by_cases h : ∃ k, k < i ∧ p k
    · obtain ⟨k, hk, hp⟩ := h
      exact ih k hk hp
    · exact ⟨i, hi, fun k hk hp => h ⟨k, hk, hp⟩⟩
def undone (n : Nat) (L : Array Bool) : List Nat := (List.range n).filter fun i => !L.getD i false

theorem DI.go (hC : C.OK) (hKO : C.KO K) {call : Call} (hc : CallOK C call) (hk : Keeps call) (hu : s.Und (d + 1)) (hf : Free ops n) (hn : n ≤ ops.size) (hw : n < ops.size → Region.sinkB .any ops n = true ∧ Region.chainB .any ops n = true) (hdst : ∀ o ∈ ops, ∀ t, o.dst = some t → t < N)
    (hnew : ∀ (j : Nat) (o : Oper), j < n → ops[j]? = some o → isNew o = true → o.guard = none ∧ o.dst.isSome = true) (hz : ∀ (j : Nat) (o : Oper) (T : TypeId), j < n → ops[j]? = some o → o.op = .alloc T → ∃ zv cs, (C.P.info? T).bind (·.zero) = some zv ∧ (ofV zv).cells = some cs)
    (h1 : ∀ t, (∀ (j : Nat) (o : Oper), j < n → ops[j]? = some o → o.dst ≠ some t) → a1 t = a t) (ht : ∀ (j : Nat) (o : Oper), j < n → ops[j]? = some o → Told C call d ops s a1 o) {gas : Nat}
    (hend : ∀ L act w, DI w0 K N n ops C.P w1 g1 s a a1 L act w → (∀ i, i < n → L.getD i false = true) → wpAny C.P .any ops Q gas L act w) :
    ∀ (f : Nat) (L : Array Bool) (act : Act) (w : World), (undone n L).length = f → DI w0 K N n ops C.P w1 g1 s a a1 L act w → wpAny C.P .any ops Q (f + gas) L act w
  | 0, L, act, w, hl, hI => by
    rw [Nat.zero_add]
    refine hend L act w hI fun i hi => ?_
    have : undone n L = [] := List.eq_nil_of_length_eq_zero hl
    cases hq : L.getD i false with
    | true => rfl
    | false =>
      have : i ∈ undone n L := List.mem_filter.2 ⟨List.mem_range.2 hi, by simp only [hq]; rfl⟩
      simp_all
  | f + 1, L, act, w, hl, hI => by
    have hsz : L.size = ops.size := hI.hd.size
    have hex : ∃ i, i < n ∧ L.getD i false = false := by
      have : undone n L ≠ [] := by intro e; rw [e] at hl; cases hl
      obtain ⟨i, hi⟩ := List.exists_mem_of_ne_nil _ this
      obtain ⟨h1, h2⟩ := List.mem_filter.1 hi
      exact ⟨i, List.mem_range.1 h1, by simpa using h2⟩
    obtain ⟨i0, hi0⟩ := hex
    obtain ⟨i, ⟨hi, hiu⟩, hil⟩ := least (p := fun i => i < n ∧ L.getD i false = false) i0 hi0
    have hir : i ∈ Region.ready .any ops L := by
      have hlt : i < ops.size := by omega
      refine mem_ready.2 ⟨getD_in (by omega) hiu, ops[i], Array.getElem?_eq_getElem hlt, fun e he hb => ?_⟩
      have := hf.low i ops[i] hi (Array.getElem?_eq_getElem hlt) e he hb
      cases hq : L.getD e.on false with
      | true => rfl
      | false => exact absurd ⟨by omega, hq⟩ (hil e.on this)
    rw [show f + 1 + gas = (f + gas) + 1 by omega]
    refine ⟨fun h => (by rw [h] at hir; cases hir), fun j hj => ?_⟩
    have hjn : j < n := by
      rcases Nat.lt_or_ge j n with h | h
      · exact h
      · exfalso
        obtain ⟨_, o, ho, _⟩ := mem_ready.1 hj
        have hjs : j < ops.size := (Array.getElem?_eq_some_iff.1 ho).1
        obtain ⟨w1, w2⟩ := hw (by omega)
        exact tail_waits w1 w2 (by omega) hI.hd _ i rfl hi (getD_in (by omega) hiu) j h hj
    refine hI.step hC hKO hc hk hu hf hdst hnew hz h1 ht hj hjn fun act' w' hI' => DI.go hC hKO hc hk hu hf hn hw hdst hnew hz h1 ht hend f _ _ _ ?_ hI'
    obtain ⟨hju, _⟩ := mem_ready.1 hj
    have hju' := getD_both hju
    have := count_drop j (fun i => !L.getD i false) (fun i => !(L.setIfInBounds j true).getD i false) (by simp only [hju']; rfl) (by rw [getD_set_self (by omega)]; rfl) (List.range n) List.nodup_range (List.mem_range.2 hjn) (fun k _ hk => by rw [getD_set_ne false (Ne.symm hk)])
    unfold undone at hl ⊢
    omega

theorem takeWhile_at {α : Type} (p : α → Bool) (l : List α) (j : Nat) (h : j < (l.takeWhile p).length) : (l.takeWhile p)[j]? = l[j]? := by
  conv => rhs; rw [← List.takeWhile_append_dropWhile (p := p) (l := l)]
  rw [List.getElem?_append_left h]
theorem dropWhile_at {α : Type} (p : α → Bool) (l : List α) (j : Nat) : (l.dropWhile p)[j]? = l[(l.takeWhile p).length + j]? := by
  have e : l[(l.takeWhile p).length + j]? = (l.takeWhile p ++ l.dropWhile p)[(l.takeWhile p).length + j]? := by rw [List.takeWhile_append_dropWhile]
  rw [e, List.getElem?_append_right (by omega)]
  simp

theorem newsZer : ∀ (l : List Oper) {a : Nat → MV} {s : Sto} {r : (Nat → MV) × Sto}, evNews C lim d l a s = some r → ∀ o ∈ l, ∀ T, o.op = .alloc T → ∃ zv cs, (C.P.info? T).bind (·.zero) = some zv ∧ (ofV zv).cells = some cs
  | [], _, _, _, _, o, ho, _, _ => by cases ho
  | o' :: l, a, s, r, he, o, ho, T, hT => by
    simp only [evNews] at he
    rcases List.mem_cons.1 ho with rfl | ho
    · rw [hT] at he
      simp only at he
      obtain ⟨cs, hcs, _⟩ := Option.bind_eq_some_iff.1 he
      obtain ⟨z, hz1, hz2⟩ := Option.bind_eq_some_iff.1 hcs
      unfold zer at hz1
      obtain ⟨zv, hz3, rfl⟩ := Option.map_eq_some_iff.1 hz1
      exact ⟨zv, cs, hz3, hz2⟩
    · split at he
      · obtain ⟨cs, _, he⟩ := Option.bind_eq_some_iff.1 he
        obtain ⟨x, _, he⟩ := Option.bind_eq_some_iff.1 he
        exact newsZer l he o ho T hT
      · exact newsZer l he o ho T hT
theorem newsPw {pre : List Oper} (h : ∀ (i j : Nat) (x y : Oper), i < pre.length → j < pre.length → i ≠ j → pre[i]? = some x → pre[j]? = some y → isNew x = true → x.dst ≠ y.dst) : (pre.filter isNew).Pairwise (fun o o' => o.dst ≠ o'.dst) := by
  have : pre.Pairwise (fun o o' => isNew o = true → o.dst ≠ o'.dst) := by
    rw [List.pairwise_iff_getElem]
    intro i j hi hj hij hn
    exact h i j _ _ hi hj (by omega) (List.getElem?_eq_getElem hi) (List.getElem?_eq_getElem hj) hn
  have h2 := this.filter isNew
  refine List.Pairwise.imp_of_mem ?_ h2
  intro x y hx _ hxy
  exact hxy (List.mem_filter.1 hx).2

set_option maxHeartbeats 1000000 in
theorem drawSound (hC : C.OK) (hKO : C.KO K) {call : Call} (hc : CallOK C call) (hk : Keeps call) {id : Nat} (hd : okDst N ops = true) (ho : okDraw ops = true) {r : (Nat → MV) × Sto} (he : evDraw C call lim d ops a s = some r) (ha : AR N w g s a act) (h : St w0 K w g s) (hu : s.Und (d + 1))
    (hq : ∀ act' w', Res w0 K N d w g s r.1 r.2 act' w' → Q .normal act' w') : (Code.region id ops true).wp C.P Q act w := by
  unfold evDraw at he
  obtain ⟨a1, he1, he⟩ := Option.bind_eq_some_iff.1 he
  obtain ⟨x, he2, he3⟩ := Option.bind_eq_some_iff.1 he
  simp only [okDraw] at ho
  have hpre : ∀ j, j < (ops.toList.takeWhile fun o => !isTail o).length → (ops.toList.takeWhile fun o => !isTail o)[j]? = ops[j]? := fun j hj => by rw [takeWhile_at _ _ _ hj]; simp
  have htl : ∀ j, (ops.toList.dropWhile fun o => !isTail o)[j]? = ops[(ops.toList.takeWhile fun o => !isTail o).length + j]? := fun j => by rw [dropWhile_at]; simp
  have hlen : (ops.toList.takeWhile fun o => !isTail o).length + (ops.toList.dropWhile fun o => !isTail o).length = ops.size := by
    rw [← List.length_append, List.takeWhile_append_dropWhile, Array.length_toList]
  revert hpre htl hlen he1 he2 he3 ho
  generalize (ops.toList.takeWhile fun o => !isTail o) = pre
  generalize (ops.toList.dropWhile fun o => !isTail o) = tl
  intro ho he1 he2 he3 hpre htl hlen
  simp only [Bool.and_eq_true] at ho
  obtain ⟨⟨⟨ho1, ho2⟩, ho4⟩, ho5⟩ := ho
  have hf := okFree_spec ho1
  have hmem : ∀ (j : Nat) (o : Oper), j < pre.length → ops[j]? = some o → o ∈ pre := fun j o hj hoj => by
    rw [← hpre j hj] at hoj
    exact List.mem_of_getElem? hoj
  have hidx : ∀ (j : Nat) (o : Oper), pre[j]? = some o → j < pre.length ∧ ops[j]? = some o := fun j o hj => by
    have hl := (List.getElem?_eq_some_iff.1 hj).1
    exact ⟨hl, by rw [← hpre j hl]; exact hj⟩
  have hdst : ∀ o ∈ ops, ∀ t, o.dst = some t → t < N := fun o hoo t ht => by
    have := Array.all_eq_true_iff_forall_mem.1 hd o hoo
    simpa [ht] using this
  have hnew : ∀ (j : Nat) (o : Oper), j < pre.length → ops[j]? = some o → isNew o = true → o.guard = none ∧ o.dst.isSome = true := fun j o hj hoj hn => by
    have := List.all_eq_true.1 ho4 o (hmem j o hj hoj)
    simpa [hn] using this
  have hin2 : ∀ (j : Nat) (o : Oper), j < pre.length → ops[j]? = some o → isNew o = true → o ∈ pre.filter isNew := fun j o hj hoj hn => List.mem_filter.2 ⟨hmem j o hj hoj, hn⟩
  have hout2 : ∀ o ∈ pre.filter isNew, ∃ j, j < pre.length ∧ ops[j]? = some o ∧ isNew o = true := fun o ho => by
    obtain ⟨m1, m2⟩ := List.mem_filter.1 ho
    obtain ⟨j, hj⟩ := List.mem_iff_getElem?.1 m1
    obtain ⟨hj1, hj2⟩ := hidx j o hj
    exact ⟨j, hj1, hj2, m2⟩
  have hpwl : (pre.filter isNew).Pairwise (fun o o' => o.dst ≠ o'.dst) := newsPw (fun i j x y hi hj hij hx hy hnx => by
    obtain ⟨hi1, hi2⟩ := hidx i x hx
    obtain ⟨hj1, hj2⟩ := hidx j y hy
    obtain ⟨t, ht⟩ := Option.isSome_iff_exists.1 (hnew i x hi1 hi2 hnx).2
    rw [ht]
    exact fun e => hf.uniq i j x y t hi1 hj1 hij hi2 hj2 ht e.symm)
  rw [evNews_filter] at he2
  have hz : ∀ (j : Nat) (o : Oper) (T : TypeId), j < pre.length → ops[j]? = some o → o.op = .alloc T → ∃ zv cs, (C.P.info? T).bind (·.zero) = some zv ∧ (ofV zv).cells = some cs := fun j o T hj hoj hT => newsZer _ he2 o (hin2 j o hj hoj (by unfold isNew; rw [hT])) T hT
  obtain ⟨sp1, sp2⟩ := evOpsF_spec (s := s) pre a a1 he1 (fun i j x y hx hy hij t ht hl => by
    obtain ⟨hi, hx⟩ := hidx i x hx
    obtain ⟨hj, hy⟩ := hidx j y hy
    have := (hf.look i j x y t hi hj hx hy ht hl).1
    omega) (fun i j x y hx hy hij t ht => by
    obtain ⟨hi, hx⟩ := hidx i x hx
    obtain ⟨hj, hy⟩ := hidx j y hy
    exact hf.uniq i j x y t hi hj (by omega) hx hy ht)
  have h1 : ∀ t, (∀ (j : Nat) (o : Oper), j < pre.length → ops[j]? = some o → o.dst ≠ some t) → a1 t = a t := fun t htt => sp1 t fun y hy => by
    obtain ⟨j, hj⟩ := List.mem_iff_getElem?.1 hy
    obtain ⟨hj1, hj2⟩ := hidx j y hj
    exact htt j y hj1 hj2
  obtain ⟨hS1, hE1⟩ := h.same (w' := { w with drawn := w.drawn + 1 }) rfl rfl rfl rfl
  refine wp_region_any hC.mix ?_
  have hinit : DI w0 K N pre.length ops C.P { w with drawn := w.drawn + 1 } g s a a1 (Array.replicate ops.size false) act { w with drawn := w.drawn + 1 } := by
    refine ⟨⟨by simp, fun j oj _ hl => (by rw [getD_replicate_false] at hl; cases hl), fun t _ ht => getD_in (by simpa using ht) (getD_replicate_false _ _)⟩, ha.sz, ha.df, [], g, by rw [adds_nil]; exact hS1, .refl _ _ _, fun t _ => (ha.rel t).ev hE1, fun j o t _ _ _ _ hl => (by rw [getD_replicate_false] at hl; cases hl), ⟨by simp, .nil, fun j o _ _ _ hl => (by rw [getD_replicate_false] at hl; cases hl)⟩⟩
  have hcnt : (undone pre.length (Array.replicate ops.size false)).length = pre.length := by
    have : undone pre.length (Array.replicate ops.size false) = List.range pre.length := by
      unfold undone
      rw [List.filter_eq_self]
      intro i _
      rw [getD_replicate_false]
      rfl
    rw [this, List.length_range]
  have hfuel : ops.size = pre.length + tl.length := hlen.symm
  rw [show wpAny C.P .any ops Q ops.size = wpAny C.P .any ops Q (pre.length + tl.length) by rw [← hfuel]]
  refine DI.go hC hKO hc hk hu hf (by omega) (fun hlt => ?_) hdst hnew hz h1 (fun j o hj hoj => sp2 o (hmem j o hj hoj)) (fun L act' w' hI hall => ?_) _ _ _ _ hcnt hinit
  · rw [if_neg (by omega)] at ho5
    simp only [Bool.and_eq_true] at ho5
    exact ⟨ho5.1.1, ho5.1.2⟩
  · -- the tail
    have hLs : L.size = ops.size := hI.hd.size
    have hL : L = ((List.range ops.size).map fun i => decide (i < pre.length)).toArray := by
      apply Array.ext
      · simp [hLs]
      · intro i hi1 hi2
        have hiq : i < ops.size := by omega
        by_cases hip : i < pre.length
        · have := hall i hip
          simp [hi1] at this
          simp [hip, this]
        · have := hI.hd.tail i (by omega) hiq
          simp [hi1] at this
          simp [hip, this]
    have hseq : Region.seqB .any ops tl.length pre.length L = true := by
      split at ho5
      · rename_i hpe
        have : tl.length = 0 := by omega
        rw [this]
        simp only [Region.seqB, List.isEmpty_iff]
        cases hr : Region.ready .any ops L with
        | nil => rfl
        | cons i l =>
          have hi : i ∈ Region.ready .any ops L := by rw [hr]; exact List.mem_cons_self ..
          obtain ⟨h1, o, ho, _⟩ := mem_ready.1 hi
          have hlt : i < ops.size := (Array.getElem?_eq_some_iff.1 ho).1
          have := hall i (by omega)
          rw [getD_both h1] at this
          cases this
      · simp only [Bool.and_eq_true] at ho5
        have := ho5.2
        rw [show ops.size - pre.length = tl.length by omega] at this
        rw [hL]
        exact this
    refine wpAny_of_seq tl pre.length L act' w' htl hseq ?_
    obtain ⟨hd', sz, df, bl, g', hS, hE, hA, hB, hK⟩ := hI
    have hfin : Res w0 K N d { w with drawn := w.drawn + 1 } g s x.1 x.2 act' w' := by
      obtain ⟨n1, n2, n3⟩ := hK
      obtain ⟨g2, q1, q2, q3, q4, q5, _⟩ := adoptNews (fun k hk => (h.kn k hk).1) (pre.filter isNew) hS hu (fun x hx => ⟨(n1 x hx).1, (n1 x hx).2.1⟩) n2 (fun o ho => by
          obtain ⟨j, hj, hoj, hn⟩ := hout2 o ho
          exact n3 j o hj hoj hn (hall j hj)) (fun x hx => by
          obtain ⟨_, _, _, j, o, hj, hoj, hoT, hot, _⟩ := n1 x hx
          exact ⟨o, hin2 j o hj hoj (by unfold isNew; rw [hoT]), hot⟩) hpwl he2
      refine ⟨g2, ⟨sz, fun t => ?_, df⟩, q1, hE.trans q2, q3⟩
      by_cases hbt : ∃ x ∈ bl, x.t = t
      · obtain ⟨x, hx, rfl⟩ := hbt
        rw [(n1 x hx).2.2.1]
        exact q4 x hx
      · rw [q5 t fun x hx e => hbt ⟨x, hx, e⟩]
        refine VR.ev q2 ?_
        by_cases hex : ∃ (j : Nat) (y : Oper), j < pre.length ∧ ops[j]? = some y ∧ y.dst = some t
        · obtain ⟨j, y, hj, hy, hyt⟩ := hex
          refine hB j y t hj hy ?_ hyt (hall j hj)
          cases hq : isNew y with
          | false => rfl
          | true =>
            obtain ⟨x, hx, e, _⟩ := n3 j y hj hy hq (hall j hj)
            rw [hyt] at e
            exact absurd ⟨x, hx, (Option.some.inj e).symm⟩ hbt
        · have hno : ∀ (j : Nat) (o : Oper), j < pre.length → ops[j]? = some o → o.dst ≠ some t := fun j y hj hy hyt => hex ⟨j, y, hj, hy, hyt⟩
          rw [h1 t hno]
          exact hA t fun j y hj hy hyt => absurd hyt (hno j y hj hy)
    obtain ⟨g3, m1, m2, m3, m4⟩ := hfin
    refine opsSound hC hKO hc tl (fun o hoo t hot => ?_) he3 m1 m2 m4 fun act2 w2 hr => hq act2 w2 (.after hE1 (.after m3 hr))
    obtain ⟨j, hj⟩ := List.mem_iff_getElem?.1 hoo
    rw [htl j] at hj
    exact hdst o (Array.mem_of_getElem? hj) t hot
end
end Go.Mv
