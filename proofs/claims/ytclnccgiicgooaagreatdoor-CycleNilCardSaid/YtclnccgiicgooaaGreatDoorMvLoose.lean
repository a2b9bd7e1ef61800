/- The evaluator without memory: a part of its proof. -/
import Derived.Test.YtclnccgiicgooaaGreatDoorMvDrawB
set_option linter.unusedVariables false
set_option linter.unusedSimpArgs false
/- Regions whose last operations store, while free ones may still be ahead of them. -/
namespace Go.Mv
section
variable {C : Cfg} {w0 w w1 : World} {K : Kp} {g g1 : Gh} {s s0 s1 : Sto} {lim d N n m : Nat} {a a1 ak : Nat → MV} {act : Act} {Q : Exit → Act → World → Prop} {ops : Array Oper} {av : List Loc}

structure Lo (ops : Array Oper) (n : Nat) : Prop where
  low : ∀ (t : Nat) (y : Oper), n ≤ t → ops[t]? = some y → ∀ e ∈ y.after, Region.binds .any e = true → e.on < t
  look : ∀ (t j : Nat) (y x : Oper) (u : Tmp), n ≤ t → j < n → ops[t]? = some y → ops[j]? = some x → x.dst = some u → u ∈ y.looksAt ops → ∃ e ∈ y.after, Region.binds .any e = true ∧ e.on = j
  uniq : ∀ (t j : Nat) (y x : Oper) (u : Tmp), n ≤ t → j < n → ops[t]? = some y → ops[j]? = some x → x.dst = some u → y.dst ≠ some u
  back : ∀ (t j : Nat) (y x : Oper) (u : Tmp), n ≤ t → j < n → ops[t]? = some y → ops[j]? = some x → hardB ops n j = false → y.dst = some u → u ∉ x.looksAt ops
  hard : ∀ (j : Nat) (y : Oper), ops[n]? = some y → hardB ops n j = true → ∃ e ∈ y.after, Region.binds .any e = true ∧ e.on = j
  hcn : ∀ (j : Nat) (x : Oper), j < n → ops[j]? = some x → isCallV x = true ∨ isNew x = true → hardB ops n j = true

/-- A free operation that is none of those that look at what is stored. -/
theorem evFree_stab {call : Call} {o : Oper} {v : MV} (h : evFree C call d a o s0 = some v) (hc : isCallV o = false) (hl : ∀ t x l off, o.op = .load t x → valO a x = .ptr l off → s.ob l = s0.ob l) : evFree C call d a o s = some v := by
  obtain ⟨dst, op, ty, pos, aft, gd⟩ := o
  have mp : ∀ {r : Option MV}, (r.map fun v => (v, s0)).map (·.1) = (r.map fun v => (v, s)).map (·.1) := fun {r} => by cases r <;> rfl
  cases op <;> try (exact h)
  case load t x =>
    have e : ldO C.P s t (valO a x) = ldO C.P s0 t (valO a x) := by
      cases hv : valO a x <;> try rfl
      rename_i l off
      simp only [ldO, hl t x l off rfl hv]
    simp only [evFree, evOp] at h ⊢
    rw [e]
    rw [← h]
    cases ldO C.P s0 t (valO a x) <;> rfl
  case pick c x y =>
    simp only [evFree, evOp] at h ⊢
    cases hv : valO a c <;> rw [hv] at h <;> first | exact h | (simp at h; done)
  case nilCheck x =>
    simp only [evFree, evOp] at h ⊢
    cases hv : valO a x <;> rw [hv] at h <;> first | exact h | (simp at h; done)
  case extract x i =>
    simp only [evFree, evOp] at h ⊢
    cases hv : valO a x <;> rw [hv] at h <;> first | exact (mp.symm.trans h) | (simp at h; done)
  case slice t x lo hi mx =>
    cases mx with
    | none => exact mp.symm.trans h
    | some m => simp [evFree, evOp] at h
  case call k =>
    obtain ⟨callee, args, ts⟩ := k
    cases callee with
    | value f => cases hc
    | invoke _ _ => simp [evFree, evOp] at h
    | builtin b =>
      cases b <;> try (first | (simp only [evFree] at h; cases h; done) | (simp [evFree, evOp] at h; done))
      all_goals
        simp only [evFree, evOp] at h ⊢
        first
          | exact mp.symm.trans h
          | (split at h <;> first | exact mp.symm.trans h | (cases h; done) | (rename_i h1 _ _; cases h1))
  all_goals first | exact mp.symm.trans h | (simp [evFree, evOp] at h; done)

theorem stK_ob {P : Program} {t : TypeId} {s s' : Sto} {l l' : Loc} {off : Nat} {v : MV} (h : stK P lim d t s (.ptr l off) v = some s') (hne : l' ≠ l) : s'.ob l' = s.ob l' := by
  cases v with
  | sl tk xs =>
    simp only [stK] at h
    split at h
    · split at h
      · cases tk with
        | nil => cases h; simp [Sto.set, hne]
        | no => cases h; simp [Sto.set, hne]
        | byt k c q => cases h; simp [Sto.set, hne]
        | own k c =>
          simp only at h
          split at h
          · cases h; simp [Sto.set, hne]
          · split at h
            · split at h
              · cases h; simp [Sto.set, Sto.retok, Sto.tick, Sto.own, hne]
              · cases h
            · cases h
      · cases h
    · cases h
  | _ => simp [stK] at h
theorem stP_ob {P : Program} {t : TypeId} {s s' : Sto} {l l' : Loc} {off : Nat} {v : MV} (h : stP P lim d t s (.ptr l off) v = some s') (hne : l' ≠ l) : s'.ob l' = s.ob l' := by
  simp only [stP] at h
  split at h
  · split at h
    · obtain ⟨_, _, rfl⟩ := Option.map_eq_some_iff.1 h
      simp [Sto.set, hne]
    · cases h
  · cases h
theorem appO_ob {P : Program} {t : TypeId} {s : Sto} {m v : MV} {r : MV × Sto} (h : appO P lim d t s m v = some r) : r.2.ob = s.ob := by
  unfold appO at h
  split at h
  · split at h
    · split at h
      · cases h; rfl
      · split at h
        · split at h
          · split at h
            · split at h
              · cases h; rfl
              · cases h
            · split at h
              · cases h; rfl
              · cases h
            · cases h
            · cases h
          · cases h
        · cases h
    · cases h
  · cases h
theorem rowO_ob (s : Sto) (d t n z : Nat) (cs : List MV) (q : Loc) : (rowO s d t n z cs).2.ob q = if q = ⟨d, t, s.ct d⟩ then some cs else s.ob q := rfl
theorem del_ob (s : Sto) (l q : Loc) : (s.del l).ob q = if q = l then none else s.ob q := rfl
theorem appX_ob {C : Cfg} {dst : Nat} {t : TypeId} {s : Sto} {m v : MV} {r : MV × Sto} {av : List Loc} (h : appX C lim d dst t s m v = some r) (h1 : ∀ l ∈ av, l.t < 500000 ∨ 1000000 ≤ l.t) (h2 : lokA av [m, v] = true) : ∀ l ∈ av, r.2.ob l = s.ob l := by
  intro l hl
  have hl1 := h1 l hl
  unfold appX at h
  split at h
  · unfold appR at h
    split at h
    · split at h
      · split at h
        · rename_i hc
          obtain ⟨_, _, _, _, _, c6, _⟩ := hc
          split at h
          · split at h
            · split at h
              · cases h
                rw [rowO_ob, if_neg (by rintro rfl; simp at hl1; omega)]
              · cases h
            · split at h
              · split at h
                · cases h
                  simp only [lokA, decide_eq_true_eq] at h2
                  rw [rowO_ob, if_neg (by rintro rfl; simp at hl1; omega), del_ob, if_neg (by rintro rfl; exact h2 hl)]
                · cases h
              · cases h
            · cases h
          · cases h
        · cases h
      · cases h
    · cases h
  · rw [appO_ob h]
/-- What a store of the tail leaves as it is. -/
theorem lok_ob {call : Call} {o : Oper} {r : MV × Sto} (hk : lok a av o = true) (h : evOp C call lim d a o s = some r) : ∀ l ∈ av, r.2.ob l = s.ob l := by
  obtain ⟨dst, op, ty, pos, aft, gd⟩ := o
  have pure' : ∀ {x : Option MV}, (x.map fun v => (v, s)) = some r → ∀ l ∈ av, r.2.ob l = s.ob l := fun hx => by
    obtain ⟨v, _, rfl⟩ := Option.map_eq_some_iff.1 hx
    exact fun _ _ => rfl
  cases op <;> try (simp [lok] at hk; done)
  case store t x v =>
    simp only [evOp] at h
    obtain ⟨s', hs, rfl⟩ := Option.map_eq_some_iff.1 h
    simp only [lok] at hk
    split at hs
    · cases hv : valO a x <;> rw [hv] at hk hs <;> try (cases hk; done)
      rename_i l off
      have hne : l ∉ av := by simpa using hk
      intro l' hl'
      exact stK_ob hs (by rintro rfl; exact hne hl')
    split at hs
    · cases hv : valO a x <;> rw [hv] at hk hs <;> try (cases hk; done)
      rename_i l off
      have hne : l ∉ av := by simpa using hk
      intro l' hl'
      exact stP_ob hs (by rintro rfl; exact hne hl')
    cases hv : valO a x <;> rw [hv] at hk hs <;> try (cases hk; done)
    rename_i l off
    have hne : l ∉ av := by simpa using hk
    intro l' hl'
    have hll : l' ≠ l := by rintro rfl; exact hne hl'
    simp only [stO] at hs
    split at hs
    · split at hs
      · split at hs
        · split at hs
          · obtain ⟨_, _, rfl⟩ := Option.map_eq_some_iff.1 hs
            simp [Sto.set, hll]
          · cases hs
        · split at hs
          · cases hs
            simp [Sto.set, hll]
          · cases hs
      · cases hs
    · cases hs
  case call k =>
    obtain ⟨callee, args, ts⟩ := k
    cases callee with
    | value f => simp [lok] at hk
    | invoke _ _ => simp [lok] at hk
    | builtin b =>
      cases b <;> try (simp [lok] at hk; done)
      simp only [lok, Bool.and_eq_true, List.all_eq_true, decide_eq_true_eq] at hk
      simp only [evOp] at h
      split at h <;> try (first | contradiction | (cases h; done))
      rename_i x y t t' e1 e2
      split at h
      · refine appX_ob h hk.1 ?_
        rw [e1] at hk
        exact hk.2
      · cases h
  case assign x => simp only [evOp] at h; cases h; exact fun _ _ => rfl
  case move x => simp only [evOp] at h; cases h; exact fun _ _ => rfl
  case nilCheck x =>
    simp only [evOp] at h
    split at h <;> cases h <;> exact fun _ _ => rfl
  case extract x i =>
    simp only [evOp] at h
    split at h
    · exact pure' h
    · cases h
  all_goals exact pure' h

structure DK (w0 : World) (K : Kp) (N n d : Nat) (ops : Array Oper) (w1 : World) (g1 : Gh) (s0 : Sto) (a1 : Nat → MV) (av : List Loc) (m : Nat) (ak : Nat → MV) (s : Sto) (L : Array Bool) (act : Act) (w : World) : Prop where
  size : L.size = ops.size
  closed : ∀ j oj, ops[j]? = some oj → L.getD j false = true → ∀ e ∈ oj.after, Region.binds .any e = true → L.getD e.on false = true
  tail : ∀ t, n ≤ t → t < ops.size → (L.getD t false = true ↔ t < m)
  hl : ∀ (j : Nat), j < n → hardB ops n j = true → L.getD j false = true
  sz : N ≤ act.tmps.size
  df : act.defers = []
  und : s.Und (d + 1)
  eqL : ∀ (i : Nat) (x : Oper) (u : Tmp), i < n → ops[i]? = some x → hardB ops n i = false → u ∈ x.looksAt ops → ak u = a1 u
  eqD : ∀ (j : Nat) (x : Oper) (u : Tmp), j < n → ops[j]? = some x → isNew x = false → x.dst = some u → ak u = a1 u
  ob : ∀ l ∈ av, s.ob l = s0.ob l
  ex : ∃ g, St w0 K w g s ∧ Ev w1 g1 s0 w g s ∧ ∀ t, (∀ (j : Nat) (o : Oper), j < n → ops[j]? = some o → o.dst = some t → L.getD j false = true) → VR w g s (ak t) (act.tmps.getD t undef)

theorem closed_set {L : Array Bool} {i : Nat} (hc : ∀ j oj, ops[j]? = some oj → L.getD j false = true → ∀ e ∈ oj.after, Region.binds .any e = true → L.getD e.on false = true) (hi : i ∈ Region.ready .any ops L) :
    ∀ j oj, ops[j]? = some oj → (L.setIfInBounds i true).getD j false = true → ∀ e ∈ oj.after, Region.binds .any e = true → (L.setIfInBounds i true).getD e.on false = true := by
  obtain ⟨_, oi, hoi, hall⟩ := mem_ready.1 hi
  intro j oj hj hl e he hb
  by_cases hij : i = j
  · subst hij
    have : oj = oi := Option.some.inj (hj.symm.trans hoi)
    subst this
    exact getD_set_true (hall e he hb)
  · rw [getD_set_ne false hij] at hl
    exact getD_set_true (hc j oj hj hl e he hb)

set_option maxHeartbeats 1000000 in
theorem DK.free (hC : C.OK) (hKO : C.KO K) {call : Call} (hc : CallOK C call) (hk : Keeps call) (hf : Free ops n) (hlo : Lo ops n) (hdst : ∀ o ∈ ops, ∀ t, o.dst = some t → t < N) (hav : ∀ (i : Nat) (o : Oper) (t : TypeId) (x : Operand) (l : Loc) (off : Nat), i < n → ops[i]? = some o → hardB ops n i = false → o.op = .load t x → valO a1 x = .ptr l off → l ∈ av)
    (ht : ∀ (j : Nat) (o : Oper), j < n → ops[j]? = some o → Told C call d ops s0 a1 o)
    {L : Array Bool} (hI : DK w0 K N n d ops w1 g1 s0 a1 av m ak s L act w) {i : Nat} (hi : i ∈ Region.ready .any ops L) (hin : i < n) {next : Act → World → Prop}
    (hnext : ∀ act' w', DK w0 K N n d ops w1 g1 s0 a1 av m ak s (L.setIfInBounds i true) act' w' → next act' w') : wpOp C.P ops Q i next act w := by
  obtain ⟨size, closed, tail, hl, sz, df, und, eqL, eqD, ob, g, hS, hE, hA⟩ := hI
  obtain ⟨hunl, o, ho, hall⟩ := mem_ready.1 hi
  have hil : i < L.size := by rw [size]; exact (Array.getElem?_eq_some_iff.1 ho).1
  have hunl' := getD_both hunl
  have hdo := hdst o (Array.mem_of_getElem? ho)
  have hset : ∀ j, j ≠ i → (L.setIfInBounds i true).getD j false = L.getD j false := fun j hj => getD_set_ne false (Ne.symm hj)
  have closed' := closed_set closed hi
  have tail' : ∀ t, n ≤ t → t < ops.size → ((L.setIfInBounds i true).getD t false = true ↔ t < m) := fun t h1 h2 => by rw [hset t (by omega)]; exact tail t h1 h2
  have hl' : ∀ (j : Nat), j < n → hardB ops n j = true → (L.setIfInBounds i true).getD j false = true := fun j h1 h2 => getD_set_true (hl j h1 h2)
  have hsoft : hardB ops n i = false := by
    cases hq : hardB ops n i with
    | false => rfl
    | true => have := hl i hin hq; rw [hunl'] at this; cases this
  have size' : (L.setIfInBounds i true).size = ops.size := by simp [size]
  have hlook : ∀ t ∈ o.looksAt ops, VR w g s (a1 t) (act.tmps.getD t undef) := fun t htl => by
    rw [← eqL i o t hin ho hsoft htl]
    refine hA t fun j y hj hy hyt => ?_
    obtain ⟨_, _, e, he, hb, hon⟩ := hf.look i j o y t hin hj ho hy hyt htl
    have := hall e he hb
    rwa [hon] at this
  have hput : ∀ (u : Value) (t : Nat), o.dst ≠ some t → (act.put o.dst u).tmps.getD t undef = act.tmps.getD t undef := fun u t hne => by
    cases hod : o.dst with
    | none => rfl
    | some t0 => exact put_ne (by rintro rfl; exact hne hod)
  have hputs : ∀ (u : Value) (t : Nat), o.dst = some t → (act.put o.dst u).tmps.getD t undef = u := fun u t he => by
    rw [he]; exact put_same (Nat.lt_of_lt_of_le (hdo t he) sz)
  have hrel : ∀ (u : Value) (w' : World) (g' : Gh), Ev w g s w' g' s → (∀ t, o.dst = some t → VR w' g' s (ak t) u) → ∀ t, (∀ (j : Nat) (o : Oper), j < n → ops[j]? = some o → o.dst = some t → (L.setIfInBounds i true).getD j false = true) → VR w' g' s (ak t) ((act.put o.dst u).tmps.getD t undef) := fun u w' g' e hu t htt => by
    by_cases hot : o.dst = some t
    · rw [hputs u t hot]; exact hu t hot
    · rw [hput u t hot]
      refine (hA t fun j y hj hy hyt => ?_).ev e
      have hji : j ≠ i := by rintro rfl; rw [ho] at hy; cases hy; exact hot hyt
      rw [← hset j hji]; exact htt j y hj hy hyt
  obtain ⟨a', ha', hcase⟩ := ht i o hin ho
  have hva : ∀ x ∈ o.op.operands, valO a' x = valO a1 x := fun x hxo => by
    cases x with
    | tmp t => exact ha' t (List.mem_append_left _ (List.mem_filterMap.2 ⟨.tmp t, by simpa using hxo, rfl⟩))
    | _ => rfl
  have hx : ∀ x ∈ o.op.operands, VR w g s (valO a' x) (act.eval x) := fun x hxo => valR x fun t e => by
    subst e
    have htl : t ∈ o.looksAt ops := List.mem_append_left _ (List.mem_filterMap.2 ⟨.tmp t, by simpa using hxo, rfl⟩)
    rw [ha' t htl]
    exact hlook t htl
  have hwant : ∀ b, want ops a' o = some b → Region.wanted o (yielded ops act.tmps) = b := fun b hb => wantR (fun j v t hg hj => by
    have htl : t ∈ o.looksAt ops := List.mem_append_right _ (by simp [hg, hj])
    rw [ha' t htl]
    exact hlook t htl) hb
  have hnn : isNew o = false := by
    cases hq : isNew o with
    | false => rfl
    | true => have := hlo.hcn i o hin ho (.inr hq); rw [hsoft] at this; cases this
  have hnc : isCallV o = false := by
    cases hq : isCallV o with
    | false => rfl
    | true => have := hlo.hcn i o hin ho (.inl hq); rw [hsoft] at this; cases this
  unfold wpOp
  simp only [ho]
  rcases hcase with ⟨hw, hnw⟩ | ⟨hw, hnw, v, hv, hvd⟩ | ⟨hw, hvd⟩
  · rw [hnn] at hnw; cases hnw
  · rw [hwant _ hw]
    simp only [if_true]
    left
    have hv' := evFree_stab (s := s) hv hnc (fun t x l off hop hvx => by
      have hxo : x ∈ o.op.operands := by rw [hop]; simp [Op.operands]
      rw [hva x hxo] at hvx
      exact ob l (hav i o t x l off hin ho hsoft hop hvx))
    refine freeSound hC hKO hc hk hS und hx hv' fun u w' g' k1 k2 k3 => hnext _ _ ⟨size', closed', tail', hl', by rw [put_size]; exact sz, by rw [put_df]; exact df, und, eqL, eqD, ob, g', k2, hE.trans k3, hrel u w' g' k3 fun t hot => ?_⟩
    rw [eqD i o t hin ho hnn hot, hvd t hot]
    exact k1
  · rw [hwant _ hw]
    simp only [Bool.false_eq_true, if_false]
    refine hnext _ _ ⟨size', closed', tail', hl', by rw [put_size]; exact sz, by rw [put_df]; exact df, und, eqL, eqD, ob, g, hS, hE, hrel _ w g (.refl _ _ _) fun t hot => ?_⟩
    rw [eqD i o t hin ho hnn hot, hvd t hot]
    exact .undef

set_option maxHeartbeats 1000000 in
theorem DK.step (hC : C.OK) (hKO : C.KO K) {call : Call} (hc : CallOK C call) (hlo : Lo ops n) (hdst : ∀ o ∈ ops, ∀ t, o.dst = some t → t < N) (hnm : n ≤ m)
    {L : Array Bool} (hI : DK w0 K N n d ops w1 g1 s0 a1 av m ak s L act w) (hi : m ∈ Region.ready .any ops L) {o : Oper} (ho : ops[m]? = some o) {rest : List Oper} {r : (Nat → MV) × Sto} (he : evOpsL C call lim d ops av (o :: rest) ak s = some r) {next : Act → World → Prop}
    (hnext : ∀ ak' s' act' w', evOpsL C call lim d ops av rest ak' s' = some r → DK w0 K N n d ops w1 g1 s0 a1 av (m + 1) ak' s' (L.setIfInBounds m true) act' w' → next act' w') : wpOp C.P ops Q m next act w := by
  obtain ⟨size, closed, tail, hl, sz, df, und, eqL, eqD, ob, g, hS, hE, hA⟩ := hI
  obtain ⟨hunl, o', ho', hall⟩ := mem_ready.1 hi
  rw [ho] at ho'
  cases ho'
  have hml : m < L.size := by rw [size]; exact (Array.getElem?_eq_some_iff.1 ho).1
  have hdo := hdst o (Array.mem_of_getElem? ho)
  have hset : ∀ j, j ≠ m → (L.setIfInBounds m true).getD j false = L.getD j false := fun j hj => getD_set_ne false (Ne.symm hj)
  have closed' := closed_set closed hi
  have tail' : ∀ t, n ≤ t → t < ops.size → ((L.setIfInBounds m true).getD t false = true ↔ t < m + 1) := fun t h1 h2 => by
    by_cases htm : t = m
    · subst htm
      rw [getD_set_self hml]
      simp
    · rw [hset t htm, tail t h1 h2]; omega
  have hl' : ∀ (j : Nat), j < n → hardB ops n j = true → (L.setIfInBounds m true).getD j false = true := fun j h1 h2 => getD_set_true (hl j h1 h2)
  have size' : (L.setIfInBounds m true).size = ops.size := by simp [size]
  have hlook : ∀ t ∈ o.looksAt ops, VR w g s (ak t) (act.tmps.getD t undef) := fun t htl => hA t fun j y hj hy hyt => by
    obtain ⟨e, he, hb, hon⟩ := hlo.look m j o y t hnm hj ho hy hyt htl
    have := hall e he hb
    rwa [hon] at this
  have hput : ∀ (u : Value) (t : Nat), o.dst ≠ some t → (act.put o.dst u).tmps.getD t undef = act.tmps.getD t undef := fun u t hne => by
    cases hod : o.dst with
    | none => rfl
    | some t0 => exact put_ne (by rintro rfl; exact hne hod)
  have hputs : ∀ (u : Value) (t : Nat), o.dst = some t → (act.put o.dst u).tmps.getD t undef = u := fun u t he => by
    rw [he]; exact put_same (Nat.lt_of_lt_of_le (hdo t he) sz)
  have hx : ∀ x ∈ o.op.operands, VR w g s (valO ak x) (act.eval x) := fun x hxo => valR x fun t e => by
    subst e
    exact hlook t (List.mem_append_left _ (List.mem_filterMap.2 ⟨.tmp t, by simpa using hxo, rfl⟩))
  have hwant : ∀ b, want ops ak o = some b → Region.wanted o (yielded ops act.tmps) = b := fun b hb => wantR (fun j v t hg hj => hlook t (List.mem_append_right _ (by simp [hg, hj]))) hb
  have fin : ∀ (v : MV) (u : Value) (s' : Sto) (w' : World) (g' : Gh), VR w' g' s' v u → St w0 K w' g' s' → Ev w g s w' g' s' → s'.Und (d + 1) → (∀ l ∈ av, s'.ob l = s.ob l) → DK w0 K N n d ops w1 g1 s0 a1 av (m + 1) (putD ak o.dst v) s' (L.setIfInBounds m true) (act.put o.dst u) w' := fun v u s' w' g' k1 k2 k3 k4 k5 => by
    refine ⟨size', closed', tail', hl', by rw [put_size]; exact sz, by rw [put_df]; exact df, k4, fun i x q h1 h2 hsf h3 => ?_, fun j x q h1 h2 h3 h4 => ?_, fun l hll => (k5 l hll).trans (ob l hll), g', k2, hE.trans k3, fun t htt => ?_⟩
    · rw [putD_ne fun e => hlo.back m i o x q hnm h1 ho h2 hsf e h3]
      exact eqL i x q h1 h2 hsf h3
    · rw [putD_ne (hlo.uniq m j o x q hnm h1 ho h2 h4)]
      exact eqD j x q h1 h2 h3 h4
    · by_cases hot : o.dst = some t
      · rw [hputs u t hot, hot]
        simp only [putD, upd_same]
        exact k1
      · rw [hput u t hot, putD_ne hot]
        refine (hA t fun j y hj hy hyt => ?_).ev k3
        rw [← hset j (by omega)]; exact htt j y hj hy hyt
  unfold wpOp
  simp only [ho]
  simp only [evOpsL] at he
  split at he
  · rename_i hw
    rw [hwant _ hw]
    simp only [if_true]
    left
    split at he
    · rename_i hlk
      obtain ⟨x, hxe, he⟩ := Option.bind_eq_some_iff.1 he
      refine opSound hC hKO hc hS und hx hxe fun u w' hm => ?_
      obtain ⟨g', k1, k2, k3, k4⟩ := hm
      exact hnext _ _ _ _ he (fin _ _ _ _ g' k1 k2 k3 k4 (lok_ob hlk hxe))
    · cases he
  · rename_i hw
    rw [hwant _ hw]
    simp only [Bool.false_eq_true, if_false]
    exact hnext _ _ _ _ he (fin _ _ _ _ g .undef hS (.refl _ _ _) und fun _ _ => rfl)
  · cases he

theorem okLoose_spec (h : okLoose ops = true) (hn : n = (ops.toList.takeWhile fun o => !isTail o).length) : Free ops n ∧ Region.noSelect ops = true ∧ (∀ o ∈ ops.toList.takeWhile (fun o => !isTail o), isNew o = true → o.guard = none ∧ o.dst.isSome = true) ∧
    n < ops.size ∧ Region.chainB .any ops n = true ∧ Lo ops n := by
  simp only [okLoose, Bool.and_eq_true, decide_eq_true_eq] at h
  rw [← hn] at h
  obtain ⟨⟨⟨⟨⟨h1, h2⟩, h4⟩, h5⟩, h6⟩, h7⟩ := h
  have hf := okFree_spec h1
  have key : ∀ (t : Nat) (y : Oper), n ≤ t → ops[t]? = some y → (∀ e ∈ y.after, Region.binds .any e = true → e.on < t) ∧ ∀ (j : Nat) (x : Oper), j < n → ops[j]? = some x →
      (∀ u, x.dst = some u → (u ∈ y.looksAt ops → waitsOn y j = true) ∧ y.dst ≠ some u) ∧ (hardB ops n j = false → ∀ u, y.dst = some u → u ∉ x.looksAt ops) ∧ (isCallV x = true ∨ isNew x = true → hardB ops n j = true) := fun t y ht hy => by
    have hts : t < ops.size := (Array.getElem?_eq_some_iff.1 hy).1
    have := List.all_eq_true.1 h7 t (List.mem_range.2 hts)
    simp only [Bool.or_eq_true, decide_eq_true_eq] at this
    have := this.resolve_left (by omega)
    simp only [hy, Bool.and_eq_true] at this
    refine ⟨fun e he hb => ?_, fun j x hj hx => ?_⟩
    · have := Array.all_eq_true_iff_forall_mem.1 this.1 e he
      simpa [hb] using this
    · have := List.all_eq_true.1 this.2 j (List.mem_range.2 hj)
      simp only [hx, Bool.and_eq_true] at this
      obtain ⟨⟨q1, q2⟩, q3⟩ := this
      refine ⟨fun u hu => ⟨fun hl => ?_, ?_⟩, fun hsf u hu => ?_, fun hcn => ?_⟩
      · have hc : (y.looksAt ops).contains u = true := by simpa using hl
        simp only [hu, hc, Bool.not_true, Bool.false_or, Bool.and_eq_true] at q1
        exact q1.1
      · simp only [hu, Bool.and_eq_true] at q1
        simpa using q1.2
      · simp only [hu, hsf] at q2
        simpa using q2
      · have hcn' : (isCallV x || isNew x) = true := by simpa using hcn
        simpa only [hcn', Bool.not_true, Bool.false_or] using q3
  have wo : ∀ {y : Oper} {j : Nat}, waitsOn y j = true → ∃ e ∈ y.after, Region.binds .any e = true ∧ e.on = j := fun {y j} hw => by
    obtain ⟨e, he, hb⟩ := Array.any_eq_true'.1 hw
    simp only [Bool.and_eq_true, beq_iff_eq] at hb
    exact ⟨e, he, hb.1, hb.2⟩
  refine ⟨hf, h2, fun o ho hn' => ?_, h5, h6, ⟨fun t y ht hy => (key t y ht hy).1, fun t j y x u ht hj hy hx hu hl => wo ((((key t y ht hy).2 j x hj hx).1 u hu).1 hl), fun t j y x u ht hj hy hx hu => (((key t y ht hy).2 j x hj hx).1 u hu).2, fun t j y x u ht hj hy hx hsf hu => ((key t y ht hy).2 j x hj hx).2.1 hsf u hu, fun j y hy hh => wo (by unfold hardB at hh; rw [hy] at hh; exact hh), fun j x hj hx hcn => ((key n ops[n] (Nat.le_refl n) (Array.getElem?_eq_getElem h5)).2 j x hj hx).2.2 hcn⟩⟩
  have := List.all_eq_true.1 h4 o ho
  simpa [hn'] using this

theorem undone_set {L : Array Bool} {j k : Nat} (hj : j < k) (hl : L.getD j false = false) (hs : j < L.size) : (undone k L).length = (undone k (L.setIfInBounds j true)).length + 1 := by
  unfold undone
  exact count_drop j (fun i => !L.getD i false) (fun i => !(L.setIfInBounds j true).getD i false) (by simp only [hl]; rfl) (by rw [getD_set_self hs]; rfl) (List.range k) List.nodup_range (List.mem_range.2 hj) (fun k _ hk => by rw [getD_set_ne false (Ne.symm hk)])

theorem DK.go (hC : C.OK) (hKO : C.KO K) {call : Call} (hc : CallOK C call) (hk : Keeps call) (hf : Free ops n) (hlo : Lo ops n) (hch : Region.chainB .any ops n = true) (hdst : ∀ o ∈ ops, ∀ t, o.dst = some t → t < N) (hav : ∀ (i : Nat) (o : Oper) (t : TypeId) (x : Operand) (l : Loc) (off : Nat), i < n → ops[i]? = some o → hardB ops n i = false → o.op = .load t x → valO a1 x = .ptr l off → l ∈ av)
    (ht : ∀ (j : Nat) (o : Oper), j < n → ops[j]? = some o → Told C call d ops s0 a1 o) {r : (Nat → MV) × Sto} (hq : ∀ act' w', Res w0 K N d w1 g1 s0 r.1 r.2 act' w' → Q .normal act' w') :
    ∀ (f : Nat) (m : Nat) (ak : Nat → MV) (s : Sto) (tl : List Oper) (L : Array Bool) (act : Act) (w : World), (undone ops.size L).length = f → n ≤ m → (∀ j, tl[j]? = ops[m + j]?) → m + tl.length = ops.size → evOpsL C call lim d ops av tl ak s = some r → DK w0 K N n d ops w1 g1 s0 a1 av m ak s L act w → wpAny C.P .any ops Q f L act w
  | 0, m, ak, s, tl, L, act, w, hl, hnm, htl, hlen, he, hI => by
    have hall : ∀ i, i < ops.size → L.getD i false = true := fun i hi => by
      have : undone ops.size L = [] := List.eq_nil_of_length_eq_zero hl
      cases hq : L.getD i false with
      | true => rfl
      | false =>
        have : i ∈ undone ops.size L := List.mem_filter.2 ⟨List.mem_range.2 hi, by simp only [hq]; rfl⟩
        simp_all
    have hm : tl = [] := by
      apply List.eq_nil_of_length_eq_zero
      apply Nat.eq_zero_of_not_pos
      intro hpos
      have := (hI.tail m hnm (by omega)).1 (hall m (by omega))
      omega
    subst hm
    cases he
    obtain ⟨g, hS, hE, hA⟩ := hI.ex
    refine ⟨?_, hq act w ⟨g, ⟨hI.sz, fun t => hA t fun j o hj hoj _ => hall j (Array.getElem?_eq_some_iff.1 hoj).1, hI.df⟩, hS, hE, hI.und⟩⟩
    cases hr : Region.ready .any ops L with
    | nil => rfl
    | cons i l =>
      have hi : i ∈ Region.ready .any ops L := by rw [hr]; exact List.mem_cons_self ..
      obtain ⟨h1, o, ho, _⟩ := mem_ready.1 hi
      have := hall i (Array.getElem?_eq_some_iff.1 ho).1
      rw [getD_both h1] at this
      cases this
  | f + 1, m, ak, s, tl, L, act, w, hl, hnm, htl, hlen, he, hI => by
    have hsz := hI.size
    have hex : ∃ i, i < ops.size ∧ L.getD i false = false := by
      have : undone ops.size L ≠ [] := by intro e; rw [e] at hl; cases hl
      obtain ⟨i, hi⟩ := List.exists_mem_of_ne_nil _ this
      obtain ⟨h1, h2⟩ := List.mem_filter.1 hi
      exact ⟨i, List.mem_range.1 h1, by simpa using h2⟩
    obtain ⟨i0, hi0⟩ := hex
    obtain ⟨i, ⟨hi, hiu⟩, hil⟩ := least (p := fun i => i < ops.size ∧ L.getD i false = false) i0 hi0
    have hir : i ∈ Region.ready .any ops L := by
      refine mem_ready.2 ⟨getD_in (by omega) hiu, ops[i], Array.getElem?_eq_getElem hi, fun e he hb => ?_⟩
      have : e.on < i := by
        by_cases hin : i < n
        · exact hf.low i ops[i] hin (Array.getElem?_eq_getElem hi) e he hb
        · exact hlo.low i ops[i] (by omega) (Array.getElem?_eq_getElem hi) e he hb
      cases hq : L.getD e.on false with
      | true => rfl
      | false => exact absurd ⟨by omega, hq⟩ (hil e.on this)
    refine ⟨fun h => (by rw [h] at hir; cases hir), fun j hj => ?_⟩
    obtain ⟨hju, o, ho, hall⟩ := mem_ready.1 hj
    have hjs : j < ops.size := (Array.getElem?_eq_some_iff.1 ho).1
    have hju' := getD_both hju
    have hcnt := undone_set hjs hju' (by omega : j < L.size)
    by_cases hjn : j < n
    · exact hI.free hC hKO hc hk hf hlo hdst hav ht hj hjn fun act' w' hI' => DK.go hC hKO hc hk hf hlo hch hdst hav ht hq f m ak s tl _ _ _ (by omega) hnm htl hlen he hI'
    · have hjm : j = m := by
        have h1 : ¬ j < m := fun h => by have := (hI.tail j (by omega) hjs).2 h; rw [hju'] at this; cases this
        have h2 : ¬ m < j := by
          intro hmj
          have hc1 := List.all_eq_true.1 hch j (List.mem_range.2 hjs)
          simp only [Bool.or_eq_true, decide_eq_true_eq] at hc1
          obtain ⟨o', ho', e, he', hb, hon⟩ := Region.waitsFor_spec (hc1.resolve_left (by omega))
          rw [ho] at ho'
          cases ho'
          have := hall e he' hb
          rw [hon] at this
          have := (hI.tail (j - 1) (by omega) (by omega)).1 this
          omega
        omega
      subst hjm
      cases tl with
      | nil => simp at hlen; omega
      | cons o2 rest =>
        have ho2 : ops[j]? = some o2 := by simpa using (htl 0).symm
        exact hI.step hC hKO hc hlo hdst hnm hj ho2 he fun ak' s' act' w' he' hI' => DK.go hC hKO hc hk hf hlo hch hdst hav ht hq f (j + 1) ak' s' rest _ _ _ (by omega) (by omega) (fun q => by have := htl (q + 1); simpa [Nat.add_assoc, Nat.add_comm 1 q] using this) (by simp at hlen; omega) he' hI'

theorem loose_mem {j : Nat} {o : Oper} (hj : j < n) (ho : ops[j]? = some o) (hs : hardB ops n j = false) : o ∈ looseOps ops n := by
  unfold looseOps
  refine List.mem_filterMap.2 ⟨j, List.mem_range.2 hj, ?_⟩
  rw [if_neg (by rw [hs]; simp)]
  exact ho
theorem avoid_mem {l : List Oper} {o : Oper} {t : TypeId} {x : Operand} {q : Loc} {off : Nat} (ho : o ∈ l) (hop : o.op = .load t x) (hv : valO a1 x = .ptr q off) : q ∈ avoid a1 l := by
  unfold avoid
  refine List.mem_filterMap.2 ⟨o, ho, ?_⟩
  simp only [hop, hv]

set_option maxHeartbeats 1000000 in
theorem looseSound (hC : C.OK) (hKO : C.KO K) {call : Call} (hc : CallOK C call) (hk : Keeps call) {id : Nat} (hd : okDst N ops = true) (ho : okLoose ops = true) {r : (Nat → MV) × Sto} (he : evLoose C call lim d ops a s = some r) (ha : AR N w g s a act) (h : St w0 K w g s) (hu : s.Und (d + 1))
    (hq : ∀ act' w', Res w0 K N d w g s r.1 r.2 act' w' → Q .normal act' w') : (Code.region id ops true).wp C.P Q act w := by
  have hdst : ∀ o ∈ ops, ∀ t, o.dst = some t → t < N := fun o hoo t ht => by
    have := Array.all_eq_true_iff_forall_mem.1 hd o hoo
    simpa [ht] using this
  have hpre : ∀ j, j < (ops.toList.takeWhile fun o => !isTail o).length → (ops.toList.takeWhile fun o => !isTail o)[j]? = ops[j]? := fun j hj => by rw [takeWhile_at _ _ _ hj]; simp
  have htl : ∀ j, (ops.toList.dropWhile fun o => !isTail o)[j]? = ops[(ops.toList.takeWhile fun o => !isTail o).length + j]? := fun j => by rw [dropWhile_at]; simp
  have hlen : (ops.toList.takeWhile fun o => !isTail o).length + (ops.toList.dropWhile fun o => !isTail o).length = ops.size := by
    rw [← List.length_append, List.takeWhile_append_dropWhile, Array.length_toList]
  obtain ⟨hf, _, ho4, hns, hch, hlo⟩ := okLoose_spec (n := (ops.toList.takeWhile fun o => !isTail o).length) ho rfl
  unfold evLoose at he
  obtain ⟨a1, he1, he⟩ := Option.bind_eq_some_iff.1 he
  split at he
  case isFalse => cases he
  rename_i hav0
  obtain ⟨x, he2, he3⟩ := Option.bind_eq_some_iff.1 he
  clear he
  revert hpre htl hlen he1 he2 he3 hf ho4 hns hch hlo hav0
  generalize (ops.toList.takeWhile fun o => !isTail o) = pre
  generalize (ops.toList.dropWhile fun o => !isTail o) = tl
  intro hpre htl hlen hf ho4 hns hch hlo he1 hav0 he2 he3
  have hmem : ∀ (j : Nat) (o : Oper), j < pre.length → ops[j]? = some o → o ∈ pre := fun j o hj hoj => by
    rw [← hpre j hj] at hoj
    exact List.mem_of_getElem? hoj
  have hidx : ∀ (j : Nat) (o : Oper), pre[j]? = some o → j < pre.length ∧ ops[j]? = some o := fun j o hj => by
    have hl := (List.getElem?_eq_some_iff.1 hj).1
    exact ⟨hl, by rw [← hpre j hl]; exact hj⟩
  have hnew : ∀ (j : Nat) (o : Oper), j < pre.length → ops[j]? = some o → isNew o = true → o.guard = none ∧ o.dst.isSome = true := fun j o hj hoj hn => ho4 o (hmem j o hj hoj) hn
  have hav : ∀ (i : Nat) (o : Oper) (t : TypeId) (x : Operand) (l : Loc) (off : Nat), i < pre.length → ops[i]? = some o → hardB ops pre.length i = false → o.op = .load t x → valO a1 x = .ptr l off → l ∈ avoid a1 (looseOps ops pre.length) := fun i o t x l off hi hoi hsf hop hv => avoid_mem (loose_mem hi hoi hsf) hop hv
  have hin2 : ∀ (j : Nat) (o : Oper), j < pre.length → ops[j]? = some o → isNew o = true → o ∈ pre.filter isNew := fun j o hj hoj hn => List.mem_filter.2 ⟨hmem j o hj hoj, hn⟩
  have hout2 : ∀ o ∈ pre.filter isNew, ∃ j, j < pre.length ∧ ops[j]? = some o ∧ isNew o = true := fun o ho => by
    obtain ⟨m1, m2⟩ := List.mem_filter.1 ho
    obtain ⟨j, hj⟩ := List.mem_iff_getElem?.1 m1
    obtain ⟨hj1, hj2⟩ := hidx j o hj
    exact ⟨j, hj1, hj2, m2⟩
  have hpwl : (pre.filter isNew).Pairwise (fun o o' => o.dst ≠ o'.dst) := newsPw (fun i j x y hi hj hij hx hy hnx => by
    obtain ⟨hi1, hi2⟩ := hidx i x hx
    obtain ⟨hj1, hj2⟩ := hidx j y hy
    obtain ⟨t, ht⟩ := Option.isSome_iff_exists.1 (hnew i x hi1 hi2 hnx).2
    rw [ht]
    exact fun e => hf.uniq i j x y t hi1 hj1 hij hi2 hj2 ht e.symm)
  rw [evNews_filter] at he2
  have hz : ∀ (j : Nat) (o : Oper) (T : TypeId), j < pre.length → ops[j]? = some o → o.op = .alloc T → ∃ zv cs, (C.P.info? T).bind (·.zero) = some zv ∧ (ofV zv).cells = some cs := fun j o T hj hoj hT => newsZer _ he2 o (hin2 j o hj hoj (by unfold isNew; rw [hT])) T hT
  obtain ⟨sp1, sp2⟩ := evOpsF_spec (s := s) pre a a1 he1 (fun i j x y hx hy hij t ht hl => by
    obtain ⟨hi, hx⟩ := hidx i x hx
    obtain ⟨hj, hy⟩ := hidx j y hy
    have := (hf.look i j x y t hi hj hx hy ht hl).1
    omega) (fun i j x y hx hy hij t ht => by
    obtain ⟨hi, hx⟩ := hidx i x hx
    obtain ⟨hj, hy⟩ := hidx j y hy
    exact hf.uniq i j x y t hi hj (by omega) hx hy ht)
  have h1 : ∀ t, (∀ (j : Nat) (o : Oper), j < pre.length → ops[j]? = some o → o.dst ≠ some t) → a1 t = a t := fun t htt => sp1 t fun y hy => by
    obtain ⟨j, hj⟩ := List.mem_iff_getElem?.1 hy
    obtain ⟨hj1, hj2⟩ := hidx j y hj
    exact htt j y hj1 hj2
  have hTold : ∀ (j : Nat) (o : Oper), j < pre.length → ops[j]? = some o → Told C call d ops s a1 o := fun j o hj hoj => sp2 o (hmem j o hj hoj)
  obtain ⟨hS1, hE1⟩ := h.same (w' := { w with drawn := w.drawn + 1 }) rfl rfl rfl rfl
  have hq' : ∀ act' w', Res w0 K N d { w with drawn := w.drawn + 1 } g s r.1 r.2 act' w' → Q .normal act' w' := fun act' w' hr => hq act' w' (.after hE1 hr)
  -- the tail begins
  have toDK : ∀ (L : Array Bool) (act : Act) (w' : World), DI w0 K N pre.length ops C.P { w with drawn := w.drawn + 1 } g s a a1 L act w' → (∀ (j : Nat), j < pre.length → hardB ops pre.length j = true → L.getD j false = true) →
      DK w0 K N pre.length d ops { w with drawn := w.drawn + 1 } g s a1 (avoid a1 (looseOps ops pre.length)) pre.length x.1 x.2 L act w' := fun L act' w' hI hl => by
    obtain ⟨hd', sz, df, bl, g', hS, hE, hA, hB, hK⟩ := hI
    have htail : ∀ t, pre.length ≤ t → t < ops.size → (L.getD t false = true ↔ t < pre.length) := fun t h1 h2 => by
      rw [getD_both (hd'.tail t h1 h2)]
      constructor
      · intro h; cases h
      · intro h; omega
    obtain ⟨n1, n2, n3⟩ := hK
    have hall : ∀ (j : Nat) (o : Oper), j < pre.length → ops[j]? = some o → isNew o = true → L.getD j false = true := fun j o hj hoj hn => hl j hj (hlo.hcn j o hj hoj (.inr hn))
    obtain ⟨g2, q1, q2, q3, q4, q5, q6⟩ := adoptNews (fun k hk => (h.kn k hk).1) (pre.filter isNew) hS hu (fun x hx => ⟨(n1 x hx).1, (n1 x hx).2.1⟩) n2 (fun o ho => by
        obtain ⟨j, hj, hoj, hn⟩ := hout2 o ho
        exact n3 j o hj hoj hn (hall j o hj hoj hn)) (fun x hx => by
        obtain ⟨_, _, _, j, o, hj, hoj, hoT, hot, _⟩ := n1 x hx
        exact ⟨o, hin2 j o hj hoj (by unfold isNew; rw [hoT]), hot⟩) hpwl he2
    obtain ⟨_, q7⟩ := q6 fun o ho T hT => by
      have := List.all_eq_true.1 hav0.1 o (List.mem_filter.1 ho).1
      simpa [hT] using this
    have hne : ∀ u, (∀ x ∈ bl, x.t ≠ u) → x.1 u = a1 u := q5
    refine ⟨hd'.size, hd'.closed, htail, hl, sz, df, q3, fun i y u hi hy _ hul => hne u fun x hx e => ?_, fun i y u hi hy hyn hyd => hne u fun x hx e => ?_, fun l hll => q7 l (hav0.2 l hll), g2, q1, hE.trans q2, fun t' htt => ?_⟩
    · obtain ⟨_, _, _, j, o, hj, hoj, hoT, hot, _⟩ := n1 x hx
      rw [e] at hot
      have := (hf.look i j y o u hi hj hy hoj hot hul).2.1
      unfold isNew at this
      rw [hoT] at this
      cases this
    · obtain ⟨_, _, _, j, o, hj, hoj, hoT, hot, _⟩ := n1 x hx
      rw [e] at hot
      have hij : i ≠ j := by
        rintro rfl
        rw [hoj] at hy
        cases hy
        unfold isNew at hyn
        rw [hoT] at hyn
        cases hyn
      exact hf.uniq i j y o u hi hj hij hy hoj hyd hot
    · by_cases hbt : ∃ x ∈ bl, x.t = t'
      · obtain ⟨x, hx, rfl⟩ := hbt
        rw [(n1 x hx).2.2.1]
        exact q4 x hx
      · rw [q5 t' fun x hx e => hbt ⟨x, hx, e⟩]
        refine VR.ev q2 ?_
        by_cases hex : ∃ (j : Nat) (y : Oper), j < pre.length ∧ ops[j]? = some y ∧ y.dst = some t'
        · obtain ⟨j, y, hj, hy, hyt⟩ := hex
          refine hB j y t' hj hy ?_ hyt (htt j y hj hy hyt)
          cases hq : isNew y with
          | false => rfl
          | true =>
            obtain ⟨x, hx, e, _⟩ := n3 j y hj hy hq (hall j y hj hy hq)
            rw [hyt] at e
            exact absurd ⟨x, hx, (Option.some.inj e).symm⟩ hbt
        · have hno : ∀ (j : Nat) (o : Oper), j < pre.length → ops[j]? = some o → o.dst ≠ some t' := fun j y hj hy hyt => hex ⟨j, y, hj, hy, hyt⟩
          rw [h1 t' hno]
          exact hA t' fun j y hj hy hyt => absurd hyt (hno j y hj hy)
  have main : ∀ (f : Nat) (L : Array Bool) (act : Act) (w' : World), (undone ops.size L).length = f → DI w0 K N pre.length ops C.P { w with drawn := w.drawn + 1 } g s a a1 L act w' → wpAny C.P .any ops Q f L act w' := by
    intro f
    induction f with
    | zero =>
      intro L act w' hl hI
      exfalso
      have : undone ops.size L = [] := List.eq_nil_of_length_eq_zero hl
      have hm : pre.length ∈ undone ops.size L := List.mem_filter.2 ⟨List.mem_range.2 hns, by rw [getD_both (hI.hd.tail pre.length (Nat.le_refl _) hns)]; rfl⟩
      rw [this] at hm
      cases hm
    | succ f ih =>
      intro L act w' hl hI
      have hsz := hI.hd.size
      have hex : ∃ i, i < ops.size ∧ L.getD i false = false := ⟨pre.length, hns, getD_both (hI.hd.tail pre.length (Nat.le_refl _) hns)⟩
      obtain ⟨i0, hi0⟩ := hex
      obtain ⟨i, ⟨hi, hiu⟩, hil⟩ := least (p := fun i => i < ops.size ∧ L.getD i false = false) i0 hi0
      have hir : i ∈ Region.ready .any ops L := by
        refine mem_ready.2 ⟨getD_in (by omega) hiu, ops[i], Array.getElem?_eq_getElem hi, fun e he hb => ?_⟩
        have : e.on < i := by
          by_cases hin : i < pre.length
          · exact hf.low i ops[i] hin (Array.getElem?_eq_getElem hi) e he hb
          · exact hlo.low i ops[i] (by omega) (Array.getElem?_eq_getElem hi) e he hb
        cases hq : L.getD e.on false with
        | true => rfl
        | false => exact absurd ⟨by omega, hq⟩ (hil e.on this)
      refine ⟨fun h => (by rw [h] at hir; cases hir), fun j hj => ?_⟩
      obtain ⟨hju, o, hoj, hall⟩ := mem_ready.1 hj
      have hjs : j < ops.size := (Array.getElem?_eq_some_iff.1 hoj).1
      have hju' := getD_both hju
      have hcnt := undone_set hjs hju' (by omega : j < L.size)
      by_cases hjn : j < pre.length
      · exact hI.step hC hKO hc hk hu hf hdst hnew hz h1 hTold hj hjn fun act2 w2 hI' => ih _ _ _ (by omega) hI'
      · have hjm : j = pre.length := by
          have h2 : ¬ pre.length < j := by
            intro hmj
            have hc1 := List.all_eq_true.1 hch j (List.mem_range.2 hjs)
            simp only [Bool.or_eq_true, decide_eq_true_eq] at hc1
            obtain ⟨o', ho', e, he', hb, hon⟩ := Region.waitsFor_spec (hc1.resolve_left (by omega))
            rw [hoj] at ho'
            cases ho'
            have := hall e he' hb
            rw [hon, getD_both (hI.hd.tail (j - 1) (by omega) (by omega))] at this
            cases this
          omega
        subst hjm
        have hl' : ∀ (i : Nat), i < pre.length → hardB ops pre.length i = true → L.getD i false = true := fun i hi hh => by
          obtain ⟨e, he, hb, hon⟩ := hlo.hard i o hoj hh
          have := hall e he hb
          rwa [hon] at this
        cases tl with
        | nil => simp at hlen; omega
        | cons o2 rest =>
          have ho2 : ops[pre.length]? = some o2 := by simpa using (htl 0).symm
          exact (toDK L act w' hI hl').step hC hKO hc hlo hdst (Nat.le_refl _) hj ho2 he3 fun ak' s' act2 w2 he' hI' => DK.go hC hKO hc hk hf hlo hch hdst hav hTold hq' f (pre.length + 1) ak' s' rest _ _ _ (by omega) (by omega) (fun q => by have := htl (q + 1); simpa [Nat.add_assoc, Nat.add_comm 1 q] using this) (by simp at hlen; omega) he' hI'
  refine wp_region_any hC.mix ?_
  have hinit : DI w0 K N pre.length ops C.P { w with drawn := w.drawn + 1 } g s a a1 (Array.replicate ops.size false) act { w with drawn := w.drawn + 1 } := by
    refine ⟨⟨by simp, fun j oj _ hl => (by rw [getD_replicate_false] at hl; cases hl), fun t _ ht => getD_in (by simpa using ht) (getD_replicate_false _ _)⟩, ha.sz, ha.df, [], g, by rw [adds_nil]; exact hS1, .refl _ _ _, fun t _ => (ha.rel t).ev hE1, fun j o t _ _ _ _ hl => (by rw [getD_replicate_false] at hl; cases hl), ⟨by simp, .nil, fun j o _ _ _ hl => (by rw [getD_replicate_false] at hl; cases hl)⟩⟩
  have hcnt : (undone ops.size (Array.replicate ops.size false)).length = ops.size := by
    have : undone ops.size (Array.replicate ops.size false) = List.range ops.size := by
      unfold undone
      rw [List.filter_eq_self]
      intro i _
      rw [getD_replicate_false]
      rfl
    rw [this, List.length_range]
  exact main ops.size _ _ _ hcnt hinit
end
end Go.Mv
/- Regions that draw their order, whose last operations may be of any kind: behind each of them the free ones that may still be ahead tell the same. -/
namespace Go.Mv
mutual
theorem MV.same_eq : ∀ (x y : MV), MV.same x y = true → x = y
  | .junk, y, h => by cases y <;> first | rfl | (simp [MV.same] at h; done)
  | .undef, y, h => by cases y <;> first | rfl | (simp [MV.same] at h; done)
  | .bool a, y, h => by cases y <;> first | (simp only [MV.same, beq_iff_eq] at h; rw [h]; done) | (simp [MV.same] at h; done)
  | .int k a, y, h => by cases y <;> first | (simp only [MV.same, Bool.and_eq_true, decide_eq_true_eq, beq_iff_eq] at h; rw [h.1, h.2]; done) | (simp [MV.same] at h; done)
  | .str a, y, h => by cases y <;> first | (simp only [MV.same, beq_iff_eq] at h; rw [h]; done) | (simp [MV.same] at h; done)
  | .sl t xs, y, h => by cases y <;> first | (simp only [MV.same, Bool.and_eq_true, decide_eq_true_eq] at h; rw [h.1, MV.sames2_eq _ _ h.2]; done) | (simp [MV.same] at h; done)
  | .agg a, y, h => by cases y <;> first | (simp only [MV.same] at h; rw [MV.sames_eq _ _ h]; done) | (simp [MV.same] at h; done)
  | .ptr l o, y, h => by cases y <;> first | (simp only [MV.same, Bool.and_eq_true, decide_eq_true_eq, beq_iff_eq] at h; rw [h.1, h.2]; done) | (simp [MV.same] at h; done)
  | .rs l o n z, y, h => by cases y <;> first | (simp only [MV.same, Bool.and_eq_true, decide_eq_true_eq, beq_iff_eq] at h; rw [h.1, h.2.1, h.2.2.1, h.2.2.2]; done) | (simp [MV.same] at h; done)
  | .ep cs o, y, h => by cases y <;> first | (simp only [MV.same, Bool.and_eq_true, beq_iff_eq] at h; rw [MV.sames_eq _ _ h.1, h.2]; done) | (simp [MV.same] at h; done)
  | .nilp, y, h => by cases y <;> first | rfl | (simp [MV.same] at h; done)
  | .fn f, y, h => by cases y <;> first | (simp only [MV.same, beq_iff_eq] at h; rw [h]; done) | (simp [MV.same] at h; done)
  | .tup a, y, h => by cases y <;> first | (simp only [MV.same] at h; rw [MV.sames_eq _ _ h]; done) | (simp [MV.same] at h; done)
theorem MV.sames_eq : ∀ (x y : List MV), MV.sames x y = true → x = y
  | [], [], _ => rfl
  | [], _ :: _, h => by simp [MV.sames] at h
  | _ :: _, [], h => by simp [MV.sames] at h
  | x :: xs, y :: ys, h => by
    simp only [MV.sames, Bool.and_eq_true] at h
    rw [MV.same_eq x y h.1, MV.sames_eq xs ys h.2]
theorem MV.sames2_eq : ∀ (x y : List (List MV)), MV.sames2 x y = true → x = y
  | [], [], _ => rfl
  | [], _ :: _, h => by simp [MV.sames2] at h
  | _ :: _, [], h => by simp [MV.sames2] at h
  | x :: xs, y :: ys, h => by
    simp only [MV.sames2, Bool.and_eq_true] at h
    rw [MV.sames_eq x y h.1, MV.sames2_eq xs ys h.2]
end
section
variable {C : Cfg} {w0 w w1 : World} {K : Kp} {g g1 : Gh} {s s0 s1 : Sto} {lim d N n m : Nat} {a a1 ak : Nat → MV} {act : Act} {Q : Exit → Act → World → Prop} {ops : Array Oper}
theorem want_look {a a' : Nat → MV} {o : Oper} (h : ∀ t ∈ o.looksAt ops, a t = a' t) : want ops a o = want ops a' o := by
  unfold want
  split
  · rfl
  · rename_i j w hg
    split
    · rename_i t ht
      rw [h t (List.mem_append_right _ (by simp [hg, ht]))]
    · rfl
/-- What a free operation tells at a store. -/
def ToldN (C : Cfg) (call : Call) (d : Nat) (ops : Array Oper) (s : Sto) (a1 : Nat → MV) (o : Oper) : Prop :=
  ∃ a : Nat → MV, (∀ t ∈ o.looksAt ops, a t = a1 t) ∧
    ((want ops a o = some true ∧ ∃ v, evFree C call d a o s = some v ∧ ∀ t, o.dst = some t → a1 t = v) ∨
     (want ops a o = some false ∧ ∀ t, o.dst = some t → a1 t = .undef))
theorem told_chk {call : Call} {o : Oper} (h : ToldN C call d ops s a1 o) (hk : chkH C call d ops s1 a1 o = true) : ToldN C call d ops s1 a1 o := by
  obtain ⟨a', ha', h⟩ := h
  rcases h with ⟨hw, v, hv, hd⟩ | ⟨hw, hd⟩
  · unfold chkH at hk
    rw [want_look (fun t ht => (ha' t ht).symm), hw] at hk
    simp only at hk
    split at hk
    · rename_i v2 hv2
      refine ⟨a1, fun _ _ => rfl, .inl ⟨by rw [want_look (fun t ht => (ha' t ht).symm)]; exact hw, v2, hv2, fun t ht => ?_⟩⟩
      rw [ht] at hk
      exact (MV.same_eq _ _ hk).symm
    · cases hk
  · exact ⟨a', ha', .inr ⟨hw, hd⟩⟩
/-- What an operation tells that doesn't see the store is the same at any store. -/
theorem told_any {call : Call} {o : Oper} (hs : seesB o = false) (h : ToldN C call d ops s a1 o) : ToldN C call d ops s1 a1 o := by
  obtain ⟨a', ha', h⟩ := h
  refine ⟨a', ha', ?_⟩
  rcases h with ⟨hw, v, hv, hd⟩ | h
  · refine .inl ⟨hw, v, evFree_stab hv ?_ ?_, hd⟩
    · unfold seesB at hs; unfold isCallV
      split
      · rename_i hq; rw [hq] at hs; cases hs
      · rfl
    · intro t x l off hop
      unfold seesB at hs
      rw [hop] at hs
      cases hs
  · exact .inr h
theorem told_env {call : Call} {o : Oper} {b : Nat → MV} (hl : ∀ t ∈ o.looksAt ops, b t = a1 t) (hd : ∀ t, o.dst = some t → b t = a1 t) (h : ToldN C call d ops s a1 o) : ToldN C call d ops s b o := by
  obtain ⟨a', ha', h⟩ := h
  refine ⟨a', fun t ht => (ha' t ht).trans (hl t ht).symm, ?_⟩
  rcases h with ⟨hw, v, hv, hdd⟩ | ⟨hw, hdd⟩
  · exact .inl ⟨hw, v, hv, fun t ht => (hd t ht).trans (hdd t ht)⟩
  · exact .inr ⟨hw, fun t ht => (hd t ht).trans (hdd t ht)⟩
theorem cnt_succ {i : Nat} {o : Oper} (h : ops[i]? = some o) : cntE C ops (i + 1) = cntE C ops i + (if effB C o = true then 1 else 0) := by
  have hl : i < ops.toList.length := by simpa using (Array.getElem?_eq_some_iff.1 h).1
  have ho : ops.toList[i] = o := by
    have := (Array.getElem?_eq_some_iff.1 h).2
    simpa using this
  unfold cntE
  rw [List.take_succ_eq_append_getElem hl, ho, List.filter_append, List.length_append]
  cases hq : effB C o <;> simp [hq]
theorem cnt_mono {i j : Nat} (h : i ≤ j) : cntE C ops i ≤ cntE C ops j := by
  unfold cntE
  have : ops.toList.take i = (ops.toList.take j).take i := by rw [List.take_take, Nat.min_eq_left h]
  rw [this]
  exact ((List.take_sublist _ _).filter _).length_le
theorem cnt_prev : ∀ (i : Nat), i ≤ ops.size → 0 < cntE C ops i → ∃ (j : Nat) (o : Oper), j < i ∧ ops[j]? = some o ∧ effB C o = true ∧ cntE C ops j + 1 = cntE C ops i
  | 0, _, h => by simp [cntE] at h
  | i + 1, hi, h => by
    have ho : ops[i]? = some ops[i] := Array.getElem?_eq_getElem (by omega)
    have hs := cnt_succ (C := C) ho
    cases hq : effB C ops[i] with
    | true =>
      rw [hq, if_pos rfl] at hs
      exact ⟨i, ops[i], by omega, ho, hq, hs.symm⟩
    | false =>
      rw [hq] at hs
      simp at hs
      obtain ⟨j, o, h1, h2, h3, h4⟩ := cnt_prev i (by omega) (by omega)
      exact ⟨j, o, by omega, h2, h3, by omega⟩
/-- What the evaluation says of each that may do something. -/
def EffOK (C : Cfg) (call : Call) (lim d : Nat) (ops : Array Oper) (S : Nat → Sto) (a1 : Nat → MV) (j : Nat) (o : Oper) : Prop :=
  ∃ a : Nat → MV, (∀ t ∈ o.looksAt ops, a t = a1 t) ∧
    ((want ops a o = some true ∧ ∃ v, evOp C call lim d a o (S (cntE C ops j)) = some (v, S (cntE C ops j + 1)) ∧ ∀ t, o.dst = some t → a1 t = v) ∨
     (want ops a o = some false ∧ S (cntE C ops j + 1) = S (cntE C ops j) ∧ ∀ t, o.dst = some t → a1 t = .undef))
/-- None of those that do something, from a place on, ahead of a stage, waits for it. -/
def Late (C : Cfg) (ops : Array Oper) (i s j : Nat) : Prop := ∀ (j' : Nat) (o' : Oper), i ≤ j' → ops[j']? = some o' → effB C o' = true → cntE C ops j' < s → waitsOn o' j = false
theorem evV_spec {call : Call} (hf : Free ops ops.size) : ∀ (l : List Oper) (i : Nat) (sf : List Nat) (a a1 : Nat → MV) (σ σe : Sto), ops.toList.drop i = l → i ≤ ops.size → evOpsV C call lim d ops l i sf a σ = some (a1, σe) →
    (∀ j ∈ sf, j < i ∧ ∃ o, ops[j]? = some o ∧ ToldN C call d ops σ a o) →
    ∃ S : Nat → Sto, S (cntE C ops i) = σ ∧ S (cntE C ops ops.size) = σe ∧ (∀ t, (∀ (j : Nat) (o : Oper), i ≤ j → ops[j]? = some o → o.dst ≠ some t) → a1 t = a t) ∧
      (∀ (j : Nat) (o : Oper), i ≤ j → ops[j]? = some o → effB C o = true → EffOK C call lim d ops S a1 j o) ∧
      (∀ (j : Nat) (o : Oper), i ≤ j → ops[j]? = some o → effB C o = false → ∀ s, cntE C ops i ≤ s → (seesB o = true → cntE C ops j ≤ s) → s ≤ cntE C ops ops.size → Late C ops (j + 1) s j → ToldN C call d ops (S s) a1 o) ∧
      (∀ j ∈ sf, ∀ o, ops[j]? = some o → ∀ s, cntE C ops i ≤ s → s ≤ cntE C ops ops.size → Late C ops i s j → ToldN C call d ops (S s) a1 o)
  | [], i, sf, a, a1, σ, σe, hl, hi, he, hsf => by
    cases he
    have hn : ops.size ≤ i := by
      have := congrArg List.length hl
      simp at this
      omega
    have hin : i = ops.size := by omega
    subst hin
    refine ⟨fun _ => σ, rfl, rfl, fun _ _ => rfl, fun j o hj ho => ?_, fun j o hj ho => ?_, fun j hj o ho s _ _ _ => ?_⟩
    · have := (Array.getElem?_eq_some_iff.1 ho).1; omega
    · have := (Array.getElem?_eq_some_iff.1 ho).1; omega
    · obtain ⟨_, o', ho', h⟩ := hsf j hj
      rw [ho] at ho'
      cases ho'
      exact h
  | o :: l, i, sf, a, a1, σ, σe, hl, hi, he, hsf => by
    have hil : i < ops.size := by
      have := congrArg List.length hl
      simp at this
      omega
    have ho : ops[i]? = some o := by
      have : (ops.toList.drop i)[0]? = some o := by rw [hl]; rfl
      simpa using this
    have hl' : ops.toList.drop (i + 1) = l := by
      rw [← List.tail_drop, hl]; rfl
    have hcs := cnt_succ (C := C) ho
    -- what those ahead look at, and tell into, stays
    have hlk : ∀ (j : Nat) (x : Oper) (v : MV), j ≤ i → ops[j]? = some x → ∀ t ∈ x.looksAt ops, putD a o.dst v t = a t := fun j x v hj hx t ht => putD_ne fun e => by
      have := (hf.look j i x o t (by omega) hil hx ho e ht).1
      omega
    have hds : ∀ (j : Nat) (x : Oper) (v : MV), j < i → ops[j]? = some x → ∀ t, x.dst = some t → putD a o.dst v t = a t := fun j x v hj hx t ht => putD_ne fun e => hf.uniq j i x o t (by omega) hil (by omega) hx ho ht e
    have key : ∀ (v : MV) (sf' : List Nat) (σ' : Sto), evOpsV C call lim d ops l (i + 1) sf' (putD a o.dst v) σ' = some (a1, σe) →
        ((effB C o = true ∧ (sf' = sf.filter fun j => !waitsOn o j) ∧ ((want ops a o = some true ∧ evOp C call lim d a o σ = some (v, σ') ∧ (∀ j ∈ sf', chkI C call d ops σ' (putD a o.dst v) j = true)) ∨ (want ops a o = some false ∧ σ' = σ ∧ v = .undef))) ∨
         (effB C o = false ∧ σ' = σ ∧ ((want ops a o = some true ∧ evFree C call d a o σ = some v ∧ sf' = if seesB o = true then i :: sf else sf) ∨ (want ops a o = some false ∧ v = .undef ∧ sf' = sf)))) →
        ∃ S : Nat → Sto, S (cntE C ops i) = σ ∧ S (cntE C ops ops.size) = σe ∧ (∀ t, (∀ (j : Nat) (o : Oper), i ≤ j → ops[j]? = some o → o.dst ≠ some t) → a1 t = a t) ∧
          (∀ (j : Nat) (o : Oper), i ≤ j → ops[j]? = some o → effB C o = true → EffOK C call lim d ops S a1 j o) ∧
          (∀ (j : Nat) (o : Oper), i ≤ j → ops[j]? = some o → effB C o = false → ∀ s, cntE C ops i ≤ s → (seesB o = true → cntE C ops j ≤ s) → s ≤ cntE C ops ops.size → Late C ops (j + 1) s j → ToldN C call d ops (S s) a1 o) ∧
          (∀ j ∈ sf, ∀ o, ops[j]? = some o → ∀ s, cntE C ops i ≤ s → s ≤ cntE C ops ops.size → Late C ops i s j → ToldN C call d ops (S s) a1 o) := fun v sf' σ' he hw => by
      have told_o : effB C o = false → ToldN C call d ops σ (putD a o.dst v) o := fun hf0 => by
        have hd0 : ∀ t, o.dst = some t → putD a o.dst v t = v := fun t ht => by rw [ht]; exact upd_same _ _ _
        refine ⟨a, fun t ht => (hlk i o v (Nat.le_refl _) ho t ht).symm, ?_⟩
        rcases hw with ⟨hh, _⟩ | ⟨_, _, ⟨hw, hv, _⟩ | ⟨hw, rfl, _⟩⟩
        · rw [hf0] at hh; cases hh
        · exact .inl ⟨hw, v, hv, hd0⟩
        · exact .inr ⟨hw, hd0⟩
      have hsf' : ∀ j ∈ sf', j < i + 1 ∧ ∃ x, ops[j]? = some x ∧ ToldN C call d ops σ' (putD a o.dst v) x := fun j hj => by
        have old : j ∈ sf → j < i ∧ ∃ x, ops[j]? = some x ∧ ToldN C call d ops σ (putD a o.dst v) x := fun hjs => by
          obtain ⟨h1, x, h2, h3⟩ := hsf j hjs
          exact ⟨h1, x, h2, told_env (hlk j x v (by omega) h2) (hds j x v h1 h2) h3⟩
        rcases hw with ⟨hh, rfl, ⟨_, _, hck⟩ | ⟨_, rfl, _⟩⟩ | ⟨hh, rfl, ⟨_, _, rfl⟩ | ⟨_, _, rfl⟩⟩
        · obtain ⟨h1, x, h2, h3⟩ := old (List.mem_filter.1 hj).1
          refine ⟨by omega, x, h2, told_chk h3 ?_⟩
          have := hck j hj
          unfold chkI at this
          rw [h2] at this
          exact this
        · obtain ⟨h1, x, h2, h3⟩ := old (List.mem_filter.1 hj).1
          exact ⟨by omega, x, h2, h3⟩
        · have hj' : j = i ∨ j ∈ sf := by
            split at hj
            · exact List.mem_cons.1 hj
            · exact .inr hj
          rcases hj' with rfl | hj'
          · exact ⟨by omega, o, ho, told_o hh⟩
          · obtain ⟨h1, x, h2, h3⟩ := old hj'
            exact ⟨by omega, x, h2, h3⟩
        · obtain ⟨h1, x, h2, h3⟩ := old hj
          exact ⟨by omega, x, h2, h3⟩
      obtain ⟨S', s1, s2, s3, s4, s5, s6⟩ := evV_spec hf l (i + 1) sf' (putD a o.dst v) a1 σ' σe hl' (by omega) he hsf'
      have hlk1 : ∀ (j : Nat) (x : Oper), j ≤ i → ops[j]? = some x → ∀ t ∈ x.looksAt ops, a1 t = a t := fun j x hj hx t ht => by
        rw [s3 t fun j2 y hj2 hy e => by
          have := (hf.look j j2 x y t (by omega) (Array.getElem?_eq_some_iff.1 hy).1 hx hy e ht).1
          omega]
        exact hlk j x v hj hx t ht
      have hds1 : ∀ (j : Nat) (x : Oper), j < i → ops[j]? = some x → ∀ t, x.dst = some t → a1 t = a t := fun j x hj hx t ht => by
        rw [s3 t fun j2 y hj2 hy e => hf.uniq j j2 x y t (by omega) (Array.getElem?_eq_some_iff.1 hy).1 (by omega) hx hy ht e]
        exact hds j x v hj hx t ht
      have hdo : ∀ t, o.dst = some t → a1 t = v := fun t ht => by
        rw [s3 t fun j2 y hj2 hy e => hf.uniq i j2 o y t hil (Array.getElem?_eq_some_iff.1 hy).1 (by omega) ho hy ht e, ht]
        exact upd_same _ _ _
      have hkeep : ∀ t, (∀ (j : Nat) (o : Oper), i ≤ j → ops[j]? = some o → o.dst ≠ some t) → a1 t = a t := fun t ht => by
        rw [s3 t fun j x hj hx => ht j x (by omega) hx]
        exact putD_ne (ht i o (Nat.le_refl _) ho)
      have hm1 : cntE C ops (i + 1) ≤ cntE C ops ops.size := cnt_mono (by omega)
      cases hh : effB C o with
      | true =>
        have hc1 : cntE C ops (i + 1) = cntE C ops i + 1 := by rw [hcs, hh]; rfl
        have hS : ∀ k, k ≠ cntE C ops i → (if k = cntE C ops i then σ else S' k) = S' k := fun k hk => if_neg hk
        obtain ⟨hsfe, hcase⟩ : (sf' = sf.filter fun j => !waitsOn o j) ∧ ((want ops a o = some true ∧ evOp C call lim d a o σ = some (v, σ')) ∨ (want ops a o = some false ∧ σ' = σ ∧ v = .undef)) := by
          rcases hw with ⟨_, e, ⟨h1, h2, _⟩ | h⟩ | ⟨h, _⟩
          · exact ⟨e, .inl ⟨h1, h2⟩⟩
          · exact ⟨e, .inr h⟩
          · rw [hh] at h; cases h
        refine ⟨fun k => if k = cntE C ops i then σ else S' k, if_pos rfl, (hS _ (by omega)).trans s2, hkeep, fun j x hj hx hxe => ?_, fun j x hj hx hxe s hs1 hs2 hs3 hlt => ?_, fun j hj x hx s hs1 hs3 hlt => ?_⟩
        · by_cases hji : j = i
          · subst hji
            rw [ho] at hx
            cases hx
            refine ⟨a, fun t ht => (hlk1 j o (Nat.le_refl _) ho t ht).symm, ?_⟩
            have e1 : (if cntE C ops j + 1 = cntE C ops j then σ else S' (cntE C ops j + 1)) = σ' := by rw [hS _ (by omega), ← hc1]; exact s1
            rcases hcase with ⟨h1, h2⟩ | ⟨h1, h2, h3⟩
            · refine .inl ⟨h1, v, ?_, hdo⟩
              simp only [if_true]
              rw [e1]
              exact h2
            · refine .inr ⟨h1, ?_, fun t ht => (hdo t ht).trans h3⟩
              simp only [if_true]
              rw [e1]
              exact h2
          · have hge : cntE C ops (i + 1) ≤ cntE C ops j := cnt_mono (by omega)
            obtain ⟨a', q1, q2⟩ := s4 j x (by omega) hx hxe
            refine ⟨a', q1, ?_⟩
            simp only
            rw [hS _ (by omega), hS _ (by omega)]
            exact q2
        · have hji : j ≠ i := by rintro rfl; rw [ho] at hx; cases hx; rw [hh] at hxe; cases hxe
          have hge : cntE C ops (i + 1) ≤ cntE C ops j := cnt_mono (by omega)
          by_cases hsc : s = cntE C ops i
          · have hns : seesB x = false := by
              cases hq : seesB x with
              | false => rfl
              | true => have := hs2 hq; omega
            have := s5 j x (by omega) hx hxe (cntE C ops (i + 1)) (Nat.le_refl _) (fun q => by rw [hns] at q; cases q) hm1 fun j' o' h1 h2 h3 h4 => by
              have : cntE C ops (i + 1) ≤ cntE C ops j' := cnt_mono (by omega)
              omega
            exact told_any hns this
          · simp only
            rw [hS s hsc]
            exact s5 j x (by omega) hx hxe s (by omega) hs2 hs3 hlt
        · obtain ⟨hji, x', hx', hto⟩ := hsf j hj
          rw [hx] at hx'
          cases hx'
          by_cases hsc : s = cntE C ops i
          · simp only
            rw [if_pos hsc]
            exact told_env (hlk1 j x (by omega) hx) (hds1 j x hji hx) hto
          · simp only
            rw [hS s hsc]
            have hwt := hlt i o (Nat.le_refl _) ho hh (by omega)
            exact s6 j (by rw [hsfe]; exact List.mem_filter.2 ⟨hj, by rw [hwt]; rfl⟩) x hx s (by omega) hs3 fun j' o' h1 h2 h3 h4 => hlt j' o' (by omega) h2 h3 h4
      | false =>
        have hc1 : cntE C ops (i + 1) = cntE C ops i := by rw [hcs, hh]; rfl
        obtain ⟨hσ, hcase⟩ : σ' = σ ∧ ((want ops a o = some true ∧ sf' = if seesB o = true then i :: sf else sf) ∨ (want ops a o = some false ∧ v = .undef ∧ sf' = sf)) := by
          rcases hw with ⟨h, _⟩ | ⟨_, e, ⟨h1, _, h2⟩ | h⟩
          · rw [hh] at h; cases h
          · exact ⟨e, .inl ⟨h1, h2⟩⟩
          · exact ⟨e, .inr h⟩
        have hsub : ∀ j ∈ sf, j ∈ sf' := fun j hj => by
          rcases hcase with ⟨_, rfl⟩ | ⟨_, _, rfl⟩
          · split
            · exact List.mem_cons_of_mem _ hj
            · exact hj
          · exact hj
        have ht1 : ToldN C call d ops σ a1 o := told_env (fun t ht => by rw [hlk1 i o (Nat.le_refl _) ho t ht, hlk i o v (Nat.le_refl _) ho t ht]) (fun t ht => by rw [hdo t ht, ht]; exact (upd_same _ _ _).symm) (told_o hh)
        refine ⟨S', by rw [← hc1, s1, hσ], s2, hkeep, fun j x hj hx hxe => ?_, fun j x hj hx hxe s hs1 hs2 hs3 hlt => ?_, fun j hj x hx s hs1 hs3 hlt => ?_⟩
        · have hji : j ≠ i := by rintro rfl; rw [ho] at hx; cases hx; rw [hh] at hxe; cases hxe
          exact s4 j x (by omega) hx hxe
        · by_cases hji : j = i
          · subst hji
            rw [ho] at hx
            cases hx
            cases hq : seesB o with
            | false => exact told_any hq ht1
            | true =>
              rcases hcase with ⟨_, rfl⟩ | ⟨h1, h2, _⟩
              · exact s6 j (by rw [if_pos hq]; exact List.mem_cons_self ..) o ho s (by omega) hs3 hlt
              · exact ⟨a, fun t ht => (hlk1 j o (Nat.le_refl _) ho t ht).symm, .inr ⟨h1, fun t ht => (hdo t ht).trans h2⟩⟩
          · exact s5 j x (by omega) hx hxe s (by omega) hs2 hs3 hlt
        · exact s6 j (hsub j hj) x hx s (by omega) hs3 fun j' o' h1 h2 h3 h4 => hlt j' o' (by omega) h2 h3 h4
    simp only [evOpsV] at he
    split at he
    · rename_i hw
      split at he
      · rename_i hh
        obtain ⟨x, hx, he⟩ := Option.bind_eq_some_iff.1 he
        split at he
        · rename_i hk
          exact key _ _ _ he (.inl ⟨hh, rfl, .inl ⟨hw, hx, fun j hj => List.all_eq_true.1 hk j hj⟩⟩)
        · cases he
      · rename_i hh
        obtain ⟨v, hv, he⟩ := Option.bind_eq_some_iff.1 he
        exact key _ _ _ he (.inr ⟨by simpa using hh, rfl, .inl ⟨hw, hv, rfl⟩⟩)
    · rename_i hw
      split at he
      · rename_i hh
        exact key _ _ _ he (.inl ⟨hh, rfl, .inr ⟨hw, rfl, rfl⟩⟩)
      · rename_i hh
        exact key _ _ _ he (.inr ⟨by simpa using hh, rfl, .inr ⟨hw, rfl, rfl⟩⟩)
    · cases he
/-- While the region goes on. -/
structure DV (w0 : World) (K : Kp) (N d : Nat) (C : Cfg) (ops : Array Oper) (w1 : World) (g1 : Gh) (s0 : Sto) (S : Nat → Sto) (a a1 : Nat → MV) (m : Nat) (L : Array Bool) (act : Act) (w : World) : Prop where
  size : L.size = ops.size
  closed : ∀ j oj, ops[j]? = some oj → L.getD j false = true → ∀ e ∈ oj.after, Region.binds .any e = true → L.getD e.on false = true
  st : ∀ (j : Nat) (o : Oper), ops[j]? = some o → effB C o = true → (L.getD j false = true ↔ cntE C ops j < m)
  le : m ≤ cntE C ops ops.size
  sz : N ≤ act.tmps.size
  df : act.defers = []
  un : (S m).Und (d + 1)
  ex : ∃ g : Gh, St w0 K w g (S m) ∧ Ev w1 g1 s0 w g (S m) ∧
    (∀ t, (∀ (j : Nat) (o : Oper), ops[j]? = some o → o.dst ≠ some t) → VR w g (S m) (a t) (act.tmps.getD t undef)) ∧
    (∀ (j : Nat) (o : Oper) (t : Tmp), ops[j]? = some o → o.dst = some t → L.getD j false = true → VR w g (S m) (a1 t) (act.tmps.getD t undef))
theorem okHot_spec (h : okHot C ops = true) : Free ops ops.size ∧ (∀ (j : Nat) (x : Oper), ops[j]? = some x → isNew x = false) ∧
    (∀ (i : Nat) (x : Oper), ops[i]? = some x → (effB C x = true ∨ seesB x = true) → ∀ (j : Nat) (y : Oper), j < i → ops[j]? = some y → effB C y = true → cntE C ops j + 1 = cntE C ops i → waitsOn x j = true) := by
  simp only [okHot, Bool.and_eq_true] at h
  obtain ⟨⟨h1, h2⟩, h3⟩ := h
  refine ⟨okFree_spec h1, fun j x hx => ?_, fun i x hx hxe j y hj hy hye hc => ?_⟩
  · have := List.all_eq_true.1 h2 x (Array.mem_toList_iff.2 (Array.mem_of_getElem? hx))
    simpa using this
  · have hi := (Array.getElem?_eq_some_iff.1 hx).1
    have := List.all_eq_true.1 h3 i (List.mem_range.2 hi)
    have hxe' : (effB C x || seesB x) = true := by simpa using hxe
    simp only [hx, hxe', Bool.not_true, Bool.false_or] at this
    have := List.all_eq_true.1 this j (List.mem_range.2 hj)
    simp only [hy, hye, Bool.not_true, Bool.false_or, Bool.or_eq_true, decide_eq_true_eq] at this
    exact this.resolve_right (fun q => q hc)
theorem waits_done {o : Oper} {j : Nat} {L : Array Bool} (h : waitsOn o j = true) (hall : ∀ e ∈ o.after, Region.binds .any e = true → L.getD e.on false = true) : L.getD j false = true := by
  obtain ⟨e, he, hb⟩ := Array.any_eq_true'.1 h
  simp only [Bool.and_eq_true, beq_iff_eq] at hb
  have := hall e he hb.1
  rwa [hb.2] at this
set_option maxHeartbeats 1000000 in
theorem DV.step (hC : C.OK) (hKO : C.KO K) {call : Call} (hc : CallOK C call) (hk : Keeps call) (hok : okHot C ops = true) (hdst : ∀ o ∈ ops, ∀ t, o.dst = some t → t < N) {S : Nat → Sto}
    (h1 : ∀ t, (∀ (j : Nat) (o : Oper), ops[j]? = some o → o.dst ≠ some t) → a1 t = a t)
    (hE : ∀ (j : Nat) (o : Oper), ops[j]? = some o → effB C o = true → EffOK C call lim d ops S a1 j o)
    (hF : ∀ (j : Nat) (o : Oper), ops[j]? = some o → effB C o = false → ∀ s, (seesB o = true → cntE C ops j ≤ s) → s ≤ cntE C ops ops.size → Late C ops (j + 1) s j → ToldN C call d ops (S s) a1 o)
    {L : Array Bool} (hI : DV w0 K N d C ops w1 g1 s0 S a a1 m L act w) {i : Nat} (hi : i ∈ Region.ready .any ops L) {next : Act → World → Prop}
    (hnext : ∀ m' act' w', DV w0 K N d C ops w1 g1 s0 S a a1 m' (L.setIfInBounds i true) act' w' → next act' w') : wpOp C.P ops Q i next act w := by
  obtain ⟨hf, hnn, hwt⟩ := okHot_spec hok
  obtain ⟨size, closed, st, le, sz, df, un, g, hS, hEv, hA, hB⟩ := hI
  obtain ⟨hunl, o, ho, hall⟩ := mem_ready.1 hi
  have hil : i < L.size := by rw [size]; exact (Array.getElem?_eq_some_iff.1 ho).1
  have hin : i < ops.size := by omega
  have hunl' := getD_both hunl
  have hdo := hdst o (Array.mem_of_getElem? ho)
  have hset : ∀ j, j ≠ i → (L.setIfInBounds i true).getD j false = L.getD j false := fun j hj => getD_set_ne false (Ne.symm hj)
  have closed' := closed_set closed hi
  have size' : (L.setIfInBounds i true).size = ops.size := by simp [size]
  have hlook : ∀ t ∈ o.looksAt ops, VR w g (S m) (a1 t) (act.tmps.getD t undef) := fun t htl => by
    by_cases hex : ∃ (j : Nat) (y : Oper), ops[j]? = some y ∧ y.dst = some t
    · obtain ⟨j, y, hy, hyt⟩ := hex
      obtain ⟨_, _, x, hx, hb, hon⟩ := hf.look i j o y t hin (Array.getElem?_eq_some_iff.1 hy).1 ho hy hyt htl
      exact hB j y t hy hyt (by have := hall x hx hb; rwa [hon] at this)
    · have hno : ∀ (j : Nat) (o : Oper), ops[j]? = some o → o.dst ≠ some t := fun j y hy hyt => hex ⟨j, y, hy, hyt⟩
      rw [h1 t hno]
      exact hA t hno
  have hput : ∀ (u : Value) (t : Nat), o.dst ≠ some t → (act.put o.dst u).tmps.getD t undef = act.tmps.getD t undef := fun u t hne => by
    cases hod : o.dst with
    | none => rfl
    | some t0 => exact put_ne (by rintro rfl; exact hne hod)
  have hputs : ∀ (u : Value) (t : Nat), o.dst = some t → (act.put o.dst u).tmps.getD t undef = u := fun u t he => by
    rw [he]; exact put_same (Nat.lt_of_lt_of_le (hdo t he) sz)
  have hgo : ∀ (m' : Nat) (u : Value) (v : MV) (w' : World) (g' : Gh), m' ≤ cntE C ops ops.size → (∀ (j : Nat) (x : Oper), ops[j]? = some x → effB C x = true → ((L.setIfInBounds i true).getD j false = true ↔ cntE C ops j < m')) →
      (∀ t, o.dst = some t → a1 t = v) → VR w' g' (S m') v u → St w0 K w' g' (S m') → Ev w g (S m) w' g' (S m') → (S m').Und (d + 1) → next (act.put o.dst u) w' := fun m' u v w' g' q1 q2 hv k1 k2 k3 k4 => by
    refine hnext m' _ _ ⟨size', closed', q2, q1, by rw [put_size]; exact sz, by rw [put_df]; exact df, k4, g', k2, hEv.trans k3, fun t htt => ?_, fun j y t hy hyt hl => ?_⟩
    · rw [hput u t (htt i o ho)]
      exact (hA t htt).ev k3
    · by_cases hji : j = i
      · subst hji
        rw [ho] at hy
        cases hy
        rw [hputs u t hyt, hv t hyt]
        exact k1
      · rw [hput u t (hf.uniq j i y o t (Array.getElem?_eq_some_iff.1 hy).1 hin hji hy ho hyt)]
        rw [hset j hji] at hl
        exact (hB j y t hy hyt hl).ev k3
  have hx : ∀ (a' : Nat → MV), (∀ t ∈ o.looksAt ops, a' t = a1 t) → ∀ x ∈ o.op.operands, VR w g (S m) (valO a' x) (act.eval x) := fun a' ha' x hxo => valR x fun t e => by
    subst e
    have htl : t ∈ o.looksAt ops := List.mem_append_left _ (List.mem_filterMap.2 ⟨.tmp t, by simpa using hxo, rfl⟩)
    rw [ha' t htl]
    exact hlook t htl
  have hwant : ∀ (a' : Nat → MV), (∀ t ∈ o.looksAt ops, a' t = a1 t) → ∀ b, want ops a' o = some b → Region.wanted o (yielded ops act.tmps) = b := fun a' ha' b hb => wantR (fun j v t hg hj => by
    have htl : t ∈ o.looksAt ops := List.mem_append_right _ (by simp [hg, hj])
    rw [ha' t htl]
    exact hlook t htl) hb
  -- the stage
  have hstage : (effB C o = true ∨ seesB o = true) → cntE C ops i ≤ m := fun hq => by
    rcases Nat.eq_zero_or_pos (cntE C ops i) with h0 | h0
    · omega
    · obtain ⟨j, y, hj, hy, hye, hcj⟩ := cnt_prev (C := C) i (by omega) h0
      have := (st j y hy hye).1 (waits_done (hwt i o ho hq j y hj hy hye hcj) hall)
      omega
  unfold wpOp
  simp only [ho]
  cases hh : effB C o with
  | true =>
    have hm : m = cntE C ops i := by
      have h2 : ¬ cntE C ops i < m := fun q => by rw [(st i o ho hh).2 q] at hunl'; cases hunl'
      have := hstage (.inl hh)
      omega
    have hle : m + 1 ≤ cntE C ops ops.size := by
      have := cnt_succ (C := C) ho
      rw [hh, if_pos rfl] at this
      have h3 : cntE C ops (i + 1) ≤ cntE C ops ops.size := cnt_mono (by omega)
      omega
    have st' : ∀ (j : Nat) (x : Oper), ops[j]? = some x → effB C x = true → ((L.setIfInBounds i true).getD j false = true ↔ cntE C ops j < m + 1) := fun j x hx hxe => by
      by_cases hji : j = i
      · subst hji
        rw [getD_set_self hil]
        simp [hm]
      · rw [hset j hji, st j x hx hxe]
        have hne : cntE C ops j ≠ m := fun q => by
          rw [hm] at q
          rcases Nat.lt_or_ge j i with hlt | hge
          · have := cnt_succ (C := C) hx
            rw [hxe, if_pos rfl] at this
            have h3 : cntE C ops (j + 1) ≤ cntE C ops i := cnt_mono (by omega)
            omega
          · have := cnt_succ (C := C) ho
            rw [hh, if_pos rfl] at this
            have h3 : cntE C ops (i + 1) ≤ cntE C ops j := cnt_mono (by omega)
            omega
        omega
    obtain ⟨a', ha', hcase⟩ := hE i o ho hh
    rw [← hm] at hcase
    rcases hcase with ⟨hw, v, hv, hvd⟩ | ⟨hw, hs, hvd⟩
    · rw [hwant a' ha' _ hw]
      simp only [if_true]
      left
      refine opSound hC hKO hc hS un (hx a' ha') hv fun u w' hmk => ?_
      obtain ⟨g', k1, k2, k3, k4⟩ := hmk
      exact hgo (m + 1) u v w' g' hle st' hvd k1 k2 k3 k4
    · rw [hwant a' ha' _ hw]
      simp only [Bool.false_eq_true, if_false]
      exact hgo (m + 1) _ .undef w g hle st' hvd .undef (by rw [hs]; exact hS) (by rw [hs]; exact .refl _ _ _) (by rw [hs]; exact un)
  | false =>
    have st' : ∀ (j : Nat) (x : Oper), ops[j]? = some x → effB C x = true → ((L.setIfInBounds i true).getD j false = true ↔ cntE C ops j < m) := fun j x hx hxe => by
      have hji : j ≠ i := by rintro rfl; rw [ho] at hx; cases hx; rw [hh] at hxe; cases hxe
      rw [hset j hji]
      exact st j x hx hxe
    have hlate : Late C ops (i + 1) m i := fun j' o' q1 q2 q3 q4 => by
      cases hq : waitsOn o' i with
      | false => rfl
      | true =>
        have hd := (st j' o' q2 q3).2 q4
        have := waits_done hq (closed j' o' q2 hd)
        rw [hunl'] at this
        cases this
    obtain ⟨a', ha', hcase⟩ := hF i o ho hh m (fun q => hstage (.inr q)) le hlate
    rcases hcase with ⟨hw, v, hv, hvd⟩ | ⟨hw, hvd⟩
    · rw [hwant a' ha' _ hw]
      simp only [if_true]
      left
      refine freeSound hC hKO hc hk hS un (hx a' ha') hv fun u w' g' k1 k2 k3 => ?_
      exact hgo m u v w' g' le st' hvd k1 k2 k3 un
    · rw [hwant a' ha' _ hw]
      simp only [Bool.false_eq_true, if_false]
      exact hgo m _ .undef w g le st' hvd .undef hS (.refl _ _ _) un
theorem DV.go (hC : C.OK) (hKO : C.KO K) {call : Call} (hc : CallOK C call) (hk : Keeps call) (hok : okHot C ops = true) (hdst : ∀ o ∈ ops, ∀ t, o.dst = some t → t < N) {S : Nat → Sto}
    (h1 : ∀ t, (∀ (j : Nat) (o : Oper), ops[j]? = some o → o.dst ≠ some t) → a1 t = a t)
    (hE : ∀ (j : Nat) (o : Oper), ops[j]? = some o → effB C o = true → EffOK C call lim d ops S a1 j o)
    (hF : ∀ (j : Nat) (o : Oper), ops[j]? = some o → effB C o = false → ∀ s, (seesB o = true → cntE C ops j ≤ s) → s ≤ cntE C ops ops.size → Late C ops (j + 1) s j → ToldN C call d ops (S s) a1 o)
    (hq : ∀ act' w', Res w0 K N d w1 g1 s0 a1 (S (cntE C ops ops.size)) act' w' → Q .normal act' w') :
    ∀ (f : Nat) (m : Nat) (L : Array Bool) (act : Act) (w : World), (undone ops.size L).length = f → DV w0 K N d C ops w1 g1 s0 S a a1 m L act w → wpAny C.P .any ops Q f L act w
  | 0, m, L, act, w, hl, hI => by
    have hall : ∀ i, i < ops.size → L.getD i false = true := fun i hi => by
      have : undone ops.size L = [] := List.eq_nil_of_length_eq_zero hl
      cases hq : L.getD i false with
      | true => rfl
      | false =>
        have : i ∈ undone ops.size L := List.mem_filter.2 ⟨List.mem_range.2 hi, by simp only [hq]; rfl⟩
        simp_all
    have hm : m = cntE C ops ops.size := by
      have h2 := hI.le
      rcases Nat.lt_or_ge m (cntE C ops ops.size) with h3 | h3
      · exfalso
        have : ∀ (i : Nat), i ≤ ops.size → cntE C ops i ≤ m := by
          intro i
          induction i with
          | zero => intro _; simp [cntE]
          | succ i ih =>
            intro hi
            have ho : ops[i]? = some ops[i] := Array.getElem?_eq_getElem (by omega)
            have hs := cnt_succ (C := C) ho
            have := ih (by omega)
            cases hq : effB C ops[i] with
            | true =>
              rw [hq, if_pos rfl] at hs
              have := (hI.st i _ ho hq).1 (hall i (by omega))
              omega
            | false =>
              rw [hq] at hs
              simp at hs
              omega
        have := this ops.size (Nat.le_refl _)
        omega
      · omega
    obtain ⟨g, hS, hEv, hA, hB⟩ := hI.ex
    have hun := hI.un
    rw [hm] at hS hEv hA hB hun
    refine ⟨?_, hq act w ⟨g, ⟨hI.sz, fun t => ?_, hI.df⟩, hS, hEv, hun⟩⟩
    · cases hr : Region.ready .any ops L with
      | nil => rfl
      | cons i l =>
        have hi : i ∈ Region.ready .any ops L := by rw [hr]; exact List.mem_cons_self ..
        obtain ⟨h1, o, ho, _⟩ := mem_ready.1 hi
        have := hall i (Array.getElem?_eq_some_iff.1 ho).1
        rw [getD_both h1] at this
        cases this
    · by_cases hex : ∃ (j : Nat) (y : Oper), ops[j]? = some y ∧ y.dst = some t
      · obtain ⟨j, y, hy, hyt⟩ := hex
        exact hB j y t hy hyt (hall j (Array.getElem?_eq_some_iff.1 hy).1)
      · have hno : ∀ (j : Nat) (o : Oper), ops[j]? = some o → o.dst ≠ some t := fun j y hy hyt => hex ⟨j, y, hy, hyt⟩
        rw [h1 t hno]
        exact hA t hno
  | f + 1, m, L, act, w, hl, hI => by
    have hsz := hI.size
    have hf := (okHot_spec hok).1
    have hex : ∃ i, i < ops.size ∧ L.getD i false = false := by
      have : undone ops.size L ≠ [] := by intro e; rw [e] at hl; cases hl
      obtain ⟨i, hi⟩ := List.exists_mem_of_ne_nil _ this
      obtain ⟨h1, h2⟩ := List.mem_filter.1 hi
      exact ⟨i, List.mem_range.1 h1, by simpa using h2⟩
    obtain ⟨i0, hi0⟩ := hex
    obtain ⟨i, ⟨hi, hiu⟩, hil⟩ := least (p := fun i => i < ops.size ∧ L.getD i false = false) i0 hi0
    have hir : i ∈ Region.ready .any ops L := by
      refine mem_ready.2 ⟨getD_in (by omega) hiu, ops[i], Array.getElem?_eq_getElem hi, fun e he hb => ?_⟩
      have : e.on < i := hf.low i ops[i] hi (Array.getElem?_eq_getElem hi) e he hb
      cases hq : L.getD e.on false with
      | true => rfl
      | false => exact absurd ⟨by omega, hq⟩ (hil e.on this)
    refine ⟨fun h => (by rw [h] at hir; cases hir), fun j hj => ?_⟩
    obtain ⟨hju, o, ho, hall⟩ := mem_ready.1 hj
    have hjs : j < ops.size := (Array.getElem?_eq_some_iff.1 ho).1
    have hcnt := undone_set hjs (getD_both hju) (by omega : j < L.size)
    exact hI.step hC hKO hc hk hok hdst h1 hE hF hj fun m' act' w' hI' => DV.go hC hKO hc hk hok hdst h1 hE hF hq f m' _ _ _ (by omega) hI'
theorem hotSound (hC : C.OK) (hKO : C.KO K) {call : Call} (hc : CallOK C call) (hk : Keeps call) {id : Nat} (hd : okDst N ops = true) (ho : okHot C ops = true) {r : (Nat → MV) × Sto} (he : evHot C call lim d ops a s = some r) (ha : AR N w g s a act) (h : St w0 K w g s) (hu : s.Und (d + 1))
    (hq : ∀ act' w', Res w0 K N d w g s r.1 r.2 act' w' → Q .normal act' w') : (Code.region id ops true).wp C.P Q act w := by
  have hdst : ∀ o ∈ ops, ∀ t, o.dst = some t → t < N := fun o hoo t ht => by
    have := Array.all_eq_true_iff_forall_mem.1 hd o hoo
    simpa [ht] using this
  obtain ⟨hf, hnn, hwt⟩ := okHot_spec ho
  obtain ⟨a1, σe⟩ := r
  obtain ⟨S, q1, q2, q3, q4, q5, _⟩ := evV_spec hf ops.toList 0 [] a a1 s σe rfl (Nat.zero_le _) he (by simp)
  have hc0 : cntE C ops 0 = 0 := by simp [cntE]
  rw [hc0] at q1
  obtain ⟨hS1, hE1⟩ := h.same (w' := { w with drawn := w.drawn + 1 }) rfl rfl rfl rfl
  refine wp_region_any hC.mix ?_
  have hinit : DV w0 K N d C ops { w with drawn := w.drawn + 1 } g s S a a1 0 (Array.replicate ops.size false) act { w with drawn := w.drawn + 1 } := by
    refine ⟨by simp, fun j oj _ hl => (by rw [getD_replicate_false] at hl; cases hl), fun j o _ _ => ?_, Nat.zero_le _, ha.sz, ha.df, by rw [q1]; exact hu, g, by rw [q1]; exact hS1, by rw [q1]; exact .refl _ _ _, fun t _ => by rw [q1]; exact (ha.rel t).ev hE1, fun j o t _ _ hl => (by rw [getD_replicate_false] at hl; cases hl)⟩
    rw [getD_replicate_false]
    simp
  have hcnt : (undone ops.size (Array.replicate ops.size false)).length = ops.size := by
    have : undone ops.size (Array.replicate ops.size false) = List.range ops.size := by
      unfold undone
      rw [List.filter_eq_self]
      intro i _
      rw [getD_replicate_false]
      rfl
    rw [this, List.length_range]
  exact DV.go hC hKO hc hk ho hdst (fun t ht => q3 t fun j o _ hj => ht j o hj) (fun j o hj he => q4 j o (Nat.zero_le _) hj he) (fun j o hj he s hs1 hs2 hs3 => q5 j o (Nat.zero_le _) hj he s (by omega) hs1 hs2 hs3)
    (fun act' w' hr => hq act' w' (by rw [q2] at hr; exact .after hE1 hr)) _ _ _ _ _ hcnt hinit
end
end Go.Mv
