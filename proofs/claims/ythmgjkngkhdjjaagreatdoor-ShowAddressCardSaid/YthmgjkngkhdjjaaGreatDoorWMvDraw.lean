/- The evaluator without memory: a part of its proof. The evaluator without memory: a part of its proof. The evaluator without memory: a part of its proof. -/
import Derived.Test.YthmgjkngkhdjjaaGreatDoorMvB
import Derived.LoopN
import Derived.Orders
set_option linter.unusedVariables false
set_option linter.unusedSimpArgs false
/- One operation, with its calls: what the evaluator says of it the machine does. -/
namespace Go.Mv
def Does (P : Program) (f : FuncId) (args : Array Value) (w : World) (R : Value → World → Prop) : Prop :=
 (∃ u w', (callFunc f args).run P w = .ok (.value u) w' ∧ R u w') ∨
 (∃ f' args' w', (callFunc f args).run P w = .ok (.enter f' args') w' ∧ Calls P f' args' w' fun | .returned v, w'' => R v w'' | _, _ => False)
def ArgsR (w : World) (g : Gh) (s : Sto) (ms : List MV) (vs : Array Value) : Prop := ms.length = vs.size ∧ ∀ (i : Nat) (c : MV), ms[i]? = some c → VR w g s c (vs[i]?.getD undef)
def Cfg.KO (C : Cfg) (K : Kp) : Prop := ∀ b q, C.kp b q → ∃ x, q x ∧ K.k b x
def CallOK (C : Cfg) (c : Call) : Prop := ∀ (w0 : World) (K : Kp), C.KO K → ∀ (lim d : Nat) (f : FuncId) (ms : List MV) (s : Sto) (r : MV × Sto), c lim (d + 1) f ms s = some r →
 ∀ (w : World) (g : Gh) (vs : Array Value), St w0 K w g s → s.Und (d + 1) → ArgsR w g s ms vs → Does C.P f vs w fun u w' => Mak w0 K w g s d r.1 r.2 u w'
structure Cfg.OK (C : Cfg) : Prop where
 mix : C.P.follows .mixedOrders = true
 num : ∀ (f : FuncId) (fn : Func), C.P.funcs[f]? = some fn → (fn.name == "runtime.NumGoroutine") = false
 eq : ∀ t sh, C.eqT t = some sh → EqFact C.P t sh
 prim : ∀ f p, C.prim f = some p → ∀ (w0 : World) (K : Kp), C.KO K → ∀ (lim d : Nat) (ms : List MV) (s : Sto) (r : MV × Sto), p lim (d + 1) ms s = some r → ∀ (w : World) (g : Gh) (vs : Array Value), St w0 K w g s → s.Und (d + 1) → ArgsR w g s ms vs →
  Does C.P f vs w fun u w' => Mak w0 K w g s d r.1 r.2 u w'
 keep : ∀ f p, C.prim f = some p → Keeps fun lim d _ args σ => p lim d args σ
section
variable {C : Cfg} {w0 w : World} {K : Kp} {g : Gh} {s : Sto} {lim d : Nat} {a : Nat → MV} {act : Act} {next : Act → World → Prop} {Q : Exit → Act → World → Prop}
theorem VR.argv {m : MV} {v : Value} (k : VR w g s m v) : VR w g s m.arg v := by
 cases m with
 | agg cs =>
  cases k
  rename_i vs hl hf hv
  refine .agg _ vs (by simpa using hl) (fun c hc => ?_) fun i c hc => ?_
  ·obtain ⟨c', hc', rfl⟩ := List.mem_map.1 hc
   rw [flat_era]
   exact hf c' hc'
  ·rw [List.getElem?_map] at hc
   obtain ⟨c', hc', rfl⟩ := Option.map_eq_some_iff.1 hc
   exact (hv i c' hc').era
 | _ => exact k.era
theorem Mak.of (h : St w0 K w g s) (hu : s.Und (d + 1)) {v : MV} {u : Value} (k : VR w g s v u) : Mak w0 K w g s d v s u w := ⟨g, k, h, .refl _ _ _, hu⟩
theorem wp_value {o : Oper} {x : Sem Value} {u : Value} {w' : World} (he : execOp act.eval o = (do pure (.value (← x)))) (hx : x.run C.P w = .ok u w') (hn : next (act.put o.dst u) w') : o.wp C.P act w next Q := by
 unfold Oper.wp
 rw [he]
 simp only [Sem.run_bind, hx, Result.andThen_ok, Sem.run_pure, Oper.upon_value]
 exact hn
theorem wp_does {o : Oper} {f : FuncId} {args : Array Value} {R : Value → World → Prop} (he : execOp act.eval o = callFunc f args) (hd : Does C.P f args w R) (hn : ∀ u w', R u w' → next (act.put o.dst u) w') : o.wp C.P act w next Q := by
 unfold Oper.wp
 rw [he]
 rcases hd with ⟨u, w', h1, h2⟩ | ⟨f', args', w', h1, h2⟩
 ·rw [h1, Oper.upon_value]
  exact hn u w' h2
 ·rw [h1, Oper.upon_enter]
  refine h2.mono fun e w'' he => ?_
  cases e with
  | returned v => exact hn v w'' he
  | panicked ch => exact he.elim
  | outgrown => exact he.elim
theorem ArgsR.map {α : Type} (f : α → MV) (f' : α → Value) (l : List α) (h : ∀ x ∈ l, VR w g s (f x) (f' x)) : ArgsR w g s (l.map f) (l.map f').toArray := by
 refine ⟨by simp, fun i c hc => ?_⟩
 rw [List.getElem?_map] at hc
 obtain ⟨x, hx, rfl⟩ := Option.map_eq_some_iff.1 hc
 simp [hx, h x (List.mem_of_getElem? hx)]
set_option maxHeartbeats 1000000 in
theorem opSound (hC : C.OK) (hK : C.KO K) {call : Call} (hc : CallOK C call) (h : St w0 K w g s) (hu : s.Und (d + 1)) {o : Oper} (hx : ∀ x ∈ o.op.operands, VR w g s (valO a x) (act.eval x)) {r : MV × Sto} (he : evOp C call lim d a o s = some r)
  (hn : ∀ u w', Mak w0 K w g s d r.1 r.2 u w' → next (act.put o.dst u) w') : o.wp C.P act w next Q := by
 have pure' : ∀ {x : Sem Value} {m : Option MV}, execOp act.eval o = (do pure (.value (← x))) → (m.map fun v => (v, s)) = some r → (∀ v, m = some v → Com C.P w g s x v) → o.wp C.P act w next Q := fun {x m} h1 h2 h3 => by
  obtain ⟨v, hv, rfl⟩ := Option.map_eq_some_iff.1 h2
  obtain ⟨u, hu1, hu2⟩ := h3 v hv
  exact wp_value h1 hu1 (hn u w (.of h hu hu2))
 obtain ⟨dst, op, ty, pos, aft, gd⟩ := o
 cases op <;> simp only [evOp] at he <;> try (cases he; done)
 case move x =>
  cases he
  exact wp_value (x := pure (act.eval x)) rfl rfl (hn _ _ (.of h hu (hx x (by simp [Op.operands]))))
 case assign x =>
  cases he
  exact wp_value (x := pure (act.eval x)) rfl rfl (hn _ _ (.of h hu (hx x (by simp [Op.operands]))))
 case pick c x y =>
  have h0 := hx c (by simp [Op.operands])
  cases hcv : valO a c <;> rw [hcv] at he h0 <;> try (cases he; done)
  rename_i b
  cases he
  generalize hq : act.eval c = q at h0
  cases h0
  refine wp_value (x := pure (if b then act.eval x else act.eval y)) (w' := w) (u := if b then act.eval x else act.eval y) (by simp [execOp, hq, asBool]) rfl (hn _ _ (.of h hu ?_))
  cases b
  ·exact hx y (by simp [Op.operands])
  ·exact hx x (by simp [Op.operands])
 case alloc t =>
  obtain ⟨z, hz, he⟩ := Option.bind_eq_some_iff.1 he
  obtain ⟨cs, hcs, rfl⟩ := Option.map_eq_some_iff.1 he
  unfold zer at hz
  obtain ⟨zv, hz1, rfl⟩ := Option.map_eq_some_iff.1 hz
  obtain ⟨inf, hi1, hi2⟩ := Option.bind_eq_some_iff.1 hz1
  have hcr : CR w g s cs zv.cells := (VR_ofV zv).cells hcs
  exact wp_value (x := Instr.alloc t true (.tuple #[])) rfl (by simp [Instr.alloc, zeroValue, typeInfo, hi1, hi2, newVar]; rfl) (hn _ _ (allocSound h hu _ t (locT_ok rfl hcr.1.symm) hcr))
 case box t x =>
  obtain ⟨cs, hcs, rfl⟩ := Option.map_eq_some_iff.1 he
  have hcr : CR w g s cs (act.eval x).cells := (hx x (by simp [Op.operands])).cells hcs
  exact wp_value (x := Instr.box t (act.eval x)) rfl (by simp [Instr.box, newVar]; rfl) (hn _ _ (allocSound h hu _ t dstT_ok hcr))
 case build t ps =>
  refine pure' (x := Instr.build t (ps.map fun (i, x) => (i, act.eval x))) rfl he fun v hv => ?_
  refine buildSound (by simp) (fun i p hp => ?_) hv
  rw [List.getElem?_map] at hp
  obtain ⟨q, hq, rfl⟩ := Option.map_eq_some_iff.1 hp
  have hq' : ps[i]? = some q := by simpa using hq
  refine ⟨(q.1, act.eval q.2), by simp [hq'], rfl, hx q.2 ?_⟩
  have := Array.mem_of_getElem? hq'
  simp only [Op.operands]
  simp
  exact ⟨q.1, by simpa using this⟩
 case buildSlice t n ps =>
  obtain ⟨u, w', h1, h2⟩ := bslSound (P := C.P) h hu (t := t) (n := n) (ps := ps.toList.map fun p => (p.1, valO a p.2)) (qs := ps.map fun (i, x) => (i, act.eval x)) (by simp) (fun i p hp => by
   rw [List.getElem?_map] at hp
   obtain ⟨q, hq, rfl⟩ := Option.map_eq_some_iff.1 hp
   have hq' : ps[i]? = some q := by simpa using hq
   refine ⟨(q.1, act.eval q.2), by simp [hq'], rfl, hx q.2 ?_⟩
   have := Array.mem_of_getElem? hq'
   simp only [Op.operands]
   simp
   exact ⟨q.1, by simpa using this⟩) he
  exact wp_value (x := Instr.buildSlice t n (ps.map fun (i, x) => (i, act.eval x))) (by simp only [execOp]) h1 (hn _ _ h2)
 case load t x =>
  exact pure' (x := Instr.loadAt t (act.eval x)) rfl he fun v hv => ldSound h (hx x (by simp [Op.operands])) hv
 case store t x v =>
  obtain ⟨s', hs, rfl⟩ := Option.map_eq_some_iff.1 he
  obtain ⟨w', h1, h2⟩ : ∃ w', (Instr.storeAt t (act.eval x) (act.eval v)).run C.P w = .ok () w' ∧ Mak w0 K w g s d .undef s' undef w' := by
   split at hs
   ·exact storeKSound (P := C.P) h hu (hx x (by simp [Op.operands])) (hx v (by simp [Op.operands])) hs
   ·exact storeSound (P := C.P) h hu (hx x (by simp [Op.operands])) (hx v (by simp [Op.operands])) hs
  unfold Oper.wp
  have : execOp act.eval ⟨dst, .store t x v, ty, pos, aft, gd⟩ = (do Instr.storeAt t (act.eval x) (act.eval v); pure .skip) := rfl
  rw [this]
  simp only [Sem.run_bind, h1, Result.andThen_ok, Sem.run_pure, Oper.upon_skip]
  exact hn undef w' h2
 case nilCheck x =>
  have h0 := hx x (by simp [Op.operands])
  cases hcv : valO a x <;> rw [hcv] at he h0 <;> try (cases he; done)
  ·cases he
   generalize hq : act.eval x = q at h0
   cases h0
   rename_i l off b hb hty
   exact wp_value (x := pure (.pointer (some ⟨b, off, none⟩))) (by simp [execOp, hq]) rfl (hn _ _ (.of h hu (.ptr l off b hb hty)))
  ·cases he
   generalize hq : act.eval x = q at h0
   cases h0
   rename_i cs off b o u hF hp hv
   exact wp_value (x := pure (.pointer (some ⟨b, o + off, none⟩))) (by simp [execOp, hq]) rfl (hn _ _ (.of h hu (.ep cs off b o u hF hp hv)))
 case binOp op t x y z =>
  exact pure' (x := do eqGuard op t x y (act.eval x) (act.eval y); binOp op t (act.eval x) (act.eval y)) rfl he fun v hv => binSound (hx x (by simp [Op.operands])) (hx y (by simp [Op.operands])) hv (hC.eq t)
 case unOp op t x =>
  exact pure' (x := Op.unary op (act.eval x)) rfl he fun v hv => unSound (hx x (by simp [Op.operands])) hv
 case convert t t' x =>
  exact pure' (x := convert t t' (act.eval x)) rfl he fun v hv => cvtSound (hx x (by simp [Op.operands])) hv
 case slice t x lo hi mx =>
  cases mx with
  | some m => simp at he
  | none =>
   simp only at he
   refine pure' (x := Instr.sliceAt t (act.eval x) (lo.map act.eval) (hi.map act.eval) none) rfl he fun v hv => cutSound ?_ ?_ (hx x (by simp [Op.operands])) hv
   ·cases lo with
    | none => exact .none
    | some l => exact .some (hx l (by simp [Op.operands]))
   ·cases hi with
    | none => exact .none
    | some l => exact .some (hx l (by simp [Op.operands]))
 case fieldAddr t x f =>
  exact pure' (x := Instr.fieldAt t (act.eval x) f) rfl he fun v hv => faSound (hx x (by simp [Op.operands])) hv
 case field t x f =>
  exact pure' (x := Instr.field t (act.eval x) f) rfl he fun v hv => fdSound (hx x (by simp [Op.operands])) hv
 case indexAddr t x i =>
  exact pure' (x := Instr.indexAt t (act.eval x) (act.eval i)) rfl he fun v hv => iaSound (hx x (by simp [Op.operands])) (hx i (by simp [Op.operands])) hv
 case index t x i =>
  exact pure' (x := Instr.index t (act.eval x) (act.eval i)) rfl he fun v hv => ixSound (hx x (by simp [Op.operands])) (hx i (by simp [Op.operands])) hv
 case extract x i =>
  have h0 := hx x (by simp [Op.operands])
  cases hcv : valO a x <;> rw [hcv] at he h0 <;> try (cases he; done)
  rename_i cs
  generalize hq : act.eval x = q at h0
  cases h0
  rename_i vs hl hv
  refine pure' (x := Instr.extract (act.eval x) i) rfl he fun v hvi => ?_
  have hlt : i < vs.size := by rw [← hl]; exact (List.getElem?_eq_some_iff.1 hvi).1
  have h1 := hv i v hvi
  rw [Array.getElem?_eq_getElem hlt] at h1
  exact ⟨vs[i], by simp [Instr.extract, hq, hlt], h1⟩
 case call k =>
  obtain ⟨callee, args, ts⟩ := k
  cases callee with
  | value f =>
   simp only at he
   have h0 := hx f (by simp [Op.operands, Call.operands])
   cases hcv : valO a f <;> rw [hcv] at he h0 <;> try (cases he; done)
   rename_i F
   generalize hq : act.eval f = q at h0
   cases h0
   have hargs : ArgsR w g s (args.toList.map fun x => (valO a x).arg) (args.map act.eval) := by
    have := ArgsR.map (w := w) (g := g) (s := s) (fun x => (valO a x).arg) act.eval args.toList (fun x hxx => (hx x (by simp [Op.operands, Call.operands, Array.mem_toList_iff.1 hxx])).argv)
    have e : (args.toList.map act.eval).toArray = args.map act.eval := by apply Array.ext'; simp
    rwa [e] at this
   have := hc w0 K hK lim d F _ s r he w g _ h hu hargs
   refine wp_does (f := F) (args := args.map act.eval) ?_ this hn
   simp [execOp, resolve, hq, Deferred.ofValue, invoke]
  | invoke _ _ => simp at he
  | builtin b =>
   simp only at he
   have hel : ∀ x ∈ args.toList, VR w g s (valO a x) (act.eval x) := fun x hxx => hx x (by simp [Op.operands, Call.operands, Array.mem_toList_iff.1 hxx])
   split at he
   ·rename_i x t e1 e2
    have e1' : args = #[x] := by apply Array.ext'; simpa using e1
    have e2' : ts = #[t] := by apply Array.ext'; simpa using e2
    subst e1'; subst e2'
    exact pure' (x := Builtin.len_ #[t] ty #[act.eval x]) (by simp [execOp, resolve, invoke, builtin]) he fun v hv => lenSound (hel x (by simp)) hv
   ·refine pure' (x := Builtin.min_ ts ty (args.map act.eval)) rfl he fun v hv => ?_
    have := ArgsR.map (w := w) (g := g) (s := s) (valO a) act.eval args.toList hel
    refine minSound hv (by simp) (by simpa using this.2)
   ·refine pure' (x := Builtin.max_ ts ty (args.map act.eval)) rfl he fun v hv => ?_
    have := ArgsR.map (w := w) (g := g) (s := s) (valO a) act.eval args.toList hel
    refine maxSound hv (by simp) (by simpa using this.2)
   ·rename_i x y t t' e1 e2
    have e1' : args = #[x, y] := by apply Array.ext'; simpa using e1
    have e2' : ts = #[t, t'] := by apply Array.ext'; simpa using e2
    subst e1'; subst e2'
    split at he
    ·rename_i ht
     subst ht
     obtain ⟨u, w', h1, h2⟩ := appSound (P := C.P) (ty := ty) h hu (hel x (by simp)) (hel y (by simp)) he
     exact wp_value (x := Builtin.append_ #[t', t'] ty #[act.eval x, act.eval y]) (by simp [execOp, resolve, invoke, builtin]) h1 (hn _ _ h2)
    ·cases he
   ·cases he
end
section
variable {C : Cfg} {w0 w w1 : World} {K : Kp} {g g1 : Gh} {s s1 : Sto} {lim d N : Nat} {a : Nat → MV} {act : Act} {Q : Exit → Act → World → Prop}
structure AR (N : Nat) (w : World) (g : Gh) (s : Sto) (a : Nat → MV) (act : Act) : Prop where
 sz : N ≤ act.tmps.size
 rel : ∀ t, VR w g s (a t) (act.tmps.getD t undef)
 df : act.defers = []
theorem AR.ev (h : AR N w g s a act) (e : Ev w g s w1 g1 s1) : AR N w1 g1 s1 a act := ⟨h.sz, fun t => (h.rel t).ev e, h.df⟩
theorem put_same {act : Act} {t : Nat} {u : Value} (h : t < act.tmps.size) : (act.put (some t) u).tmps.getD t undef = u := by
 simp [Act.put, h]
theorem put_ne {act : Act} {t t' : Nat} {u : Value} (h : t' ≠ t) : (act.put (some t) u).tmps.getD t' undef = act.tmps.getD t' undef := by
 simp [Act.put, Array.getElem?_setIfInBounds_ne (Ne.symm h)]
theorem put_size (act : Act) (dst : Option Tmp) (u : Value) : (act.put dst u).tmps.size = act.tmps.size := by
 cases dst <;> simp [Act.put]
theorem put_df (act : Act) (dst : Option Tmp) (u : Value) : (act.put dst u).defers = act.defers := by
 cases dst <;> simp [Act.put]
theorem AR.put (h : AR N w g s a act) {dst : Option Tmp} (hd : ∀ t, dst = some t → t < N) {m : MV} {u : Value} (k : VR w g s m u) : AR N w g s (putD a dst m) (act.put dst u) := by
 refine ⟨by rw [put_size]; exact h.sz, fun t => ?_, by rw [put_df]; exact h.df⟩
 cases dst with
 | none => exact h.rel t
 | some t0 =>
  have hlt : t0 < act.tmps.size := Nat.lt_of_lt_of_le (hd t0 rfl) h.sz
  simp only [putD]
  by_cases e : t = t0
  ·subst e
   rw [upd_same, put_same hlt]
   exact k
  ·rw [upd_ne _ _ e, put_ne e]
   exact h.rel t
theorem valR (x : Operand) (h : ∀ t, x = .tmp t → VR w g s (a t) (act.tmps.getD t undef)) : VR w g s (valO a x) (act.eval x) := by
 cases x with
 | tmp t => exact h t rfl
 | const v => exact VR_ofV v
 | global _ => exact .junk _
 | func f => exact .fn f
theorem AR.eval (h : AR N w g s a act) (x : Operand) : VR w g s (valO a x) (act.eval x) := valR x fun t _ => h.rel t
theorem wantR {ops : Array Oper} {o : Oper} (h : ∀ j v t, o.guard = some (j, v) → (ops[j]?).bind (·.dst) = some t → VR w g s (a t) (act.tmps.getD t undef)) {b : Bool} (hw : want ops a o = some b) : Region.wanted o (yielded ops act.tmps) = b := by
 unfold want at hw
 unfold Region.wanted
 cases hg : o.guard with
 | none => simp [hg] at hw; subst hw; rfl
 | some gv =>
  obtain ⟨j, v⟩ := gv
  simp only [hg] at hw
  cases ht : (ops[j]?).bind (·.dst) with
  | none => simp [ht] at hw
  | some t =>
   simp only [ht] at hw
   have k := h j v t hg ht
   cases ha : a t <;> rw [ha] at hw k <;> try (cases hw; done)
   ·cases hw
    have hu : act.tmps.getD t undef = undef := by
     generalize act.tmps.getD t undef = q at k
     cases k
     rfl
    unfold yielded
    simp only [ht, Option.bind_some]
    cases hq : act.tmps[t]? with
    | none => rfl
    | some q =>
     have : q = undef := by simpa [hq] using hu
     subst this
     rfl
   ·rename_i b'
    cases hw
    have hu : act.tmps.getD t undef = .bool b' := by
     generalize act.tmps.getD t undef = q at k
     cases k
     rfl
    unfold yielded
    simp only [ht, Option.bind_some]
    cases hq : act.tmps[t]? with
    | none => simp [hq, undef] at hu
    | some q =>
     have : q = .bool b' := by simpa [hq] using hu
     subst this
     simp
def Res (w0 : World) (K : Kp) (N d : Nat) (w : World) (g : Gh) (s : Sto) (a' : Nat → MV) (s' : Sto) (act' : Act) (w' : World) : Prop := ∃ g', AR N w' g' s' a' act' ∧ St w0 K w' g' s' ∧ Ev w g s w' g' s' ∧ s'.Und (d + 1)
theorem Res.after {a2 : Nat → MV} {s2 : Sto} {act2 : Act} {w2 : World} (e : Ev w g s w1 g1 s1) (h : Res w0 K N d w1 g1 s1 a2 s2 act2 w2) : Res w0 K N d w g s a2 s2 act2 w2 := by
 obtain ⟨g', h1, h2, h3, h4⟩ := h
 exact ⟨g', h1, h2, e.trans h3, h4⟩
theorem opsSound (hC : C.OK) (hK : C.KO K) {call : Call} (hc : CallOK C call) {ops : Array Oper} : ∀ (l : List Oper), (∀ o ∈ l, ∀ t, o.dst = some t → t < N) → ∀ {a : Nat → MV} {s : Sto} {w : World} {g : Gh} {act : Act} {r : (Nat → MV) × Sto}, evOps C call lim d ops l a s = some r →
  AR N w g s a act → St w0 K w g s → s.Und (d + 1) → (∀ act' w', Res w0 K N d w g s r.1 r.2 act' w' → Q .normal act' w') → wpList C.P ops Q l act w
 | [], _, a, s, w, g, act, r, he, ha, h, hu, hq => by
  cases he
  exact hq act w ⟨g, ha, h, .refl _ _ _, hu⟩
 | o :: l, hl, a, s, w, g, act, r, he, ha, h, hu, hq => by
  simp only [evOps] at he
  have hd := hl o (List.mem_cons_self ..)
  have hl' : ∀ o ∈ l, ∀ t, o.dst = some t → t < N := fun o ho => hl o (List.mem_cons_of_mem _ ho)
  split at he
  ·rename_i hw
   have hw' := wantR (fun _ _ t _ _ => ha.rel t) hw
   obtain ⟨x, hx, he⟩ := Option.bind_eq_some_iff.1 he
   simp only [wpList, hw', if_true]
   refine .inl (opSound hC hK hc h hu (fun x _ => ha.eval x) hx fun u w' hm => ?_)
   obtain ⟨g', k1, k2, k3, k4⟩ := hm
   exact opsSound hC hK hc l hl' he ((ha.ev k3).put hd k1) k2 k4 fun act' w'' hr => hq act' w'' (.after k3 hr)
  ·rename_i hw
   have hw' := wantR (fun _ _ t _ _ => ha.rel t) hw
   simp only [wpList, hw', Bool.false_eq_true, if_false]
   exact opsSound hC hK hc l hl' he (ha.put hd .undef) h hu hq
  ·cases he
end
section
variable {C : Cfg} {w0 w w1 : World} {K : Kp} {g g1 : Gh} {s s1 : Sto} {lim d N : Nat} {a : Nat → MV} {act : Act} {Q : Exit → Act → World → Prop} {ops : Array Oper}
theorem Same.eq {s s' : Sto} (h : Same (d + 1) s s') (hu : s.Und (d + 1)) (hu' : s'.Und (d + 1)) : s' = s := by
 refine Sto.ext' (fun l => ?_) (fun d' c => ?_) fun d' => ?_
 ·by_cases e : l.d < d + 1
  ·exact h.ob l e
  ·rw [hu.ob l (by omega), hu'.ob l (by omega)]
 ·by_cases e : d' < d + 1
  ·exact h.ow d' c e
  ·rw [hu.ow d' c (by omega), hu'.ow d' c (by omega)]
 ·by_cases e : d' < d + 1
  ·exact h.ct d' e
  ·rw [hu.ct d' (by omega), hu'.ct d' (by omega)]
set_option maxHeartbeats 2000000 in
theorem freeSound (hC : C.OK) (hK : C.KO K) {call : Call} (hc : CallOK C call) (hk : Keeps call) (h : St w0 K w g s) (hu : s.Und (d + 1)) {o : Oper} (hx : ∀ x ∈ o.op.operands, VR w g s (valO a x) (act.eval x)) {v : MV} (he : evFree C call d a o s = some v)
  {next : Act → World → Prop} (hn : ∀ u w' g', VR w' g' s v u → St w0 K w' g' s → Ev w g s w' g' s → next (act.put o.dst u) w') : o.wp C.P act w next Q := by
 have key : ∀ (lim : Nat), (∀ r, evOp C call lim d a o s = some r → r.2.Und (d + 1) → r.2 = s) → (evOp C call lim d a o s).map (·.1) = some v → o.wp C.P act w next Q := fun lim hp he => by
  obtain ⟨r, hr, rfl⟩ := Option.map_eq_some_iff.1 he
  refine opSound hC hK hc h hu hx hr fun u w' hm => ?_
  obtain ⟨g', k1, k2, k3, k4⟩ := hm
  have := hp r hr k4
  rw [this] at k1 k2 k3
  exact hn u w' g' k1 k2 k3
 have pure' : ∀ {m : Option MV} {r : MV × Sto}, (m.map fun v => (v, s)) = some r → r.2 = s := fun hm => by
  obtain ⟨_, _, rfl⟩ := Option.map_eq_some_iff.1 hm
  rfl
 obtain ⟨dst, op, ty, pos, aft, gd⟩ := o
 cases op <;> try (simp only [evFree] at he; cases he; done)
 case move x => exact key 0 (fun r hr _ => by simp only [evOp] at hr; cases hr; rfl) he
 case assign x => exact key 0 (fun r hr _ => by simp only [evOp] at hr; cases hr; rfl) he
 case pick c x y => exact key 0 (fun r hr _ => by simp only [evOp] at hr; split at hr <;> cases hr; rfl) he
 case build t ps => exact key 0 (fun r hr _ => pure' hr) he
 case load t x => exact key 0 (fun r hr _ => pure' hr) he
 case nilCheck x => exact key 0 (fun r hr _ => by simp only [evOp] at hr; split at hr <;> cases hr <;> rfl) he
 case binOp op t x y z => exact key 0 (fun r hr _ => pure' hr) he
 case unOp op t x => exact key 0 (fun r hr _ => pure' hr) he
 case convert t t' x => exact key 0 (fun r hr _ => pure' hr) he
 case slice t x lo hi mx => exact key 0 (fun r hr _ => by cases mx <;> simp only [evOp] at hr <;> first | exact pure' hr | cases hr) he
 case fieldAddr t x f => exact key 0 (fun r hr _ => pure' hr) he
 case field t x f => exact key 0 (fun r hr _ => pure' hr) he
 case indexAddr t x i => exact key 0 (fun r hr _ => pure' hr) he
 case index t x i => exact key 0 (fun r hr _ => pure' hr) he
 case extract x i => exact key 0 (fun r hr _ => by simp only [evOp] at hr; split at hr <;> first | exact pure' hr | cases hr) he
 case buildSlice t n ps =>
  simp only [evFree] at he
  split at he
  ·rename_i e z b hs
   split at he
   ·rename_i hcnd
    obtain ⟨xs, hxs, rfl⟩ := Option.map_eq_some_iff.1 he
    obtain ⟨u, w', h1, h2⟩ := bslFree (P := C.P) h hu (n := n) (ps := ps.toList.map fun p => (p.1, valO a p.2)) (qs := ps.map fun (i, x) => (i, act.eval x)) hs (by simp) (by simpa using hcnd.1) hcnd.2.1 (fun i p hp => by
     rw [List.getElem?_map] at hp
     obtain ⟨q, hq, rfl⟩ := Option.map_eq_some_iff.1 hp
     have hq' : ps[i]? = some q := by simpa using hq
     refine ⟨(q.1, act.eval q.2), by simp [hq'], rfl, hx q.2 ?_⟩
     have := Array.mem_of_getElem? hq'
     simp only [Op.operands]
     simp
     exact ⟨q.1, by simpa using this⟩) hxs
    obtain ⟨g', k1, k2, k3, k4⟩ := h2
    exact wp_value (x := Instr.buildSlice t n (ps.map fun (i, x) => (i, act.eval x))) (by simp only [execOp]) h1 (hn _ _ g' k1 k2 k3)
   ·cases he
  ·cases he
 case call k =>
  obtain ⟨callee, args, ts⟩ := k
  cases callee with
  | value f =>
   refine key (d + 1) (fun r hr hru => ?_) ?_
   ·simp only [evOp] at hr
    split at hr
    ·exact (hk (d + 1) (d + 1) _ _ _ _ (Nat.le_refl _) hr).eq hu hru
    ·cases hr
   ·simp only [evFree] at he
    simp only [evOp]
    split at he
    ·exact he
    ·cases he
  | invoke _ _ => exact key 0 (fun r hr _ => by simp [evOp] at hr) he
  | builtin b =>
   cases b <;> first
    | (exact key 0 (fun r hr _ => pure' hr) he)
    | (exact key 0 (fun r hr _ => by simp only [evOp] at hr; split at hr <;> first | exact pure' hr | (cases hr; done) | (rename_i h1 _ _; cases h1)) he)
    | (simp only [evFree] at he; cases he; done)
 all_goals exact key 0 (fun r hr _ => by simp [evOp] at hr) he
/-! ### What the free operations' evaluation says of each -/
theorem putD_ne {a : Nat → MV} {dst : Option Tmp} {v : MV} {t : Nat} (h : dst ≠ some t) : putD a dst v t = a t := by
 cases dst with
 | none => rfl
 | some t0 => exact upd_ne _ _ (by rintro rfl; exact h rfl)
def Told (C : Cfg) (call : Call) (d : Nat) (ops : Array Oper) (s : Sto) (a1 : Nat → MV) (o : Oper) : Prop :=
 ∃ a : Nat → MV, (∀ t ∈ o.looksAt ops, a t = a1 t) ∧
  ((want ops a o = some true ∧ isNew o = true) ∨
   (want ops a o = some true ∧ isNew o = false ∧ ∃ v, evFree C call d a o s = some v ∧ ∀ t, o.dst = some t → a1 t = v) ∨
   (want ops a o = some false ∧ ∀ t, o.dst = some t → a1 t = .undef))
theorem evOpsF_spec {call : Call} : ∀ (l : List Oper) (a a1 : Nat → MV), evOpsF C call d ops s l a = some a1 →
  (∀ (i j : Nat) (x y : Oper), l[i]? = some x → l[j]? = some y → i ≤ j → ∀ t, y.dst = some t → t ∉ x.looksAt ops) → (∀ (i j : Nat) (x y : Oper), l[i]? = some x → l[j]? = some y → i < j → ∀ t, x.dst = some t → y.dst ≠ some t) →
  (∀ t, (∀ y ∈ l, y.dst ≠ some t) → a1 t = a t) ∧ ∀ x ∈ l, Told C call d ops s a1 x
 | [], a, a1, h, _, _ => by cases h; exact ⟨fun _ _ => rfl, by simp⟩
 | o :: l, a, a1, h, h1, h2 => by
  have h1' : ∀ (i j : Nat) (x y : Oper), l[i]? = some x → l[j]? = some y → i ≤ j → ∀ t, y.dst = some t → t ∉ x.looksAt ops := fun i j x y hx hy hij => h1 (i + 1) (j + 1) x y (by simpa using hx) (by simpa using hy) (by omega)
  have h2' : ∀ (i j : Nat) (x y : Oper), l[i]? = some x → l[j]? = some y → i < j → ∀ t, x.dst = some t → y.dst ≠ some t := fun i j x y hx hy hij => h2 (i + 1) (j + 1) x y (by simpa using hx) (by simpa using hy) (by omega)
  have hno : ∀ t, o.dst = some t → ∀ y ∈ l, y.dst ≠ some t := fun t ht y hy => by
   obtain ⟨j, hj⟩ := List.mem_iff_getElem?.1 hy
   exact h2 0 (j + 1) o y rfl (by simpa using hj) (by omega) t ht
  have hlook : ∀ t ∈ o.looksAt ops, ∀ y ∈ o :: l, y.dst ≠ some t := fun t ht y hy hyt => by
   obtain ⟨j, hj⟩ := List.mem_iff_getElem?.1 hy
   exact h1 0 j o y rfl hj (by omega) t hyt ht
  have go : ∀ (a' : Nat → MV), (∀ t, o.dst ≠ some t → a' t = a t) → evOpsF C call d ops s l a' = some a1 →
    (((want ops a o = some true ∧ isNew o = true) ∨ (want ops a o = some true ∧ isNew o = false ∧ ∃ v, evFree C call d a o s = some v ∧ ∀ t, o.dst = some t → a' t = v) ∨ (want ops a o = some false ∧ ∀ t, o.dst = some t → a' t = .undef))) →
    (∀ t, (∀ y ∈ o :: l, y.dst ≠ some t) → a1 t = a t) ∧ ∀ x ∈ o :: l, Told C call d ops s a1 x := fun a' ha' he hw => by
   obtain ⟨r1, r2⟩ := evOpsF_spec l a' a1 he h1' h2'
   have hkeep : ∀ t, (∀ y ∈ o :: l, y.dst ≠ some t) → a1 t = a t := fun t ht => by
    rw [r1 t fun y hy => ht y (List.mem_cons_of_mem _ hy), ha' t (ht o (List.mem_cons_self ..))]
   refine ⟨hkeep, fun x hx => ?_⟩
   rcases List.mem_cons.1 hx with rfl | hx
   ·refine ⟨a, fun t ht => (hkeep t (hlook t ht)).symm, ?_⟩
    rcases hw with hw | ⟨hw, hn, v, hv, hd⟩ | ⟨hw, hd⟩
    ·exact .inl hw
    ·exact .inr (.inl ⟨hw, hn, v, hv, fun t ht => by rw [r1 t (hno t ht)]; exact hd t ht⟩)
    ·exact .inr (.inr ⟨hw, fun t ht => by rw [r1 t (hno t ht)]; exact hd t ht⟩)
   ·exact r2 x hx
  simp only [evOpsF] at h
  split at h
  ·rename_i hw
   split at h
   ·rename_i hn
    exact go a (fun _ _ => rfl) h (.inl ⟨hw, hn⟩)
   ·rename_i hn
    obtain ⟨v, hv, h⟩ := Option.bind_eq_some_iff.1 h
    exact go _ (fun t ht => putD_ne ht) h (.inr (.inl ⟨hw, by simpa using hn, v, hv, fun t ht => by rw [ht]; exact upd_same _ _ _⟩))
  ·rename_i hw
   exact go _ (fun t ht => putD_ne ht) h (.inr (.inr ⟨hw, fun t ht => by rw [ht]; exact upd_same _ _ _⟩))
  ·cases h
theorem evNews_filter : ∀ (l : List Oper) (a : Nat → MV) (s : Sto), evNews C d l a s = evNews C d (l.filter isNew) a s
 | [], a, s => rfl
 | o :: l, a, s => by
  by_cases hn : isNew o = true
  ·rw [List.filter_cons_of_pos hn]
   unfold isNew at hn
   split at hn
   ·rename_i t ht
    simp only [evNews, ht]
    congr 1
    funext cs
    exact evNews_filter l _ _
   ·cases hn
  ·rw [List.filter_cons_of_neg hn]
   rw [← evNews_filter l a s]
   unfold isNew at hn
   simp only [evNews]
   split at hn
   ·exact absurd rfl hn
   ·rfl
end
end Go.Mv
