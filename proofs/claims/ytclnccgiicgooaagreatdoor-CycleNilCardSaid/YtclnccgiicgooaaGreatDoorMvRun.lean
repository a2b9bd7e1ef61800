/- The evaluator without memory: a part of its proof. -/
import Derived.Test.YtclnccgiicgooaaGreatDoorMvB
import Derived.LoopN
import Derived.Orders
set_option linter.unusedVariables false
set_option linter.unusedSimpArgs false
/- One operation, with its calls: what the evaluator says of it the machine does. -/
namespace Go.Mv

/-- What a call of a function does. -/
def Does (P : Program) (f : FuncId) (args : Array Value) (w : World) (R : Value → World → Prop) : Prop :=
  (∃ u w', (callFunc f args).run P w = .ok (.value u) w' ∧ R u w') ∨
  (∃ f' args' w', (callFunc f args).run P w = .ok (.enter f' args') w' ∧ Calls P f' args' w' fun | .returned v, w'' => R v w'' | _, _ => False)

def ArgsR (w : World) (g : Gh) (s : Sto) (ms : List MV) (vs : Array Value) : Prop := ms.length = vs.size ∧ ∀ (i : Nat) (c : MV), ms[i]? = some c → VR w g s c (vs[i]?.getD undef)

/-- What is known of old memory. -/
def Cfg.KO (C : Cfg) (K : Kp) : Prop := ∀ b q, C.kp b q → ∃ x, q x ∧ K.k b x
def CallOK (C : Cfg) (c : Call) : Prop := ∀ (w0 : World) (K : Kp), C.KO K → ∀ (lim d : Nat) (f : FuncId) (ms : List MV) (s : Sto) (r : MV × Sto), c lim (d + 1) f ms s = some r →
  ∀ (w : World) (g : Gh) (vs : Array Value), St w0 K w g s → s.Und (d + 1) → ArgsR w g s ms vs → Does C.P f vs w fun u w' => Mak w0 K w g s d r.1 r.2 u w'

structure Cfg.OK (C : Cfg) : Prop where
  mix : C.P.follows .mixedOrders = true
  num : ∀ (f : FuncId) (fn : Func), C.P.funcs[f]? = some fn → (fn.name == "runtime.NumGoroutine") = false
  eq : ∀ t sh, C.eqT t = some sh → EqFact C.P t sh
  prim : ∀ f p, C.prim f = some p → ∀ (w0 : World) (K : Kp), C.KO K → ∀ (lim d : Nat) (ms : List MV) (s : Sto) (r : MV × Sto), p lim (d + 1) ms s = some r → ∀ (w : World) (g : Gh) (vs : Array Value), St w0 K w g s → s.Und (d + 1) → ArgsR w g s ms vs →
    Does C.P f vs w fun u w' => Mak w0 K w g s d r.1 r.2 u w'
  keep : ∀ f p, C.prim f = some p → Keeps fun lim d _ args σ => p lim d args σ

section
variable {C : Cfg} {w0 w : World} {K : Kp} {g : Gh} {s : Sto} {lim d : Nat} {a : Nat → MV} {act : Act} {next : Act → World → Prop} {Q : Exit → Act → World → Prop}

theorem VR.argv {m : MV} {v : Value} (k : VR w g s m v) : VR w g s m.arg v := by
  cases m with
  | agg cs =>
    cases k
    rename_i vs hl hf hv
    refine .agg _ vs (by simpa using hl) (fun c hc => ?_) fun i c hc => ?_
    · obtain ⟨c', hc', rfl⟩ := List.mem_map.1 hc
      rw [flat_era]
      exact hf c' hc'
    · rw [List.getElem?_map] at hc
      obtain ⟨c', hc', rfl⟩ := Option.map_eq_some_iff.1 hc
      exact (hv i c' hc').era
  | _ => exact k.era

theorem Mak.of (h : St w0 K w g s) (hu : s.Und (d + 1)) {v : MV} {u : Value} (k : VR w g s v u) : Mak w0 K w g s d v s u w := ⟨g, k, h, .refl _ _ _, hu⟩

/-- An operation that gives a value. -/
theorem wp_value {o : Oper} {x : Sem Value} {u : Value} {w' : World} (he : execOp act.eval o = (do pure (.value (← x)))) (hx : x.run C.P w = .ok u w') (hn : next (act.put o.dst u) w') : o.wp C.P act w next Q := by
  unfold Oper.wp
  rw [he]
  simp only [Sem.run_bind, hx, Result.andThen_ok, Sem.run_pure, Oper.upon_value]
  exact hn

theorem wp_does {o : Oper} {f : FuncId} {args : Array Value} {R : Value → World → Prop} (he : execOp act.eval o = callFunc f args) (hd : Does C.P f args w R) (hn : ∀ u w', R u w' → next (act.put o.dst u) w') : o.wp C.P act w next Q := by
  unfold Oper.wp
  rw [he]
  rcases hd with ⟨u, w', h1, h2⟩ | ⟨f', args', w', h1, h2⟩
  · rw [h1, Oper.upon_value]
    exact hn u w' h2
  · rw [h1, Oper.upon_enter]
    refine h2.mono fun e w'' he => ?_
    cases e with
    | returned v => exact hn v w'' he
    | panicked ch => exact he.elim
    | outgrown => exact he.elim

theorem ArgsR.map {α : Type} (f : α → MV) (f' : α → Value) (l : List α) (h : ∀ x ∈ l, VR w g s (f x) (f' x)) : ArgsR w g s (l.map f) (l.map f').toArray := by
  refine ⟨by simp, fun i c hc => ?_⟩
  rw [List.getElem?_map] at hc
  obtain ⟨x, hx, rfl⟩ := Option.map_eq_some_iff.1 hc
  simp [hx, h x (List.mem_of_getElem? hx)]

set_option maxHeartbeats 1000000 in
theorem opSound (hC : C.OK) (hK : C.KO K) {call : Call} (hc : CallOK C call) (h : St w0 K w g s) (hu : s.Und (d + 1)) {o : Oper} (hx : ∀ x ∈ o.op.operands, VR w g s (valO a x) (act.eval x)) {r : MV × Sto} (he : evOp C call lim d a o s = some r)
    (hn : ∀ u w', Mak w0 K w g s d r.1 r.2 u w' → next (act.put o.dst u) w') : o.wp C.P act w next Q := by
  have pure' : ∀ {x : Sem Value} {m : Option MV}, execOp act.eval o = (do pure (.value (← x))) → (m.map fun v => (v, s)) = some r → (∀ v, m = some v → Com C.P w g s x v) → o.wp C.P act w next Q := fun {x m} h1 h2 h3 => by
    obtain ⟨v, hv, rfl⟩ := Option.map_eq_some_iff.1 h2
    obtain ⟨u, hu1, hu2⟩ := h3 v hv
    exact wp_value h1 hu1 (hn u w (.of h hu hu2))
  obtain ⟨dst, op, ty, pos, aft, gd⟩ := o
  cases op <;> simp only [evOp] at he <;> try (cases he; done)
  case move x =>
    cases he
    exact wp_value (x := pure (act.eval x)) rfl rfl (hn _ _ (.of h hu (hx x (by simp [Op.operands]))))
  case assign x =>
    cases he
    exact wp_value (x := pure (act.eval x)) rfl rfl (hn _ _ (.of h hu (hx x (by simp [Op.operands]))))
  case pick c x y =>
    have h0 := hx c (by simp [Op.operands])
    cases hcv : valO a c <;> rw [hcv] at he h0 <;> try (cases he; done)
    rename_i b
    cases he
    generalize hq : act.eval c = q at h0
    cases h0
    refine wp_value (x := pure (if b then act.eval x else act.eval y)) (w' := w) (u := if b then act.eval x else act.eval y) (by simp [execOp, hq, asBool]) rfl (hn _ _ (.of h hu ?_))
    cases b
    · exact hx y (by simp [Op.operands])
    · exact hx x (by simp [Op.operands])
  case alloc t =>
    obtain ⟨z, hz, he⟩ := Option.bind_eq_some_iff.1 he
    obtain ⟨cs, hcs, he2⟩ := Option.bind_eq_some_iff.1 he
    unfold zer at hz
    obtain ⟨zv, hz1, rfl⟩ := Option.map_eq_some_iff.1 hz
    obtain ⟨inf, hi1, hi2⟩ := Option.bind_eq_some_iff.1 hz1
    have hcr : CR w g s cs zv.cells := (VR_ofV zv).cells hcs
    exact wp_value (x := Instr.alloc t true (.tuple #[])) rfl (by simp [Instr.alloc, zeroValue, typeInfo, hi1, hi2, newVar]; rfl) (hn _ _ (allocUSound h hu t _ t (locT_ok rfl hcr.1.symm) hcr (top_ofV hcs) he2))
  case makeMap t r =>
    cases r <;> simp only at he
    · cases he
      exact wp_value (x := Instr.makeMap t none) rfl (by simp [Instr.makeMap, newObj]; rfl) (hn _ _ (garbSound h hu (.map #[] 0) _))
    · cases he
  case makeSlice t n c =>
    obtain ⟨u, w', h1, h2⟩ := mkXSound (C := C) h hu (hx n (by simp [Op.operands])) (hx c (by simp [Op.operands])) he
    exact wp_value (x := Instr.makeSlice t (act.eval n) (act.eval c)) rfl h1 (hn _ _ h2)
  case box t x =>
    obtain ⟨cs, hcs, he2⟩ := Option.bind_eq_some_iff.1 he
    have hcr : CR w g s cs (act.eval x).cells := (hx x (by simp [Op.operands])).cells hcs
    exact wp_value (x := Instr.box t (act.eval x)) rfl (by simp [Instr.box, newVar]; rfl) (hn _ _ (boxUSound h hu t _ t (locT_ok rfl hcr.1.symm) hcr he2))
  case build t ps =>
    refine pure' (x := Instr.build t (ps.map fun (i, x) => (i, act.eval x))) rfl he fun v hv => ?_
    refine buildSound (by simp) (fun i p hp => ?_) hv
    rw [List.getElem?_map] at hp
    obtain ⟨q, hq, rfl⟩ := Option.map_eq_some_iff.1 hp
    have hq' : ps[i]? = some q := by simpa using hq
    refine ⟨(q.1, act.eval q.2), by simp [hq'], rfl, hx q.2 ?_⟩
    have := Array.mem_of_getElem? hq'
    simp only [Op.operands]
    simp
    exact ⟨q.1, by simpa using this⟩
  case buildSlice t n ps =>
    obtain ⟨u, w', h1, h2⟩ := bslSound (P := C.P) h hu (t := t) (n := n) (ps := ps.toList.map fun p => (p.1, valO a p.2)) (qs := ps.map fun (i, x) => (i, act.eval x)) (by simp) (fun i p hp => by
      rw [List.getElem?_map] at hp
      obtain ⟨q, hq, rfl⟩ := Option.map_eq_some_iff.1 hp
      have hq' : ps[i]? = some q := by simpa using hq
      refine ⟨(q.1, act.eval q.2), by simp [hq'], rfl, hx q.2 ?_⟩
      have := Array.mem_of_getElem? hq'
      simp only [Op.operands]
      simp
      exact ⟨q.1, by simpa using this⟩) he
    exact wp_value (x := Instr.buildSlice t n (ps.map fun (i, x) => (i, act.eval x))) (by simp only [execOp]) h1 (hn _ _ h2)
  case load t x =>
    exact pure' (x := Instr.loadAt t (act.eval x)) rfl he fun v hv => ldSound h (hx x (by simp [Op.operands])) hv
  case store t x v =>
    obtain ⟨s', hs, rfl⟩ := Option.map_eq_some_iff.1 he
    obtain ⟨w', h1, h2⟩ : ∃ w', (Instr.storeAt t (act.eval x) (act.eval v)).run C.P w = .ok () w' ∧ Mak w0 K w g s d .undef s' undef w' := by
      split at hs
      · exact storeKSound (P := C.P) h hu (hx x (by simp [Op.operands])) (hx v (by simp [Op.operands])) hs
      split at hs
      · exact storePSound (P := C.P) h hu (hx x (by simp [Op.operands])) (hx v (by simp [Op.operands])) hs
      · exact storeSound (P := C.P) h hu (hx x (by simp [Op.operands])) (hx v (by simp [Op.operands])) hs
    unfold Oper.wp
    have : execOp act.eval ⟨dst, .store t x v, ty, pos, aft, gd⟩ = (do Instr.storeAt t (act.eval x) (act.eval v); pure .skip) := rfl
    rw [this]
    simp only [Sem.run_bind, h1, Result.andThen_ok, Sem.run_pure, Oper.upon_skip]
    exact hn undef w' h2
  case nilCheck x =>
    have h0 := hx x (by simp [Op.operands])
    cases hcv : valO a x <;> rw [hcv] at he h0 <;> try (cases he; done)
    · cases he
      generalize hq : act.eval x = q at h0
      cases h0
      rename_i l off b hb hty
      exact wp_value (x := pure (.pointer (some ⟨b, off, none⟩))) (by simp [execOp, hq]) rfl (hn _ _ (.of h hu (.ptr l off b hb hty)))
    · cases he
      generalize hq : act.eval x = q at h0
      cases h0
      rename_i cs off b o u hF hp hv
      exact wp_value (x := pure (.pointer (some ⟨b, o + off, none⟩))) (by simp [execOp, hq]) rfl (hn _ _ (.of h hu (.ep cs off b o u hF hp hv)))
  case binOp op t x y z =>
    exact pure' (x := do eqGuard op t x y (act.eval x) (act.eval y); binOp op t (act.eval x) (act.eval y)) rfl he fun v hv => binSound (hx x (by simp [Op.operands])) (hx y (by simp [Op.operands])) hv (hC.eq t)
  case unOp op t x =>
    exact pure' (x := Op.unary op (act.eval x)) rfl he fun v hv => unSound (hx x (by simp [Op.operands])) hv
  case convert t t' x =>
    exact pure' (x := convert t t' (act.eval x)) rfl he fun v hv => cvtSound (hx x (by simp [Op.operands])) hv
  case slice t x lo hi mx =>
    cases mx with
    | some m => simp at he
    | none =>
      simp only at he
      refine pure' (x := Instr.sliceAt t (act.eval x) (lo.map act.eval) (hi.map act.eval) none) rfl he fun v hv => cutSound ?_ ?_ (hx x (by simp [Op.operands])) hv
      · cases lo with
        | none => exact .none
        | some l => exact .some (hx l (by simp [Op.operands]))
      · cases hi with
        | none => exact .none
        | some l => exact .some (hx l (by simp [Op.operands]))
  case fieldAddr t x f =>
    exact pure' (x := Instr.fieldAt t (act.eval x) f) rfl he fun v hv => faSound (hx x (by simp [Op.operands])) hv
  case field t x f =>
    exact pure' (x := Instr.field t (act.eval x) f) rfl he fun v hv => fdSound (hx x (by simp [Op.operands])) hv
  case indexAddr t x i =>
    exact pure' (x := Instr.indexAt t (act.eval x) (act.eval i)) rfl he fun v hv => iaSound (hx x (by simp [Op.operands])) (hx i (by simp [Op.operands])) hv
  case index t x i =>
    exact pure' (x := Instr.index t (act.eval x) (act.eval i)) rfl he fun v hv => ixSound (hx x (by simp [Op.operands])) (hx i (by simp [Op.operands])) hv
  case extract x i =>
    have h0 := hx x (by simp [Op.operands])
    cases hcv : valO a x <;> rw [hcv] at he h0 <;> try (cases he; done)
    rename_i cs
    generalize hq : act.eval x = q at h0
    cases h0
    rename_i vs hl hv
    refine pure' (x := Instr.extract (act.eval x) i) rfl he fun v hvi => ?_
    have hlt : i < vs.size := by rw [← hl]; exact (List.getElem?_eq_some_iff.1 hvi).1
    have h1 := hv i v hvi
    rw [Array.getElem?_eq_getElem hlt] at h1
    exact ⟨vs[i], by simp [Instr.extract, hq, hlt], h1⟩
  case call k =>
    obtain ⟨callee, args, ts⟩ := k
    cases callee with
    | value f =>
      simp only at he
      have h0 := hx f (by simp [Op.operands, Call.operands])
      cases hcv : valO a f <;> rw [hcv] at he h0 <;> try (cases he; done)
      rename_i F
      generalize hq : act.eval f = q at h0
      cases h0
      have hargs : ArgsR w g s (args.toList.map fun x => (valO a x).arg) (args.map act.eval) := by
        have := ArgsR.map (w := w) (g := g) (s := s) (fun x => (valO a x).arg) act.eval args.toList (fun x hxx => (hx x (by simp [Op.operands, Call.operands, Array.mem_toList_iff.1 hxx])).argv)
        have e : (args.toList.map act.eval).toArray = args.map act.eval := by apply Array.ext'; simp
        rwa [e] at this
      have := hc w0 K hK lim d F _ s r he w g _ h hu hargs
      refine wp_does (f := F) (args := args.map act.eval) ?_ this hn
      simp [execOp, resolve, hq, Deferred.ofValue, invoke]
    | invoke _ _ => simp at he
    | builtin b =>
      simp only at he
      have hel : ∀ x ∈ args.toList, VR w g s (valO a x) (act.eval x) := fun x hxx => hx x (by simp [Op.operands, Call.operands, Array.mem_toList_iff.1 hxx])
      split at he
      · rename_i x t e1 e2
        have e1' : args = #[x] := by apply Array.ext'; simpa using e1
        have e2' : ts = #[t] := by apply Array.ext'; simpa using e2
        subst e1'; subst e2'
        exact pure' (x := Builtin.len_ #[t] ty #[act.eval x]) (by simp [execOp, resolve, invoke, builtin]) he fun v hv => lenSound (hel x (by simp)) hv
      · refine pure' (x := Builtin.min_ ts ty (args.map act.eval)) rfl he fun v hv => ?_
        have := ArgsR.map (w := w) (g := g) (s := s) (valO a) act.eval args.toList hel
        refine minSound hv (by simp) (by simpa using this.2)
      · refine pure' (x := Builtin.max_ ts ty (args.map act.eval)) rfl he fun v hv => ?_
        have := ArgsR.map (w := w) (g := g) (s := s) (valO a) act.eval args.toList hel
        refine maxSound hv (by simp) (by simpa using this.2)
      · rename_i x y t t' e1 e2
        have e1' : args = #[x, y] := by apply Array.ext'; simpa using e1
        have e2' : ts = #[t, t'] := by apply Array.ext'; simpa using e2
        subst e1'; subst e2'
        split at he
        · rename_i ht
          subst ht
          obtain ⟨u, w', h1, h2⟩ := appXSound (C := C) (ty := ty) h hu (hel x (by simp)) (hel y (by simp)) he
          exact wp_value (x := Builtin.append_ #[t', t'] ty #[act.eval x, act.eval y]) (by simp [execOp, resolve, invoke, builtin]) h1 (hn _ _ h2)
        · cases he
      · cases he
end
end Go.Mv
