/- The evaluator without memory: a part of its proof. -/
import Derived.Test.YtclnccgiicgooaaGreatDoorMvC
set_option linter.unusedVariables false
set_option linter.unusedSimpArgs false
/- Regions that draw their order. -/
namespace Go.Mv
section
variable {C : Cfg} {w0 w w1 : World} {K : Kp} {g g1 : Gh} {s s1 : Sto} {lim d N : Nat} {a : Nat → MV} {act : Act} {Q : Exit → Act → World → Prop} {ops : Array Oper}

theorem Same.eq {s s' : Sto} (h : Same (d + 1) s s') (hu : s.Und (d + 1)) (hu' : s'.Und (d + 1)) : s' = s := by
  refine Sto.ext' (fun l => ?_) (fun d' c => ?_) fun d' => ?_
  · by_cases e : l.d < d + 1
    · exact h.ob l e
    · rw [hu.ob l (by omega), hu'.ob l (by omega)]
  · by_cases e : d' < d + 1
    · exact h.ow d' c e
    · rw [hu.ow d' c (by omega), hu'.ow d' c (by omega)]
  · by_cases e : d' < d + 1
    · exact h.ct d' e
    · rw [hu.ct d' (by omega), hu'.ct d' (by omega)]

set_option maxHeartbeats 2000000 in
/-- A free operation. -/
theorem freeSound (hC : C.OK) (hK : C.KO K) {call : Call} (hc : CallOK C call) (hk : Keeps call) (h : St w0 K w g s) (hu : s.Und (d + 1)) {o : Oper} (hx : ∀ x ∈ o.op.operands, VR w g s (valO a x) (act.eval x)) {v : MV} (he : evFree C call d a o s = some v)
    {next : Act → World → Prop} (hn : ∀ u w' g', VR w' g' s v u → St w0 K w' g' s → Ev w g s w' g' s → next (act.put o.dst u) w') : o.wp C.P act w next Q := by
  have key : ∀ (lim : Nat), (∀ r, evOp C call lim d a o s = some r → r.2.Und (d + 1) → r.2 = s) → (evOp C call lim d a o s).map (·.1) = some v → o.wp C.P act w next Q := fun lim hp he => by
    obtain ⟨r, hr, rfl⟩ := Option.map_eq_some_iff.1 he
    refine opSound hC hK hc h hu hx hr fun u w' hm => ?_
    obtain ⟨g', k1, k2, k3, k4⟩ := hm
    have := hp r hr k4
    rw [this] at k1 k2 k3
    exact hn u w' g' k1 k2 k3
  have pure' : ∀ {m : Option MV} {r : MV × Sto}, (m.map fun v => (v, s)) = some r → r.2 = s := fun hm => by
    obtain ⟨_, _, rfl⟩ := Option.map_eq_some_iff.1 hm
    rfl
  obtain ⟨dst, op, ty, pos, aft, gd⟩ := o
  cases op <;> try (simp only [evFree] at he; cases he; done)
  case move x => exact key 0 (fun r hr _ => by simp only [evOp] at hr; cases hr; rfl) he
  case assign x => exact key 0 (fun r hr _ => by simp only [evOp] at hr; cases hr; rfl) he
  case pick c x y => exact key 0 (fun r hr _ => by simp only [evOp] at hr; split at hr <;> cases hr; rfl) he
  case build t ps => exact key 0 (fun r hr _ => pure' hr) he
  case load t x => exact key 0 (fun r hr _ => pure' hr) he
  case nilCheck x => exact key 0 (fun r hr _ => by simp only [evOp] at hr; split at hr <;> cases hr <;> rfl) he
  case binOp op t x y z => exact key 0 (fun r hr _ => pure' hr) he
  case unOp op t x => exact key 0 (fun r hr _ => pure' hr) he
  case convert t t' x => exact key 0 (fun r hr _ => pure' hr) he
  case slice t x lo hi mx => exact key 0 (fun r hr _ => by cases mx <;> simp only [evOp] at hr <;> first | exact pure' hr | cases hr) he
  case fieldAddr t x f => exact key 0 (fun r hr _ => pure' hr) he
  case field t x f => exact key 0 (fun r hr _ => pure' hr) he
  case indexAddr t x i => exact key 0 (fun r hr _ => pure' hr) he
  case index t x i => exact key 0 (fun r hr _ => pure' hr) he
  case extract x i => exact key 0 (fun r hr _ => by simp only [evOp] at hr; split at hr <;> first | exact pure' hr | cases hr) he
  case buildSlice t n ps =>
    simp only [evFree] at he
    split at he
    · rename_i e z b hs
      split at he
      · rename_i hcnd
        obtain ⟨xs, hxs, rfl⟩ := Option.map_eq_some_iff.1 he
        obtain ⟨u, w', h1, h2⟩ := bslFree (P := C.P) h hu (n := n) (ps := ps.toList.map fun p => (p.1, valO a p.2)) (qs := ps.map fun (i, x) => (i, act.eval x)) hs (by simp) (by simpa using hcnd.1) hcnd.2.1 (fun i p hp => by
          rw [List.getElem?_map] at hp
          obtain ⟨q, hq, rfl⟩ := Option.map_eq_some_iff.1 hp
          have hq' : ps[i]? = some q := by simpa using hq
          refine ⟨(q.1, act.eval q.2), by simp [hq'], rfl, hx q.2 ?_⟩
          have := Array.mem_of_getElem? hq'
          simp only [Op.operands]
          simp
          exact ⟨q.1, by simpa using this⟩) hxs
        obtain ⟨g', k1, k2, k3, k4⟩ := h2
        exact wp_value (x := Instr.buildSlice t n (ps.map fun (i, x) => (i, act.eval x))) (by simp only [execOp]) h1 (hn _ _ g' k1 k2 k3)
      · cases he
    · cases he
  case makeSlice t n c =>
    simp only [evFree] at he
    split at he
    · rename_i e z b zc n' c' h1 h2 h3 h4
      split at he
      · rename_i hcnd
        obtain ⟨c3, rfl, c5, c6, c7, c8, c9⟩ := hcnd
        cases he
        have hn0 := hx n (by simp [Op.operands])
        have hc0 := hx c (by simp [Op.operands])
        rw [h3] at hn0
        rw [h4] at hc0
        generalize hq1 : act.eval n = q1 at hn0
        generalize hq2 : act.eval c = q2 at hc0
        cases hn0
        cases hc0
        rw [h1] at h2
        obtain ⟨u, w', r1, g', k1, k2, k3, _⟩ := mkFree (P := C.P) h hu h1 h2 c3 c5 c6 c7 c8 c9
        exact wp_value (x := Instr.makeSlice t (act.eval n) (act.eval c)) rfl (by rw [hq1, hq2]; exact r1) (hn _ _ g' k1 k2 k3)
      · cases he
    · cases he
  case call k =>
    obtain ⟨callee, args, ts⟩ := k
    cases callee with
    | value f =>
      refine key (d + 1) (fun r hr hru => ?_) ?_
      · simp only [evOp] at hr
        split at hr
        · exact (hk (d + 1) (d + 1) _ _ _ _ (Nat.le_refl _) hr).eq hu hru
        · cases hr
      · simp only [evFree] at he
        simp only [evOp]
        split at he
        · exact he
        · cases he
    | invoke _ _ => exact key 0 (fun r hr _ => by simp [evOp] at hr) he
    | builtin b =>
      cases b <;> first
        | (exact key 0 (fun r hr _ => pure' hr) he)
        | (exact key 0 (fun r hr _ => by simp only [evOp] at hr; split at hr <;> first | exact pure' hr | (cases hr; done) | (rename_i h1 _ _; cases h1)) he)
        | (simp only [evFree] at he; cases he; done)
  all_goals exact key 0 (fun r hr _ => by simp [evOp] at hr) he

/-! ### What the free operations' evaluation says of each -/
theorem putD_ne {a : Nat → MV} {dst : Option Tmp} {v : MV} {t : Nat} (h : dst ≠ some t) : putD a dst v t = a t := by
  cases dst with
  | none => rfl
  | some t0 => exact upd_ne _ _ (by rintro rfl; exact h rfl)
def Told (C : Cfg) (call : Call) (d : Nat) (ops : Array Oper) (s : Sto) (a1 : Nat → MV) (o : Oper) : Prop :=
  ∃ a : Nat → MV, (∀ t ∈ o.looksAt ops, a t = a1 t) ∧
    ((want ops a o = some true ∧ isNew o = true) ∨
     (want ops a o = some true ∧ isNew o = false ∧ ∃ v, evFree C call d a o s = some v ∧ ∀ t, o.dst = some t → a1 t = v) ∨
     (want ops a o = some false ∧ ∀ t, o.dst = some t → a1 t = .undef))
theorem evOpsF_spec {call : Call} : ∀ (l : List Oper) (a a1 : Nat → MV), evOpsF C call d ops s l a = some a1 →
    (∀ (i j : Nat) (x y : Oper), l[i]? = some x → l[j]? = some y → i ≤ j → ∀ t, y.dst = some t → t ∉ x.looksAt ops) → (∀ (i j : Nat) (x y : Oper), l[i]? = some x → l[j]? = some y → i < j → ∀ t, x.dst = some t → y.dst ≠ some t) →
    (∀ t, (∀ y ∈ l, y.dst ≠ some t) → a1 t = a t) ∧ ∀ x ∈ l, Told C call d ops s a1 x
  | [], a, a1, h, _, _ => by cases h; exact ⟨fun _ _ => rfl, by simp⟩
  | o :: l, a, a1, h, h1, h2 => by
    have h1' : ∀ (i j : Nat) (x y : Oper), l[i]? = some x → l[j]? = some y → i ≤ j → ∀ t, y.dst = some t → t ∉ x.looksAt ops := fun i j x y hx hy hij => h1 (i + 1) (j + 1) x y (by simpa using hx) (by simpa using hy) (by omega)
    have h2' : ∀ (i j : Nat) (x y : Oper), l[i]? = some x → l[j]? = some y → i < j → ∀ t, x.dst = some t → y.dst ≠ some t := fun i j x y hx hy hij => h2 (i + 1) (j + 1) x y (by simpa using hx) (by simpa using hy) (by omega)
    have hno : ∀ t, o.dst = some t → ∀ y ∈ l, y.dst ≠ some t := fun t ht y hy => by
      obtain ⟨j, hj⟩ := List.mem_iff_getElem?.1 hy
      exact h2 0 (j + 1) o y rfl (by simpa using hj) (by omega) t ht
    have hlook : ∀ t ∈ o.looksAt ops, ∀ y ∈ o :: l, y.dst ≠ some t := fun t ht y hy hyt => by
      obtain ⟨j, hj⟩ := List.mem_iff_getElem?.1 hy
      exact h1 0 j o y rfl hj (by omega) t hyt ht
    have go : ∀ (a' : Nat → MV), (∀ t, o.dst ≠ some t → a' t = a t) → evOpsF C call d ops s l a' = some a1 →
        (((want ops a o = some true ∧ isNew o = true) ∨ (want ops a o = some true ∧ isNew o = false ∧ ∃ v, evFree C call d a o s = some v ∧ ∀ t, o.dst = some t → a' t = v) ∨ (want ops a o = some false ∧ ∀ t, o.dst = some t → a' t = .undef))) →
        (∀ t, (∀ y ∈ o :: l, y.dst ≠ some t) → a1 t = a t) ∧ ∀ x ∈ o :: l, Told C call d ops s a1 x := fun a' ha' he hw => by
      obtain ⟨r1, r2⟩ := evOpsF_spec l a' a1 he h1' h2'
      have hkeep : ∀ t, (∀ y ∈ o :: l, y.dst ≠ some t) → a1 t = a t := fun t ht => by
        rw [r1 t fun y hy => ht y (List.mem_cons_of_mem _ hy), ha' t (ht o (List.mem_cons_self ..))]
      refine ⟨hkeep, fun x hx => ?_⟩
      rcases List.mem_cons.1 hx with rfl | hx
      · refine ⟨a, fun t ht => (hkeep t (hlook t ht)).symm, ?_⟩
        rcases hw with hw | ⟨hw, hn, v, hv, hd⟩ | ⟨hw, hd⟩
        · exact .inl hw
        · exact .inr (.inl ⟨hw, hn, v, hv, fun t ht => by rw [r1 t (hno t ht)]; exact hd t ht⟩)
        · exact .inr (.inr ⟨hw, fun t ht => by rw [r1 t (hno t ht)]; exact hd t ht⟩)
      · exact r2 x hx
    simp only [evOpsF] at h
    split at h
    · rename_i hw
      split at h
      · rename_i hn
        exact go a (fun _ _ => rfl) h (.inl ⟨hw, hn⟩)
      · rename_i hn
        obtain ⟨v, hv, h⟩ := Option.bind_eq_some_iff.1 h
        exact go _ (fun t ht => putD_ne ht) h (.inr (.inl ⟨hw, by simpa using hn, v, hv, fun t ht => by rw [ht]; exact upd_same _ _ _⟩))
    · rename_i hw
      exact go _ (fun t ht => putD_ne ht) h (.inr (.inr ⟨hw, fun t ht => by rw [ht]; exact upd_same _ _ _⟩))
    · cases h

theorem evNews_filter : ∀ (l : List Oper) (a : Nat → MV) (s : Sto), evNews C lim d l a s = evNews C lim d (l.filter isNew) a s
  | [], a, s => rfl
  | o :: l, a, s => by
    by_cases hn : isNew o = true
    · rw [List.filter_cons_of_pos hn]
      unfold isNew at hn
      split at hn
      · rename_i t ht
        simp only [evNews, ht]
        congr 1
        funext cs
        congr 1
        funext x
        exact evNews_filter l _ _
      · cases hn
    · rw [List.filter_cons_of_neg hn]
      rw [← evNews_filter l a s]
      unfold isNew at hn
      simp only [evNews]
      split at hn
      · exact absurd rfl hn
      · rfl
end
end Go.Mv
