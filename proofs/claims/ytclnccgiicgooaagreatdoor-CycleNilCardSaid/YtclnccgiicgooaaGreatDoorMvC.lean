/- The evaluator without memory: a part of its proof. -/
import Derived.Test.YtclnccgiicgooaaGreatDoorMvRun
set_option linter.unusedVariables false
set_option linter.unusedSimpArgs false
/- Frames, and regions that go by their order. -/
namespace Go.Mv
section
variable {C : Cfg} {w0 w w1 : World} {K : Kp} {g g1 : Gh} {s s1 : Sto} {lim d N : Nat} {a : Nat → MV} {act : Act} {Q : Exit → Act → World → Prop}

/-- A frame's slots. -/
structure AR (N : Nat) (w : World) (g : Gh) (s : Sto) (a : Nat → MV) (act : Act) : Prop where
  sz : N ≤ act.tmps.size
  rel : ∀ t, VR w g s (a t) (act.tmps.getD t undef)
  df : act.defers = []

theorem AR.ev (h : AR N w g s a act) (e : Ev w g s w1 g1 s1) : AR N w1 g1 s1 a act := ⟨h.sz, fun t => (h.rel t).ev e, h.df⟩
theorem put_same {act : Act} {t : Nat} {u : Value} (h : t < act.tmps.size) : (act.put (some t) u).tmps.getD t undef = u := by
  simp [Act.put, h]
theorem put_ne {act : Act} {t t' : Nat} {u : Value} (h : t' ≠ t) : (act.put (some t) u).tmps.getD t' undef = act.tmps.getD t' undef := by
  simp [Act.put, Array.getElem?_setIfInBounds_ne (Ne.symm h)]
theorem put_size (act : Act) (dst : Option Tmp) (u : Value) : (act.put dst u).tmps.size = act.tmps.size := by
  cases dst <;> simp [Act.put]
theorem put_df (act : Act) (dst : Option Tmp) (u : Value) : (act.put dst u).defers = act.defers := by
  cases dst <;> simp [Act.put]
theorem AR.put (h : AR N w g s a act) {dst : Option Tmp} (hd : ∀ t, dst = some t → t < N) {m : MV} {u : Value} (k : VR w g s m u) : AR N w g s (putD a dst m) (act.put dst u) := by
  refine ⟨by rw [put_size]; exact h.sz, fun t => ?_, by rw [put_df]; exact h.df⟩
  cases dst with
  | none => exact h.rel t
  | some t0 =>
    have hlt : t0 < act.tmps.size := Nat.lt_of_lt_of_le (hd t0 rfl) h.sz
    simp only [putD]
    by_cases e : t = t0
    · subst e
      rw [upd_same, put_same hlt]
      exact k
    · rw [upd_ne _ _ e, put_ne e]
      exact h.rel t
theorem valR (x : Operand) (h : ∀ t, x = .tmp t → VR w g s (a t) (act.tmps.getD t undef)) : VR w g s (valO a x) (act.eval x) := by
  cases x with
  | tmp t => exact h t rfl
  | const v => exact VR_ofV v
  | global _ => exact .junk _
  | func f => exact .fn f
theorem AR.eval (h : AR N w g s a act) (x : Operand) : VR w g s (valO a x) (act.eval x) := valR x fun t _ => h.rel t

theorem wantR {ops : Array Oper} {o : Oper} (h : ∀ j v t, o.guard = some (j, v) → (ops[j]?).bind (·.dst) = some t → VR w g s (a t) (act.tmps.getD t undef)) {b : Bool} (hw : want ops a o = some b) : Region.wanted o (yielded ops act.tmps) = b := by
  unfold want at hw
  unfold Region.wanted
  cases hg : o.guard with
  | none => simp [hg] at hw; subst hw; rfl
  | some gv =>
    obtain ⟨j, v⟩ := gv
    simp only [hg] at hw
    cases ht : (ops[j]?).bind (·.dst) with
    | none => simp [ht] at hw
    | some t =>
      simp only [ht] at hw
      have k := h j v t hg ht
      cases ha : a t <;> rw [ha] at hw k <;> try (cases hw; done)
      · cases hw
        have hu : act.tmps.getD t undef = undef := by
          generalize act.tmps.getD t undef = q at k
          cases k
          rfl
        unfold yielded
        simp only [ht, Option.bind_some]
        cases hq : act.tmps[t]? with
        | none => rfl
        | some q =>
          have : q = undef := by simpa [hq] using hu
          subst this
          rfl
      · rename_i b'
        cases hw
        have hu : act.tmps.getD t undef = .bool b' := by
          generalize act.tmps.getD t undef = q at k
          cases k
          rfl
        unfold yielded
        simp only [ht, Option.bind_some]
        cases hq : act.tmps[t]? with
        | none => simp [hq, undef] at hu
        | some q =>
          have : q = .bool b' := by simpa [hq] using hu
          subst this
          simp

/-- Where code has come to. -/
def Res (w0 : World) (K : Kp) (N d : Nat) (w : World) (g : Gh) (s : Sto) (a' : Nat → MV) (s' : Sto) (act' : Act) (w' : World) : Prop := ∃ g', AR N w' g' s' a' act' ∧ St w0 K w' g' s' ∧ Ev w g s w' g' s' ∧ s'.Und (d + 1)
theorem Res.after {a2 : Nat → MV} {s2 : Sto} {act2 : Act} {w2 : World} (e : Ev w g s w1 g1 s1) (h : Res w0 K N d w1 g1 s1 a2 s2 act2 w2) : Res w0 K N d w g s a2 s2 act2 w2 := by
  obtain ⟨g', h1, h2, h3, h4⟩ := h
  exact ⟨g', h1, h2, e.trans h3, h4⟩

theorem opsSound (hC : C.OK) (hK : C.KO K) {call : Call} (hc : CallOK C call) {ops : Array Oper} : ∀ (l : List Oper), (∀ o ∈ l, ∀ t, o.dst = some t → t < N) → ∀ {a : Nat → MV} {s : Sto} {w : World} {g : Gh} {act : Act} {r : (Nat → MV) × Sto}, evOps C call lim d ops l a s = some r →
    AR N w g s a act → St w0 K w g s → s.Und (d + 1) → (∀ act' w', Res w0 K N d w g s r.1 r.2 act' w' → Q .normal act' w') → wpList C.P ops Q l act w
  | [], _, a, s, w, g, act, r, he, ha, h, hu, hq => by
    cases he
    exact hq act w ⟨g, ha, h, .refl _ _ _, hu⟩
  | o :: l, hl, a, s, w, g, act, r, he, ha, h, hu, hq => by
    simp only [evOps] at he
    have hd := hl o (List.mem_cons_self ..)
    have hl' : ∀ o ∈ l, ∀ t, o.dst = some t → t < N := fun o ho => hl o (List.mem_cons_of_mem _ ho)
    split at he
    · rename_i hw
      have hw' := wantR (fun _ _ t _ _ => ha.rel t) hw
      obtain ⟨x, hx, he⟩ := Option.bind_eq_some_iff.1 he
      simp only [wpList, hw', if_true]
      refine .inl (opSound hC hK hc h hu (fun x _ => ha.eval x) hx fun u w' hm => ?_)
      obtain ⟨g', k1, k2, k3, k4⟩ := hm
      exact opsSound hC hK hc l hl' he ((ha.ev k3).put hd k1) k2 k4 fun act' w'' hr => hq act' w'' (.after k3 hr)
    · rename_i hw
      have hw' := wantR (fun _ _ t _ _ => ha.rel t) hw
      simp only [wpList, hw', Bool.false_eq_true, if_false]
      exact opsSound hC hK hc l hl' he (ha.put hd .undef) h hu hq
    · cases he
end
end Go.Mv
