/- The evaluator without memory: a part of its proof. -/
import Derived.Test.YtclnccgiicgooaaGreatDoorMvLoose
import Derived.Scope
import Derived.Below
import Derived.ChangeSame
import Derived.Test.YtclnccgiicgooaaGreatDoorMvB
import Derived.Laws.StructEq
set_option linter.unusedVariables false
set_option linter.unusedSimpArgs false
/- Code and calls: what the evaluator says of them the machine does. -/
namespace Go.Mv
section
variable {C : Cfg} {w0 w w1 : World} {K : Kp} {g g1 : Gh} {s s1 : Sto} {lim d N n : Nat} {a a1 : Nat → MV} {act : Act} {Q : Exit → Act → World → Prop} {ops : Array Oper}

def exitOf : Ex → Exit
  | .nrm => .normal
  | .exit id => .exit id
  | .ret => .ret
  | .goto l => .goto l
/-- Where code comes to. -/
def Post (w0 : World) (K : Kp) (N d : Nat) (w : World) (g : Gh) (s : Sto) (e : Ex) (a' : Nat → MV) (s' : Sto) : Exit → Act → World → Prop := fun e' act' w' => e' = exitOf e ∧ Res w0 K N d w g s a' s' act' w'
theorem Post.after {e : Ex} {a2 : Nat → MV} {s2 : Sto} (k : Ev w g s w1 g1 s1) {e' : Exit} {act' : Act} {w' : World} (h : Post w0 K N d w1 g1 s1 e a2 s2 e' act' w') : Post w0 K N d w g s e a2 s2 e' act' w' := ⟨h.1, h.2.after k⟩

/-! Scopes -/
def Inside (P : Program) (c x : Code) (Q : Exit → Act → World → Prop) (act : Act) (w : World) : Prop := ∀ (b : Frame) (k : List Item) (cs : List Frame), ∃ e a' w', Q e a' w' ∧ Arrives P (lone (b.at act (.code x :: .inScope c :: k)) cs w) b k cs e a' w'
theorem Inside.mono {P : Program} {c x : Code} {Q Q' : Exit → Act → World → Prop} (h : Inside P c x Q act w) (hq : ∀ e a w, Q e a w → Q' e a w) : Inside P c x Q' act w := fun b k cs => by
  obtain ⟨e, a', w', h1, h2⟩ := h b k cs
  exact ⟨e, a', w', hq _ _ _ h1, h2⟩
/-- What is asked of an exit within a scope. -/
def AtExit (P : Program) (c : Code) (Q : Exit → Act → World → Prop) : Exit → Act → World → Prop
  | .goto l, a, w => match findLabel c l with
    | some r => Inside P c r Q a w
    | none => Q (.goto l) a w
  | e, a, w => Q e a w
theorem inside_of {P : Program} {c x : Code} {R Q : Exit → Act → World → Prop} (h : x.wp P R act w) (hq : ∀ e a' w', R e a' w' → AtExit P c Q e a' w') : Inside P c x Q act w := fun b k cs => by
  obtain ⟨e, a₁, w₁, hr, harr⟩ := h b (.inScope c :: k) cs
  have hq' := hq _ _ _ hr
  cases e with
  | normal => exact ⟨.normal, a₁, w₁, hq', Steps.trans harr (.one step_inScope)⟩
  | exit id => exact ⟨.exit id, a₁, w₁, hq', fun k' hk => harr k' (by simp [exitTo, hk])⟩
  | goto l =>
    simp only [AtExit] at hq'
    cases hf : findLabel c l with
    | none =>
      rw [hf] at hq'
      exact ⟨.goto l, a₁, w₁, hq', fun k' hk => harr k' (by simp [gotoIn, hf, hk])⟩
    | some r =>
      rw [hf] at hq'
      obtain ⟨e₂, a₂, w₂, h1, h2⟩ := hq' b k cs
      exact ⟨e₂, a₂, w₂, h1, .of_steps (harr _ (by simp [gotoIn, hf])) h2⟩
  | ret => exact ⟨_, a₁, w₁, hq', harr⟩
  | panic ch => exact ⟨_, a₁, w₁, hq', harr⟩
  | outgrown => exact ⟨_, a₁, w₁, hq', harr⟩
theorem wp_scope_in {P : Program} {c : Code} {Q : Exit → Act → World → Prop} (h : Inside P c c Q act w) : (Code.scope c).wp P Q act w := fun b k cs => by
  obtain ⟨e, a', w', h1, h2⟩ := h b k cs
  exact ⟨e, a', w', h1, .of_steps (.one step_scope) h2⟩

mutual
theorem codeSound (hC : C.OK) (hK : C.KO K) {call : Call} (hc : CallOK C call) (hk : Keeps call) {n : Nat} : ∀ (c : Code), okCode N c = true → ∀ {a : Nat → MV} {s : Sto} {w : World} {g : Gh} {act : Act} {e : Ex} {a' : Nat → MV} {s' : Sto}, evCode C call n lim d c a s = some (e, a', s') →
    AR N w g s a act → St w0 K w g s → s.Und (d + 1) → c.wp C.P (Post w0 K N d w g s e a' s') act w
  | .skip, _, a, s, w, g, act, e, a', s', he, ha, h, hu => by
    cases he
    exact wp_skip ⟨rfl, g, ha, h, .refl _ _ _, hu⟩
  | .label _, _, a, s, w, g, act, e, a', s', he, ha, h, hu => by
    cases he
    exact wp_label ⟨rfl, g, ha, h, .refl _ _ _, hu⟩
  | .region id ops false, ho, a, s, w, g, act, e, a', s', he, ha, h, hu => by
    simp only [evCode, Option.map_eq_some_iff] at he
    obtain ⟨x, hx, hr⟩ := he
    cases hr
    simp only [okCode] at ho
    refine wp_region_list (opsSound hC hK hc ops.toList (fun o hoo t ht => ?_) hx ha h hu fun act' w' hr => ⟨rfl, hr⟩)
    have := Array.all_eq_true_iff_forall_mem.1 ho o (Array.mem_toList_iff.1 hoo)
    simpa [ht] using this
  | .region id ops true, ho, a, s, w, g, act, e, a', s', he, ha, h, hu => by
    simp only [evCode, Option.map_eq_some_iff] at he
    obtain ⟨x, hx, hr⟩ := he
    cases hr
    simp only [okCode] at ho
    split at hx
    · split at hx
      · rename_i hoh
        exact hotSound hC hK hc hk ho hoh hx ha h hu fun act' w' hr => ⟨rfl, hr⟩
      · cases hx
    split at hx
    · rename_i hod
      exact drawSound hC hK hc hk ho hod hx ha h hu fun act' w' hr => ⟨rfl, hr⟩
    split at hx
    · rename_i hol
      exact looseSound hC hK hc hk ho hol hx ha h hu fun act' w' hr => ⟨rfl, hr⟩
    · cases hx
  | .seq x y, ho, a, s, w, g, act, e, a', s', he, ha, h, hu => by
    simp only [okCode, Bool.and_eq_true] at ho
    simp only [evCode] at he
    cases hx : evCode C call n lim d x a s with
    | none => simp [hx] at he
    | some z =>
      obtain ⟨e1, a1, s1⟩ := z
      simp only [hx] at he
      refine wp_seq (wp_mono (codeSound hC hK hc hk x ho.1 hx ha h hu) fun e' act' w' hp => ?_)
      obtain ⟨rfl, g', k1, k2, k3, k4⟩ := hp
      cases e1 with
      | nrm => exact wp_mono (codeSound hC hK hc hk y ho.2 he k1 k2 k4) fun _ _ _ => Post.after k3
      | exit id => cases he; exact ⟨rfl, g', k1, k2, k3, k4⟩
      | ret => cases he; exact ⟨rfl, g', k1, k2, k3, k4⟩
      | goto l => cases he; exact ⟨rfl, g', k1, k2, k3, k4⟩
  | .cond v x y, ho, a, s, w, g, act, e, a', s', he, ha, h, hu => by
    simp only [okCode, Bool.and_eq_true] at ho
    simp only [evCode] at he
    have h0 := ha.eval v
    cases hv : valO a v <;> rw [hv] at he h0 <;> try (simp at he; done)
    rename_i b
    generalize hq : act.eval v = q at h0
    cases h0
    refine wp_cond hq ?_
    cases b
    · exact codeSound hC hK hc hk y ho.2 he ha h hu
    · exact codeSound hC hK hc hk x ho.1 he ha h hu
  | .block id x, ho, a, s, w, g, act, e, a', s', he, ha, h, hu => by
    simp only [okCode] at ho
    simp only [evCode] at he
    cases hx : evCode C call n lim d x a s with
    | none => simp [hx] at he
    | some z =>
      obtain ⟨e1, a1, s1⟩ := z
      rw [hx] at he
      refine wp_block (wp_mono (codeSound hC hK hc hk x ho hx ha h hu) fun e' act' w' hp => ?_)
      obtain ⟨rfl, hr⟩ := hp
      cases e1 with
      | nrm => cases he; exact ⟨rfl, hr⟩
      | ret => cases he; exact ⟨rfl, hr⟩
      | goto l => cases he; exact ⟨rfl, hr⟩
      | exit id' =>
        simp only at he
        simp only [exitOf, Exit.inBlock]
        split at he
        · rename_i hid
          rw [if_pos hid]
          cases he
          exact ⟨rfl, hr⟩
        · rename_i hid
          rw [if_neg hid]
          cases he
          exact ⟨rfl, hr⟩
  | .loop x, ho, a, s, w, g, act, e, a', s', he, ha, h, hu => by
    simp only [okCode] at ho
    simp only [evCode] at he
    have key : ∀ (m : Nat) {a : Nat → MV} {s : Sto} {w : World} {g : Gh} {act : Act} {e : Ex} {a' : Nat → MV} {s' : Sto}, evLoop (fun a σ => evCode C call n lim d x a σ) m a s = some (e, a', s') → AR N w g s a act → St w0 K w g s → s.Und (d + 1) →
        ∀ {Q : Exit → Act → World → Prop}, (∀ e' act' w', Post w0 K N d w g s e a' s' e' act' w' → Q e' act' w') → (e = .nrm → False) → Code.rounds C.P x Q m act w := by
      intro m
      induction m with
      | zero => intro a s w g act e a' s' he; cases he
      | succ m ih =>
        intro a s w g act e a' s' he ha h hu Q hq hne
        simp only [evLoop] at he
        rw [rounds_succ]
        cases hx : evCode C call n lim d x a s with
        | none => simp [hx] at he
        | some z =>
          obtain ⟨e1, a1, s1⟩ := z
          simp only [hx] at he
          refine wp_mono (codeSound hC hK hc hk x ho hx ha h hu) fun e' act' w' hp => ?_
          obtain ⟨rfl, g', k1, k2, k3, k4⟩ := hp
          cases e1 with
          | nrm => exact ih he k1 k2 k4 (fun e' act' w' hp => hq e' act' w' (hp.after k3)) hne
          | exit id => cases he; exact hq _ _ _ ⟨rfl, g', k1, k2, k3, k4⟩
          | ret => cases he; exact hq _ _ _ ⟨rfl, g', k1, k2, k3, k4⟩
          | goto l => cases he; exact hq _ _ _ ⟨rfl, g', k1, k2, k3, k4⟩
    have hne : ∀ (m : Nat) {a : Nat → MV} {s : Sto} {e : Ex} {a' : Nat → MV} {s' : Sto}, evLoop (fun a σ => evCode C call n lim d x a σ) m a s = some (e, a', s') → e = .nrm → False := by
      intro m
      induction m with
      | zero => intro a s e a' s' he; cases he
      | succ m ih =>
        intro a s e a' s' he hee
        simp only [evLoop] at he
        cases hx : evCode C call n lim d x a s with
        | none => simp [hx] at he
        | some z =>
          obtain ⟨e1, a1, s1⟩ := z
          simp only [hx] at he
          cases e1 with
          | nrm => exact ih he hee
          | exit id => cases he; cases hee
          | ret => cases he; cases hee
          | goto l => cases he; cases hee
    exact wp_loop_rounds n (key n he ha h hu (fun _ _ _ hp => hp) (hne n he))
  | .exit _, _, a, s, w, g, act, e, a', s', he, ha, h, hu => by
    cases he
    exact wp_exit ⟨rfl, g, ha, h, .refl _ _ _, hu⟩
  | .ret, _, a, s, w, g, act, e, a', s', he, ha, h, hu => by
    cases he
    exact wp_ret ⟨rfl, g, ha, h, .refl _ _ _, hu⟩
  | .goto l, _, a, s, w, g, act, e, a', s', he, ha, h, hu => by
    simp only [evCode] at he
    cases he
    exact wp_goto ⟨rfl, g, ha, h, .refl _ _ _, hu⟩
  | .scope x, ho, a, s, w, g, act, e, a', s', he, ha, h, hu => by
    simp only [okCode] at ho
    simp only [evCode] at he
    have at' : ∀ (l : Nat) (r : Code), findLabel x l = some r → ∀ {a : Nat → MV} {s : Sto} {w : World} {g : Gh} {act : Act} {e : Ex} {a' : Nat → MV} {s' : Sto}, evAt C call n lim d x l a s = some (e, a', s') → AR N w g s a act → St w0 K w g s → s.Und (d + 1) → r.wp C.P (Post w0 K N d w g s e a' s') act w :=
      fun l r hf => codeSoundAt hC hK hc hk x ho l r hf
    have key : ∀ (m : Nat) {y : Code} {e0 : Ex} {a0 : Nat → MV} {s0 : Sto} {w : World} {g : Gh} {s : Sto} {act : Act}, y.wp C.P (Post w0 K N d w g s e0 a0 s0) act w → evScope (fun l => (findLabel x l).isSome) (fun l a σ => evAt C call n lim d x l a σ) m (some (e0, a0, s0)) = some (e, a', s') →
        Inside C.P x y (Post w0 K N d w g s e a' s') act w := by
      intro m
      induction m with
      | zero =>
        intro y e0 a0 s0 w g s act hy he
        refine inside_of hy fun e' act' w' hp => ?_
        obtain ⟨rfl, hr⟩ := hp
        have hP : Post w0 K N d w g s e0 a0 s0 (exitOf e0) act' w' := ⟨rfl, hr⟩
        cases e0 <;> simp only [evScope] at he
        · cases he; exact hP
        · cases he; exact hP
        · cases he; exact hP
        · rename_i l
          simp only [exitOf, AtExit]
          split at he
          · cases he
          · rename_i hl
            cases he
            cases hf : findLabel x l with
            | none => exact hP
            | some r => rw [hf] at hl; exact absurd rfl hl
      | succ m ih =>
        intro y e0 a0 s0 w g s act hy he
        refine inside_of hy fun e' act' w' hp => ?_
        obtain ⟨rfl, hr⟩ := hp
        have hP : Post w0 K N d w g s e0 a0 s0 (exitOf e0) act' w' := ⟨rfl, hr⟩
        cases e0 <;> simp only [evScope] at he
        · cases he; exact hP
        · cases he; exact hP
        · cases he; exact hP
        · rename_i l
          simp only [exitOf, AtExit]
          split at he
          · rename_i hl
            obtain ⟨r, hf⟩ := Option.isSome_iff_exists.1 hl
            rw [hf]
            obtain ⟨g', k1, k2, k3, k4⟩ := hr
            cases hz : evAt C call n lim d x l a0 s0 with
            | none => rw [hz, evScope_none] at he; cases he
            | some z =>
              obtain ⟨e1, a1, s1⟩ := z
              rw [hz] at he
              exact (ih (at' l r hf hz k1 k2 k4) he).mono fun _ _ _ => Post.after k3
          · rename_i hl
            cases he
            cases hf : findLabel x l with
            | none => exact hP
            | some r => rw [hf] at hl; exact absurd rfl hl
    cases hx : evCode C call n lim d x a s with
    | none => rw [hx, evScope_none] at he; cases he
    | some z =>
      obtain ⟨e1, a1, s1⟩ := z
      rw [hx] at he
      exact wp_scope_in (key n (codeSound hC hK hc hk x ho hx ha h hu) he)
  | .rangeFunc .., _, a, s, w, g, act, e, a', s', he, _, _, _ => by simp [evCode] at he
  | .refuse _, _, a, s, w, g, act, e, a', s', he, _, _, _ => by simp [evCode] at he
theorem codeSoundAt (hC : C.OK) (hK : C.KO K) {call : Call} (hc : CallOK C call) (hk : Keeps call) {n : Nat} : ∀ (c : Code), okCode N c = true → ∀ (l : Nat) (r : Code), findLabel c l = some r → ∀ {a : Nat → MV} {s : Sto} {w : World} {g : Gh} {act : Act} {e : Ex} {a' : Nat → MV} {s' : Sto}, evAt C call n lim d c l a s = some (e, a', s') →
    AR N w g s a act → St w0 K w g s → s.Und (d + 1) → r.wp C.P (Post w0 K N d w g s e a' s') act w
  | .seq x y, ho, l, r, hf, a, s, w, g, act, e, a', s', he, ha, h, hu => by
    simp only [okCode, Bool.and_eq_true] at ho
    simp only [evAt] at he
    simp only [findLabel] at hf
    cases hfx : findLabel x l with
    | none =>
      rw [hfx] at hf he
      simp only [Option.isSome_none, Bool.false_eq_true, if_false] at he
      exact codeSoundAt hC hK hc hk y ho.2 l r hf he ha h hu
    | some rx =>
      rw [hfx] at hf he
      cases hf
      simp only [Option.isSome_some, if_true] at he
      cases hx : evAt C call n lim d x l a s with
      | none => simp [hx] at he
      | some z =>
        obtain ⟨e1, a1, s1⟩ := z
        simp only [hx] at he
        refine wp_seq (wp_mono (codeSoundAt hC hK hc hk x ho.1 l rx hfx hx ha h hu) fun e' act' w' hp => ?_)
        obtain ⟨rfl, g', k1, k2, k3, k4⟩ := hp
        cases e1 with
        | nrm => exact wp_mono (codeSound hC hK hc hk y ho.2 he k1 k2 k4) fun _ _ _ => Post.after k3
        | exit id => cases he; exact ⟨rfl, g', k1, k2, k3, k4⟩
        | ret => cases he; exact ⟨rfl, g', k1, k2, k3, k4⟩
        | goto l => cases he; exact ⟨rfl, g', k1, k2, k3, k4⟩
  | .label l', ho, l, r, hf, a, s, w, g, act, e, a', s', he, ha, h, hu => by
    simp only [evAt] at he
    split at he
    · rename_i hl
      cases he
      subst hl
      simp only [findLabel, beq_self_eq_true, if_true] at hf
      cases hf
      exact wp_skip ⟨rfl, g, ha, h, .refl _ _ _, hu⟩
    · cases he
  | .skip, _, _, _, _, _, _, _, _, _, _, _, _, he, _, _, _ => by simp [evAt] at he
  | .region .., _, _, _, _, _, _, _, _, _, _, _, _, he, _, _, _ => by simp [evAt] at he
  | .cond .., _, _, _, _, _, _, _, _, _, _, _, _, he, _, _, _ => by simp [evAt] at he
  | .block .., _, _, _, _, _, _, _, _, _, _, _, _, he, _, _, _ => by simp [evAt] at he
  | .loop _, _, _, _, _, _, _, _, _, _, _, _, _, he, _, _, _ => by simp [evAt] at he
  | .exit _, _, _, _, _, _, _, _, _, _, _, _, _, he, _, _, _ => by simp [evAt] at he
  | .ret, _, _, _, _, _, _, _, _, _, _, _, _, he, _, _, _ => by simp [evAt] at he
  | .goto _, _, _, _, _, _, _, _, _, _, _, _, _, he, _, _, _ => by simp [evAt] at he
  | .scope _, _, _, _, _, _, _, _, _, _, _, _, _, he, _, _, _ => by simp [evAt] at he
  | .rangeFunc .., _, _, _, _, _, _, _, _, _, _, _, _, he, _, _, _ => by simp [evAt] at he
  | .refuse _, _, _, _, _, _, _, _, _, _, _, _, _, he, _, _, _ => by simp [evAt] at he
end

/-- The results. -/
def resF (act : Act) : ResultVar → Sem Value
  | .tmp t => pure (act.tmps.getD t undef)
  | .cell x t => do loadVar t (← asAddr (act.tmps.getD x undef))
theorem results_eq (fn : Func) (act : Act) : results fn act.tmps = (do let vs ← fn.results.mapM (resF act); pure (if h : vs.size = 1 then vs[0] else .tuple vs)) := by
  have : resF act = fun rv => match rv with
    | .tmp t => pure (act.tmps.getD t undef)
    | .cell x t => (do loadVar t (← asAddr (act.tmps.getD x undef)) : Sem Value) := by funext rv; cases rv <;> rfl
  rw [this]
  rfl
theorem resVSound {P : Program} (ha : AR N w g s a act) (h : St w0 K w g s) {rv : ResultVar} {v : MV} (he : resV P s a rv = some v) : ∃ u, (resF act rv).run P w = .ok u w ∧ VR w g s v u := by
  cases rv with
  | tmp t => cases he; exact ⟨_, rfl, ha.rel t⟩
  | cell x t =>
    simp only [resV] at he
    obtain ⟨u, h1, h2⟩ := ldSound (P := P) h (ha.rel x) he
    refine ⟨u, ?_, h2⟩
    have h3 := ha.rel x
    simp only [resF]
    generalize hq : act.tmps.getD x undef = q at h3 h1
    cases hm : a x <;> rw [hm] at he h3 <;> try (simp only [ldO] at he; cases he; done)
    · cases h3
      simpa [asAddr, Instr.loadAt, Instr.sureAddr] using h1
    · cases h3
      simpa [asAddr, Instr.loadAt, Instr.sureAddr] using h1

theorem mapM_run {P : Program} {f : ResultVar → Sem Value} {m : ResultVar → Option MV} (hf : ∀ rv v, m rv = some v → ∃ u, (f rv).run P w = .ok u w ∧ VR w g s v u) : ∀ (rs : List ResultVar) (vs : List MV), rs.mapM m = some vs → ∃ us : List Value, (rs.mapM f : Sem (List Value)).run P w = .ok us w ∧ us.length = vs.length ∧ ∀ (i : Nat) (c : MV), vs[i]? = some c → VR w g s c (us[i]?.getD undef)
  | [], vs, h => by
    simp at h
    subst h
    exact ⟨[], rfl, rfl, by simp⟩
  | r :: rs, vs, h => by
    rw [List.mapM_cons] at h
    cases hm : m r with
    | none => simp [hm] at h
    | some v =>
      cases hr : rs.mapM m with
      | none => simp [hm, hr] at h
      | some vs' =>
        simp [hm, hr] at h
        subst h
        obtain ⟨u, u1, u2⟩ := hf r v hm
        obtain ⟨us, q1, q2, q3⟩ := mapM_run hf rs vs' hr
        refine ⟨u :: us, ?_, by simp [q2], fun i c hc => ?_⟩
        · rw [List.mapM_cons]
          simp only [Sem.run_bind, u1, Result.andThen_ok, q1]
          rfl
        · cases i with
          | zero => simp at hc; subst hc; exact u2
          | succ i => simpa using q3 i c (by simpa using hc)

theorem resSound {P : Program} {fn : Func} (ha : AR N w g s a act) (h : St w0 K w g s) {v : MV} (he : resO P fn.results.toList a s = some v) : ∃ u, (results fn act.tmps).run P w = .ok u w ∧ VR w g s v u := by
  unfold resO at he
  rw [results_eq]
  have key : ∀ vs, fn.results.toList.mapM (resV P s a) = some vs → ∃ us : List Value, (fn.results.mapM (resF act)).run P w = .ok us.toArray w ∧ us.length = vs.length ∧ ∀ (i : Nat) (c : MV), vs[i]? = some c → VR w g s c (us[i]?.getD undef) := fun vs hvs => by
    obtain ⟨us, q1, q2, q3⟩ := mapM_run (P := P) (f := resF act) (fun rv v hv => resVSound ha h hv) fn.results.toList vs hvs
    refine ⟨us, ?_, q2, q3⟩
    rw [Array.mapM_eq_mapM_toList]
    rw [show (List.toArray <$> fn.results.toList.mapM (resF act) : Sem (Array Value)) = (do let x ← fn.results.toList.mapM (resF act); pure x.toArray) from (map_eq_pure_bind _ _)]
    simp only [Sem.run_bind, q1, Result.andThen_ok]
    rfl
  split at he
  · rename_i v' hvs
    cases he
    obtain ⟨us, q1, q2, q3⟩ := key _ hvs
    refine ⟨us[0]'(by rw [q2]; simp), ?_, ?_⟩
    · have hsz : us.toArray.size = 1 := by simpa using q2
      simp only [Sem.run_bind, q1, Result.andThen_ok]
      rw [dif_pos hsz]
      rfl
    · have := q3 0 v rfl
      simpa [q2] using this
  · rename_i vs hne hvs
    cases he
    obtain ⟨us, q1, q2, q3⟩ := key _ hvs
    refine ⟨.tuple us.toArray, ?_, .tup vs us.toArray (by simpa using q2.symm) (by simpa using q3)⟩
    have hsz : us.toArray.size ≠ 1 := fun e => by
      have : vs.length = 1 := by rw [← q2]; simpa using e
      obtain ⟨v', rfl⟩ := List.length_eq_one_iff.1 this
      exact hne v' rfl
    simp only [Sem.run_bind, q1, Result.andThen_ok]
    rw [dif_neg hsz]
    rfl
  · cases he

theorem run_enter' {P : Program} {f : FuncId} {fn : Func} {c : Code} (hf : P.funcs[f]? = some fn) (hname : (fn.name == "runtime.NumGoroutine") = false) (hb : fn.body = some c) (args : Array Value) (w : World) :
    (callFunc f args).run P w = .ok (.enter f args) w := by
  have h1 : fn.name ≠ "runtime.NumGoroutine" := by simpa using hname
  simp [callFunc, hf, h1, hb]

/-- A call. -/
theorem bodySound (hC : C.OK) (hK : C.KO K) {n : Nat} (ih : CallOK C (mev C n)) {f : FuncId} {fn : Func} {c : Code} (hf : C.P.funcs[f]? = some fn) (hb : fn.body = some c) (hko : okCode fn.ntmps c = true) {ms : List MV} {r : MV × Sto}
    (he : endO C.P (d + 1) fn.results.toList (evCode C (mev C n) n lim (d + 1) c (startA ms) s) = some r) {vs : Array Value} (h : St w0 K w g s) (hu : s.Und (d + 1)) (ha : ArgsR w g s ms vs) :
    Calls C.P f vs w fun | .returned u, w' => Mak w0 K w g s d r.1 r.2 u w' | _, _ => False := by
  refine calls_of_wp hf hb ?_
  have hfr : AR fn.ntmps w g s (startA ms) { tmps := vs ++ Array.replicate (fn.ntmps - vs.size) undef, defers := [] } := by
    refine ⟨by simp; omega, fun t => ?_, rfl⟩
    unfold startA
    cases hm : ms[t]? with
    | none =>
      have hge : vs.size ≤ t := by rw [← ha.1]; exact List.getElem?_eq_none_iff.1 hm
      have : (vs ++ Array.replicate (fn.ntmps - vs.size) undef).getD t undef = undef := by
        rw [Array.getD_eq_getD_getElem?, Array.getElem?_append_right hge, Array.getElem?_replicate]
        split <;> rfl
      rw [this]
      exact .undef
    | some m =>
      have hlt : t < vs.size := by rw [← ha.1]; exact (List.getElem?_eq_some_iff.1 hm).1
      have := ha.2 t m hm
      rw [Array.getD_eq_getD_getElem?, Array.getElem?_append_left hlt]
      exact this
  have hu2 : s.Und (d + 1 + 1) := ⟨fun l hl => hu.ob l (by omega), fun d' c hl => hu.ow d' c (by omega), fun d' hl => hu.ct d' (by omega)⟩
  cases hx : evCode C (mev C n) n lim (d + 1) c (startA ms) s with
  | none => simp [hx, endO] at he
  | some z =>
    obtain ⟨e, a', s'⟩ := z
    have fin : ∀ {act' : Act} {w' : World}, Res w0 K fn.ntmps (d + 1) w g s a' s' act' w' → ((resO C.P fn.results.toList a' s').bind fun v => (v.res s' (d + 1)).map fun v => (v, s'.cut (d + 1))) = some r →
        act'.defers = [] ∧ ∃ v, (results fn act'.tmps).run C.P w' = .ok v w' ∧ Mak w0 K w g s d r.1 r.2 v w' := fun {act' w'} hr he => by
      obtain ⟨g', k1, k2, k3, k4⟩ := hr
      obtain ⟨v, hv, he⟩ := Option.bind_eq_some_iff.1 he
      obtain ⟨v', hv', rfl⟩ := Option.map_eq_some_iff.1 he
      obtain ⟨u, u1, u2⟩ := resSound k1 k2 hv
      exact ⟨k1.df, u, u1, g'.cut s' (d + 1), u2.res k2 hv', k2.cut (d + 1), Ev.cut h hu k3, Und.cut s' (d + 1)⟩
    refine wp_mono (codeSound hC hK ih (mev_keeps hC.keep n) c hko hx hfr h hu2) fun e' act' w' hp => ?_
    obtain ⟨rfl, hr⟩ := hp
    cases e <;> simp only [hx, endO] at he
    · exact fin hr he
    · cases he
    · exact fin hr he
    · cases he

theorem callSound (hC : C.OK) (n : Nat) : CallOK C (mev C n) := by
  induction n with
  | zero => intro w0 K hK lim d f ms s r he; cases he
  | succ n ih =>
    intro w0 K hK lim d f ms s r he w g vs h hu ha
    simp only [mev] at he
    split at he
    · rename_i p hp
      exact hC.prim f p hp w0 K hK lim d ms s r he w g vs h hu ha
    · split at he
      · rename_i fn hf
        split at he
        · rename_i c hb
          split at he
          · rename_i hko
            exact .inr ⟨f, vs, w, run_enter' hf (hC.num f fn hf) hb vs w, bodySound hC hK ih hf hb hko he h hu ha⟩
          · cases he
        · cases he
      · cases he
end
end Go.Mv
/- From an evaluation to what a law's call does. -/
namespace Go.Mv
open Go.ChangeShapes Go.WideShapes Go.RowKit

def s0 : Sto := ⟨fun _ => none, fun _ _ => none, fun _ => 0⟩
def gOf (W : World) : Gh := ⟨fun b o => ∃ u, W.cell? ⟨b, o, none⟩ = some u, fun _ => none, fun _ _ => (0, 0, 0)⟩
def kOf (W : World) : Kp := ⟨fun k x => W.heap[k]? = some x, fun _ => False⟩
theorem und0 (d : Nat) : s0.Und d := ⟨fun _ _ => rfl, fun _ _ _ => rfl, fun _ _ => rfl⟩
theorem st0 (W : World) : St W (kOf W) W (gOf W) s0 :=
  { os := rfl, tape := rfl, output := rfl, old := fun _ _ h => h, kn := fun _ h => h.elim, obj := fun _ _ _ h => (nomatch h), flat := fun _ _ h => (nomatch h), piB := fun _ _ h => (nomatch h), inj := fun _ _ _ h => (nomatch h), fr := fun _ _ => rfl, FB := fun _ _ h => h, Fpi := fun _ _ _ _ h => (nomatch h), tok := fun _ _ _ _ h => (nomatch h), tin := fun _ _ _ _ _ _ h => (nomatch h), tfr := fun _ _ _ => rfl }

theorem below_of_st {W w : World} {g : Gh} {s : Sto} (h : St W (kOf W) w g s) : Below W.heap.size W w := by
  have hb : ∀ k, k < W.heap.size → w.heap[k]? = W.heap[k]? := fun k hk => by
    have := h.old k W.heap[k] (Array.getElem?_eq_getElem hk)
    rw [this, Array.getElem?_eq_getElem hk]
  refine ⟨h.os, h.tape, h.output, ?_, hb⟩
  rcases Nat.lt_or_ge w.heap.size W.heap.size with hlt | hge
  · have := hb w.heap.size hlt
    rw [Array.getElem?_eq_getElem hlt] at this
    simp at this
  · exact hge

theorem law_calls {C : Cfg} (hC : C.OK) {f : FuncId} (hp : C.prim f = none) {W : World} (hK : C.KO (kOf W)) {args : Array Value} {ms : List MV} (ha : ArgsR W (gOf W) s0 ms args) (h : WF C 0 1 f ms s0 fun v _ => v = .bool true) :
    Calls C.P f args W fun e w' => e = .returned (.bool true) ∧ Below W.heap.size W w' := by
  obtain ⟨n, r, hr, hv⟩ := h
  cases n with
  | zero => cases hr
  | succ n =>
    simp only [mev, hp] at hr
    split at hr
    · rename_i fn hf
      split at hr
      · rename_i c hb
        split at hr
        · rename_i hko
          refine (bodySound (K := kOf W) hC hK (callSound hC n) hf hb hko hr (st0 W) (und0 1) ha).mono fun e w' he => ?_
          cases e with
          | returned u =>
            obtain ⟨g', k1, k2, _, _⟩ := he
            rw [hv] at k1
            cases k1
            exact ⟨rfl, below_of_st k2⟩
          | panicked _ => exact he.elim
          | outgrown => exact he.elim
        · cases hr
      · cases hr
    · cases hr

/-- Nothing that was there has turned: a law's 'post'. -/
theorem post_below {P : Program} {H : Type} {enc : TypeId × Value → H} {f : Func} {s : ChangeSpec} {apart fresh handsOn again : Bool} {W W' : World} {args : Array Value} {v : Value} {ds gs : List (DataW H)} {before pa pv : List MemPlace}
    (hW : DataW.Whole enc P f.params.toList s.vars apart W args.toList ds gs before)
    (hres : ∀ (b : Nat) (sp : Nat → Bool) (hd : Bool), DataW.TrodAll enc P W' b sp hd f.resultTypes.toList (v.resultList f.resultTypes.size) (s.fn H (ds ++ gs)).results [])
    (hargs : ∀ sp : Nat → Bool, (∀ p ∈ before, sp p.block = true) → DataW.TrodAll enc P W' 0 sp true f.params.toList args.toList (s.fn H (ds ++ gs)).args pa)
    (hvars : ∀ sp : Nat → Bool, (∀ p ∈ before, sp p.block = true) → DataW.TrodVars enc P W' sp s.vars (s.fn H (ds ++ gs)).vars pv)
    (hps : before = pa ++ pv) (hb : Below W.heap.size W W')
    (hok : ∀ (j : Nat) (t : TypeId) (r : Value), f.resultTypes[j]? = some t → (v.resultList f.resultTypes.size)[j]? = some r → Value.okWide P W' .any 0 t r) :
    s.post enc P f apart fresh handsOn again W args v W' := by
  have hold : ∀ p ∈ before, (fun b => decide (b < W.heap.size)) p.block = true := fun p hp => by simpa using hW.lt p hp
  have hlt := hW.lt
  refine ⟨ds, gs, before, [], pa, pv, hW, hres _ _ _, hargs _ hold, hvars _ hold, World.keptBut_mono (fun p hp => ⟨hp, ?_⟩) (hb.frame (· ∈ before)), fun _ => ?_⟩
  · rw [hps, List.mem_append] at hp
    exact Or.inr hp
  · obtain ⟨_, _, _, _, _, hz, hn⟩ := hW
    refine ⟨hok, _, _, ([] ++ pa) ++ pv, ⟨[] ++ pa, pv, trodAll_append (hargs _ (fun _ _ => rfl)) (hres _ _ _), hvars _ (fun _ _ => rfl), rfl, ?_, ?_⟩, ?_⟩
    · intro b off hp
      have hp' : MemPlace.cell b off ∈ before := by rw [hps]; simpa using hp
      rw [hb.frozen (hlt _ hp')]
      exact hz b off hp'
    · intro ha
      have := hn ha
      rw [hps] at this
      simpa using this
    · intro p hp _
      rw [hps]
      simpa using hp

theorem vr_str {w : World} {g : Gh} {s : Sto} (x : ByteArray) : VR w g s (.str x.data.toList) (.string x) := by
  have : VR w g s (.str x.data.toList) (.string ⟨x.data.toList.toArray⟩) := .str _
  simpa using this
theorem args_nil {w : World} {g : Gh} {s : Sto} : ArgsR w g s [] #[] := ⟨rfl, by simp⟩
def AllR (w : World) (g : Gh) (s : Sto) : List MV → List Value → Prop
  | [], [] => True
  | m :: ms, v :: vs => VR w g s m v ∧ AllR w g s ms vs
  | _, _ => False
theorem args_list {w : World} {g : Gh} {s : Sto} : ∀ (ms : List MV) (vs : List Value), AllR w g s ms vs → ArgsR w g s ms vs.toArray
  | [], [], _ => args_nil
  | m :: ms, v :: vs, h => by
    have ih := args_list ms vs h.2
    refine ⟨by have := ih.1; simp at this ⊢; omega, fun i c hc => ?_⟩
    cases i with
    | zero => simp at hc; subst hc; simpa using h.1
    | succ i => simpa using ih.2 i c (by simpa using hc)
  | [], _ :: _, h => h.elim
  | _ :: _, [], h => h.elim
end Go.Mv
/- Types whose equality is cell by cell. -/
namespace Go.Mv

/-! ### Types whose equality is cell by cell -/
def shFields (P : Program) (rec : TypeId → Option (List Sh)) : Nat → List Field → Option (List Sh)
  | _, [] => some []
  | off, f :: fs => match shp P f.type, rec f.type with
    | some (_, n), some sh => if f.name ≠ "_" ∧ f.offset = off ∧ n = sh.length then (shFields P rec (off + n) fs).map fun l => sh ++ l else none
    | _, _ => none
def shEq (P : Program) : Nat → TypeId → Option (List Sh)
  | 0, _ => none
  | d + 1, t => match P.underlying t, shp P t with
    | some (.int k), some (false, _) => some [.i k]
    | some .bool, some (false, _) => some [.b]
    | some .string, some (false, _) => some [.s]
    | some (.array n e), some (true, _) => match shp P e, shEq P d e with
      | some (_, z), some sh => if z = sh.length then some (List.replicate n sh).flatten else none
      | _, _ => none
    | some (.struct fs), some (true, _) => if P.stoodInHeld t then none else shFields P (shEq P d) 0 fs.toList
    | _, _ => none
def pk (b : Bool) (l : List Value) : Value := if b then .agg ⟨l⟩ else l.headD undef

theorem eqV_app : ∀ (s1 s2 : List Sh) {xs ys : List Value} {r : Bool}, eqV (s1 ++ s2) xs ys = some r →
    ∃ x1 x2 y1 y2 r1 r2, xs = x1 ++ x2 ∧ ys = y1 ++ y2 ∧ x1.length = s1.length ∧ y1.length = s1.length ∧ eqV s1 x1 y1 = some r1 ∧ eqV s2 x2 y2 = some r2 ∧ r = (r1 && r2)
  | [], s2, xs, ys, r, h => ⟨[], xs, [], ys, true, r, rfl, rfl, rfl, rfl, rfl, h, by simp⟩
  | q :: s1, s2, xs, ys, r, h => by
    cases q <;> cases xs <;> cases ys <;> (try (rename_i x xs y ys; cases x <;> cases y)) <;> simp only [List.cons_append, eqV] at h <;> try (cases h; done)
    · split at h
      · rename_i hk
        obtain ⟨r', h', rfl⟩ := Option.map_eq_some_iff.1 h
        obtain ⟨x1, x2, y1, y2, r1, r2, rfl, rfl, e1, e2, e3, e4, rfl⟩ := eqV_app s1 s2 h'
        exact ⟨_ :: x1, x2, _ :: y1, y2, _, r2, rfl, rfl, by simp [e1], by simp [e2], by simp only [eqV]; rw [if_pos hk, e3]; rfl, e4, by simp [Bool.and_assoc]⟩
      · cases h
    · obtain ⟨r', h', rfl⟩ := Option.map_eq_some_iff.1 h
      obtain ⟨x1, x2, y1, y2, r1, r2, rfl, rfl, e1, e2, e3, e4, rfl⟩ := eqV_app s1 s2 h'
      exact ⟨_ :: x1, x2, _ :: y1, y2, _, r2, rfl, rfl, by simp [e1], by simp [e2], by simp only [eqV]; rw [e3]; rfl, e4, by simp [Bool.and_assoc]⟩
    · obtain ⟨r', h', rfl⟩ := Option.map_eq_some_iff.1 h
      obtain ⟨x1, x2, y1, y2, r1, r2, rfl, rfl, e1, e2, e3, e4, rfl⟩ := eqV_app s1 s2 h'
      exact ⟨_ :: x1, x2, _ :: y1, y2, _, r2, rfl, rfl, by simp [e1], by simp [e2], by simp only [eqV]; rw [e3]; rfl, e4, by simp [Bool.and_assoc]⟩
theorem eqV_nil {l l' : List Value} {r : Bool} (h : eqV [] l l' = some r) : l = [] ∧ l' = [] ∧ r = true := by
  cases l <;> cases l' <;> simp [eqV] at h
  exact ⟨rfl, rfl, h⟩

section
variable {P : Program}
theorem part_run {t : TypeId} {b : Bool} {n : Nat} (h : shp P t = some (b, n)) (pre xs post : List Value) (hl : xs.length = n) (h1 : b = false → n = 1) (w : World) :
    (part t ⟨pre ++ (xs ++ post)⟩ pre.length).run P w = .ok (pk b xs) w := by
  have hr := shp_run h w
  cases b with
  | true =>
    simp [part, hr.1, hr.2, pk, ← hl]
  | false =>
    have := h1 rfl
    subst this
    match xs, hl with
    | [x], _ => simp [part, hr.1, pk]

def EqRun (P : Program) (d : Nat) (t : TypeId) (sh : List Sh) : Prop :=
  ∃ b n, shp P t = some (b, n) ∧ (b = false → sh.length = 1) ∧ ∀ (w : World) (xs ys : List Value) (r : Bool), eqV sh xs ys = some r → (Op.equalIn d t (pk b xs) (pk b ys)).run P w = .ok r w

theorem fields_run {d : Nat} {rec : TypeId → Option (List Sh)} (hrec : ∀ t sh, rec t = some sh → EqRun P d t sh) : ∀ (fs : List Field) (off : Nat) (sh : List Sh), shFields P rec off fs = some sh →
    ∀ (w : World) (p q xs ys : List Value) (r : Bool), p.length = off → q.length = off → eqV sh xs ys = some r → (Op.eqFields d ⟨p ++ xs⟩ ⟨q ++ ys⟩ fs).run P w = .ok r w
  | [], off, sh, h, w, p, q, xs, ys, r, hp, hq, he => by
    cases h
    obtain ⟨rfl, rfl, rfl⟩ := eqV_nil he
    simp [Op.eqFields]
  | f :: fs, off, sh, h, w, p, q, xs, ys, r, hp, hq, he => by
    simp only [shFields] at h
    split at h
    · rename_i b n sh1 e1 e2
      split at h
      · rename_i hc
        obtain ⟨c1, c2, c3⟩ := hc
        obtain ⟨l, h', rfl⟩ := Option.map_eq_some_iff.1 h
        obtain ⟨x1, x2, y1, y2, r1, r2, rfl, rfl, l1, l2, k1, k2, rfl⟩ := eqV_app sh1 l he
        obtain ⟨b', n', g1, g2, g3⟩ := hrec _ _ e2
        rw [e1] at g1
        cases g1
        have p1 := part_run e1 p x1 x2 (by omega) (fun hb => by have := g2 hb; omega) w
        have p2 := part_run e1 q y1 y2 (by omega) (fun hb => by have := g2 hb; omega) w
        rw [hp, ← c2] at p1
        rw [hq, ← c2] at p2
        simp only [Op.eqFields, if_pos c1, Sem.run_bind, p1, p2, Result.andThen_ok, g3 w _ _ _ k1]
        cases r1 with
        | false => simp
        | true =>
          have ih := fields_run hrec fs _ _ h' w (p ++ x1) (q ++ y1) x2 y2 r2 (by simp; omega) (by simp; omega) k2
          simp only [List.append_assoc] at ih
          simpa using ih
      · cases h
    · cases h

/-- The rounds of a comparison of arrays. -/
theorem rounds_run {d n z : Nat} {e : TypeId} {b : Bool} {sh : List Sh} (hz : shp P e = some (b, z)) (hs : z = sh.length) (h1 : b = false → z = 1) (hrec : ∀ (w : World) (xs ys : List Value) (r : Bool), eqV sh xs ys = some r → (Op.equalIn d e (pk b xs) (pk b ys)).run P w = .ok r w) :
    ∀ (k i : Nat) (w : World) (p q xs ys : List Value) (r : Bool), p.length = i * z → q.length = i * z → eqV (List.replicate k sh).flatten xs ys = some r →
      ((forIn (List.range' i k) ((none : Option Bool), ()) fun i (_ : Option Bool × Unit) => (do
        let a ← part e ⟨p ++ xs⟩ (i * z)
        let c ← part e ⟨q ++ ys⟩ (i * z)
        let x ← Op.equalIn d e a c
        if (!x) = true then pure (ForInStep.done (some false, ())) else pure (ForInStep.yield (none, ())) : Sem (ForInStep (Option Bool × Unit)))).run P w) = .ok (if r = true then (none, ()) else (some false, ())) w
  | 0, i, w, p, q, xs, ys, r, hp, hq, he => by
    obtain ⟨rfl, rfl, rfl⟩ := eqV_nil he
    simp
  | k + 1, i, w, p, q, xs, ys, r, hp, hq, he => by
    rw [List.replicate_succ, List.flatten_cons] at he
    obtain ⟨x1, x2, y1, y2, r1, r2, rfl, rfl, l1, l2, k1, k2, rfl⟩ := eqV_app sh _ he
    have p1 := part_run hz p x1 x2 (by omega) h1 w
    have p2 := part_run hz q y1 y2 (by omega) h1 w
    rw [hp] at p1
    rw [hq] at p2
    rw [List.range'_succ]
    simp only [List.forIn_cons, Sem.run_bind, p1, p2, Result.andThen_ok, hrec w _ _ _ k1]
    cases r1 with
    | false => simp
    | true =>
      have ih := rounds_run (n := n) hz hs h1 hrec k (i + 1) w (p ++ x1) (q ++ y1) x2 y2 r2 (by simp; rw [Nat.succ_mul]; omega) (by simp; rw [Nat.succ_mul]; omega) k2
      simp only [List.append_assoc] at ih
      simpa [Sem.run_bind] using ih
theorem replicate_len (sh : List Sh) : ∀ n, (List.replicate n sh).flatten.length = n * sh.length
  | 0 => by simp
  | n + 1 => by rw [List.replicate_succ, List.flatten_cons, List.length_append, replicate_len sh n, Nat.succ_mul]; omega
theorem eqV_len : ∀ (s1 : List Sh) {xs ys : List Value} {r : Bool}, eqV s1 xs ys = some r → xs.length = s1.length ∧ ys.length = s1.length := fun s1 xs ys r h => by
  rw [← List.append_nil s1] at h
  obtain ⟨x1, x2, y1, y2, r1, r2, rfl, rfl, l1, l2, k1, k2, rfl⟩ := eqV_app s1 [] h
  obtain ⟨rfl, rfl, _⟩ := eqV_nil k2
  simp [l1, l2]
theorem shEq_run : ∀ (d : Nat) (t : TypeId) (sh : List Sh), shEq P d t = some sh → ∀ D, d ≤ D → EqRun P D t sh
  | 0, _, _, h, _, _ => by cases h
  | d + 1, t, sh, h, 0, hD => by omega
  | d + 1, t, sh, h, D + 1, hD => by
    simp only [shEq] at h
    split at h
    · rename_i k x hu hs
      cases h
      refine ⟨false, _, hs, fun _ => rfl, fun w xs ys r he => ?_⟩
      have hl := eqV_len _ he
      match xs, ys, hl with
      | [x], [y], _ =>
        cases x <;> cases y <;> simp [eqV] at he
        obtain ⟨⟨rfl, rfl⟩, rfl⟩ := he
        exact run_equalIn_int w D t _ _ _ _ hu
    · rename_i x hu hs
      cases h
      refine ⟨false, _, hs, fun _ => rfl, fun w xs ys r he => ?_⟩
      have hl := eqV_len _ he
      match xs, ys, hl with
      | [x], [y], _ =>
        cases x <;> cases y <;> simp [eqV] at he
        subst he
        exact run_equalIn_bool' w D t _ _ hu
    · rename_i x hu hs
      cases h
      refine ⟨false, _, hs, fun _ => rfl, fun w xs ys r he => ?_⟩
      have hl := eqV_len _ he
      match xs, ys, hl with
      | [x], [y], _ =>
        cases x <;> cases y <;> simp [eqV] at he
        subst he
        rename_i a a' _
        have := run_equalIn_string w D t a a' hu
        rw [ByteArray.toList_eq, ByteArray.toList_eq] at this
        simpa [pk] using this
    · rename_i n e x hu hs
      split at h
      · rename_i b z sh1 e1 e2
        split at h
        · rename_i hz
          cases h
          refine ⟨true, _, hs, fun h => (nomatch h), fun w xs ys r he => ?_⟩
          obtain ⟨b', n', g1, g2, g3⟩ := shEq_run d e sh1 e2 D (by omega)
          rw [e1] at g1
          cases g1
          have := rounds_run (P := P) (n := n) e1 hz (fun hb => by have := g2 hb; omega) g3 n 0 w [] [] xs ys r (by simp) (by simp) he
          have hsz := (shp_run e1 w).2
          simp only [pk, if_true]
          rw [Op.equalIn]
          simp only [run_underlying hu, Sem.run_bind, Result.andThen_ok, hsz, Std.Legacy.Range.forIn_eq_forIn_range', Std.Legacy.Range.size, Nat.sub_zero, Nat.add_sub_cancel, Nat.div_one]
          simp only [List.nil_append] at this
          rw [this]
          cases r <;> simp
        · cases h
      · cases h
    · rename_i fs x hu hs
      split at h
      · cases h
      · rename_i hst
        refine ⟨true, _, hs, fun h => (nomatch h), fun w xs ys r he => ?_⟩
        have hf : P.fieldsOf t = fs := by simp [Program.fieldsOf, hu]
        simp only [pk, if_true]
        rw [run_equalIn_struct w D t _ _ (by rw [hf]; exact hu) (by simpa using hst), hf]
        exact fields_run (fun t sh h => shEq_run d t sh h D (by omega)) fs.toList 0 sh h w [] [] xs ys r rfl rfl he
    · cases h
theorem eqFact_of {t : TypeId} {sh : List Sh} {d : Nat} (h : shEq P d t = some sh) (hd : d ≤ 10000) (ha : (shp P t).map (·.1) = some true) (hg : P.eqGuardType P.depth t = false) : EqFact P t sh := by
  refine ⟨hg, fun w xs ys r he => ?_⟩
  obtain ⟨b, n, h1, _, h3⟩ := shEq_run d t sh h 10000 hd
  rw [h1] at ha
  cases ha
  exact h3 w xs.toList ys.toList r he
end
end Go.Mv
