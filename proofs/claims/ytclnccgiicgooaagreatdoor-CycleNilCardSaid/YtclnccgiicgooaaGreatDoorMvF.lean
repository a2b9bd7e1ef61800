/- The evaluator without memory: a part of its proof. -/
import Derived.Test.YtclnccgiicgooaaGreatDoorMvD
set_option linter.unusedVariables false
set_option linter.unusedSimpArgs false
/- A lower limit: what was evaluated stays so. What is evaluated over a closed store. -/
namespace Go.Mv
variable {C : Cfg} {lim lim' d : Nat}
def Lm (c : Call) : Prop := ∀ lim lim' d f args σ r, lim' ≤ lim → c lim d f args σ = some r → c lim' d f args σ = some r
theorem stO_lm {P : Program} {t : TypeId} {σ σ' : Sto} {m v : MV} (hl : lim' ≤ lim) (h : stO P lim d t σ m v = some σ') : stO P lim' d t σ m v = some σ' := by
  unfold stO at *
  split at h
  · split at h
    · split at h
      · rename_i h1 h2 h3 hc
        rw [if_pos hc]
        split at h
        · rename_i hlt
          rw [if_pos hlt]
          split at h
          · rename_i hm; rw [if_pos (Nat.le_trans hl hm)]; exact h
          · cases h
        · rename_i hlt
          rw [if_neg hlt]; exact h
      · cases h
    · cases h
  · cases h
theorem stK_lm {P : Program} {t : TypeId} {σ σ' : Sto} {m v : MV} (hl : lim' ≤ lim) (h : stK P lim d t σ m v = some σ') : stK P lim' d t σ m v = some σ' := by
  unfold stK at *
  split at h
  · split at h
    · split at h
      · rename_i hc
        simp only [if_pos (show _ ∧ _ ∧ _ ∧ lim' ≤ _ from ⟨hc.1, hc.2.1, hc.2.2.1, Nat.le_trans hl hc.2.2.2⟩)]
        exact h
      · cases h
    · cases h
  · cases h
theorem appO_lm {P : Program} {t : TypeId} {σ : Sto} {m v : MV} {r : MV × Sto} (hl : lim' ≤ lim) (h : appO P lim d t σ m v = some r) : appO P lim' d t σ m v = some r := by
  unfold appO at *
  split at h
  · split at h
    · split at h
      · rename_i hy; rw [if_pos hy]; exact h
      · rename_i hy
        rw [if_neg hy]
        split at h
        · rename_i hk
          rw [if_pos hk]
          split at h
          · split at h
            · exact h
            · split at h
              · rename_i hc; rw [if_pos ⟨Nat.le_trans hl hc.1, hc.2⟩]; exact h
              · cases h
            · cases h
            · cases h
          · cases h
        · cases h
    · cases h
  · cases h
theorem allocU_lm {t lt : Nat} {o : Option Tmp} {cs : List MV} {s : Sto} {r : MV × Sto} (hl : lim' ≤ lim) (h : allocU C lim d t o lt cs s = some r) : allocU C lim' d t o lt cs s = some r := by
  unfold allocU at *
  split at h
  · rename_i hc
    rw [if_pos (hc.imp id fun x => ⟨x.1, by omega⟩)]
    exact h
  · cases h
theorem boxU_lm {t lt : Nat} {o : Option Tmp} {cs : List MV} {s : Sto} {r : MV × Sto} (hl : lim' ≤ lim) (h : boxU C lim d t o lt cs s = some r) : boxU C lim' d t o lt cs s = some r := by
  unfold boxU at *
  split at h
  · rename_i hc
    rw [if_pos hc]
    exact h
  · rename_i hc
    rw [if_neg hc]
    split at h
    · rename_i hq
      rw [if_pos ⟨hq.1, by omega⟩]
      exact h
    · cases h
theorem stP_lm {P : Program} {t : TypeId} {σ σ' : Sto} {m v : MV} (hl : lim' ≤ lim) (h : stP P lim d t σ m v = some σ') : stP P lim' d t σ m v = some σ' := by
  unfold stP at *
  split at h
  · split at h
    · split at h
      · rename_i hc
        rw [if_pos ⟨hc.1, hc.2.1, hc.2.2.1, by omega⟩]
        exact h
      · cases h
    · cases h
  · cases h
theorem appX_lm {dst : Nat} {t : TypeId} {σ : Sto} {m v : MV} {r : MV × Sto} (hl : lim' ≤ lim) (h : appX C lim d dst t σ m v = some r) : appX C lim' d dst t σ m v = some r := by
  unfold appX at *
  split at h
  · unfold appR at *
    split at h
    · split at h
      · split at h
        · rename_i hc
          rw [if_pos ⟨hc.1, by omega, hc.2.2⟩]
          split at h
          · split at h
            · exact h
            · split at h
              · split at h
                · rename_i hk
                  rw [if_pos ⟨hk.1, hk.2.1, hk.2.2.1, hk.2.2.2.1, hk.2.2.2.2.1, by omega, hk.2.2.2.2.2.2⟩]
                  exact h
                · cases h
              · cases h
            · cases h
          · cases h
        · cases h
      · cases h
    · cases h
  · exact appO_lm hl h
theorem mkX_lm {dst : Nat} {t : TypeId} {σ : Sto} {m v : MV} {r : MV × Sto} (hl : lim' ≤ lim) (h : mkX C lim d dst t σ m v = some r) : mkX C lim' d dst t σ m v = some r := by
  unfold mkX at *
  split at h
  · unfold mkR at *
    split at h
    · split at h
      · split at h
        · split at h
          · rename_i hc
            rw [if_pos ⟨hc.1, by omega, hc.2.2⟩]
            exact h
          · cases h
        · cases h
      · cases h
    · cases h
  · cases h
theorem evNews_lm (hl : lim' ≤ lim) : ∀ (l : List Oper) {a : Nat → MV} {σ : Sto} {r : (Nat → MV) × Sto}, evNews C lim d l a σ = some r → evNews C lim' d l a σ = some r
  | [], _, _, _, he => he
  | o :: l, a, σ, r, he => by
    simp only [evNews] at *
    split at he
    · obtain ⟨cs, hcs, he⟩ := Option.bind_eq_some_iff.1 he
      obtain ⟨x, hx, he⟩ := Option.bind_eq_some_iff.1 he
      rw [hcs]
      simp only [Option.bind_some]
      rw [allocU_lm hl hx]
      exact evNews_lm hl l he
    · exact evNews_lm hl l he
theorem evOp_lm {c : Call} (hc : Lm c) (hl : lim' ≤ lim) {a : Nat → MV} {o : Oper} {σ : Sto} {r : MV × Sto} (he : evOp C c lim d a o σ = some r) : evOp C c lim' d a o σ = some r := by
  obtain ⟨dst, op, ty, pos, aft, gd⟩ := o
  cases op with
  | call k =>
    obtain ⟨callee, args, ts⟩ := k
    cases callee with
    | value f =>
      simp only [evOp] at *
      split at he
      · exact hc _ _ _ _ _ _ _ hl he
      · simp at he
    | invoke _ _ => exact he
    | builtin b =>
      revert he
      simp only [evOp]
      split
      all_goals first
        | exact id
        | (intro he
           split at he
           · rename_i ht; rw [if_pos ht]; exact appX_lm hl he
           · cases he)
  | store t x v =>
    simp only [evOp, Option.map_eq_some_iff] at *
    obtain ⟨y, hy, hr⟩ := he
    refine ⟨y, ?_, hr⟩
    split at hy
    · rename_i hk; rw [if_pos hk]; exact stK_lm hl hy
    · rename_i hk
      rw [if_neg hk]
      split at hy
      · rename_i hk2; rw [if_pos hk2]; exact stP_lm hl hy
      · rename_i hk2; rw [if_neg hk2]; exact stO_lm hl hy
  | alloc t =>
    simp only [evOp] at *
    obtain ⟨z, hz, he⟩ := Option.bind_eq_some_iff.1 he
    obtain ⟨cs, hcs, he⟩ := Option.bind_eq_some_iff.1 he
    rw [hz]
    simp only [Option.bind_some]
    rw [hcs]
    exact allocU_lm hl he
  | box t x =>
    simp only [evOp] at *
    obtain ⟨cs, hcs, he⟩ := Option.bind_eq_some_iff.1 he
    rw [hcs]
    exact boxU_lm hl he
  | makeMap t r => cases r <;> exact he
  | makeSlice t n c =>
    simp only [evOp] at *
    exact mkX_lm hl he
  | slice t x lo hi mx => cases mx <;> exact he
  | _ => exact he
theorem evOps_lm {c : Call} (hc : Lm c) (hl : lim' ≤ lim) {ops : Array Oper} : ∀ (l : List Oper) {a : Nat → MV} {σ : Sto} {r : (Nat → MV) × Sto}, evOps C c lim d ops l a σ = some r → evOps C c lim' d ops l a σ = some r
  | [], _, _, _, he => he
  | o :: l, a, σ, r, he => by
    simp only [evOps] at *
    split at he
    · cases hx : evOp C c lim d a o σ with
      | none => simp [hx] at he
      | some x =>
        simp only [hx, Option.bind_some] at he
        simp only [evOp_lm hc hl hx, Option.bind_some]
        exact evOps_lm hc hl l he
    · exact evOps_lm hc hl l he
    · simp at he
theorem evDraw_lm {c : Call} (hc : Lm c) (hl : lim' ≤ lim) {ops : Array Oper} {a : Nat → MV} {σ : Sto} {r : (Nat → MV) × Sto} (he : evDraw C c lim d ops a σ = some r) : evDraw C c lim' d ops a σ = some r := by
  simp only [evDraw] at *
  obtain ⟨a1, h1, he⟩ := Option.bind_eq_some_iff.1 he
  obtain ⟨x, h2, he⟩ := Option.bind_eq_some_iff.1 he
  rw [h1]
  simp only [Option.bind_some]
  rw [evNews_lm hl _ h2]
  exact evOps_lm hc hl _ he
theorem evOpsV_lm {c : Call} (hc : Lm c) (hl : lim' ≤ lim) {ops : Array Oper} : ∀ (l : List Oper) {i : Nat} {sf : List Nat} {a : Nat → MV} {σ : Sto} {r : (Nat → MV) × Sto}, evOpsV C c lim d ops l i sf a σ = some r → evOpsV C c lim' d ops l i sf a σ = some r
  | [], _, _, _, _, _, he => he
  | o :: l, i, sf, a, σ, r, he => by
    simp only [evOpsV] at *
    split at he
    · split at he
      · rename_i hf
        rw [if_pos hf]
        obtain ⟨x, hx, he⟩ := Option.bind_eq_some_iff.1 he
        rw [evOp_lm hc hl hx]
        simp only [Option.bind_some]
        split at he
        · rename_i hk
          rw [if_pos hk]
          exact evOpsV_lm hc hl l he
        · cases he
      · rename_i hf
        rw [if_neg hf]
        obtain ⟨v, hv, he⟩ := Option.bind_eq_some_iff.1 he
        rw [hv]
        exact evOpsV_lm hc hl l he
    · split at he
      · rename_i hf
        rw [if_pos hf]
        exact evOpsV_lm hc hl l he
      · rename_i hf
        rw [if_neg hf]
        exact evOpsV_lm hc hl l he
    · cases he
theorem evHot_lm {c : Call} (hc : Lm c) (hl : lim' ≤ lim) {ops : Array Oper} {a : Nat → MV} {σ : Sto} {r : (Nat → MV) × Sto} (he : evHot C c lim d ops a σ = some r) : evHot C c lim' d ops a σ = some r := evOpsV_lm hc hl _ he
theorem evOpsL_lm {c : Call} (hc : Lm c) (hl : lim' ≤ lim) {ops : Array Oper} {av : List Loc} : ∀ (l : List Oper) {a : Nat → MV} {σ : Sto} {r : (Nat → MV) × Sto}, evOpsL C c lim d ops av l a σ = some r → evOpsL C c lim' d ops av l a σ = some r
  | [], _, _, _, he => he
  | o :: l, a, σ, r, he => by
    simp only [evOpsL] at *
    split at he
    · split at he
      · rename_i hk
        rw [if_pos hk]
        obtain ⟨x, hx, he⟩ := Option.bind_eq_some_iff.1 he
        rw [evOp_lm hc hl hx]
        exact evOpsL_lm hc hl l he
      · cases he
    · exact evOpsL_lm hc hl l he
    · cases he
theorem evLoose_lm {c : Call} (hc : Lm c) (hl : lim' ≤ lim) {ops : Array Oper} {a : Nat → MV} {σ : Sto} {r : (Nat → MV) × Sto} (he : evLoose C c lim d ops a σ = some r) : evLoose C c lim' d ops a σ = some r := by
  simp only [evLoose] at *
  obtain ⟨a1, h1, he⟩ := Option.bind_eq_some_iff.1 he
  rw [h1]
  simp only [Option.bind_some]
  split at he
  · rename_i hk
    rw [if_pos hk]
    obtain ⟨x, h2, he⟩ := Option.bind_eq_some_iff.1 he
    rw [evNews_lm hl _ h2]
    exact evOpsL_lm hc hl _ he
  · cases he
mutual
theorem evCode_lm {c : Call} (hc : Lm c) (hl : lim' ≤ lim) {n : Nat} : ∀ (x : Code) {a : Nat → MV} {σ : Sto} {r : Ex × (Nat → MV) × Sto}, evCode C c n lim d x a σ = some r → evCode C c n lim' d x a σ = some r
  | .skip, _, _, _, he => he
  | .label _, _, _, _, he => he
  | .region _ ops false, a, σ, r, he => by
    simp only [evCode, Option.map_eq_some_iff] at *
    obtain ⟨x, hx, hr⟩ := he
    exact ⟨x, evOps_lm hc hl _ hx, hr⟩
  | .region _ ops true, a, σ, r, he => by
    simp only [evCode, Option.map_eq_some_iff] at *
    obtain ⟨x, hx, hr⟩ := he
    refine ⟨x, ?_, hr⟩
    split at hx
    · rename_i hh
      rw [if_pos hh]
      split at hx
      · rename_i hk; rw [if_pos hk]; exact evHot_lm hc hl hx
      · cases hx
    · rename_i hh
      rw [if_neg hh]
      split at hx
      · rename_i hk; rw [if_pos hk]; exact evDraw_lm hc hl hx
      · rename_i hk
        rw [if_neg hk]
        split at hx
        · rename_i hlo; rw [if_pos hlo]; exact evLoose_lm hc hl hx
        · cases hx
  | .seq x y, a, σ, r, he => by
    simp only [evCode] at *
    cases hx : evCode C c n lim d x a σ with
    | none => simp [hx] at he
    | some z =>
      obtain ⟨e, a', σ'⟩ := z
      simp only [hx] at he
      simp only [evCode_lm hc hl x hx]
      cases e with
      | nrm => exact evCode_lm hc hl y he
      | exit id => exact he
      | ret => exact he
      | goto l => exact he
  | .cond v x y, a, σ, r, he => by
    simp only [evCode] at *
    cases hv : valO a v <;> rw [hv] at he <;> try (simp at he; done)
    rename_i b
    cases b
    · exact evCode_lm hc hl y he
    · exact evCode_lm hc hl x he
  | .block id x, a, σ, r, he => by
    simp only [evCode] at *
    cases hx : evCode C c n lim d x a σ with
    | none => simp [hx] at he
    | some z =>
      rw [hx] at he
      rw [evCode_lm hc hl x hx]
      exact he
  | .loop x, a, σ, r, he => evLoop_mono (fun a σ r hr => evCode_lm hc hl x hr) n n (Nat.le_refl _) he
  | .exit _, _, _, _, he => he
  | .ret, _, _, _, he => he
  | .goto _, _, _, _, he => by simp only [evCode] at *; exact he
  | .scope x, a, σ, r, he => by
    simp only [evCode] at *
    cases hx : evCode C c n lim d x a σ with
    | none => rw [hx, evScope_none] at he; cases he
    | some z =>
      rw [hx] at he
      rw [evCode_lm hc hl x hx]
      exact evScope_mono (fun l a σ r hr => evAt_lm hc hl x l hr) n n (Nat.le_refl _) he
  | .rangeFunc .., _, _, _, he => by simp [evCode] at he
  | .refuse _, _, _, _, he => by simp [evCode] at he
theorem evAt_lm {c : Call} (hc : Lm c) (hl : lim' ≤ lim) {n : Nat} : ∀ (x : Code) (l : Nat) {a : Nat → MV} {σ : Sto} {r : Ex × (Nat → MV) × Sto}, evAt C c n lim d x l a σ = some r → evAt C c n lim' d x l a σ = some r
  | .seq x y, l, a, σ, r, he => by
    simp only [evAt] at *
    split at he
    · rename_i hq
      rw [if_pos hq]
      cases hx : evAt C c n lim d x l a σ with
      | none => simp [hx] at he
      | some z =>
        obtain ⟨e, a', σ'⟩ := z
        simp only [hx] at he
        simp only [evAt_lm hc hl x l hx]
        cases e with
        | nrm => exact evCode_lm hc hl y he
        | exit id => exact he
        | ret => exact he
        | goto l => exact he
    · rename_i hq
      rw [if_neg hq]
      exact evAt_lm hc hl y l he
  | .label l', l, a, σ, r, he => by simp only [evAt] at *; exact he
  | .skip, _, _, _, _, he => by simp [evAt] at he
  | .region .., _, _, _, _, he => by simp [evAt] at he
  | .cond .., _, _, _, _, he => by simp [evAt] at he
  | .block .., _, _, _, _, he => by simp [evAt] at he
  | .loop _, _, _, _, _, he => by simp [evAt] at he
  | .exit _, _, _, _, _, he => by simp [evAt] at he
  | .ret, _, _, _, _, he => by simp [evAt] at he
  | .goto _, _, _, _, _, he => by simp [evAt] at he
  | .scope _, _, _, _, _, he => by simp [evAt] at he
  | .rangeFunc .., _, _, _, _, he => by simp [evAt] at he
  | .refuse _, _, _, _, _, he => by simp [evAt] at he
end
theorem mev_lm (hp : ∀ f p, C.prim f = some p → Lm fun lim d _ args σ => p lim d args σ) (n : Nat) : Lm (mev C n) := by
  induction n with
  | zero => intro lim lim' d f args σ r hl h; cases h
  | succ n ih =>
    intro lim lim' d f args σ r hl h
    simp only [mev] at h ⊢
    split at h
    · rename_i p hp'
      exact hp f p hp' lim lim' d f args σ r hl h
    · split at h
      · split at h
        · split at h
          · rename_i hk
            rw [if_pos hk]
            exact endO_mono (fun r hr => evCode_lm ih hl _ hr) h
          · simp at h
        · simp at h
      · simp at h
/-- A run over a store of which it makes no use: it is as it was. -/
theorem run_closed (hk : ∀ f p, C.prim f = some p → Keeps fun lim d _ args σ => p lim d args σ) (hp : ∀ f p, C.prim f = some p → Lm fun lim d _ args σ => p lim d args σ)
    {n d lim : Nat} {f : FuncId} (hf : C.prim f = none) {args : List MV} {σ : Sto} (hu : σ.Und d) (hl : lim ≤ d) {r : MV × Sto} (h : mev C n d d f args σ = some r) : mev C n lim d f args σ = some (r.1, σ) := by
  have h1 := mev_keeps hk n d d f args σ r (Nat.le_refl _) h
  have h2 := mev_lm hp n d lim d f args σ r hl h
  have h3 : r.2 = σ := by
    cases n with
    | zero => cases h
    | succ n =>
      simp only [mev, hf] at h
      split at h
      · split at h
        · split at h
          · rename_i c _ _
            have hc : ∃ s : Sto, r.2 = s.cut d := by
              cases hx : evCode C (mev C n) n d d c (startA args) σ with
              | none => simp [hx, endO] at h
              | some z =>
                obtain ⟨e, a', s'⟩ := z
                cases e <;> simp only [hx, endO] at h
                · obtain ⟨v, _, h⟩ := Option.bind_eq_some_iff.1 h
                  obtain ⟨v', _, rfl⟩ := Option.map_eq_some_iff.1 h
                  exact ⟨s', rfl⟩
                · cases h
                · obtain ⟨v, _, h⟩ := Option.bind_eq_some_iff.1 h
                  obtain ⟨v', _, rfl⟩ := Option.map_eq_some_iff.1 h
                  exact ⟨s', rfl⟩
                · cases h
            obtain ⟨s, hs⟩ := hc
            refine Sto.ext' (fun l => ?_) (fun d' c => ?_) fun d' => ?_
            · rcases Nat.lt_or_ge l.d d with q | q
              · exact h1.ob l q
              · rw [hs, hu.ob l q]; simp only [Sto.cut]; rw [if_neg (by omega)]
            · rcases Nat.lt_or_ge d' d with q | q
              · exact h1.ow d' c q
              · rw [hs, hu.ow d' c q]; simp only [Sto.cut]; rw [if_neg (by omega)]
            · rcases Nat.lt_or_ge d' d with q | q
              · exact h1.ct d' q
              · rw [hs, hu.ct d' q]; simp only [Sto.cut]; rw [if_neg (by omega)]
          · cases h
        · cases h
      · cases h
  rw [h2]
  congr 1
  exact Prod.ext rfl h3
def tells (r : Option (MV × Sto)) : Option Bool := match r with | some (.bool b, _) => some b | _ => none
theorem tells_run {r : Option (MV × Sto)} {b : Bool} (h : tells r = some b) : ∃ s, r = some (.bool b, s) := by
  unfold tells at h
  split at h
  · cases h; exact ⟨_, rfl⟩
  · cases h
theorem closed_wf (hk : ∀ f p, C.prim f = some p → Keeps fun lim d _ args σ => p lim d args σ) (hp : ∀ f p, C.prim f = some p → Lm fun lim d _ args σ => p lim d args σ)
    {n d lim : Nat} {f : FuncId} (hf : C.prim f = none) {args : List MV} {σ : Sto} (hu : σ.Und d) (hl : lim ≤ d) {b : Bool} (h : tells (mev C n d d f args σ) = some b) : WF C lim d f args σ fun v' s' => v' = .bool b ∧ s' = σ := by
  obtain ⟨s, hs⟩ := tells_run h
  exact ⟨n, _, run_closed hk hp hf hu hl hs, rfl, rfl⟩
end Go.Mv
