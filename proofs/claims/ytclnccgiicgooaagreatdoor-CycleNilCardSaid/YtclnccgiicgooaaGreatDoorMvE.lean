/- The evaluator without memory: a part of its proof. -/
import Derived.Test.YtclnccgiicgooaaGreatDoorMvA
import Derived.Attr
import Derived.Test.YtclnccgiicgooaaGreatDoorMvLoose
set_option linter.unusedVariables false
set_option linter.unusedSimpArgs false
/- Regions that draw, gone through one operation behind the other. -/
namespace Go.Mv
variable {C : Cfg} {lim d : Nat}

def evDR (C : Cfg) (call : Call) (lim d : Nat) (ops : Array Oper) (σ : Sto) : List Oper → List Oper → (Nat → MV) → Option ((Nat → MV) × Sto)
  | news, [], a => evNews C lim d news a σ
  | news, o :: r, a =>
    if isTail o then (evNews C lim d news a σ).bind fun x => evOps C call lim d ops (o :: r) x.1 x.2
    else match want ops a o with
      | some true => if isNew o then evDR C call lim d ops σ (news ++ [o]) r a else (evFree C call d a o σ).bind fun v => evDR C call lim d ops σ news r (putD a o.dst v)
      | some false => evDR C call lim d ops σ news r (putD a o.dst .undef)
      | none => none

theorem evNews_append : ∀ (l l' : List Oper) (a : Nat → MV) (s : Sto), evNews C lim d (l ++ l') a s = (evNews C lim d l a s).bind fun x => evNews C lim d l' x.1 x.2
  | [], l', a, s => rfl
  | o :: l, l', a, s => by
    simp only [List.cons_append, evNews]
    split
    · cases h : ((zer C.P _).bind MV.cells) with
      | none => rfl
      | some cs =>
        simp only [Option.bind_some]
        cases allocU C lim d _ o.dst (locT C _ cs.length o.dst) cs s with
        | none => rfl
        | some x => exact evNews_append l l' _ _
    · exact evNews_append l l' a s
theorem evNews_skip {o : Oper} (h : isNew o = false) (l : List Oper) (a : Nat → MV) (s : Sto) : evNews C lim d (o :: l) a s = evNews C lim d l a s := by
  simp only [evNews]
  split
  · rename_i t ht
    unfold isNew at h
    rw [ht] at h
    cases h
  · rfl
theorem evNews_mid {o : Oper} (h : isNew o = false) (l l' : List Oper) (a : Nat → MV) (s : Sto) : evNews C lim d (l ++ o :: l') a s = evNews C lim d (l ++ l') a s := by
  rw [evNews_append, evNews_append]
  congr 1
  funext x
  exact evNews_skip h l' _ _

/-- The slots of variables that are made are not looked at meanwhile, so their making may wait. -/
theorem evDR_eq {call : Call} {ops : Array Oper} {σ : Sto} (hg : ∀ o ∈ ops, isNew o = true → o.guard = none) : ∀ (l news : List Oper) (a : Nat → MV), (∀ o ∈ l, isNew o = true → o.guard = none) →
    ((evOpsF C call d ops σ (l.takeWhile fun o => !isTail o) a).bind fun a => (evNews C lim d (news ++ l.takeWhile fun o => !isTail o) a σ).bind fun x => evOps C call lim d ops (l.dropWhile fun o => !isTail o) x.1 x.2) = evDR C call lim d ops σ news l a
  | [], news, a, _ => by
    simp only [List.takeWhile_nil, List.dropWhile_nil, evOpsF, Option.bind_some, List.append_nil, evDR]
    cases evNews C lim d news a σ with
    | none => rfl
    | some x => rfl
  | o :: l, news, a, hl => by
    have ih := evDR_eq (call := call) (σ := σ) hg l
    have hl' : ∀ o ∈ l, isNew o = true → o.guard = none := fun o ho => hl o (List.mem_cons_of_mem _ ho)
    by_cases ht : isTail o = true
    · rw [List.takeWhile_cons_of_neg (by simp [ht]), List.dropWhile_cons_of_neg (by simp [ht])]
      simp only [evOpsF, Option.bind_some, List.append_nil, evDR, ht, if_true]
    · have hf : isTail o = false := by simpa using ht
      rw [List.takeWhile_cons_of_pos (by simp [hf]), List.dropWhile_cons_of_pos (by simp [hf])]
      simp only [evOpsF, evDR, hf, Bool.false_eq_true, if_false]
      by_cases hn : isNew o = true
      · have hw : want ops a o = some true := by unfold want; rw [hl o (List.mem_cons_self ..) hn]
        simp only [hw, hn, if_true]
        rw [← ih (news ++ [o]) a hl']
        simp only [List.append_assoc, List.singleton_append]
      · have hn' : isNew o = false := by simpa using hn
        cases hw : want ops a o with
        | none => rfl
        | some b =>
          cases b with
          | false =>
            simp only
            rw [← ih news _ hl']
            congr 1
            funext a'
            rw [evNews_mid hn']
          | true =>
            simp only [hn', Bool.false_eq_true, if_false]
            cases hv : evFree C call d a o σ with
            | none => rfl
            | some v =>
              simp only [Option.bind_some]
              rw [← ih news _ hl']
              congr 1
              funext a'
              rw [evNews_mid hn']

def WR (C : Cfg) (lim d : Nat) (ops : Array Oper) (news l : List Oper) (a : Nat → MV) (σ : Sto) (Q : (Nat → MV) → Sto → Prop) : Prop := ∃ n, Opt (evDR C (mev C n) lim d ops σ news l a) fun x => Q x.1 x.2
def okNew (ops : Array Oper) : Bool := ops.toList.all fun o => !isNew o || o.guard.isNone
theorem W_dr {id : Nat} {ops : Array Oper} (hd : okDraw ops = true) (hk : okNew ops = true) (hh : hotB C ops = false := by kernel_rfl) {a : Nat → MV} {σ : Sto} {Q : Ex → (Nat → MV) → Sto → Prop} : W C lim d (.region id ops true) a σ Q ↔ WR C lim d ops [] ops.toList a σ (Q .nrm) := by
  have h : ∀ o ∈ ops, isNew o = true → o.guard = none := fun o ho hn => by
    have := List.all_eq_true.1 hk o (Array.mem_toList_iff.2 ho)
    simpa [hn] using this
  rw [W_draw hd hh]
  simp only [WD, WR, evDraw]
  refine exists_congr fun n => ?_
  rw [← evDR_eq h ops.toList [] a fun o ho => h o (Array.mem_toList_iff.1 ho)]
  simp only [List.nil_append]

/-! ### Loose regions -/
/-- The free operations first; then the others, which store to nothing that the free ones read. -/
def WFr (C : Cfg) (d : Nat) (ops : Array Oper) (l : List Oper) (a : Nat → MV) (σ : Sto) (Q : (Nat → MV) → Prop) : Prop := ∃ n, Opt (evOpsF C (mev C n) d ops σ l a) Q
def WT (C : Cfg) (lim d : Nat) (ops : Array Oper) (av : List Loc) (l : List Oper) (a : Nat → MV) (σ : Sto) (Q : (Nat → MV) → Sto → Prop) : Prop := ∃ n, Opt (evOpsL C (mev C n) lim d ops av l a σ) fun x => Q x.1 x.2
theorem W_lo {id : Nat} {ops : Array Oper} (hd : okDraw ops = false) (hh : hotB C ops = false) (hup : upB C (ops.toList.takeWhile fun o => !isTail o) = true) (hlo : okLoose ops = true) {a : Nat → MV} {σ : Sto} {Q : Ex → (Nat → MV) → Sto → Prop} : W C lim d (.region id ops true) a σ Q ↔
    WFr C d ops (ops.toList.takeWhile fun o => !isTail o) a σ fun a1 => (∀ l ∈ avoid a1 (looseOps ops (ops.toList.takeWhile fun o => !isTail o).length), l.d ≠ d ∨ l.c < σ.ct d) ∧
      Opt (evNews C lim d (ops.toList.takeWhile fun o => !isTail o) a1 σ) fun x => WT C lim d ops (avoid a1 (looseOps ops (ops.toList.takeWhile fun o => !isTail o).length)) (ops.toList.dropWhile fun o => !isTail o) x.1 x.2 (Q .nrm) := by
  rw [W_loose hd hh hlo]
  simp only [WL, evLoose, WFr, WT]
  constructor
  · rintro ⟨n, r, hr, hq⟩
    obtain ⟨a1, h1, hr⟩ := Option.bind_eq_some_iff.1 hr
    split at hr
    · rename_i hk
      obtain ⟨x, h2, hr⟩ := Option.bind_eq_some_iff.1 hr
      exact ⟨n, a1, h1, hk.2, x, h2, n, r, hr, hq⟩
    · cases hr
  · rintro ⟨n, a1, h1, hk, x, h2, m, r, hr, hq⟩
    refine ⟨max n m, r, ?_, hq⟩
    rw [evOpsF_mono (mev_le (Nat.le_max_left n m)) _ h1]
    simp only [Option.bind_some]
    rw [if_pos ⟨hup, hk⟩, h2]
    exact evOpsL_mono (mev_le (Nat.le_max_right n m)) _ hr

/-- The operands of the loads among them. -/
def looseLd (ops : Array Oper) : List Operand := (looseOps ops (ops.toList.takeWhile fun o => !isTail o).length).filterMap fun o =>
  match o.op with
  | .load _ x => some x
  | _ => none
def avoidX (a : Nat → MV) (l : List Operand) : List Loc := l.filterMap fun x => match valO a x with
  | .ptr l _ => some l
  | _ => none
theorem avoid_eq (a : Nat → MV) (ops : Array Oper) : avoid a (looseOps ops (ops.toList.takeWhile fun o => !isTail o).length) = avoidX a (looseLd ops) := by
  unfold avoid avoidX looseLd
  rw [List.filterMap_filterMap]
  congr 1
  funext o
  cases o.op <;> rfl
theorem W_lx {id : Nat} {ops : Array Oper} (lds : List Operand) (hd : okDraw ops = false) (hl : looseLd ops = lds) (hh : hotB C ops = false := by kernel_rfl) (hup : upB C (ops.toList.takeWhile fun o => !isTail o) = true := by kernel_rfl) (hlo : okLoose ops = true := by kernel_rfl) {a : Nat → MV} {σ : Sto} {Q : Ex → (Nat → MV) → Sto → Prop} : W C lim d (.region id ops true) a σ Q ↔
    WFr C d ops (ops.toList.takeWhile fun o => !isTail o) a σ fun a1 => (∀ l ∈ avoidX a1 lds, l.d ≠ d ∨ l.c < σ.ct d) ∧
      Opt (evNews C lim d (ops.toList.takeWhile fun o => !isTail o) a1 σ) fun x => WT C lim d ops (avoidX a1 lds) (ops.toList.dropWhile fun o => !isTail o) x.1 x.2 (Q .nrm) := by
  rw [W_lo hd hh hup hlo]
  simp only [avoid_eq, hl]

theorem evDR_mono {c c' : Call} (h : Call.le c c') {ops : Array Oper} {σ : Sto} : ∀ (l news : List Oper) {a : Nat → MV} {r : (Nat → MV) × Sto}, evDR C c lim d ops σ news l a = some r → evDR C c' lim d ops σ news l a = some r
  | [], _, _, _, he => he
  | o :: l, news, a, r, he => by
    simp only [evDR] at *
    split at he
    · rename_i ht
      rw [if_pos ht]
      obtain ⟨x, hx, he⟩ := Option.bind_eq_some_iff.1 he
      rw [hx]
      exact evOps_mono h _ he
    · rename_i ht
      rw [if_neg ht]
      split at he
      · split at he
        · rename_i hn
          rw [if_pos hn]
          exact evDR_mono h l _ he
        · rename_i hn
          rw [if_neg hn]
          obtain ⟨v, hv, he⟩ := Option.bind_eq_some_iff.1 he
          rw [evFree_mono h hv]
          exact evDR_mono h l _ he
      · exact evDR_mono h l _ he
      · cases he

section
variable {ops : Array Oper} {news l : List Oper} {a : Nat → MV} {σ : Sto} {Q : (Nat → MV) → Sto → Prop} {o : Oper}
theorem WR_nil : WR C lim d ops news [] a σ Q ↔ Opt (evNews C lim d news a σ) fun x => Q x.1 x.2 := by
  simp [WR, evDR]
theorem WR_tail (ht : isTail o = true) : WR C lim d ops news (o :: l) a σ Q ↔ Opt (evNews C lim d news a σ) fun x => WO C lim d ops (o :: l) x.1 x.2 Q := by
  simp only [WR, evDR, ht, if_true, WO]
  cases evNews C lim d news a σ with
  | none => simp [Opt]
  | some x => simp [Opt]
theorem WR_new {dst : Option Tmp} {t : TypeId} {ty : TypeId} {pos : String} {aft : Array Edge} : WR C lim d ops news (⟨dst, .alloc t, ty, pos, aft, none⟩ :: l) a σ Q ↔ WR C lim d ops (news ++ [⟨dst, .alloc t, ty, pos, aft, none⟩]) l a σ Q := by
  simp only [WR, evDR, isTail, want, isNew, Bool.false_eq_true, if_false, if_true]
/-- A free operation. -/
def WF1 (C : Cfg) (d : Nat) (a : Nat → MV) (o : Oper) (σ : Sto) (Q : MV → Prop) : Prop := ∃ n, Opt (evFree C (mev C n) d a o σ) Q
theorem WR_free (ht : isTail o = false) (hn : isNew o = false) (hw : want ops a o = some true) : WR C lim d ops news (o :: l) a σ Q ↔ WF1 C d a o σ fun v => WR C lim d ops news l (putD a o.dst v) σ Q := by
  simp only [WR, WF1, evDR, ht, hn, hw, Bool.false_eq_true, if_false]
  constructor
  · rintro ⟨n, r, hr, hq⟩
    obtain ⟨v, hv, hr⟩ := Option.bind_eq_some_iff.1 hr
    exact ⟨n, v, hv, n, r, hr, hq⟩
  · rintro ⟨n, v, hv, m, r, hr, hq⟩
    refine ⟨max n m, r, ?_, hq⟩
    rw [evFree_mono (mev_le (Nat.le_max_left n m)) hv]
    exact evDR_mono (mev_le (Nat.le_max_right n m)) l news hr
theorem WR_skip (ht : isTail o = false) (hw : want ops a o = some false) : WR C lim d ops news (o :: l) a σ Q ↔ WR C lim d ops news l (putD a o.dst .undef) σ Q := by
  simp only [WR, evDR, ht, hw, Bool.false_eq_true, if_false]
theorem WR_none (ht : isTail o = false) (hw : want ops a o = none) : WR C lim d ops news (o :: l) a σ Q ↔ False := by
  simp [WR, evDR, ht, hw, Opt]
theorem WF1_of {Q : MV → Prop} {r : Option MV} (h : ∀ call : Call, evFree C call d a o σ = r) : WF1 C d a o σ Q ↔ Opt r Q := by
  simp only [WF1, h]
  exact ⟨fun ⟨_, h⟩ => h, fun h => ⟨0, h⟩⟩
theorem WF1_call {Q : MV → Prop} {dst : Option Tmp} {f : Operand} {args : Array Operand} {ts : Array TypeId} {ty : TypeId} {pos : String} {aft : Array Edge} {gd : Option (Nat × Bool)} {g : FuncId} (hf : valO a f = .fn g) :
    WF1 C d a ⟨dst, .call ⟨.value f, args, ts⟩, ty, pos, aft, gd⟩ σ Q ↔ WF C (d + 1) (d + 1) g (args.toList.map fun x => (valO a x).arg) σ fun v _ => Q v := by
  simp only [WF1, WF, evFree, hf, Opt_map]

theorem WFr_nil {Q : (Nat → MV) → Prop} : WFr C d ops [] a σ Q ↔ Q a := by simp [WFr, evOpsF, Opt]
theorem WFr_new {Q : (Nat → MV) → Prop} {dst : Option Tmp} {t : TypeId} {ty : TypeId} {pos : String} {aft : Array Edge} : WFr C d ops (⟨dst, .alloc t, ty, pos, aft, none⟩ :: l) a σ Q ↔ WFr C d ops l a σ Q := by
  simp only [WFr, evOpsF, want, isNew, if_true]
theorem WFr_free {Q : (Nat → MV) → Prop} (hn : isNew o = false) (hw : want ops a o = some true) : WFr C d ops (o :: l) a σ Q ↔ WF1 C d a o σ fun v => WFr C d ops l (putD a o.dst v) σ Q := by
  simp only [WFr, WF1, evOpsF, hn, hw, Bool.false_eq_true, if_false]
  constructor
  · rintro ⟨n, r, hr, hq⟩
    obtain ⟨v, hv, hr⟩ := Option.bind_eq_some_iff.1 hr
    exact ⟨n, v, hv, n, r, hr, hq⟩
  · rintro ⟨n, v, hv, m, r, hr, hq⟩
    refine ⟨max n m, r, ?_, hq⟩
    rw [evFree_mono (mev_le (Nat.le_max_left n m)) hv]
    exact evOpsF_mono (mev_le (Nat.le_max_right n m)) l hr
theorem WT_nil {av : List Loc} : WT C lim d ops av [] a σ Q ↔ Q a σ := by simp [WT, evOpsL, Opt]
theorem WT_cons {av : List Loc} (hg : o.guard = none) : WT C lim d ops av (o :: l) a σ Q ↔ lok a av o = true ∧ W1 C lim d a o σ fun v s => WT C lim d ops av l (putD a o.dst v) s Q := by
  have hw : want ops a o = some true := by unfold want; rw [hg]
  simp only [WT, W1, evOpsL, hw]
  constructor
  · rintro ⟨n, r, hr, hq⟩
    split at hr
    · rename_i hk
      obtain ⟨x, hx, hr⟩ := Option.bind_eq_some_iff.1 hr
      exact ⟨hk, n, x, hx, n, r, hr, hq⟩
    · cases hr
  · rintro ⟨hk, n, x, hx, m, r, hr, hq⟩
    refine ⟨max n m, r, ?_, hq⟩
    rw [if_pos hk, evOp_mono (mev_le (Nat.le_max_left n m)) hx]
    exact evOpsL_mono (mev_le (Nat.le_max_right n m)) l hr
end
end Go.Mv
/- The rules by which simp goes through code. -/
namespace Go.Mv
attribute [go_sem] W_region W_skip W_label W_exit W_ret W_block WO_nil W1_move W1_assign W1_alloc allocU_z boxU_z W1_box W1_build W1_buildSlice W1_load W1_store W1_nilCheck W1_binOp W1_unOp W1_convert W1_slice W1_fieldAddr W1_field W1_indexAddr W1_index W1_extract W1_len W1_min W1_max W1_append
attribute [go_sem] Opt_some Opt_none Opt_ite Opt_map Opt_bind andThen_nrm andThen_ret andThen_goto andThen_exit W_goto Jmp_nrm Jmp_ret Jmp_exit blk_goto blk_nrm blk_ret blk_exit atEnd_nrm atEnd_ret if_true if_false ite_true ite_false WR_nil WR_new

section
variable {C : Cfg} {lim d : Nat} {a : Nat → MV} {σ : Sto} {ops : Array Oper} {Q : (Nat → MV) → Sto → Prop} {l : List Oper} {dst : Option Tmp} {op : Op} {ty : TypeId} {pos : String} {aft : Array Edge}
@[go_sem] theorem WO_free : WO C lim d ops (⟨dst, op, ty, pos, aft, none⟩ :: l) a σ Q ↔ W1 C lim d a ⟨dst, op, ty, pos, aft, none⟩ σ fun v σ => WO C lim d ops l (putD a dst v) σ Q := WO_true rfl
/-- What a guard's slot says. -/
def gdO (w : Bool) : MV → Option Bool
  | .bool b => some (b == w)
  | .undef => some false
  | _ => none
@[go_sem] theorem gdO_bool (w b : Bool) : gdO w (.bool b) = some (b == w) := rfl
@[go_sem] theorem gdO_undef (w : Bool) : gdO w .undef = some false := rfl
/-- The slot of a guard. -/
def gdT (ops : Array Oper) (a : Nat → MV) (j : Nat) (w : Bool) : Option Bool := ((ops[j]?).bind (·.dst)).bind fun t => gdO w (a t)
theorem want_gd {j : Nat} {w : Bool} : want ops a ⟨dst, op, ty, pos, aft, some (j, w)⟩ = gdT ops a j w := by
  unfold want gdT
  simp only
  cases (ops[j]?).bind (·.dst) with
  | none => rfl
  | some t => simp only [Option.bind_some]; cases a t <;> rfl
theorem WO_guard {j : Nat} {w : Bool} : WO C lim d ops (⟨dst, op, ty, pos, aft, some (j, w)⟩ :: l) a σ Q ↔
    Opt (gdT ops a j w) fun b => if b = true then W1 C lim d a ⟨dst, op, ty, pos, aft, some (j, w)⟩ σ (fun v σ => WO C lim d ops l (putD a dst v) σ Q) else WO C lim d ops l (putD a dst .undef) σ Q := by
  rw [WO_cons, want_gd]
theorem gdT_at {j : Nat} {w : Bool} {t : Tmp} (hj : (ops[j]?).bind (·.dst) = some t) : gdT ops a j w = gdO w (a t) := by unfold gdT; rw [hj]; rfl
/-- One of two. -/
def Cnd (v : MV) (x y : Prop) : Prop := ∃ b, v = .bool b ∧ if b = true then x else y
@[go_sem] theorem Cnd_bool (b : Bool) (x y : Prop) : Cnd (.bool b) x y ↔ if b = true then x else y := by
  constructor
  · rintro ⟨b', h, k⟩; cases h; exact k
  · intro h; exact ⟨b, rfl, h⟩
@[go_sem] theorem W_cnd {c : Operand} {x y : Code} {Q : Ex → (Nat → MV) → Sto → Prop} : W C lim d (.cond c x y) a σ Q ↔ Cnd (valO a c) (W C lim d x a σ Q) (W C lim d y a σ Q) := by
  constructor
  · rintro ⟨n, r, hr, hq⟩
    simp only [evCode] at hr
    cases hv : valO a c <;> rw [hv] at hr <;> try (cases hr; done)
    rename_i b
    refine ⟨b, rfl, ?_⟩
    cases b
    · exact ⟨n, r, hr, hq⟩
    · exact ⟨n, r, hr, hq⟩
  · rintro ⟨b, hb, h⟩
    exact (W_cond hb).2 h
/-- A choice. -/
def pickO (c x y : MV) : Option MV :=
  match c with
  | .bool b => some (if b then x else y)
  | _ => none
@[go_sem] theorem pickO_bool (b : Bool) (x y : MV) : pickO (.bool b) x y = some (if b = true then x else y) := rfl
@[go_sem] theorem W1_pk {gd : Option (Nat × Bool)} {c x y : Operand} {Q : MV → Sto → Prop} : W1 C lim d a ⟨dst, .pick c x y, ty, pos, aft, gd⟩ σ Q ↔ Opt (pickO (valO a c) (valO a x) (valO a y)) fun v => Q v σ :=
  (W1_of (r := (pickO (valO a c) (valO a x) (valO a y)).map fun v => (v, σ)) fun _ => by simp only [evOp, pickO]; cases valO a c <;> rfl).trans (by simp only [Opt_map])
/-- A call by the function's number. -/
@[go_sem] theorem W1_callf {gd : Option (Nat × Bool)} {g : FuncId} {args : Array Operand} {ts : Array TypeId} {Q : MV → Sto → Prop} :
    W1 C lim d a ⟨dst, .call ⟨.value (.func g), args, ts⟩, ty, pos, aft, gd⟩ σ Q ↔ WF C lim (d + 1) g (args.toList.map fun x => (valO a x).arg) σ Q := W1_call rfl
/-- A call of a function value. -/
def callV (C : Cfg) (lim d : Nat) (f : MV) (args : List MV) (σ : Sto) (Q : MV → Sto → Prop) : Prop := ∃ g, f = .fn g ∧ WF C lim d g args σ Q
@[go_sem] theorem callV_fn (g : FuncId) (args : List MV) (Q : MV → Sto → Prop) : callV C lim d (.fn g) args σ Q ↔ WF C lim d g args σ Q := by
  constructor
  · rintro ⟨g', h, k⟩; cases h; exact k
  · intro h; exact ⟨g, rfl, h⟩
@[go_sem] theorem W1_callt {gd : Option (Nat × Bool)} {t : Tmp} {args : Array Operand} {ts : Array TypeId} {Q : MV → Sto → Prop} :
    W1 C lim d a ⟨dst, .call ⟨.value (.tmp t), args, ts⟩, ty, pos, aft, gd⟩ σ Q ↔ callV C lim (d + 1) (a t) (args.toList.map fun x => (valO a x).arg) σ Q := by
  constructor
  · rintro ⟨n, r, hr, hq⟩
    simp only [evOp, valO] at hr
    cases hv : a t <;> rw [hv] at hr <;> try (cases hr; done)
    exact ⟨_, rfl, n, r, hr, hq⟩
  · rintro ⟨g, hg, h⟩
    exact (W1_call (f := .tmp t) hg).2 h
end

/-! ### Free operations -/
section
variable {C : Cfg} {lim d : Nat} {a : Nat → MV} {σ : Sto} {ops : Array Oper} {Q : (Nat → MV) → Sto → Prop} {news l : List Oper} {dst : Option Tmp} {ty : TypeId} {pos : String} {aft : Array Edge}
theorem map_fst {σ : Sto} (r : Option MV) : (r.map fun v => (v, σ)).map (·.1) = r := by cases r <;> rfl
theorem WR_op {o : Oper} {r : Option MV} (ht : isTail o = false) (hn : isNew o = false) (hg : o.guard = none) (h : ∀ call : Call, evFree C call d a o σ = r) : WR C lim d ops news (o :: l) a σ Q ↔ Opt r fun v => WR C lim d ops news l (putD a o.dst v) σ Q := by
  rw [WR_free ht hn (by unfold want; rw [hg]), WF1_of h]
theorem WR_gd {op : Op} {j : Nat} {w : Bool} (ht : isTail ⟨dst, op, ty, pos, aft, some (j, w)⟩ = false) (hn : isNew ⟨dst, op, ty, pos, aft, some (j, w)⟩ = false) (hn' : isNew ⟨dst, op, ty, pos, aft, none⟩ = false) (ht' : isTail ⟨dst, op, ty, pos, aft, none⟩ = false)
    (hf : ∀ call : Call, evFree C call d a ⟨dst, op, ty, pos, aft, some (j, w)⟩ σ = evFree C call d a ⟨dst, op, ty, pos, aft, none⟩ σ) : WR C lim d ops news (⟨dst, op, ty, pos, aft, some (j, w)⟩ :: l) a σ Q ↔
    Opt (gdT ops a j w) fun b => if b = true then WR C lim d ops news (⟨dst, op, ty, pos, aft, none⟩ :: l) a σ Q else WR C lim d ops news l (putD a dst .undef) σ Q := by
  cases hw : gdT ops a j w with
  | none => rw [WR_none ht (by rw [want_gd, hw]), Opt_none]
  | some b =>
    rw [Opt_some]
    cases b with
    | false => rw [WR_skip ht (by rw [want_gd, hw])]; simp
    | true =>
      rw [WR_free ht hn (by rw [want_gd, hw]), WR_free ht' hn' rfl]
      simp only [WF1, hf, if_true]
section
variable {t : TypeId} {x y i : Operand} {f : Nat}
@[go_sem] theorem WR_move : WR C lim d ops news (⟨dst, .move x, ty, pos, aft, none⟩ :: l) a σ Q ↔ WR C lim d ops news l (putD a dst (valO a x)) σ Q := (WR_op rfl rfl rfl (r := some (valO a x)) fun _ => rfl).trans (Opt_some _ _)
@[go_sem] theorem WR_assign : WR C lim d ops news (⟨dst, .assign x, ty, pos, aft, none⟩ :: l) a σ Q ↔ Opt (evNews C lim d news a σ) fun z => WO C lim d ops (⟨dst, .assign x, ty, pos, aft, none⟩ :: l) z.1 z.2 Q := WR_tail rfl
@[go_sem] theorem WR_store : WR C lim d ops news (⟨dst, .store t x y, ty, pos, aft, none⟩ :: l) a σ Q ↔ Opt (evNews C lim d news a σ) fun z => WO C lim d ops (⟨dst, .store t x y, ty, pos, aft, none⟩ :: l) z.1 z.2 Q := WR_tail rfl
@[go_sem] theorem WR_append {args : Array Operand} {ts : Array TypeId} : WR C lim d ops news (⟨dst, .call ⟨.builtin .append, args, ts⟩, ty, pos, aft, none⟩ :: l) a σ Q ↔ Opt (evNews C lim d news a σ) fun z => WO C lim d ops (⟨dst, .call ⟨.builtin .append, args, ts⟩, ty, pos, aft, none⟩ :: l) z.1 z.2 Q := WR_tail rfl
@[go_sem] theorem WR_pick {c : Operand} : WR C lim d ops news (⟨dst, .pick c x y, ty, pos, aft, none⟩ :: l) a σ Q ↔ Opt (pickO (valO a c) (valO a x) (valO a y)) fun v => WR C lim d ops news l (putD a dst v) σ Q := WR_op rfl rfl rfl fun _ => by simp only [evFree, evOp, pickO]; cases valO a c <;> rfl
@[go_sem] theorem WR_load : WR C lim d ops news (⟨dst, .load t x, ty, pos, aft, none⟩ :: l) a σ Q ↔ Opt (ldO C.P σ t (valO a x)) fun v => WR C lim d ops news l (putD a dst v) σ Q := WR_op rfl rfl rfl fun _ => map_fst _
@[go_sem] theorem WR_build {ps : Array (Nat × Operand)} : WR C lim d ops news (⟨dst, .build t ps, ty, pos, aft, none⟩ :: l) a σ Q ↔ Opt (buildO C.P t (ps.toList.map fun p => (p.1, valO a p.2))) fun v => WR C lim d ops news l (putD a dst v) σ Q := WR_op rfl rfl rfl fun _ => map_fst _
@[go_sem] theorem WR_nilCheck : WR C lim d ops news (⟨dst, .nilCheck x, ty, pos, aft, none⟩ :: l) a σ Q ↔ Opt (nilO (valO a x)) fun v => WR C lim d ops news l (putD a dst v) σ Q := WR_op rfl rfl rfl fun _ => by simp only [evFree, evOp, nilO]; cases valO a x <;> rfl
@[go_sem] theorem WR_binOp {op : BinOp} {q : TypeId} : WR C lim d ops news (⟨dst, .binOp op t x y q, ty, pos, aft, none⟩ :: l) a σ Q ↔ Opt (binO C.P C.eqT op t (valO a x) (valO a y)) fun v => WR C lim d ops news l (putD a dst v) σ Q := WR_op rfl rfl rfl fun _ => map_fst _
@[go_sem] theorem WR_unOp {op : UnOp} : WR C lim d ops news (⟨dst, .unOp op t x, ty, pos, aft, none⟩ :: l) a σ Q ↔ Opt (unO op (valO a x)) fun v => WR C lim d ops news l (putD a dst v) σ Q := WR_op rfl rfl rfl fun _ => map_fst _
@[go_sem] theorem WR_convert {t' : TypeId} : WR C lim d ops news (⟨dst, .convert t t' x, ty, pos, aft, none⟩ :: l) a σ Q ↔ Opt (cvtO C.P t t' (valO a x)) fun v => WR C lim d ops news l (putD a dst v) σ Q := WR_op rfl rfl rfl fun _ => map_fst _
@[go_sem] theorem WR_slice {lo hi : Option Operand} : WR C lim d ops news (⟨dst, .slice t x lo hi none, ty, pos, aft, none⟩ :: l) a σ Q ↔ Opt (cutO C.P t (lo.map (valO a)) (hi.map (valO a)) (valO a x)) fun v => WR C lim d ops news l (putD a dst v) σ Q := WR_op rfl rfl rfl fun _ => map_fst _
@[go_sem] theorem WR_fieldAddr : WR C lim d ops news (⟨dst, .fieldAddr t x f, ty, pos, aft, none⟩ :: l) a σ Q ↔ Opt (faO C.P t f (valO a x)) fun v => WR C lim d ops news l (putD a dst v) σ Q := WR_op rfl rfl rfl fun _ => map_fst _
@[go_sem] theorem WR_field : WR C lim d ops news (⟨dst, .field t x f, ty, pos, aft, none⟩ :: l) a σ Q ↔ Opt (fdO C.P t f (valO a x)) fun v => WR C lim d ops news l (putD a dst v) σ Q := WR_op rfl rfl rfl fun _ => map_fst _
@[go_sem] theorem WR_indexAddr : WR C lim d ops news (⟨dst, .indexAddr t x i, ty, pos, aft, none⟩ :: l) a σ Q ↔ Opt (iaO C.P t (valO a x) (valO a i)) fun v => WR C lim d ops news l (putD a dst v) σ Q := WR_op rfl rfl rfl fun _ => map_fst _
@[go_sem] theorem WR_index : WR C lim d ops news (⟨dst, .index t x i, ty, pos, aft, none⟩ :: l) a σ Q ↔ Opt (ixO C.P t (valO a x) (valO a i)) fun v => WR C lim d ops news l (putD a dst v) σ Q := WR_op rfl rfl rfl fun _ => map_fst _
@[go_sem] theorem WR_extract {k : Nat} : WR C lim d ops news (⟨dst, .extract x k, ty, pos, aft, none⟩ :: l) a σ Q ↔ Opt (extO k (valO a x)) fun v => WR C lim d ops news l (putD a dst v) σ Q := WR_op rfl rfl rfl fun _ => by
  simp only [evFree, evOp, extO]
  cases valO a x <;> first | exact map_fst _ | rfl
@[go_sem] theorem WR_len : WR C lim d ops news (⟨dst, .call ⟨.builtin .len, #[x], #[t]⟩, ty, pos, aft, none⟩ :: l) a σ Q ↔ Opt (lenO C.P t (valO a x)) fun v => WR C lim d ops news l (putD a dst v) σ Q := WR_op rfl rfl rfl fun _ => map_fst _
@[go_sem] theorem WR_min {xs : Array Operand} {ts : Array TypeId} : WR C lim d ops news (⟨dst, .call ⟨.builtin .min, xs, ts⟩, ty, pos, aft, none⟩ :: l) a σ Q ↔ Opt (mm false (xs.toList.map (valO a))) fun v => WR C lim d ops news l (putD a dst v) σ Q := WR_op rfl rfl rfl fun _ => map_fst _
@[go_sem] theorem WR_max {xs : Array Operand} {ts : Array TypeId} : WR C lim d ops news (⟨dst, .call ⟨.builtin .max, xs, ts⟩, ty, pos, aft, none⟩ :: l) a σ Q ↔ Opt (mm true (xs.toList.map (valO a))) fun v => WR C lim d ops news l (putD a dst v) σ Q := WR_op rfl rfl rfl fun _ => map_fst _
/-- A slice literal that nothing owns. -/
def bslF (P : Program) (t : TypeId) (n : Nat) (ps : List (Nat × MV)) : Option MV :=
  match slc P t with
  | some (_, s, _) => if ps.length = n ∧ n * s ≤ 65536 ∧ 0 < s then (sliceParts s 0 ps).map fun xs => .sl .no xs else none
  | none => none
@[go_sem] theorem WR_buildSlice {n : Nat} {ps : Array (Nat × Operand)} : WR C lim d ops news (⟨dst, .buildSlice t n ps, ty, pos, aft, none⟩ :: l) a σ Q ↔ Opt (bslF C.P t n (ps.toList.map fun p => (p.1, valO a p.2))) fun v => WR C lim d ops news l (putD a dst v) σ Q := WR_op rfl rfl rfl fun _ => by
  simp only [evFree, bslF, List.length_map, Array.length_toList]
  rfl
@[go_sem] theorem WR_callf {g : FuncId} {args : Array Operand} {ts : Array TypeId} : WR C lim d ops news (⟨dst, .call ⟨.value (.func g), args, ts⟩, ty + 1, pos, aft, none⟩ :: l) a σ Q ↔ WF C (d + 1) (d + 1) g (args.toList.map fun x => (valO a x).arg) σ fun v _ => WR C lim d ops news l (putD a dst v) σ Q := by
  rw [WR_free (by simp [isTail]) rfl rfl, WF1_call rfl]
@[go_sem] theorem WR_callz {f : Operand} {args : Array Operand} {ts : Array TypeId} : WR C lim d ops news (⟨dst, .call ⟨.value f, args, ts⟩, 0, pos, aft, none⟩ :: l) a σ Q ↔ Opt (evNews C lim d news a σ) fun x => WO C lim d ops (⟨dst, .call ⟨.value f, args, ts⟩, 0, pos, aft, none⟩ :: l) x.1 x.2 Q := WR_tail (by simp [isTail])
end
end

/-! ### Loose regions -/
section
variable {C : Cfg} {lim d : Nat} {a : Nat → MV} {σ : Sto} {ops : Array Oper} {Q : (Nat → MV) → Prop} {l : List Oper} {dst : Option Tmp} {ty : TypeId} {pos : String} {aft : Array Edge}
theorem WFr_op {o : Oper} {r : Option MV} (hn : isNew o = false) (hg : o.guard = none) (h : ∀ call : Call, evFree C call d a o σ = r) : WFr C d ops (o :: l) a σ Q ↔ Opt r fun v => WFr C d ops l (putD a o.dst v) σ Q := by
  rw [WFr_free hn (by unfold want; rw [hg]), WF1_of h]
section
variable {t : TypeId} {x y i : Operand} {f : Nat}
@[go_sem] theorem WFr_move : WFr C d ops (⟨dst, .move x, ty, pos, aft, none⟩ :: l) a σ Q ↔ WFr C d ops l (putD a dst (valO a x)) σ Q := (WFr_op rfl rfl (r := some (valO a x)) fun _ => rfl).trans (Opt_some _ _)
@[go_sem] theorem WFr_load : WFr C d ops (⟨dst, .load t x, ty, pos, aft, none⟩ :: l) a σ Q ↔ Opt (ldO C.P σ t (valO a x)) fun v => WFr C d ops l (putD a dst v) σ Q := WFr_op rfl rfl fun _ => map_fst _
@[go_sem] theorem WFr_build {ps : Array (Nat × Operand)} : WFr C d ops (⟨dst, .build t ps, ty, pos, aft, none⟩ :: l) a σ Q ↔ Opt (buildO C.P t (ps.toList.map fun p => (p.1, valO a p.2))) fun v => WFr C d ops l (putD a dst v) σ Q := WFr_op rfl rfl fun _ => map_fst _
@[go_sem] theorem WFr_nilCheck : WFr C d ops (⟨dst, .nilCheck x, ty, pos, aft, none⟩ :: l) a σ Q ↔ Opt (nilO (valO a x)) fun v => WFr C d ops l (putD a dst v) σ Q := WFr_op rfl rfl fun _ => by simp only [evFree, evOp, nilO]; cases valO a x <;> rfl
@[go_sem] theorem WFr_binOp {op : BinOp} {q : TypeId} : WFr C d ops (⟨dst, .binOp op t x y q, ty, pos, aft, none⟩ :: l) a σ Q ↔ Opt (binO C.P C.eqT op t (valO a x) (valO a y)) fun v => WFr C d ops l (putD a dst v) σ Q := WFr_op rfl rfl fun _ => map_fst _
@[go_sem] theorem WFr_unOp {op : UnOp} : WFr C d ops (⟨dst, .unOp op t x, ty, pos, aft, none⟩ :: l) a σ Q ↔ Opt (unO op (valO a x)) fun v => WFr C d ops l (putD a dst v) σ Q := WFr_op rfl rfl fun _ => map_fst _
@[go_sem] theorem WFr_convert {t' : TypeId} : WFr C d ops (⟨dst, .convert t t' x, ty, pos, aft, none⟩ :: l) a σ Q ↔ Opt (cvtO C.P t t' (valO a x)) fun v => WFr C d ops l (putD a dst v) σ Q := WFr_op rfl rfl fun _ => map_fst _
@[go_sem] theorem WFr_slice {lo hi : Option Operand} : WFr C d ops (⟨dst, .slice t x lo hi none, ty, pos, aft, none⟩ :: l) a σ Q ↔ Opt (cutO C.P t (lo.map (valO a)) (hi.map (valO a)) (valO a x)) fun v => WFr C d ops l (putD a dst v) σ Q := WFr_op rfl rfl fun _ => map_fst _
@[go_sem] theorem WFr_fieldAddr : WFr C d ops (⟨dst, .fieldAddr t x f, ty, pos, aft, none⟩ :: l) a σ Q ↔ Opt (faO C.P t f (valO a x)) fun v => WFr C d ops l (putD a dst v) σ Q := WFr_op rfl rfl fun _ => map_fst _
@[go_sem] theorem WFr_field : WFr C d ops (⟨dst, .field t x f, ty, pos, aft, none⟩ :: l) a σ Q ↔ Opt (fdO C.P t f (valO a x)) fun v => WFr C d ops l (putD a dst v) σ Q := WFr_op rfl rfl fun _ => map_fst _
@[go_sem] theorem WFr_indexAddr : WFr C d ops (⟨dst, .indexAddr t x i, ty, pos, aft, none⟩ :: l) a σ Q ↔ Opt (iaO C.P t (valO a x) (valO a i)) fun v => WFr C d ops l (putD a dst v) σ Q := WFr_op rfl rfl fun _ => map_fst _
@[go_sem] theorem WFr_index : WFr C d ops (⟨dst, .index t x i, ty, pos, aft, none⟩ :: l) a σ Q ↔ Opt (ixO C.P t (valO a x) (valO a i)) fun v => WFr C d ops l (putD a dst v) σ Q := WFr_op rfl rfl fun _ => map_fst _
@[go_sem] theorem WFr_extract {k : Nat} : WFr C d ops (⟨dst, .extract x k, ty, pos, aft, none⟩ :: l) a σ Q ↔ Opt (extO k (valO a x)) fun v => WFr C d ops l (putD a dst v) σ Q := WFr_op rfl rfl fun _ => by
  simp only [evFree, evOp, extO]
  cases valO a x <;> first | exact map_fst _ | rfl
@[go_sem] theorem WFr_len : WFr C d ops (⟨dst, .call ⟨.builtin .len, #[x], #[t]⟩, ty, pos, aft, none⟩ :: l) a σ Q ↔ Opt (lenO C.P t (valO a x)) fun v => WFr C d ops l (putD a dst v) σ Q := WFr_op rfl rfl fun _ => map_fst _
@[go_sem] theorem WFr_min {xs : Array Operand} {ts : Array TypeId} : WFr C d ops (⟨dst, .call ⟨.builtin .min, xs, ts⟩, ty, pos, aft, none⟩ :: l) a σ Q ↔ Opt (mm false (xs.toList.map (valO a))) fun v => WFr C d ops l (putD a dst v) σ Q := WFr_op rfl rfl fun _ => map_fst _
@[go_sem] theorem WFr_max {xs : Array Operand} {ts : Array TypeId} : WFr C d ops (⟨dst, .call ⟨.builtin .max, xs, ts⟩, ty, pos, aft, none⟩ :: l) a σ Q ↔ Opt (mm true (xs.toList.map (valO a))) fun v => WFr C d ops l (putD a dst v) σ Q := WFr_op rfl rfl fun _ => map_fst _
@[go_sem] theorem WFr_buildSlice {n : Nat} {ps : Array (Nat × Operand)} : WFr C d ops (⟨dst, .buildSlice t n ps, ty, pos, aft, none⟩ :: l) a σ Q ↔ Opt (bslF C.P t n (ps.toList.map fun p => (p.1, valO a p.2))) fun v => WFr C d ops l (putD a dst v) σ Q := WFr_op rfl rfl fun _ => by
  simp only [evFree, bslF, List.length_map, Array.length_toList]
  rfl
@[go_sem] theorem WFr_callf {g : FuncId} {args : Array Operand} {ts : Array TypeId} : WFr C d ops (⟨dst, .call ⟨.value (.func g), args, ts⟩, ty, pos, aft, none⟩ :: l) a σ Q ↔ WF C (d + 1) (d + 1) g (args.toList.map fun x => (valO a x).arg) σ fun v _ => WFr C d ops l (putD a dst v) σ Q := by
  rw [WFr_free rfl rfl, WF1_call rfl]
end
end
section
variable {C : Cfg} {lim d : Nat} {a : Nat → MV} {σ : Sto} {ops : Array Oper} {Q : (Nat → MV) → Sto → Prop} {l : List Oper} {dst : Option Tmp} {op : Op} {ty : TypeId} {pos : String} {aft : Array Edge} {av : List Loc} {x y : Operand} {t t' : TypeId} {gd : Option (Nat × Bool)}
@[go_sem] theorem WT_free : WT C lim d ops av (⟨dst, op, ty, pos, aft, none⟩ :: l) a σ Q ↔ lok a av ⟨dst, op, ty, pos, aft, none⟩ = true ∧ W1 C lim d a ⟨dst, op, ty, pos, aft, none⟩ σ fun v s => WT C lim d ops av l (putD a dst v) s Q := WT_cons rfl
def lokS (av : List Loc) : MV → Bool
  | .ptr l _ => decide (l ∉ av)
  | _ => false
@[go_sem] theorem lokS_ptr (l : Loc) (o : Nat) : lokS av (.ptr l o) = decide (l ∉ av) := rfl
@[go_sem] theorem lok_store : lok a av ⟨dst, .store t x y, ty, pos, aft, gd⟩ = lokS av (valO a x) := rfl
@[go_sem] theorem lok_append {args : List Operand} {ts : Array TypeId} : lok a av ⟨dst, .call ⟨.builtin .append, args.toArray, ts⟩, ty, pos, aft, gd⟩ = ((av.all fun l => decide (l.t < 500000 ∨ 1000000 ≤ l.t)) && lokA av (args.map (valO a))) := rfl
@[go_sem] theorem lok_assign : lok a av ⟨dst, .assign x, ty, pos, aft, gd⟩ = true := rfl
@[go_sem] theorem lok_move : lok a av ⟨dst, .move x, ty, pos, aft, gd⟩ = true := rfl
@[go_sem] theorem lok_fieldAddr {f : Nat} : lok a av ⟨dst, .fieldAddr t x f, ty, pos, aft, gd⟩ = true := rfl
@[go_sem] theorem lok_load : lok a av ⟨dst, .load t x, ty, pos, aft, gd⟩ = true := rfl
@[go_sem] theorem lok_binOp {op : BinOp} : lok a av ⟨dst, .binOp op t x y t', ty, pos, aft, gd⟩ = true := rfl
@[go_sem] theorem lok_nilCheck : lok a av ⟨dst, .nilCheck x, ty, pos, aft, gd⟩ = true := rfl
@[go_sem] theorem lok_extract {k : Nat} : lok a av ⟨dst, .extract x k, ty, pos, aft, gd⟩ = true := rfl
@[go_sem] theorem avX_nil : avoidX a [] = [] := rfl
def avC : MV → List Loc → List Loc
  | .ptr l _, r => l :: r
  | _, r => r
@[go_sem] theorem avC_ptr (l : Loc) (o : Nat) (r : List Loc) : avC (.ptr l o) r = l :: r := rfl
@[go_sem] theorem avC_ep (cs : List MV) (o : Nat) (r : List Loc) : avC (.ep cs o) r = r := rfl
@[go_sem] theorem avX_cons (xs : List Operand) : avoidX a (x :: xs) = avC (valO a x) (avoidX a xs) := by
  unfold avoidX avC
  simp only [List.filterMap_cons]
  cases valO a x <;> rfl
end
attribute [go_sem] WFr_nil WFr_new WT_nil

/-! ### Frames -/
@[go_sem] theorem putD_some (a : Nat → MV) (d : Tmp) (v : MV) : putD a (some d) v = upd a d v := rfl
@[go_sem] theorem putD_none (a : Nat → MV) (v : MV) : putD a none v = a := rfl
@[go_sem] theorem upd_at (a : Nat → MV) (d t : Nat) (v : MV) : upd a d v t = if t = d then v else a t := rfl
@[go_sem] theorem startA_at (args : List MV) (t : Nat) : startA args t = (args[t]?).getD .undef := rfl
attribute [go_sem] List.getElem?_cons_zero List.getElem?_cons_succ List.getElem?_nil Option.getD_some Option.getD_none List.map_cons List.map_nil Option.map_some Option.map_none
@[go_sem] theorem valO_tmp (a : Nat → MV) (t : Tmp) : valO a (.tmp t) = a t := rfl
@[go_sem] theorem valO_const (a : Nat → MV) (v : Value) : valO a (.const v) = ofV v := rfl
@[go_sem] theorem valO_func (a : Nat → MV) (f : FuncId) : valO a (.func f) = .fn f := rfl
@[go_sem] theorem ofV_int (k : IntKind) (n : Int) : ofV (.int k n) = .int k n := rfl
@[go_sem] theorem ofV_bool (b : Bool) : ofV (.bool b) = .bool b := rfl
@[go_sem] theorem ofV_string (s : ByteArray) : ofV (.string s) = .str s.data.toList := rfl
@[go_sem] theorem ofV_nilsl : ofV (.slice none 0 0) = .sl .nil [] := rfl
@[go_sem] theorem ofV_nilp : ofV (.pointer none) = .nilp := rfl
attribute [go_sem] List.toList_toArray

/-! ### Values -/
section
variable (cs : List MV) (k : IntKind) (n : Int) (b : Bool) (s : List UInt8) (t : Tok) (xs : List (List MV)) (l : Loc) (o : Nat) (f : FuncId)
@[go_sem] theorem cells_agg : (MV.agg cs).cells = some cs := rfl
@[go_sem] theorem cells_int : (MV.int k n).cells = some [.int k n] := rfl
@[go_sem] theorem cells_bool : (MV.bool b).cells = some [.bool b] := rfl
@[go_sem] theorem cells_str : (MV.str s).cells = some [.str s] := rfl
@[go_sem] theorem cells_sl : (MV.sl t xs).cells = some [.sl t xs] := rfl
@[go_sem] theorem cells_ptr : (MV.ptr l o).cells = some [.ptr l o] := rfl
@[go_sem] theorem cells_nilp : MV.nilp.cells = some [.nilp] := rfl
@[go_sem] theorem cells_fn : (MV.fn f).cells = some [.fn f] := rfl
@[go_sem] theorem arg_agg : (MV.agg cs).arg = .agg (cs.map MV.era) := rfl
@[go_sem] theorem arg_int : (MV.int k n).arg = .int k n := rfl
@[go_sem] theorem arg_bool : (MV.bool b).arg = .bool b := rfl
@[go_sem] theorem arg_str : (MV.str s).arg = .str s := rfl
@[go_sem] theorem arg_sl : (MV.sl t xs).arg = .sl .no xs := rfl
@[go_sem] theorem arg_ptr : (MV.ptr l o).arg = .ptr l o := rfl
@[go_sem] theorem arg_ep : (MV.ep cs o).arg = .ep cs o := rfl
@[go_sem] theorem arg_nilp : MV.nilp.arg = .nilp := rfl
@[go_sem] theorem arg_fn : (MV.fn f).arg = .fn f := rfl
@[go_sem] theorem era_int : (MV.int k n).era = .int k n := rfl
@[go_sem] theorem era_bool : (MV.bool b).era = .bool b := rfl
@[go_sem] theorem era_str : (MV.str s).era = .str s := rfl
@[go_sem] theorem era_sl : (MV.sl t xs).era = .sl .no xs := rfl
@[go_sem] theorem era_ptr : (MV.ptr l o).era = .ptr l o := rfl
@[go_sem] theorem era_nilp : MV.nilp.era = .nilp := rfl
@[go_sem] theorem data_int : (MV.int k n).data = true := rfl
@[go_sem] theorem data_bool : (MV.bool b).data = true := rfl
@[go_sem] theorem data_str : (MV.str s).data = true := rfl
@[go_sem] theorem data_sl : (MV.sl t xs).data = true := rfl
@[go_sem] theorem data_nilp : MV.nilp.data = true := rfl
variable (d : Nat)
variable (σ : Sto)
@[go_sem] theorem res_agg : (MV.agg cs).res σ d = (cs.mapM (MV.frz σ d)).map .agg := rfl
@[go_sem] theorem res_int : (MV.int k n).res σ d = some (.int k n) := rfl
@[go_sem] theorem res_bool : (MV.bool b).res σ d = some (.bool b) := rfl
@[go_sem] theorem res_str : (MV.str s).res σ d = some (.str s) := rfl
@[go_sem] theorem res_sl : (MV.sl t xs).res σ d = some (.sl .no xs) := rfl
@[go_sem] theorem res_nilp : MV.nilp.res σ d = some .nilp := rfl
@[go_sem] theorem res_undef : MV.undef.res σ d = some .undef := rfl
@[go_sem] theorem res_tup (vs : List MV) : (MV.tup vs).res σ d = (vs.mapM (MV.res1 σ d)).map .tup := rfl
@[go_sem] theorem res1_agg : (MV.agg cs).res1 σ d = (cs.mapM (MV.frz σ d)).map .agg := rfl
@[go_sem] theorem res1_int : (MV.int k n).res1 σ d = some (.int k n) := rfl
@[go_sem] theorem res1_bool : (MV.bool b).res1 σ d = some (.bool b) := rfl
@[go_sem] theorem res1_str : (MV.str s).res1 σ d = some (.str s) := rfl
@[go_sem] theorem res1_sl : (MV.sl t xs).res1 σ d = some (.sl .no xs) := rfl
@[go_sem] theorem res1_nilp : MV.nilp.res1 σ d = some .nilp := rfl
@[go_sem] theorem frz_int : (MV.int k n).frz σ d = some (.int k n) := rfl
@[go_sem] theorem frz_bool : (MV.bool b).frz σ d = some (.bool b) := rfl
@[go_sem] theorem frz_str : (MV.str s).frz σ d = some (.str s) := rfl
@[go_sem] theorem frz_sl : (MV.sl t xs).frz σ d = some (.sl .no xs) := rfl
@[go_sem] theorem frz_nilp : MV.nilp.frz σ d = some .nilp := rfl
@[go_sem] theorem mapM_nil' (f : MV → Option MV) : ([] : List MV).mapM f = some [] := rfl
@[go_sem] theorem mapM_cons' (f : MV → Option MV) (v : MV) (vs : List MV) : (v :: vs).mapM f = (f v).bind fun x => (vs.mapM f).map fun xs => x :: xs := by
  rw [List.mapM_cons]; cases f v <;> simp; cases vs.mapM f <;> rfl
attribute [go_sem] List.all_cons List.all_nil Bool.and_self Bool.true_and Bool.and_true
end

/-! ### Operations -/
section
variable (P : Program) (e : TypeId → Option (List Sh)) (t : TypeId) (k : IntKind) (x y : Int) (σ : Sto) (l : Loc) (o : Nat) (cs : List MV) (f : Nat)
@[go_sem] theorem binO_add : binO P e .add t (.int k x) (.int k y) = some (.int k (k.wrap (x + y))) := by simp [binO, arithI]
@[go_sem] theorem binO_sub : binO P e .sub t (.int k x) (.int k y) = some (.int k (k.wrap (x - y))) := by simp [binO, arithI]
@[go_sem] theorem binO_mul : binO P e .mul t (.int k x) (.int k y) = some (.int k (k.wrap (x * y))) := by simp [binO, arithI]
@[go_sem] theorem binO_quo : binO P e .quo t (.int k x) (.int k y) = if ¬ y = 0 then some (.int k (k.wrap (x.tdiv y))) else none := by simp only [binO, arithI]; split <;> simp_all
@[go_sem] theorem binO_rem : binO P e .rem t (.int k x) (.int k y) = if ¬ y = 0 then some (.int k (x.tmod y)) else none := by simp only [binO, arithI]; split <;> simp_all
@[go_sem] theorem binO_eql : binO P e .eql t (.int k x) (.int k y) = some (.bool (x == y)) := by simp [binO, arithI, cmpI]
@[go_sem] theorem binO_neq : binO P e .neq t (.int k x) (.int k y) = some (.bool (x != y)) := by simp [binO, arithI, cmpI]
@[go_sem] theorem binO_lss : binO P e .lss t (.int k x) (.int k y) = some (.bool (decide (x < y))) := by simp [binO, arithI, cmpI]
@[go_sem] theorem binO_leq : binO P e .leq t (.int k x) (.int k y) = some (.bool (decide (x ≤ y))) := by simp [binO, arithI, cmpI]
@[go_sem] theorem binO_gtr : binO P e .gtr t (.int k x) (.int k y) = some (.bool (decide (y < x))) := by simp [binO, arithI, cmpI]
@[go_sem] theorem binO_geq : binO P e .geq t (.int k x) (.int k y) = some (.bool (decide (y ≤ x))) := by simp [binO, arithI, cmpI]
@[go_sem] theorem binO_and : binO P e .and t (.int k x) (.int k y) = bitI .and k x y := by simp [binO, arithI]
@[go_sem] theorem binO_or : binO P e .or t (.int k x) (.int k y) = bitI .or k x y := by simp [binO, arithI]
@[go_sem] theorem binO_xor : binO P e .xor t (.int k x) (.int k y) = bitI .xor k x y := by simp [binO, arithI]
@[go_sem] theorem binO_shl (k' : IntKind) : binO P e .shl t (.int k x) (.int k' y) = shiftI .shl k x y := by simp [binO]
@[go_sem] theorem binO_shr (k' : IntKind) : binO P e .shr t (.int k x) (.int k' y) = shiftI .shr k x y := by simp [binO]
@[go_sem] theorem binO_sadd (u v : List UInt8) : binO P e .add t (.str u) (.str v) = if u.length + v.length ≤ 9223372036854775807 then some (.str (u ++ v)) else none := rfl
@[go_sem] theorem binO_seql (u v : List UInt8) : binO P e .eql t (.str u) (.str v) = some (.bool (u == v)) := rfl
@[go_sem] theorem binO_sneq (u v : List UInt8) : binO P e .neq t (.str u) (.str v) = some (.bool !(u == v)) := rfl
@[go_sem] theorem unO_not (b : Bool) : unO .not (.bool b) = some (.bool !b) := rfl
@[go_sem] theorem unO_neg : unO .neg (.int k x) = some (.int k (k.wrap (0 - x))) := rfl
@[go_sem] theorem nilO_ptr : nilO (.ptr l o) = some (.ptr l o) := rfl
@[go_sem] theorem nilO_ep : nilO (.ep cs o) = some (.ep cs o) := rfl
@[go_sem] theorem ldO_ptr : ldO P σ t (.ptr l o) = (σ.ob l).bind fun cs => ldC P t cs o := rfl
@[go_sem] theorem ldO_ep : ldO P σ t (.ep cs o) = ldC P t cs o := rfl
@[go_sem] theorem faO_ptr : faO P t f (.ptr l o) = (fldo P t f).map fun x => .ptr l (o + x.1) := rfl
@[go_sem] theorem faO_ep : faO P t f (.ep cs o) = (fldo P t f).map fun x => .ep cs (o + x.1) := rfl
theorem ldC_one {n : Nat} (h : shp P t = some (false, n)) : ldC P t cs o = cs[o]? := by simp only [ldC, h]
theorem ldC_all {n : Nat} (h : shp P t = some (true, n)) : ldC P t cs o = if o + n ≤ cs.length then some (.agg ((cs.drop o).take n)) else none := by simp only [ldC, h]
@[go_sem] theorem extO_tup (i : Nat) (vs : List MV) : extO i (.tup vs) = vs[i]? := rfl
end
@[go_sem] theorem allocO_fst (σ : Sto) (d t : Nat) (cs : List MV) : (allocO σ d t cs).1 = .ptr ⟨d, t, σ.ct d⟩ 0 := rfl
@[go_sem] theorem allocO_snd (σ : Sto) (d t : Nat) (cs : List MV) : (allocO σ d t cs).2 = (σ.set ⟨d, t, σ.ct d⟩ cs).tick d := rfl
@[go_sem] theorem ob_tick (σ : Sto) (d : Nat) (l : Loc) : (σ.tick d).ob l = σ.ob l := rfl
@[go_sem] theorem ow_tick (σ : Sto) (d d' c : Nat) : (σ.tick d).ow d' c = σ.ow d' c := rfl
@[go_sem] theorem ct_tick (σ : Sto) (d : Nat) : (σ.tick d).ct d = σ.ct d + 1 := by simp [Sto.tick, upd]
@[go_sem] theorem ct_set (σ : Sto) (l : Loc) (cs : List MV) (d : Nat) : (σ.set l cs).ct d = σ.ct d := rfl
@[go_sem] theorem ow_set (σ : Sto) (l : Loc) (cs : List MV) (d c : Nat) : (σ.set l cs).ow d c = σ.ow d c := rfl
@[go_sem] theorem ob_set (σ : Sto) (l l' : Loc) (cs : List MV) : (σ.set l cs).ob l' = if l' = l then some cs else σ.ob l' := rfl
@[go_sem] theorem ob_own (σ : Sto) (d c : Nat) (v : Option (Nat × Nat)) (l : Loc) : (σ.own d c v).ob l = σ.ob l := rfl
@[go_sem] theorem ct_own (σ : Sto) (d c d' : Nat) (v : Option (Nat × Nat)) : (σ.own d c v).ct d' = σ.ct d' := rfl
@[go_sem] theorem ow_own (σ : Sto) (d c d' c' : Nat) (v : Option (Nat × Nat)) : (σ.own d c v).ow d' c' = if d' = d ∧ c' = c then v else σ.ow d' c' := rfl
@[go_sem] theorem loc_eq (d t c d' t' c' : Nat) : ((⟨d, t, c⟩ : Loc) = ⟨d', t', c'⟩) = (d = d' ∧ t = t' ∧ c = c') := by simp
attribute [go_sem] Nat.zero_add Nat.add_zero and_self true_and and_true false_and and_false Option.bind_some Option.bind_none List.drop_zero List.length_cons List.length_nil
end Go.Mv
/- Rules for regions that draw, whose operations may do something. -/
namespace Go.Mv
variable {C : Cfg} {lim d : Nat}
/-- The rest of such a region; sf: those free ones that may still be ahead. -/
def WV (C : Cfg) (lim d : Nat) (ops : Array Oper) (l : List Oper) (i : Nat) (sf : List Nat) (a : Nat → MV) (σ : Sto) (Q : (Nat → MV) → Sto → Prop) : Prop := ∃ n, Opt (evOpsV C (mev C n) lim d ops l i sf a σ) fun x => Q x.1 x.2
/-- They tell the same there. -/
def CK (C : Cfg) (d : Nat) (ops : Array Oper) (σ : Sto) (a : Nat → MV) (sf : List Nat) : Prop := ∃ n, sf.all (chkI C (mev C n) d ops σ a) = true
def CK1 (C : Cfg) (d : Nat) (σ : Sto) (a : Nat → MV) (o : Oper) : Prop := WF1 C d a o σ fun v => ∀ t, o.dst = some t → v = a t
section
variable {ops : Array Oper} {l : List Oper} {i : Nat} {sf : List Nat} {a : Nat → MV} {σ : Sto} {Q : (Nat → MV) → Sto → Prop} {o : Oper}
theorem W_hx {id : Nat} (hh : hotB C ops = true) (hk : okHot C ops = true) {Q : Ex → (Nat → MV) → Sto → Prop} : W C lim d (.region id ops true) a σ Q ↔ WV C lim d ops ops.toList 0 [] a σ (Q .nrm) := by
  simp only [W, WV, evCode, if_pos hh, if_pos hk, evHot]
  refine exists_congr fun n => ?_
  rw [Opt_map]
theorem WV_nil : WV C lim d ops [] i sf a σ Q ↔ Q a σ := by simp [WV, evOpsV, Opt]
mutual
theorem MV.same_rfl : ∀ (x : MV), MV.same x x = true
  | .junk => rfl
  | .undef => rfl
  | .bool a => by simp [MV.same]
  | .int k a => by simp [MV.same]
  | .str a => by simp [MV.same]
  | .sl t xs => by simp [MV.same, MV.sames2_rfl xs]
  | .agg a => by simp [MV.same, MV.sames_rfl a]
  | .ptr l o => by simp [MV.same]
  | .rs l o n z => by simp [MV.same]
  | .ep cs o => by simp [MV.same, MV.sames_rfl cs]
  | .nilp => rfl
  | .fn f => by simp [MV.same]
  | .tup a => by simp [MV.same, MV.sames_rfl a]
theorem MV.sames_rfl : ∀ (x : List MV), MV.sames x x = true
  | [] => rfl
  | x :: xs => by simp [MV.sames, MV.same_rfl x, MV.sames_rfl xs]
theorem MV.sames2_rfl : ∀ (x : List (List MV)), MV.sames2 x x = true
  | [] => rfl
  | x :: xs => by simp [MV.sames2, MV.sames_rfl x, MV.sames2_rfl xs]
end
theorem WV_free (he : effB C o = false) (hw : want ops a o = some true) : WV C lim d ops (o :: l) i sf a σ Q ↔ WF1 C d a o σ fun v => WV C lim d ops l (i + 1) (if seesB o = true then i :: sf else sf) (putD a o.dst v) σ Q := by
  simp only [WV, WF1, evOpsV, he, hw, Bool.false_eq_true, if_false]
  constructor
  · rintro ⟨n, r, hr, hq⟩
    obtain ⟨v, hv, hr⟩ := Option.bind_eq_some_iff.1 hr
    exact ⟨n, v, hv, n, r, hr, hq⟩
  · rintro ⟨n, v, hv, m, r, hr, hq⟩
    refine ⟨max n m, r, ?_, hq⟩
    rw [evFree_mono (mev_le (Nat.le_max_left n m)) hv]
    exact evOpsV_mono (mev_le (Nat.le_max_right n m)) l hr
theorem WV_eff (he : effB C o = true) (hw : want ops a o = some true) : WV C lim d ops (o :: l) i sf a σ Q ↔ W1 C lim d a o σ fun v s => CK C d ops s (putD a o.dst v) (sf.filter fun j => !waitsOn o j) ∧ WV C lim d ops l (i + 1) (sf.filter fun j => !waitsOn o j) (putD a o.dst v) s Q := by
  simp only [WV, W1, CK, evOpsV, he, hw, if_true]
  constructor
  · rintro ⟨n, r, hr, hq⟩
    obtain ⟨x, hx, hr⟩ := Option.bind_eq_some_iff.1 hr
    split at hr
    · rename_i hk
      exact ⟨n, x, hx, ⟨n, hk⟩, n, r, hr, hq⟩
    · cases hr
  · rintro ⟨n, x, hx, ⟨k, hk⟩, m, r, hr, hq⟩
    refine ⟨max (max n k) m, r, ?_, hq⟩
    rw [evOp_mono (mev_le (Nat.le_trans (Nat.le_max_left n k) (Nat.le_max_left _ m))) hx]
    simp only [Option.bind_some]
    rw [if_pos (List.all_eq_true.2 fun o ho => chkI_mono (mev_le (Nat.le_trans (Nat.le_max_right n k) (Nat.le_max_left _ m))) (List.all_eq_true.1 hk o ho))]
    exact evOpsV_mono (mev_le (Nat.le_max_right _ m)) l hr
theorem CK_nil : CK C d ops σ a [] ↔ True := by simp [CK]
theorem CK_cons {j : Nat} {o : Oper} (ho : ops[j]? = some o) (hg : o.guard = none) : CK C d ops σ a (j :: sf) ↔ CK1 C d σ a o ∧ CK C d ops σ a sf := by
  have hw : want ops a o = some true := by unfold want; rw [hg]
  have key : ∀ n, chkI C (mev C n) d ops σ a j = true ↔ Opt (evFree C (mev C n) d a o σ) fun v => ∀ t, o.dst = some t → v = a t := fun n => by
    have e : chkI C (mev C n) d ops σ a j = chkH C (mev C n) d ops σ a o := by unfold chkI; rw [ho]
    rw [e]
    unfold chkH
    simp only [hw]
    cases evFree C (mev C n) d a o σ with
    | none => simp [Opt]
    | some v =>
      simp only [Opt_some]
      cases hd : o.dst with
      | none => simp
      | some t =>
        simp only [Option.some.injEq, forall_eq']
        exact ⟨fun h => MV.same_eq _ _ h, fun h => by rw [h]; exact MV.same_rfl _⟩
  simp only [CK, List.all_cons, Bool.and_eq_true, CK1, WF1]
  constructor
  · rintro ⟨n, h1, h2⟩
    exact ⟨⟨n, (key n).1 h1⟩, n, h2⟩
  · rintro ⟨⟨n, h1⟩, k, h2⟩
    exact ⟨max n k, chkI_mono (mev_le (Nat.le_max_left n k)) ((key n).2 h1), List.all_eq_true.2 fun o ho => chkI_mono (mev_le (Nat.le_max_right n k)) (List.all_eq_true.1 h2 o ho)⟩
end
end Go.Mv
