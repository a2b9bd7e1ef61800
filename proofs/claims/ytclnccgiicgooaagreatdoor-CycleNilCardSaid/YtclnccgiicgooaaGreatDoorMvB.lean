/- The evaluator without memory: a part of its proof. -/
import Derived.Test.YtclnccgiicgooaaGreatDoorMvA
import Derived.Laws.Small
import Derived.Laws.StructEq
import Derived.Laws.Strings
import Derived.Laws.Pointers
import Derived.Laws.Slices
import Derived.Laws.BytesArg
import Derived.Laws.CopyRow
import Derived.Laws.AppendOwn
import Derived.Laws.MakeOwn
set_option linter.unusedVariables false
set_option linter.unusedSimpArgs false
/- Each operation: what the evaluator says of it the machine does. -/
namespace Go.Mv

def eqV : List Sh → List Value → List Value → Option Bool
  | [], [], [] => some true
  | .i q :: sh, .int k a :: xs, .int k' b :: ys => if k = q ∧ k' = q then (eqV sh xs ys).map fun r => a == b && r else none
  | .b :: sh, .bool a :: xs, .bool b :: ys => (eqV sh xs ys).map fun r => a == b && r
  | .s :: sh, .string a :: xs, .string b :: ys => (eqV sh xs ys).map fun r => a.data.toList == b.data.toList && r
  | _, _, _ => none
/-- A struct's, or an array's, equality is cell by cell. -/
def EqFact (P : Program) (t : TypeId) (sh : List Sh) : Prop :=
  P.eqGuardType P.depth t = false ∧ ∀ (w : World) (xs ys : Array Value) (r : Bool), eqV sh xs.toList ys.toList = some r → (Op.equal t (.agg xs) (.agg ys)).run P w = .ok r w

section
variable {P : Program} {w0 w : World} {K : Kp} {g : Gh} {s : Sto} {d : Nat}

/-- A value is computed; nothing turns. -/
def Com (P : Program) (w : World) (g : Gh) (s : Sto) (x : Sem Value) (v : MV) : Prop := ∃ u, x.run P w = .ok u w ∧ VR w g s v u
theorem Com.int {x : Sem Value} {k : IntKind} {n : Int} (h : x.run P w = .ok (.int k n) w) : Com P w g s x (.int k n) := ⟨_, h, .int k n⟩
theorem Com.bool {x : Sem Value} {b : Bool} (h : x.run P w = .ok (.bool b) w) : Com P w g s x (.bool b) := ⟨_, h, .bool b⟩

theorem intBin (op : BinOp) (t : TypeId) (k k' : IntKind) (a b : Int) {eqT : TypeId → Option (List Sh)} {v : MV} (h : binO P eqT op t (.int k a) (.int k' b) = some v) : Com P w g s (binOp op t (.int k a) (.int k' b)) v := by
  cases op
  case shl =>
    simp only [binO, shiftI] at h
    split at h
    · cases h
    · rename_i hb
      cases h
      exact .int (by simp [binOp, Op.shift, hb])
  case shr =>
    simp only [binO, shiftI] at h
    split at h
    · cases h
    · rename_i hb
      cases h
      exact .int (by simp [binOp, Op.shift, hb])
  all_goals
    simp only [binO] at h
    split at h
    · rename_i hk
      subst hk
      simp only [arithI, cmpI, bitI] at h
      try
        split at h
        · cases h
      cases h
      first
        | exact .int (by simp [binOp, Op.intArith, Op.intDiv, Op.intBits, *])
        | exact .bool (by simp [binOp, Op.intCmp])
    · cases h

theorem toList_mk' (l : List UInt8) : (ByteArray.mk l.toArray).toList = l := ByteArray.toList_mk l
theorem strBin (op : BinOp) (t : TypeId) (a b : List UInt8) {v : MV} (h : strO op a b = some v) : Com P w g s (binOp op t (.string ⟨a.toArray⟩) (.string ⟨b.toArray⟩)) v := by
  cases op <;> simp only [strO] at h
  case add =>
    split at h
    · rename_i hb
      cases h
      refine ⟨.string ⟨(a ++ b).toArray⟩, ?_, .str _⟩
      have hs : ((⟨a.toArray⟩ : ByteArray).size + (⟨b.toArray⟩ : ByteArray).size : Nat) = a.length + b.length := by simp [ByteArray.size]
      have hmax : IntKind.i64.max = 9223372036854775807 := by decide
      have happ : (⟨a.toArray⟩ : ByteArray) ++ ⟨b.toArray⟩ = ⟨(a ++ b).toArray⟩ := by
        apply ByteArray.ext
        simp
      simp only [binOp, Op.stringOp, hs, hmax]
      rw [if_neg (by omega), happ]
      rfl
    · cases h
  all_goals
    cases h
  all_goals
    exact .bool (by simp [binOp, Op.stringOp])

theorem boolBin (op : BinOp) (t : TypeId) (a b : Bool) {eqT : TypeId → Option (List Sh)} {v : MV} (h : binO P eqT op t (.bool a) (.bool b) = some v) : Com P w g s (binOp op t (.bool a) (.bool b)) v := by
  simp only [binO] at h
  split at h
  · rename_i ht
    cases h
    exact .bool (run_eql_bool w t a b ht)
  · rename_i ht
    cases h
    exact .bool (run_neq_bool w t a b ht)
  · cases h

theorem eqV_of_eqC : ∀ (sh : List Sh) (xs ys : List MV) (us vs : List Value) (r : Bool), eqC sh xs ys = some r → us.length = xs.length → vs.length = ys.length →
    (∀ (i : Nat) (c : MV), xs[i]? = some c → VR w g s c (us[i]?.getD undef)) → (∀ (i : Nat) (c : MV), ys[i]? = some c → VR w g s c (vs[i]?.getD undef)) → eqV sh us vs = some r := by
  intro sh
  induction sh with
  | nil =>
    intro xs ys us vs r h hl hl' hx hy
    cases xs <;> cases ys <;> simp [eqC] at h
    cases us <;> cases vs <;> simp at hl hl'
    simpa [eqV] using h
  | cons q sh ih =>
    intro xs ys us vs r h hl hl' hx hy
    cases xs with
    | nil => cases q <;> simp [eqC] at h
    | cons x xs =>
      cases ys with
      | nil => cases q <;> cases x <;> simp [eqC] at h
      | cons y ys =>
        cases us with
        | nil => simp at hl
        | cons u us =>
          cases vs with
          | nil => simp at hl'
          | cons v vs =>
            have hu := hx 0 x rfl
            have hv := hy 0 y rfl
            have hx' : ∀ (i : Nat) (c : MV), xs[i]? = some c → VR w g s c (us[i]?.getD undef) := fun i c hc => by simpa using hx (i + 1) c (by simpa using hc)
            have hy' : ∀ (i : Nat) (c : MV), ys[i]? = some c → VR w g s c (vs[i]?.getD undef) := fun i c hc => by simpa using hy (i + 1) c (by simpa using hc)
            simp only [List.getElem?_cons_zero, Option.getD_some] at hu hv
            simp only [List.length_cons, Nat.add_right_cancel_iff] at hl hl'
            cases q with
            | i k =>
              cases hu <;> cases hv <;> simp only [eqC] at h <;> try (cases h; done)
              split at h
              · rename_i hk
                cases hr : eqC sh xs ys with
                | none => simp [hr] at h
                | some r' =>
                  have := ih xs ys us vs r' hr hl hl' hx' hy'
                  simp only [hr, Option.map_some] at h
                  simp [eqV, hk, this, h]
              · cases h
            | b =>
              cases hu <;> cases hv <;> simp only [eqC] at h <;> try (cases h; done)
              cases hr : eqC sh xs ys with
              | none => simp [hr] at h
              | some r' =>
                have := ih xs ys us vs r' hr hl hl' hx' hy'
                simp only [hr, Option.map_some] at h
                simp [eqV, this, h]
            | s =>
              cases hu <;> cases hv <;> simp only [eqC] at h <;> try (cases h; done)
              cases hr : eqC sh xs ys with
              | none => simp [hr] at h
              | some r' =>
                have := ih xs ys us vs r' hr hl hl' hx' hy'
                simp only [hr, Option.map_some] at h
                simp [eqV, this, h]

/-- The guard of a comparison lets through. -/
theorem binGuard {op : BinOp} {t : TypeId} {x y : Operand} {a b : Value} {m m' : MV} (ha : VR w g s m a) (hb : VR w g s m' b) {eqT : TypeId → Option (List Sh)} {v : MV} (h : binO P eqT op t m m' = some v)
    (hE : ∀ sh, eqT t = some sh → EqFact P t sh) : (eqGuard op t x y a b).run P w = .ok () w := by
  by_cases hop : op = .eql ∨ op = .neq
  case neg =>
    cases op <;> first | rfl | (simp at hop; done)
  case pos =>
    cases ha <;> cases hb <;> simp only [binO] at h <;> try (cases h; done)
    case agg.agg =>
      split at h
      · rename_i sh hsh
        simp [eqGuard, (hE sh hsh).1]
      · rename_i sh hsh
        simp [eqGuard, (hE sh hsh).1]
      · cases h
    all_goals
      rcases hop with rfl | rfl <;> rfl

theorem eqPtrNil (t e : TypeId) (h : P.underlying t = some (.pointer e)) (a b : Option Addr) (hab : a = none ∨ b = none) : (Op.equal t (.pointer a) (.pointer b)).run P w = .ok (a.isNone && b.isNone) w := by
  show (Op.equalIn (9999 + 1) t (.pointer a) (.pointer b)).run P w = _
  generalize 9999 = n
  cases a <;> cases b <;> simp [Op.equalIn, run_underlying h] at hab ⊢
theorem binPtr (op : BinOp) (t : TypeId) (a b : Option Addr) (hab : a = none ∨ b = none) {v : MV}
    (h : ptrEq P op t (a.isNone && b.isNone) = some v) : Com P w g s (binOp op t (.pointer a) (.pointer b)) v := by
  unfold ptrEq at h
  split at h
  · rename_i e ht
    cases h
    refine .bool ?_
    have hb : binOp .eql t (.pointer a) (.pointer b) = (do pure (.bool (← Op.equal t (.pointer a) (.pointer b))) : Sem Value) := by cases a <;> cases b <;> rfl
    rw [hb, Sem.run_bind, eqPtrNil t e ht a b hab]
    rfl
  · rename_i e ht
    cases h
    refine .bool ?_
    have hb : binOp .neq t (.pointer a) (.pointer b) = (do pure (.bool (!(← Op.equal t (.pointer a) (.pointer b)))) : Sem Value) := by cases a <;> cases b <;> rfl
    rw [hb, Sem.run_bind, eqPtrNil t e ht a b hab]
    rfl
  · cases h

theorem binSound {op : BinOp} {t : TypeId} {x y : Operand} {a b : Value} {m m' : MV} (ha : VR w g s m a) (hb : VR w g s m' b) {eqT : TypeId → Option (List Sh)} {v : MV} (h : binO P eqT op t m m' = some v)
    (hE : ∀ sh, eqT t = some sh → EqFact P t sh) : Com P w g s (do eqGuard op t x y a b; binOp op t a b) v := by
  have hg := binGuard (x := x) (y := y) ha hb h hE
  suffices hs : Com P w g s (binOp op t a b) v by
    obtain ⟨u, hr, hv⟩ := hs
    exact ⟨u, by simp only [Sem.run_bind, hg, Result.andThen_ok]; exact hr, hv⟩
  cases ha <;> cases hb <;> try (simp only [binO] at h; cases h; done)
  case int.int k a k' b => exact intBin op t k k' a b h
  case str.str a b => exact strBin op t a b (by simpa only [binO] using h)
  case bool.bool a b => exact boolBin op t a b h
  case agg.agg cs vs hl hf hv cs' vs' hl' hf' hv' =>
    simp only [binO] at h
    have key : ∀ sh r, eqT t = some sh → eqC sh cs cs' = some r → (Op.equal t (.agg vs) (.agg vs')).run P w = .ok r w := fun sh r h1 h2 =>
      (hE sh h1).2 w vs vs' r (eqV_of_eqC sh cs cs' vs.toList vs'.toList r h2 (by simpa using hl.symm) (by simpa using hl'.symm) (fun i c hc => by simpa using hv i c hc) (fun i c hc => by simpa using hv' i c hc))
    split at h
    · rename_i sh hsh
      cases hr : eqC sh cs cs' with
      | none => simp [hr] at h
      | some r =>
        simp only [hr, Option.map_some, Option.some.injEq] at h
        subst h
        refine .bool ?_
        have := key sh r hsh hr
        simp only [binOp, Sem.run_bind, this, Result.andThen_ok]
        rfl
    · rename_i sh hsh
      cases hr : eqC sh cs cs' with
      | none => simp [hr] at h
      | some r =>
        simp only [hr, Option.map_some, Option.some.injEq] at h
        subst h
        refine .bool ?_
        have := key sh r hsh hr
        simp only [binOp, Sem.run_bind, this, Result.andThen_ok]
        rfl
    · cases h
  case ptr.nilp l o b hb => exact binPtr op t _ _ (.inr rfl) h
  case nilp.ptr l o b hb => exact binPtr op t _ _ (.inl rfl) h
  case nilp.nilp => exact binPtr op t _ _ (.inl rfl) h

theorem unSound {op : UnOp} {m : MV} {a : Value} (ha : VR w g s m a) {v : MV} (h : unO op m = some v) : Com P w g s (Op.unary op a) v := by
  cases ha <;> try (simp only [unO] at h; cases h; done)
  case int k n =>
    cases op <;> simp only [unO, bitI] at h <;> cases h
    · exact .int (by simp [Op.unary, Op.intArith])
    · exact .int (by simp [Op.unary, Op.intBits])
  case bool b =>
    simp only [unO] at h
    split at h
    · rename_i e
      subst e
      cases h
      exact .bool (by simp [Op.unary])
    · cases h
end
end Go.Mv
/- Operations, continued: what reads. -/
namespace Go.Mv
section
variable {P : Program} {w0 w : World} {K : Kp} {g : Gh} {s : Sto} {d : Nat}

theorem shp_run {t : TypeId} {b : Bool} {n : Nat} (h : shp P t = some (b, n)) (w : World) : (isAgg t).run P w = .ok b w ∧ (sizeOf t).run P w = .ok n w := by
  unfold shp at h
  split at h
  · rename_i hu hi
    cases h
    simp [isAgg, sizeOf, typeInfo, run_underlying hu, hi]
  · rename_i hu hi
    cases h
    simp [isAgg, sizeOf, typeInfo, run_underlying hu, hi]
  · rename_i n1 n2 hu hi
    cases h
    constructor
    · simp only [isAgg, Sem.run_bind, run_underlying hu, Result.andThen_ok]
      rfl
    · simp [sizeOf, typeInfo, hi]
  · cases h

theorem fldo_spec {t : TypeId} {f off : Nat} {ty : TypeId} (h : fldo P t f = some (off, ty)) :
    ∃ fs x i, P.underlying t = some (.struct fs) ∧ fs[f]? = some x ∧ x.offset = off ∧ x.type = ty ∧ P.info? ty = some i ∧ i.size ≠ 0 := by
  unfold fldo at h
  split at h
  · rename_i fs hu
    cases hx : fs[f]? with
    | none => simp [hx] at h
    | some x =>
      simp only [hx, Option.bind_some] at h
      cases hi : P.info? x.type with
      | none => simp [hi] at h
      | some i =>
        simp only [hi, Option.bind_some] at h
        split at h
        · cases h
        · rename_i hs
          cases h
          exact ⟨fs, x, i, hu, hx, rfl, rfl, hi, hs⟩
  · cases h
theorem arr_spec {t : TypeId} {n : Nat} {e : TypeId} (h : arr P t = some (n, e)) : P.underlying t = some (.array n e) := by
  unfold arr at h
  split at h
  · rename_i hu; cases h; exact hu
  · cases h
theorem slc_spec {t e : TypeId} {n b : Nat} (h : slc P t = some (e, n, b)) : ∃ i z, P.underlying t = some (.slice e) ∧ P.info? e = some i ∧ i.size = n ∧ i.bytes = b ∧ i.zero = some z ∧ z.cells.size = n := by
  unfold slc at h
  split at h
  · rename_i e' hu
    cases hi : P.info? e' with
    | none => simp [hi] at h
    | some i =>
      simp only [hi, Option.bind_some] at h
      cases hz : i.zero with
      | none => simp [hz] at h
      | some z =>
        simp only [hz, Option.bind_some] at h
        split at h
        · rename_i hs
          simp only [Option.some.injEq, Prod.mk.injEq] at h
          obtain ⟨rfl, rfl, rfl⟩ := h
          exact ⟨i, z, hu, hi, rfl, rfl, hz, hs⟩
        · cases h
  · cases h

theorem add_lit (b o n : Nat) : (⟨b, o, none⟩ : Addr).add n = ⟨b, o + n, none⟩ := by
  unfold Addr.add
  split <;> simp_all

/-- Cells that lie one behind the other. -/
def Lie (w : World) (g : Gh) (s : Sto) (b o : Nat) (cs : List MV) : Prop := ∀ (j : Nat) (c : MV), cs[j]? = some c → c.flat = true ∧ ∃ u, w.cell? ⟨b, o + j, none⟩ = some u ∧ VR w g s c u

theorem loadSound {t : TypeId} {b o off : Nat} {cs : List MV} {v : MV} (hl : Lie w g s b o cs) (h : ldC P t cs off = some v) : Com P w g s (loadVar t ⟨b, o + off, none⟩) v := by
  unfold ldC at h
  split at h
  · rename_i n hs
    split at h
    · rename_i hn
      cases h
      obtain ⟨h1, h2⟩ := shp_run hs w
      have hu : ∀ j, j < n → ∃ u, w.cell? ⟨b, o + off + j, none⟩ = some u := fun j hj => by
        have := (hl (off + j) (cs[off + j]'(by omega)) (List.getElem?_eq_getElem (by omega))).2
        obtain ⟨u, hu, _⟩ := this
        exact ⟨u, by rw [Nat.add_assoc]; exact hu⟩
      let f : Nat → Value := fun j => (w.cell? ⟨b, o + off + j, none⟩).getD undef
      have hf : ∀ j, j < n → w.cell? ((⟨b, o + off, none⟩ : Addr).add j) = some (f j) := fun j hj => by
        rw [add_lit]
        obtain ⟨u, hu⟩ := hu j hj
        simp only [f, hu, Option.getD_some]
      have hload := run_loadCells (P := P) w ⟨b, o + off, none⟩ n f hf
      refine ⟨.agg ((List.range n).map f).toArray, ?_, ?_⟩
      · simp only [loadVar, Sem.run_bind, h1, h2, hload, Result.andThen_ok, if_true]
        rfl
      · refine .agg _ _ ?_ ?_ ?_
        · simp
          omega
        · intro c hc
          have hc' := List.mem_of_mem_drop (List.mem_of_mem_take hc)
          obtain ⟨i, hi⟩ := List.mem_iff_getElem?.1 hc'
          exact (hl i c hi).1
        · intro i c hc
          rw [List.getElem?_take] at hc
          split at hc
          · rename_i hin
            rw [List.getElem?_drop] at hc
            obtain ⟨_, u, hu, hv⟩ := hl (off + i) c hc
            have : (((List.range n).map f).toArray[i]?).getD undef = u := by
              simp [hin, f, Nat.add_assoc, hu]
            rw [this]
            exact hv
          · cases hc
    · cases h
  · rename_i n hs
    obtain ⟨h1, _⟩ := shp_run hs w
    obtain ⟨_, u, hu, hv⟩ := hl off v h
    exact ⟨u, by simp [loadVar, h1, hu], hv⟩
  · cases h

theorem St.lie (h : St w0 K w g s) {l : Loc} {cs : List MV} {b : Nat} (hl : s.ob l = some cs) (hp : g.π l = some b) : Lie w g s b 0 cs := by
  obtain ⟨vs, T, e1, e2, e3⟩ := h.obj l cs b hl hp
  intro j c hc
  have hj : j < vs.size := Nat.lt_of_lt_of_le (List.getElem?_eq_some_iff.1 hc).1 e2
  refine ⟨(h.flat l cs hl c (List.mem_of_getElem? hc)).1, vs[j], ?_, ?_⟩
  · rw [Nat.zero_add, cell_of_cells e1]; exact Array.getElem?_eq_getElem hj
  · have := e3 j c hc
    simpa [Array.getElem?_eq_getElem hj] using this
theorem lie_ep {b o : Nat} {cs : List MV} {u : Nat → Value} (hF : ∀ j, j < cs.length → g.F b (o + j) ∧ w.cell? ⟨b, o + j, none⟩ = some (u j)) (hp : ∀ c ∈ cs, c.pur = true)
    (hv : ∀ (j : Nat) (c : MV), cs[j]? = some c → VR w g s c (u j)) : Lie w g s b o cs := fun j c hc =>
  ⟨flat_of_pur (hp c (List.mem_of_getElem? hc)), u j, (hF j (List.getElem?_eq_some_iff.1 hc).1).2, hv j c hc⟩

theorem ldSound (h : St w0 K w g s) {t : TypeId} {m v : MV} {a : Value} (ha : VR w g s m a) (he : ldO P s t m = some v) : Com P w g s (Instr.loadAt t a) v := by
  cases ha <;> try (simp only [ldO] at he; cases he; done)
  case ptr l off b hb hty =>
    simp only [ldO] at he
    cases hl : s.ob l with
    | none => simp [hl] at he
    | some cs =>
      simp only [hl, Option.bind_some] at he
      have := loadSound (P := P) (off := off) (h.lie hl hb) he
      simpa [Com, Instr.loadAt, Instr.sureAddr] using this
  case ep cs off b o u hF hp hv =>
    have := loadSound (P := P) (off := off) (lie_ep hF hp hv) he
    simpa [Com, Instr.loadAt, Instr.sureAddr] using this

theorem fieldPlace_run {ty : TypeId} {x : Field} {i : TypeInfo} {b o : Nat} (h1 : x.type = ty) (h2 : P.info? ty = some i) (h3 : i.size ≠ 0) : (fieldPlace ⟨b, o, none⟩ x).run P w = .ok ⟨b, o + x.offset, none⟩ w := by
  simp [fieldPlace, sizeOf, typeInfo, h1, h2, h3, add_lit]

theorem faSound {t : TypeId} {f : Nat} {m v : MV} {a : Value} (ha : VR w g s m a) (he : faO P t f m = some v) : Com P w g s (Instr.fieldAt t a f) v := by
  cases ha <;> try (simp only [faO] at he; cases he; done)
  case ptr l off b hb hty =>
    simp only [faO, Option.map_eq_some_iff] at he
    obtain ⟨⟨fo, ty⟩, hf, rfl⟩ := he
    obtain ⟨fs, x, i, hu, hx, rfl, h1, h2, h3⟩ := fldo_spec hf
    refine ⟨_, ?_, .ptr l (off + x.offset) b hb hty⟩
    simp [Instr.fieldAt, run_underlying hu, hx, Instr.sureAddr, fieldPlace_run h1 h2 h3]
  case ep cs off b o u hF hp hv =>
    simp only [faO, Option.map_eq_some_iff] at he
    obtain ⟨⟨fo, ty⟩, hf, rfl⟩ := he
    obtain ⟨fs, x, i, hu, hx, rfl, h1, h2, h3⟩ := fldo_spec hf
    refine ⟨_, ?_, .ep cs (off + x.offset) b o u hF hp hv⟩
    simp [Instr.fieldAt, run_underlying hu, hx, Instr.sureAddr, fieldPlace_run h1 h2 h3, Nat.add_assoc]

/-- A part of a value in its cells. -/
theorem partSound {t : TypeId} {cs : List MV} {vs : Array Value} {off : Nat} {v : MV} (hl : cs.length = vs.size) (hf : ∀ c ∈ cs, c.flat = true) (hv : ∀ (i : Nat) (c : MV), cs[i]? = some c → VR w g s c (vs[i]?.getD undef))
    (h : ldC P t cs off = some v) : Com P w g s (part t vs off) v := by
  unfold ldC at h
  split at h
  · rename_i n hs
    split at h
    · rename_i hn
      cases h
      obtain ⟨h1, h2⟩ := shp_run hs w
      refine ⟨.agg (vs.extract off (off + n)), by simp only [part, Sem.run_bind, h1, h2, Result.andThen_ok, if_true]; rfl, .agg _ _ ?_ ?_ ?_⟩
      · simp; omega
      · intro c hc
        exact hf c (List.mem_of_mem_drop (List.mem_of_mem_take hc))
      · intro i c hc
        rw [List.getElem?_take] at hc
        split at hc
        · rename_i hin
          rw [List.getElem?_drop] at hc
          have := hv (off + i) c hc
          rw [Array.getElem?_extract]
          rw [if_pos (by omega)]
          exact this
        · cases hc
    · cases h
  · rename_i n hs
    obtain ⟨h1, _⟩ := shp_run hs w
    have hi : off < vs.size := by rw [← hl]; exact (List.getElem?_eq_some_iff.1 h).1
    have := hv off v h
    rw [Array.getElem?_eq_getElem hi] at this
    exact ⟨vs[off], by simp [part, h1, hi], this⟩
  · cases h

theorem fdSound {t : TypeId} {f : Nat} {m v : MV} {a : Value} (ha : VR w g s m a) (he : fdO P t f m = some v) : Com P w g s (Instr.field t a f) v := by
  cases ha <;> try (simp only [fdO] at he; cases he; done)
  case agg cs vs hl hf hv =>
    simp only [fdO] at he
    cases hq : fldo P t f with
    | none => simp [hq] at he
    | some q =>
      obtain ⟨fo, ty⟩ := q
      simp only [hq, Option.bind_some] at he
      obtain ⟨fs, x, i, hu, hx, rfl, rfl, h2, h3⟩ := fldo_spec hq
      obtain ⟨u, hr, hvr⟩ := partSound (P := P) hl hf hv he
      exact ⟨u, by simp [Instr.field, run_underlying hu, hx, asAgg, hr], hvr⟩

theorem iaSound {t : TypeId} {m i v : MV} {a x : Value} (ha : VR w g s m a) (hx : VR w g s i x) (he : iaO P t m i = some v) : Com P w g s (Instr.indexAt t a x) v := by
  cases ha <;> try (cases hx <;> simp only [iaO] at he <;> cases he; done)
  case ptr l off b hb hty =>
    cases hx <;> try (simp only [iaO] at he; cases he; done)
    rename_i k i
    simp only [iaO] at he
    split at he
    · rename_i n e hn
      split at he
      · rename_i q z hz
        split at he
        · rename_i hi
          cases he
          have hu := arr_spec hn
          refine ⟨_, ?_, .ptr l (off + i.toNat * z) b hb hty⟩
          simp [Instr.indexAt, asIntOf, run_underlying hu, Instr.sureAddr, hi, (shp_run hz w).2, add_lit]
        · cases he
      · cases he
    · cases he
  case ep cs off b o u hF hp hv =>
    cases hx <;> try (simp only [iaO] at he; cases he; done)
    rename_i k i
    simp only [iaO] at he
    split at he
    · rename_i n e hn
      split at he
      · rename_i q z hz
        split at he
        · rename_i hi
          cases he
          have hu := arr_spec hn
          refine ⟨_, ?_, .ep cs (off + i.toNat * z) b o u hF hp hv⟩
          simp [Instr.indexAt, asIntOf, run_underlying hu, Instr.sureAddr, hi, (shp_run hz w).2, add_lit, Nat.add_assoc]
        · cases he
      · cases he
    · cases he
  case sl tk xs a cap b o z u hcap htok ha hz hF hp hv =>
    cases hx <;> try (simp only [iaO] at he; cases he; done)
    rename_i k i
    simp only [iaO] at he
    split at he
    · rename_i e n q hn
      split at he
      · rename_i hi
        cases hxs : xs[i.toNat]? with
        | none => simp [hxs] at he
        | some cs =>
          simp only [hxs, Option.bind_some] at he
          split at he
          · rename_i hcs
            cases he
            obtain ⟨inf, _, hu, hinf, hsz, _⟩ := slc_spec hn
            have hlt : i.toNat < xs.length := (List.getElem?_eq_some_iff.1 hxs).1
            have hzn : z = n := by rw [← hz cs (List.mem_of_getElem? hxs)]; exact hcs
            subst hzn
            have ha' := ha (by rintro rfl; simp at hlt)
            subst ha'
            refine ⟨.pointer (some ⟨b, o + i.toNat * z + 0, none⟩), ?_, .ep cs 0 b (o + i.toNat * z) (fun j => u i.toNat j) (fun j hj => hF i.toNat j hlt (by omega)) (fun c hc => ?_) fun j c hc => hv i.toNat cs hxs j c hc⟩
            · have hi' : i < (xs.length : Int) := by omega
              simp [Instr.indexAt, asIntOf, run_underlying hu, hi, hi', sizeOf, typeInfo, hinf, hsz, add_lit]
            · obtain ⟨j, hj⟩ := List.mem_iff_getElem?.1 hc
              exact hp i.toNat cs hxs j c hj
          · cases he
      · cases he
    · cases he
  case rs l off len z b cap hb hc hlt =>
    cases hx <;> try (simp only [iaO] at he; cases he; done)
    rename_i k i
    simp only [iaO] at he
    split at he
    · rename_i e n q hn
      split at he
      · rename_i hi
        obtain ⟨rfl, hi1, hi2⟩ := hi
        cases he
        obtain ⟨inf, _, hu, hinf, hsz, _⟩ := slc_spec hn
        refine ⟨_, ?_, .ptr l (off + i.toNat * z) b hb (fun q n _ e => by have := hlt.1; omega)⟩
        simp [Instr.indexAt, asIntOf, run_underlying hu, hi1, hi2, sizeOf, typeInfo, hinf, hsz, add_lit]
      · cases he
    · cases he

theorem ixSound {t : TypeId} {m i v : MV} {a x : Value} (ha : VR w g s m a) (hx : VR w g s i x) (he : ixO P t m i = some v) : Com P w g s (Instr.index t a x) v := by
  cases ha <;> try (cases hx <;> simp only [ixO] at he <;> cases he; done)
  case str l =>
    cases hx <;> try (simp only [ixO] at he; cases he; done)
    rename_i k i
    simp only [ixO] at he
    split at he
    · rename_i hu
      split at he
      · rename_i hi
        cases hb : l[i.toNat]? with
        | none => simp [hb] at he
        | some b =>
          simp only [hb, Option.map_some, Option.some.injEq] at he
          subst he
          have hlt : i.toNat < l.length := (List.getElem?_eq_some_iff.1 hb).1
          refine .int ?_
          have hs : (⟨l.toArray⟩ : ByteArray).size = l.length := rfl
          rw [run_index_string w t _ k i hu, dif_pos ⟨hi, by rw [hs]; omega⟩]
          have : ((⟨l.toArray⟩ : ByteArray)[i.toNat]'(by rw [hs]; exact hlt)) = b := by
            have h1 : ((⟨l.toArray⟩ : ByteArray)[i.toNat]'(by rw [hs]; exact hlt)) = l[i.toNat] := rfl
            rw [h1]
            exact (List.getElem?_eq_some_iff.1 hb).2
          rw [this]
      · cases he
    · cases he
  case agg cs vs hl hf hv =>
    cases hx <;> try (simp only [ixO] at he; cases he; done)
    rename_i k i
    simp only [ixO] at he
    split at he
    · rename_i n e hn
      split at he
      · rename_i q z hz
        split at he
        · rename_i hi
          have hu := arr_spec hn
          obtain ⟨r, hr, hvr⟩ := partSound (P := P) hl hf hv he
          exact ⟨r, by simp [Instr.index, asIntOf, run_underlying hu, hi, (shp_run hz w).2, hr], hvr⟩
        · cases he
      · cases he
    · cases he

theorem lenSound {t ty : TypeId} {m v : MV} {a : Value} (ha : VR w g s m a) (he : lenO P t m = some v) : Com P w g s (Builtin.len_ #[t] ty #[a]) v := by
  unfold lenO at he
  split at he
  · rename_i l hu
    cases he
    cases ha
    refine .int ?_
    rw [run_len_string w t ty _ hu]
    rfl
  · rename_i tk xs hu
    cases he
    cases ha
    exact .int (by simp [Builtin.len_, run_underlying hu, goInt])
  · rename_i l off n z hu
    cases he
    cases ha
    exact .int (by simp [Builtin.len_, run_underlying hu, goInt])
  · rename_i n e hu
    cases he
    refine .int ?_
    simp [Builtin.len_, run_underlying hu, goInt]
  · cases he
end
end Go.Mv
/- Operations, continued: cuts, conversions, the greatest and the least, what is built. -/
namespace Go.Mv
section
variable {P : Program} {w0 w : World} {K : Kp} {g : Gh} {s : Sto} {d : Nat}

/-- A bound that may lack. -/
inductive VO (w : World) (g : Gh) (s : Sto) : Option MV → Option Value → Prop
  | none : VO w g s none none
  | some {m : MV} {v : Value} (h : VR w g s m v) : VO w g s (some m) (some v)
theorem VO.map {α : Type} (f : α → MV) (f' : α → Value) (h : ∀ x, VR w g s (f x) (f' x)) (o : Option α) : VO w g s (o.map f) (o.map f') := by
  cases o with
  | none => exact .none
  | some x => exact .some (h x)

theorem bnd_run {lo : Option MV} {lo' : Option Value} (hlo : VO w g s lo lo') {n z k : Nat} (h : bnd n lo z = some k) (y : Nat) (hy : n ≤ y) (hz : z ≤ n) (code : BoundsCode) :
    (match lo' with | some v => Instr.sliceBound v y code | none => pure z).run P w = .ok k w ∧ k ≤ n := by
  cases hlo with
  | none => cases h; exact ⟨rfl, hz⟩
  | some hv =>
    cases hv <;> try (simp only [bnd] at h; cases h; done)
    rename_i kk i
    simp only [bnd] at h
    split at h
    · rename_i hi
      cases h
      exact ⟨run_sliceBound w kk i y code hi.1 (by omega), by omega⟩
    · cases h

theorem bounds_run {lo hi : Option MV} {lo' hi' : Option Value} (hlo : VO w g s lo lo') (hhi : VO w g s hi hi') {n c h l : Nat} (hn : n ≤ c) (h1 : bnd n hi n = some h) (h2 : bnd h lo 0 = some l) (b : Bool) :
    (Instr.sliceBounds b n c lo' hi' none).run P w = .ok (l, h, c) w ∧ h ≤ n ∧ l ≤ h := by
  obtain ⟨r1, k1⟩ := bnd_run (P := P) hhi h1 c hn (Nat.le_refl n) (if b then .sliceAcap else .sliceAlen)
  obtain ⟨r2, k2⟩ := bnd_run (P := P) hlo h2 h (Nat.le_refl h) (Nat.zero_le h) .sliceB
  refine ⟨?_, k1, k2⟩
  cases hhi with
  | none =>
    cases h1
    cases hlo with
    | none => cases h2; simp [Instr.sliceBounds]
    | some hv => simp only [Instr.sliceBounds, Sem.run_bind, Sem.run_pure, Result.andThen_ok, Option.isSome_none, Bool.false_eq_true, if_false] at r2 ⊢; rw [r2]; rfl
  | some hv' =>
    cases hlo with
    | none => cases h2; simp only [Instr.sliceBounds, Sem.run_bind, Sem.run_pure, Result.andThen_ok] at r1 ⊢; rw [r1]; rfl
    | some hv => simp only [Instr.sliceBounds, Sem.run_bind, Sem.run_pure, Result.andThen_ok, Option.isSome_none, Bool.false_eq_true, if_false] at r1 r2 ⊢; rw [r1]; simp only [Result.andThen_ok]; rw [r2]; rfl

theorem extract_list (x : List UInt8) (l h : Nat) : (⟨x.toArray⟩ : ByteArray).extract l h = ⟨((x.take h).drop l).toArray⟩ := by
  apply ByteArray.ext
  rw [ByteArray.data_extract]
  apply Array.ext'
  rw [Array.toList_extract, List.extract_eq_take_drop, List.drop_take]

theorem cutSound {t : TypeId} {lo hi : Option MV} {lo' hi' : Option Value} (hlo : VO w g s lo lo') (hhi : VO w g s hi hi') {m v : MV} {a : Value} (ha : VR w g s m a) (he : cutO P t lo hi m = some v) :
    Com P w g s (Instr.sliceAt t a lo' hi' none) v := by
  cases ha <;> try (simp only [cutO] at he; cases he; done)
  case str x =>
    simp only [cutO] at he
    split at he
    · rename_i hu
      cases h1 : bnd x.length hi x.length with
      | none => simp [h1] at he
      | some h =>
        cases h2 : bnd h lo 0 with
        | none => simp [h1, h2] at he
        | some l =>
          simp only [h1, h2, Option.bind_some, Option.map_some, Option.some.injEq] at he
          subst he
          obtain ⟨hr, _, _⟩ := bounds_run (P := P) hlo hhi (Nat.le_refl _) h1 h2 false
          refine ⟨_, ?_, .str _⟩
          have hs : (⟨x.toArray⟩ : ByteArray).size = x.length := rfl
          simp [Instr.sliceAt, Instr.slice, run_underlying hu, hs, hr, extract_list]
    · cases he
  case sl tk xs a cap b o z u hcap htok ha hz hF hp hv =>
    simp only [cutO] at he
    split at he
    · rename_i e hu
      split at he
      · rename_i e' sz q hs
        split at he
        · rename_i hok
          cases h1 : bnd xs.length hi xs.length with
          | none => simp [h1] at he
          | some h =>
            cases h2 : bnd h lo 0 with
            | none => simp [h1, h2] at he
            | some l =>
              simp only [h1, h2, Option.bind_some, Option.map_some, Option.some.injEq] at he
              obtain ⟨inf, _, hu', hinf, hsz, _⟩ := slc_spec hs
              obtain ⟨hr, hk1, hk2⟩ := bounds_run (P := P) hlo hhi hcap h1 h2 true
              have hrun : (Instr.sliceAt t (.slice a xs.length cap) lo' hi' none).run P w = .ok (.slice (if cap = l then a else a.map (·.add (l * sz))) (h - l) (cap - l)) w := by
                simp [Instr.sliceAt, Instr.slice, run_underlying hu', hr, sizeOf, typeInfo, hinf, hsz]
              split at he
              · rename_i hh
                obtain ⟨rfl, rfl⟩ := hh
                subst he
                refine ⟨_, hrun, ?_⟩
                have e1 : (if cap = 0 then a else a.map (·.add (0 * sz))) = a := by
                  split
                  · rfl
                  · cases a <;> simp [Addr.add]
                rw [e1, Nat.sub_zero, Nat.sub_zero]
                exact .sl tk xs a cap b o z u hcap htok ha hz hF hp hv
              · subst he
                refine ⟨_, hrun, ?_⟩
                have hlen : ((xs.take h).drop l).length = h - l := by simp; omega
                rw [← hlen]
                refine .sl .no ((xs.take h).drop l) _ (cap - l) b (o + l * z) z (fun i j => u (l + i) j) (by omega) trivial (fun hne => ?_) (fun x hx => hz x (List.mem_of_mem_take (List.mem_of_mem_drop hx))) (fun i j hi hj => ?_) (fun i x hx j c hc => ?_) (fun i x hx j c hc => ?_)
                · have hlt : l < h := by
                    apply Nat.lt_of_not_le
                    intro hle
                    exact hne (List.eq_nil_of_length_eq_zero (by omega))
                  have hxs : xs ≠ [] := by rintro rfl; simp at hk1; omega
                  rw [if_neg (by omega), ha hxs]
                  have hzs : z = sz := by
                    cases xs with
                    | nil => exact absurd rfl hxs
                    | cons x xs =>
                      simp only [okz, List.all_cons, Bool.and_eq_true, beq_iff_eq] at hok
                      rw [← hz x (List.mem_cons_self ..)]
                      exact hok.1
                  subst hzs
                  simp [add_lit]
                · have := hF (l + i) j (by omega) hj
                  rw [Nat.add_mul] at this
                  have e : o + l * z + i * z + j = o + (l * z + i * z) + j := by omega
                  rw [e]
                  exact this
                · rw [List.getElem?_drop, List.getElem?_take] at hx
                  split at hx
                  · exact hp (l + i) x hx j c hc
                  · cases hx
                · rw [List.getElem?_drop, List.getElem?_take] at hx
                  split at hx
                  · exact hv (l + i) x hx j c hc
                  · cases hx
        · cases he
      · cases he
    · cases he

  case rs l off len z b cap hb hc hrow =>
    simp only [cutO] at he
    split at he
    · rename_i e hu
      split at he
      · rename_i e' sz q hs
        split at he
        · rename_i hzs
          cases h1 : bnd len hi len with
          | none => simp [h1] at he
          | some h =>
            cases h2 : bnd h lo 0 with
            | none => simp [h1, h2] at he
            | some k =>
              simp only [h1, h2, Option.bind_some] at he
              split at he
              · rename_i hk
                cases he
                obtain ⟨inf, _, hu', hinf, hsz, _⟩ := slc_spec hs
                obtain ⟨hr, hk1, hk2⟩ := bounds_run (P := P) hlo hhi hc h1 h2 true
                have hrun : (Instr.sliceAt t (.slice (some ⟨b, off, none⟩) len cap) lo' hi' none).run P w = .ok (.slice (some ⟨b, off + k * sz, none⟩) (h - k) (cap - k)) w := by
                  simp [Instr.sliceAt, Instr.slice, run_underlying hu', hr, sizeOf, typeInfo, hinf, hsz]
                  rcases hk with rfl | hk
                  · split <;> simp [add_lit]
                  · rw [if_neg (by omega)]
                    simp [add_lit]
                subst hzs
                refine ⟨_, hrun, .rs l (off + k * z) (h - k) z b (cap - k) hb (by omega) ⟨hrow.1, fun q => ?_⟩⟩
                obtain ⟨q', e⟩ := hrow.2 q
                refine ⟨q', e.trans ?_⟩
                have hkc : k ≤ cap := by omega
                have : cap * z = k * z + (cap - k) * z := by rw [← Nat.add_mul]; congr 1; omega
                rw [this]
                congr 2
                omega
              · cases he
        · cases he
      · cases he
    · cases he

theorem mmSound (mx : Bool) (k : IntKind) : ∀ (x : Int) (ms : List MV) (vs : List Value) (v : MV), mmGo mx k x ms = some v → vs.length = ms.length → (∀ (i : Nat) (c : MV), ms[i]? = some c → VR w g s c (vs[i]?.getD undef)) →
    ∃ n, (vs.foldlM (if mx then Builtin.max2 else Builtin.min2) (.int k x) : Sem Value).run P w = .ok (.int k n) w ∧ v = .int k n
  | x, [], vs, v, h, hl, _ => by
    cases vs with
    | nil => cases h; exact ⟨x, by simp, rfl⟩
    | cons u vs => simp at hl
  | x, m :: ms, vs, v, h, hl, hv => by
    cases vs with
    | nil => simp at hl
    | cons u vs =>
      have h0 := hv 0 m rfl
      simp only [List.getElem?_cons_zero, Option.getD_some] at h0
      cases h0 <;> try (simp only [mmGo] at h; cases h; done)
      rename_i k' y
      simp only [mmGo] at h
      split at h
      · rename_i hk
        subst hk
        obtain ⟨n, hn, e⟩ := mmSound mx k _ ms vs v h (by simpa using hl) (fun i c hc => by simpa using hv (i + 1) c (by simpa using hc))
        refine ⟨n, ?_, e⟩
        cases mx
        · simp only [List.foldlM_cons, Sem.run_bind, Bool.false_eq_true, if_false] at hn ⊢
          have : (Builtin.min2 (.int k x) (.int k y)).run P w = .ok (.int k (if y < x then y else x)) w := rfl
          rw [this]
          exact hn
        · simp only [List.foldlM_cons, Sem.run_bind, if_true] at hn ⊢
          have : (Builtin.max2 (.int k x) (.int k y)).run P w = .ok (.int k (if y > x then y else x)) w := rfl
          rw [this]
          exact hn
      · cases h

theorem minSound {ts : Array TypeId} {ty : TypeId} {ms : List MV} {vs : Array Value} {v : MV} (h : mm false ms = some v) (hl : vs.size = ms.length) (hv : ∀ (i : Nat) (c : MV), ms[i]? = some c → VR w g s c (vs[i]?.getD undef)) : Com P w g s (Builtin.min_ ts ty vs) v := by
  obtain ⟨vs⟩ := vs
  cases ms with
  | nil => cases h
  | cons m ms =>
    cases vs with
    | nil => simp at hl
    | cons u vs =>
      have h0 := hv 0 m rfl
      simp at h0
      cases h0 <;> try (simp only [mm] at h; cases h; done)
      rename_i k x
      obtain ⟨n, hn, e⟩ := mmSound (P := P) false k x ms vs v h (by simpa using hl) (fun i c hc => by simpa using hv (i + 1) c (by simpa using hc))
      subst e
      exact .int (by simpa [Builtin.min_] using hn)
theorem maxSound {ts : Array TypeId} {ty : TypeId} {ms : List MV} {vs : Array Value} {v : MV} (h : mm true ms = some v) (hl : vs.size = ms.length) (hv : ∀ (i : Nat) (c : MV), ms[i]? = some c → VR w g s c (vs[i]?.getD undef)) : Com P w g s (Builtin.max_ ts ty vs) v := by
  obtain ⟨vs⟩ := vs
  cases ms with
  | nil => cases h
  | cons m ms =>
    cases vs with
    | nil => simp at hl
    | cons u vs =>
      have h0 := hv 0 m rfl
      simp at h0
      cases h0 <;> try (simp only [mm] at h; cases h; done)
      rename_i k x
      obtain ⟨n, hn, e⟩ := mmSound (P := P) true k x ms vs v h (by simpa using hl) (fun i c hc => by simpa using hv (i + 1) c (by simpa using hc))
      subst e
      exact .int (by simpa [Builtin.max_] using hn)

theorem bytesOf_spec : ∀ (xs : List (List MV)) (r : List UInt8), bytesOf xs = some r → ∃ ns : List Int, xs = ns.map (fun n => [.int .u8 n]) ∧ r = ns.map fun n => UInt8.ofNat n.toNat
  | [], r, h => by cases h; exact ⟨[], rfl, rfl⟩
  | x :: xs, r, h => by
    unfold bytesOf at h
    split at h
    · rename_i e; cases e
    · rename_i n xs' e
      cases e
      cases hr : bytesOf xs with
      | none => simp [hr] at h
      | some r' =>
        obtain ⟨ns, e1, e2⟩ := bytesOf_spec xs r' hr
        simp only [hr, Option.map_some, Option.some.injEq] at h
        exact ⟨n :: ns, by simp [e1], by simp [← h, e2]⟩
    · cases h

theorem cvtSound {src dst : TypeId} {m v : MV} {a : Value} (ha : VR w g s m a) (he : cvtO P src dst m = some v) : Com P w g s (convert src dst a) v := by
  cases ha <;> try (simp only [cvtO] at he; cases he; done)
  case int k n =>
    simp only [cvtO] at he
    split at he
    · rename_i q k' h1 h2
      cases he
      refine .int ?_
      simp [convert, run_underlying h1, run_underlying h2, Conv.intToInt]
    · cases he
  case str x =>
    simp only [cvtO] at he
    split at he
    · rename_i h1 h2
      cases he
      exact ⟨_, by simp [convert, run_underlying h1, run_underlying h2], .str x⟩
    · cases he
  case sl tk xs a cap b o z u hcap htok ha hz hF hp hv =>
    simp only [cvtO] at he
    split at he
    · rename_i e h1 h2
      split at he
      · rename_i h3
        cases hb : bytesOf xs with
        | none => simp [hb] at he
        | some r =>
          simp only [hb, Option.map_some, Option.some.injEq] at he
          subst he
          obtain ⟨ns, rfl, rfl⟩ := bytesOf_spec xs r hb
          refine ⟨_, ?_, .str _⟩
          cases ns with
          | nil =>
            rw [run_convert_bytes_string w src dst e a _ cap h1 h3 h2]
            cases a <;> simp [Conv.bytesToString, loadCells, loadCellsFrom, ByteArray.empty, ByteArray.emptyWithCapacity] <;> rfl
          | cons n0 ns' =>
            have ha' := ha (by simp)
            subst ha'
            have hz1 : z = 1 := by rw [← hz [.int .u8 n0] (by simp)]; rfl
            subst hz1
            have := run_convert_bytes_arg w src e h1 h3 b o ((n0 :: ns').map fun n => ([.int .u8 n] : List MV)).length cap (n0 :: ns') (by simp) (fun i hi => by
              have hi' : i < (n0 :: ns').length := by simpa using hi
              have h4 := (hF i 0 hi (by omega)).2
              have h5 := hv i [.int .u8 ((n0 :: ns')[i])] (by rw [List.getElem?_map, List.getElem?_eq_getElem hi']; rfl) 0 _ rfl
              rw [Nat.mul_one, Nat.add_zero] at h4
              rw [h4]
              generalize u i 0 = uu at h5
              cases h5
              simp [List.getD, List.getElem?_eq_getElem hi']) dst h2
            rw [this]
            rfl
      · cases he
    · cases he
end
end Go.Mv
/- Operations, continued: what is built; what is made; what is stored. -/
namespace Go.Mv
section
variable {P : Program} {w0 w : World} {K : Kp} {g : Gh} {s : Sto} {d : Nat}

theorem VR_of1 (v : Value) : VR w g s (of1 v) v := by
  unfold of1
  split
  · exact .bool _
  · exact .int _ _
  · rename_i x
    have : VR w g s (.str x.data.toList) (.string ⟨x.data.toList.toArray⟩) := .str _
    simpa using this
  · exact .sl .nil [] none 0 0 0 0 (fun _ _ => undef) (Nat.le_refl _) ⟨rfl, rfl⟩ (fun h => absurd rfl h) (by simp) (fun i j hi => by simp at hi) (by simp) (by simp)
  · exact .nilp
  · exact .junk _
theorem VR_ofV (v : Value) : VR w g s (ofV v) v := by
  unfold ofV
  split
  · rename_i cs
    split
    · rename_i hf
      refine .agg _ _ (by simp) (fun c hc => List.all_eq_true.1 hf c hc) fun i c hc => ?_
      rw [List.getElem?_map] at hc
      obtain ⟨u, hu, rfl⟩ := Option.map_eq_some_iff.1 hc
      have : cs[i]? = some u := by simpa using hu
      rw [this]
      exact VR_of1 u
    · exact .junk _
  · rename_i f fst cap
    split
    · rename_i h
      have h1 : fst = #[] := Array.eq_empty_of_size_eq_zero h.1
      have h2 : cap = #[] := Array.eq_empty_of_size_eq_zero h.2
      subst h1; subst h2
      exact .fn f
    · exact .junk _
  · exact VR_of1 _

/-- Lists of cells that stand to each other. -/
def CR (w : World) (g : Gh) (s : Sto) (cs : List MV) (vs : Array Value) : Prop := cs.length = vs.size ∧ (∀ c ∈ cs, c.flat = true) ∧ ∀ (i : Nat) (c : MV), cs[i]? = some c → VR w g s c (vs[i]?.getD undef)
theorem CR.agg {cs : List MV} {vs : Array Value} (h : CR w g s cs vs) : VR w g s (.agg cs) (.agg vs) := .agg cs vs h.1 h.2.1 h.2.2

theorem fold_set (off : Nat) : ∀ (l : List Value) (j0 : Nat) (arr : Array Value), off + j0 + l.length ≤ arr.size →
    ((l.zipIdx j0).foldl (fun cs (x : Value × Nat) => cs.setIfInBounds (off + x.2) x.1) arr).size = arr.size ∧
    ∀ k, ((l.zipIdx j0).foldl (fun cs (x : Value × Nat) => cs.setIfInBounds (off + x.2) x.1) arr)[k]? = if off + j0 ≤ k ∧ k < off + j0 + l.length then l[k - (off + j0)]? else arr[k]?
  | [], j0, arr, _ => ⟨rfl, fun k => by simp; omega⟩
  | v :: l, j0, arr, h => by
    simp only [List.length_cons] at h
    obtain ⟨h1, h2⟩ := fold_set off l (j0 + 1) (arr.setIfInBounds (off + j0) v) (by simp; omega)
    simp only [List.zipIdx_cons, List.foldl_cons]
    refine ⟨by rw [h1]; simp, fun k => ?_⟩
    rw [h2 k]
    by_cases hk : k = off + j0
    · subst hk
      have hlt : off + j0 < arr.size := by omega
      rw [if_neg (by omega), if_pos (by simp), Nat.sub_self, List.getElem?_cons_zero]
      simp [hlt]
    · by_cases hk2 : off + (j0 + 1) ≤ k ∧ k < off + (j0 + 1) + l.length
      · rw [if_pos hk2, if_pos (by simp; omega)]
        have : k - (off + j0) = (k - (off + (j0 + 1))) + 1 := by omega
        rw [this, List.getElem?_cons_succ]
      · rw [if_neg hk2, if_neg (by simp; omega), Array.getElem?_setIfInBounds_ne (by omega)]

theorem putC_at (cs new : List MV) (off : Nat) (h : off + new.length ≤ cs.length) (k : Nat) : (putC cs new off)[k]? = if off ≤ k ∧ k < off + new.length then new[k - off]? else cs[k]? := by
  unfold putC
  by_cases h1 : k < off
  · rw [if_neg (by omega), List.append_assoc, List.getElem?_append_left (by simp; omega), List.getElem?_take, if_pos h1]
  · by_cases h2 : k < off + new.length
    · rw [if_pos ⟨by omega, h2⟩, List.getElem?_append_left (by simp; omega), List.getElem?_append_right (by simp; omega)]
      simp
      congr 1
      omega
    · rw [if_neg (by omega), List.getElem?_append_right (by simp; omega), List.getElem?_drop]
      simp
      congr 1
      omega
theorem putC_len (cs new : List MV) (off : Nat) (h : off + new.length ≤ cs.length) : (putC cs new off).length = cs.length := by
  simp [putC]
  omega
theorem mem_putC {cs new : List MV} {off : Nat} {c : MV} (h : c ∈ putC cs new off) : c ∈ cs ∨ c ∈ new := by
  simp only [putC, List.mem_append] at h
  rcases h with (h | h) | h
  · exact .inl (List.mem_of_mem_take h)
  · exact .inr h
  · exact .inl (List.mem_of_mem_drop h)

/-- Cells, some of which are others now. -/
theorem CR.put {cs new : List MV} {vs us vs' : Array Value} {off : Nat} (h : CR w g s cs vs) (k : CR w g s new us) (hl : off + new.length ≤ cs.length) (hs : vs'.size = vs.size)
    (hv : ∀ i, vs'[i]? = if off ≤ i ∧ i < off + new.length then us[i - off]? else vs[i]?) : CR w g s (putC cs new off) vs' := by
  refine ⟨by rw [putC_len _ _ _ hl, h.1, hs], fun c hc => (mem_putC hc).elim (h.2.1 c) (k.2.1 c), fun i c hc => ?_⟩
  rw [putC_at _ _ _ hl] at hc
  rw [hv i]
  split at hc
  · rename_i hi
    rw [if_pos hi]
    exact k.2.2 _ c hc
  · rename_i hi
    rw [if_neg hi]
    exact h.2.2 _ c hc

theorem fillSound {place place' : Nat → Option (Nat × Nat)} (hp : ∀ i x, place i = some x → place' i = some x) : ∀ (ps : List (Nat × MV)) (qs : List (Nat × Value)) (cs cs' : List MV) (vs : Array Value),
    fillC place cs ps = some cs' → qs.length = ps.length → (∀ (i : Nat) (p : Nat × MV), ps[i]? = some p → ∃ q, qs[i]? = some q ∧ q.1 = p.1 ∧ VR w g s p.2 q.2) → CR w g s cs vs → ∃ vs', Instr.fill place' vs qs = some vs' ∧ CR w g s cs' vs'
  | [], [], cs, cs', vs, h, _, _, hc => by cases h; exact ⟨vs, rfl, hc⟩
  | [], q :: qs, _, _, _, _, hl, _, _ => by simp at hl
  | p :: ps, [], _, _, _, _, hl, _, _ => by simp at hl
  | (i, v) :: ps, (j, u) :: qs, cs, cs', vs, h, hl, hq, hc => by
    obtain ⟨q, e1, e2, e3⟩ := hq 0 (i, v) rfl
    simp only [List.getElem?_cons_zero, Option.some.injEq] at e1
    subst e1
    simp only at e2 e3
    subst e2
    simp only [fillC] at h
    split at h
    · rename_i off n new h1 h2
      split at h
      · rename_i hn
        obtain ⟨k1, k2, k3⟩ := e3.cells h2
        obtain ⟨hn1, hn2⟩ := hn
        have hsz : u.cells.size = n := by rw [← k1]; exact hn1
        obtain ⟨f1, f2⟩ := fold_set off u.cells.toList 0 vs (by simp; rw [← hc.1]; omega)
        have hz : (u.cells.zipIdx.foldl (fun cs (x : Value × Nat) => cs.setIfInBounds (off + x.2) x.1) vs) = ((u.cells.toList.zipIdx 0).foldl (fun cs (x : Value × Nat) => cs.setIfInBounds (off + x.2) x.1) vs) := by
          rw [← Array.foldl_toList]
          simp
        obtain ⟨vs', r1, r2⟩ := fillSound hp ps qs (putC cs new off) cs' _ h (by simpa using hl) (fun k p hk => by simpa using hq (k + 1) p (by simpa using hk))
          (CR.put (vs' := u.cells.zipIdx.foldl (fun cs (x : Value × Nat) => cs.setIfInBounds (off + x.2) x.1) vs) hc ⟨k1, k2, k3⟩ (by omega) (by rw [hz]; exact f1) (fun k => by
            rw [hz, f2 k]
            simp only [Nat.add_zero, Array.length_toList, hsz, ← hn1]
            split
            · simp
            · rfl))
        refine ⟨vs', ?_, r2⟩
        simp only [Instr.fill, hp _ _ h1]
        rw [if_neg (by simp only [hsz, ne_eq, not_true, Bool.or_eq_true, decide_eq_true_eq, false_or, decide_false, Bool.false_eq_true]; rw [← hc.1]; omega)]
        exact r1
      · cases h
    · cases h

theorem mapM_at {fs : List Field} {pl : List (Nat × Nat)} (h : fs.mapM (fun f => (P.info? f.type).map fun i => (f.offset, i.size)) = some pl) (i : Nat) {x : Field} {inf : TypeInfo} (hx : fs[i]? = some x) (hi : P.info? x.type = some inf) :
    pl[i]? = some (x.offset, inf.size) := by
  induction fs generalizing pl i with
  | nil => simp at hx
  | cons f fs ih =>
    simp only [List.mapM_cons, Option.bind_eq_bind, Option.pure_def] at h
    cases hf : P.info? f.type with
    | none => simp [hf] at h
    | some j =>
      cases hr : fs.mapM (fun f => (P.info? f.type).map fun i => (f.offset, i.size)) with
      | none => simp [hf, hr] at h
      | some r =>
        simp only [hf, hr, Option.map_some, Option.bind_some, Option.some.injEq] at h
        subst h
        cases i with
        | zero =>
          simp only [List.getElem?_cons_zero, Option.some.injEq] at hx
          subst hx
          rw [hf] at hi
          cases hi
          rfl
        | succ i => exact ih hr i (by simpa using hx)
theorem mapM_some {fs : List Field} (h : ∀ f ∈ fs, (P.info? f.type).isSome = true) : ∃ pl, fs.mapM (fun f => (P.info? f.type).map fun i => (f.offset, i.size)) = some pl := by
  induction fs with
  | nil => exact ⟨[], rfl⟩
  | cons f fs ih =>
    obtain ⟨pl, hp⟩ := ih fun f hf => h f (List.mem_cons_of_mem _ hf)
    obtain ⟨i, hi⟩ := Option.isSome_iff_exists.1 (h f (List.mem_cons_self ..))
    exact ⟨(f.offset, i.size) :: pl, by simp [List.mapM_cons, hi, hp]⟩

theorem shp_size {t : TypeId} {b : Bool} {n : Nat} (h : shp P t = some (b, n)) : ∃ i, P.info? t = some i ∧ i.size = n := by
  unfold shp at h
  split at h
  · rename_i hi; cases h; exact ⟨_, hi, rfl⟩
  · rename_i hi; cases h; exact ⟨_, hi, rfl⟩
  · rename_i hi; cases h; exact ⟨_, hi, rfl⟩
  · cases h

theorem buildSound {t : TypeId} {ps : List (Nat × MV)} {qs : Array (Nat × Value)} {v : MV} (hl : qs.size = ps.length) (hq : ∀ (i : Nat) (p : Nat × MV), ps[i]? = some p → ∃ q, qs[i]? = some q ∧ q.1 = p.1 ∧ VR w g s p.2 q.2)
    (h : buildO P t ps = some v) : Com P w g s (Instr.build t qs) v := by
  unfold buildO at h
  cases hz : bldz P t with
  | none => simp [hz] at h
  | some z =>
    simp only [hz] at h
    cases hf : fillC (places P t) z ps with
    | none => simp [hf] at h
    | some cs' =>
      simp only [hf, Option.map_some, Option.some.injEq] at h
      subst h
      unfold bldz at hz
      have hq' : ∀ (i : Nat) (p : Nat × MV), ps[i]? = some p → ∃ q, qs.toList[i]? = some q ∧ q.1 = p.1 ∧ VR w g s p.2 q.2 := fun i p hp => by simpa using hq i p hp
      split at hz
      · rename_i fs zv hu hzv
        split at hz
        · rename_i hall
          obtain ⟨it, hit, hit2⟩ := Option.bind_eq_some_iff.1 hzv
          obtain ⟨pl, hpl⟩ := mapM_some (P := P) (fs := fs.toList) (fun f hf' => List.all_eq_true.1 hall f hf')
          obtain ⟨k1, k2, k3⟩ := (VR_ofV (w := w) (g := g) (s := s) zv).cells hz
          obtain ⟨vs', r1, r2⟩ := fillSound (w := w) (g := g) (s := s) (place := places P t) (place' := (pl.toArray[·]?)) (fun i x hx => by
            simp only [places, hu] at hx
            obtain ⟨⟨fo, ty⟩, e1, e2⟩ := Option.bind_eq_some_iff.1 hx
            obtain ⟨fs', x', inf, hu', hx', rfl, rfl, hinf, _⟩ := fldo_spec e1
            rw [hu] at hu'
            cases hu'
            obtain ⟨⟨bb, n⟩, e3, rfl⟩ := Option.map_eq_some_iff.1 e2
            obtain ⟨inf', hi', rfl⟩ := shp_size e3
            rw [hinf] at hi'
            cases hi'
            simpa using mapM_at hpl i (by simpa using hx') hinf) ps qs.toList z cs' zv.cells hf (by simpa using hl) hq' ⟨k1, k2, k3⟩
          have hb : P.built t qs.toList = some vs' := by
            simp only [Program.built, hit, hu, hit2, hpl]
            exact r1
          exact ⟨_, run_build w t qs vs' hb, r2.agg⟩
        · cases hz
      · rename_i n e zv hu hzv
        split at hz
        · rename_i hie'
          obtain ⟨it, hit, hit2⟩ := Option.bind_eq_some_iff.1 hzv
          obtain ⟨k1, k2, k3⟩ := (VR_ofV (w := w) (g := g) (s := s) zv).cells hz
          obtain ⟨ie, hie⟩ := Option.isSome_iff_exists.1 hie'
          obtain ⟨vs', r1, r2⟩ := fillSound (w := w) (g := g) (s := s) (place := places P t) (place' := fun i => some (i * ie.size, ie.size)) (fun i x hx => by
            simp only [places, hu] at hx
            obtain ⟨⟨bb, n⟩, e3, rfl⟩ := Option.map_eq_some_iff.1 hx
            obtain ⟨inf', hi', rfl⟩ := shp_size e3
            rw [hie] at hi'
            cases hi'
            rfl) ps qs.toList z cs' zv.cells hf (by simpa using hl) hq' ⟨k1, k2, k3⟩
          have hb : P.built t qs.toList = some vs' := by
            simp only [Program.built, hit, hu, hit2, hie]
            exact r1
          exact ⟨_, run_build w t qs vs' hb, r2.agg⟩
        · cases hz
      · cases hz
end
end Go.Mv
/- Operations, the last: what is made; what is stored; rows. -/
namespace Go.Mv
section
variable {P : Program} {w0 w : World} {K : Kp} {g : Gh} {s : Sto} {d : Nat}

/-- What an operation that makes or stores comes to. -/
def Mak (w0 : World) (K : Kp) (w : World) (g : Gh) (s : Sto) (d : Nat) (v : MV) (s' : Sto) (u : Value) (w' : World) : Prop := ∃ g', VR w' g' s' v u ∧ St w0 K w' g' s' ∧ Ev w g s w' g' s' ∧ s'.Und (d + 1)

theorem locT_ok {C : Cfg} {t : TypeId} {k : Nat} {o : Option Tmp} {T : TypeId} {vs : Array Value} (hT : T = t) (hk : vs.size = k) : ∀ q n, n < 1024 → locT C t k o = 1000000 + (q * 1024 + n) → T = q ∧ vs.size = n := by
  intro q n hn e
  have hd : dstT o < 1000000 := by
    unfold dstT
    split
    · split <;> omega
    · omega
  unfold locT at e
  split at e
  · split at e
    · have : t = q := by
        rcases Nat.lt_trichotomy t q with h | h | h
        · have := Nat.mul_le_mul_right 1024 h; omega
        · exact h
        · have := Nat.mul_le_mul_right 1024 h; omega
      exact ⟨hT.trans this, by omega⟩
    · omega
  · omega
theorem dstT_ok {o : Option Tmp} {T : TypeId} {vs : Array Value} : ∀ q n, n < 1024 → dstT o = 1000000 + (q * 1024 + n) → T = q ∧ vs.size = n := by
  intro q n hn e
  have hd : dstT o < 1000000 := by
    unfold dstT
    split
    · split <;> omega
    · omega
  omega
theorem allocSound (h : St w0 K w g s) (hu : s.Und (d + 1)) (t : Nat) {cs : List MV} {vs : Array Value} (T : TypeId) (hty : ∀ q n, n < 1024 → t = 1000000 + (q * 1024 + n) → T = q ∧ vs.size = n) (hc : CR w g s cs vs) :
    Mak w0 K w g s d (allocO s d t cs).1 (allocO s d t cs).2 (.pointer (some ⟨w.heap.size, 0, none⟩)) (w.alloc (.cells vs T)) := by
  obtain ⟨h1, h2, h3, h4⟩ := h.new hu t cs vs T (Nat.le_of_eq hc.1) hc.2.1 hc.2.2
  exact ⟨_, .ptr _ 0 _ h4 (fun q n hn e => by rw [shape_of_cells (alloc_heap_new w _)]; obtain ⟨rfl, rfl⟩ := hty q n hn e; rfl), h1, h2, h3⟩

theorem pur_of_datas {cs new : List MV} (h : datas cs = some new) : new = cs.map MV.era ∧ (∀ c ∈ new, c.pur = true) ∧ ∀ c ∈ cs, c.data = true := by
  unfold datas at h
  split at h
  · rename_i ha
    cases h
    have := List.all_eq_true.1 ha
    refine ⟨rfl, fun c hc => ?_, this⟩
    obtain ⟨c', hc', rfl⟩ := List.mem_map.1 hc
    exact pur_of_data (this c' hc')
  · cases h
theorem CR.datas {cs new : List MV} {vs : Array Value} (h : CR w g s cs vs) (k : Go.Mv.datas cs = some new) : CR w g s new vs := by
  obtain ⟨rfl, _, _⟩ := pur_of_datas k
  refine ⟨by simpa using h.1, fun c hc => ?_, fun i c hc => ?_⟩
  · obtain ⟨c', hc', rfl⟩ := List.mem_map.1 hc
    rw [flat_era]
    exact h.2.1 c' hc'
  · rw [List.getElem?_map] at hc
    obtain ⟨c', hc', rfl⟩ := Option.map_eq_some_iff.1 hc
    exact (h.2.2 i c' hc').era
theorem top_of_pur {c : MV} (h : c.pur = true) (n : Nat) : c.top n = true := by
  cases c <;> first | rfl | (cases h; done) | skip
  rename_i t xs
  cases t <;> first | rfl | cases h

/-- The first cells of a row. -/
def CL1 (w : World) (g : Gh) (s : Sto) (cs : List MV) (vs : Array Value) : Prop := cs.length ≤ vs.size ∧ (∀ c ∈ cs, c.flat = true) ∧ ∀ (i : Nat) (c : MV), cs[i]? = some c → VR w g s c (vs[i]?.getD undef)
theorem CL1.put {cs new : List MV} {vs us vs' : Array Value} {off : Nat} (h : CL1 w g s cs vs) (k : CR w g s new us) (hl : off + new.length ≤ cs.length) (hs : vs'.size = vs.size)
    (hv : ∀ i, vs'[i]? = if off ≤ i ∧ i < off + new.length then us[i - off]? else vs[i]?) : CL1 w g s (putC cs new off) vs' := by
  refine ⟨by rw [putC_len _ _ _ hl, hs]; exact h.1, fun c hc => (mem_putC hc).elim (h.2.1 c) (k.2.1 c), fun i c hc => ?_⟩
  rw [putC_at _ _ _ hl] at hc
  rw [hv i]
  split at hc
  · rename_i hi
    rw [if_pos hi]
    exact k.2.2 _ c hc
  · rename_i hi
    rw [if_neg hi]
    exact h.2.2 _ c hc

theorem storeSound (h : St w0 K w g s) (hu : s.Und (d + 1)) {t : TypeId} {m v : MV} {a x : Value} (ha : VR w g s m a) (hx : VR w g s v x) {s' : Sto} {lim : Nat} (he : stO P lim d t s m v = some s') :
    ∃ w', (Instr.storeAt t a x).run P w = .ok () w' ∧ Mak w0 K w g s d .undef s' undef w' := by
  cases ha <;> try (simp only [stO] at he; cases he; done)
  rename_i l off b hb hty
  simp only [stO] at he
  split at he
  · rename_i q n new cs h1 h2 h3
    split at he
    · rename_i hn
      obtain ⟨k1, k2, k3⟩ := hx.cells h2
      obtain ⟨vs, T, e1, e2, e3⟩ := h.obj l cs b h3 hb
      have hfl := h.flat l cs h3
      have hone : ∀ u ∈ x.cells.toList, u.oneCell' = true := fun u hu' => by
        obtain ⟨i, hi⟩ := List.mem_iff_getElem?.1 hu'
        have hil : i < new.length := by rw [k1]; simpa using (List.getElem?_eq_some_iff.1 hi).1
        have h5 := k3 i new[i] (List.getElem?_eq_getElem hil)
        have h6 : x.cells[i]? = some u := by simpa using hi
        rw [h6] at h5
        exact (h5.one (k2 _ (List.getElem_mem hil))).1
      have hst := run_storeCells_at P b off T x.cells.toList 0 vs w e1 (by simp only [Array.length_toList, ← k1]; omega) hone
      simp only [Nat.add_zero, Array.length_toList] at hst
      have hrun : (Instr.storeAt t (.pointer (some ⟨b, off, none⟩)) x).run P w = .ok () (w.setRow b (vs.toList.take off ++ x.cells.toList ++ vs.toList.drop (off + x.cells.size)).toArray) := by
        have hsz : x.cells.size = n := by rw [← k1]; exact hn.1
        simp [Instr.storeAt, Instr.sureAddr, storeVar, (shp_run h1 w).2, hsz]
        simpa [hsz] using hst
      have hcr : CL1 w g s cs vs := ⟨e2, fun c hc => (hfl c hc).1, e3⟩
      have hvs : ∀ i, ((vs.toList.take off ++ x.cells.toList ++ vs.toList.drop (off + x.cells.size)).toArray)[i]? = if off ≤ i ∧ i < off + new.length then x.cells[i - off]? else vs[i]? := fun i => by
        rw [k1]
        have hle : off + x.cells.size ≤ vs.size := by rw [← k1]; omega
        simp only [List.getElem?_toArray]
        by_cases i1 : i < off
        · rw [if_neg (by omega), List.append_assoc, List.getElem?_append_left (by simp; omega), List.getElem?_take, if_pos i1]
          simp
        · by_cases i2 : i < off + x.cells.size
          · rw [if_pos ⟨by omega, i2⟩, List.getElem?_append_left (by simp; omega), List.getElem?_append_right (by simp; omega)]
            simp
            congr 1
            omega
          · rw [if_neg (by omega), List.getElem?_append_right (by simp; omega), List.getElem?_drop]
            simp
            congr 1
            omega
      have hvz : ((vs.toList.take off ++ x.cells.toList ++ vs.toList.drop (off + x.cells.size)).toArray).size = vs.size := by
        simp
        omega
      have hnew : CR w g s new x.cells := ⟨k1, k2, k3⟩
      refine ⟨_, hrun, ?_⟩
      split at he
      · rename_i hd
        split at he
        case isFalse => cases he
        obtain ⟨new', hd', rfl⟩ := Option.map_eq_some_iff.1 he
        have hlen : new'.length = new.length := by rw [(pur_of_datas hd').1]; simp
        have hput := CL1.put (off := off) hcr (hnew.datas hd') (by rw [hlen]; have := hn.1; have := hn.2; omega) hvz (fun i => by rw [hlen]; exact hvs i)
        have hall : ∀ c ∈ putC cs new' off, c.flat = true ∧ c.top l.d = true := fun c hc => by
          rcases mem_putC hc with hc | hc
          · exact hfl c hc
          · exact ⟨flat_of_pur ((pur_of_datas hd').2.1 c hc), top_of_pur ((pur_of_datas hd').2.1 c hc) _⟩
        obtain ⟨r1, r2, r3⟩ := h.put hu h3 hb e1 hput.1 hvz hall hput.2.2
        exact ⟨g, .undef, r1, r2, r3⟩
      · split at he
        · rename_i hd
          cases he
          have hput := CL1.put (off := off) hcr hnew (by have := hn.1; have := hn.2; omega) hvz hvs
          have hall : ∀ c ∈ putC cs new off, c.flat = true ∧ c.top l.d = true := fun c hc => by
            rcases mem_putC hc with hc | hc
            · exact hfl c hc
            · refine ⟨k2 c hc, ?_⟩
              obtain ⟨i, hi⟩ := List.mem_iff_getElem?.1 hc
              rw [hd]
              exact h.top hu (k3 i c hi)
          obtain ⟨r1, r2, r3⟩ := h.put hu h3 hb e1 hput.1 hvz hall hput.2.2
          exact ⟨g, .undef, r1, r2, r3⟩
        · cases he
    · cases he
  · cases he

/-- A slice is stored, at a store that says more of it. -/
theorem store1 (h : St w0 K w g s) (hu : s.Und (d + 1)) {t : TypeId} {l : Loc} {off b n : Nat} {q : Bool} {cs : List MV} {x : Value} {tk : Tok} {xs : List (List MV)} (hb : g.π l = some b) (h1 : shp P t = some (q, n)) (h3 : s.ob l = some cs) (hn : n = 1) (hoff : off + 1 ≤ cs.length) (hx : VR w g s (.sl tk xs) x) (htop : (MV.sl tk xs).top l.d = true) :
    ∃ w', (Instr.storeAt t (.pointer (some ⟨b, off, none⟩)) x).run P w = .ok () w' ∧ Mak w0 K w g s d .undef (s.set l (putC cs [.sl tk xs] off)) undef w' := by
  obtain ⟨new, hnew0⟩ : ∃ new : List MV, new = [MV.sl tk xs] := ⟨_, rfl⟩
  have h2 : (MV.sl tk xs).cells = some new := by rw [hnew0]; rfl
  have hn : new.length = n ∧ off + n ≤ cs.length := by rw [hnew0, hn]; exact ⟨rfl, hoff⟩
  obtain ⟨k1, k2, k3⟩ := hx.cells h2
  obtain ⟨vs, T, e1, e2, e3⟩ := h.obj l cs b h3 hb
  have hfl := h.flat l cs h3
  have hone : ∀ u ∈ x.cells.toList, u.oneCell' = true := fun u hu' => by
    obtain ⟨i, hi⟩ := List.mem_iff_getElem?.1 hu'
    have hil : i < new.length := by rw [k1]; simpa using (List.getElem?_eq_some_iff.1 hi).1
    have h5 := k3 i new[i] (List.getElem?_eq_getElem hil)
    have h6 : x.cells[i]? = some u := by simpa using hi
    rw [h6] at h5
    exact (h5.one (k2 _ (List.getElem_mem hil))).1
  have hst := run_storeCells_at P b off T x.cells.toList 0 vs w e1 (by simp only [Array.length_toList, ← k1]; omega) hone
  simp only [Nat.add_zero, Array.length_toList] at hst
  have hrun : (Instr.storeAt t (.pointer (some ⟨b, off, none⟩)) x).run P w = .ok () (w.setRow b (vs.toList.take off ++ x.cells.toList ++ vs.toList.drop (off + x.cells.size)).toArray) := by
    have hsz : x.cells.size = n := by rw [← k1]; exact hn.1
    simp [Instr.storeAt, Instr.sureAddr, storeVar, (shp_run h1 w).2, hsz]
    simpa [hsz] using hst
  have hcr : CL1 w g s cs vs := ⟨e2, fun c hc => (hfl c hc).1, e3⟩
  have hvs : ∀ i, ((vs.toList.take off ++ x.cells.toList ++ vs.toList.drop (off + x.cells.size)).toArray)[i]? = if off ≤ i ∧ i < off + new.length then x.cells[i - off]? else vs[i]? := fun i => by
    rw [k1]
    have hle : off + x.cells.size ≤ vs.size := by rw [← k1]; omega
    simp only [List.getElem?_toArray]
    by_cases i1 : i < off
    · rw [if_neg (by omega), List.append_assoc, List.getElem?_append_left (by simp; omega), List.getElem?_take, if_pos i1]
      simp
    · by_cases i2 : i < off + x.cells.size
      · rw [if_pos ⟨by omega, i2⟩, List.getElem?_append_left (by simp; omega), List.getElem?_append_right (by simp; omega)]
        simp
        congr 1
        omega
      · rw [if_neg (by omega), List.getElem?_append_right (by simp; omega), List.getElem?_drop]
        simp
        congr 1
        omega
  have hvz : ((vs.toList.take off ++ x.cells.toList ++ vs.toList.drop (off + x.cells.size)).toArray).size = vs.size := by
    simp
    omega
  have hnew : CR w g s new x.cells := ⟨k1, k2, k3⟩
  refine ⟨_, hrun, ?_⟩
  have hput := CL1.put (off := off) hcr hnew (by have := hn.1; have := hn.2; omega) hvz hvs
  have hall : ∀ c ∈ putC cs new off, c.flat = true ∧ c.top l.d = true := fun c hc => by
    rcases mem_putC hc with hc | hc
    · exact hfl c hc
    · refine ⟨k2 c hc, ?_⟩
      rw [hnew0] at hc
      simp only [List.mem_cons, List.not_mem_nil, or_false] at hc
      rw [hc]
      exact htop
  obtain ⟨r1, r2, r3⟩ := h.put hu h3 hb e1 hput.1 hvz hall hput.2.2
  rw [hnew0] at r1 r2 r3
  exact ⟨g, .undef, r1, r2, r3⟩
theorem storeKSound (h : St w0 K w g s) (hu : s.Und (d + 1)) {t : TypeId} {m v : MV} {a x : Value} (ha : VR w g s m a) (hx : VR w g s v x) {s' : Sto} {lim : Nat} (he : stK P lim d t s m v = some s') :
    ∃ w', (Instr.storeAt t a x).run P w = .ok () w' ∧ Mak w0 K w g s d .undef s' undef w' := by
  unfold stK at he
  split at he
  · rename_i l off tk xs
    cases ha with
    | ptr l off b hb hty =>
    split at he
    · rename_i q n cs h1 h3
      split at he
      · rename_i hc
        obtain ⟨hn, hoff, hld, hlim⟩ := hc
        split at he
        · cases he
          exact store1 h hu hb h1 h3 hn hoff hx rfl
        · rename_i k c
          split at he
          · rename_i hk
            cases he
            exact store1 h hu hb h1 h3 hn hoff hx (by simpa [MV.top] using hk)
          · rename_i hk
            split at he
            · rename_i hkd
              split at he
              · rename_i v ho
                cases he
                obtain ⟨m, z⟩ := v
                obtain ⟨r1, r2⟩ := h.retok (kl := l.d) ho
                have hu2 : (s.retok k c l.d (m, z)).Und (d + 1) := ⟨hu.ob, fun d' c' hd => by
                    simp only [Sto.retok, Sto.tick, Sto.own]
                    rw [if_neg (by omega), if_neg (by omega)]
                    exact hu.ow d' c' hd, fun d' hd => by
                    simp only [Sto.retok, Sto.tick, Sto.own, upd]
                    rw [if_neg (by omega)]
                    exact hu.ct d' hd⟩
                obtain ⟨w', q1, g', q2, q3, q4, q5⟩ := store1 (P := P) (t := t) r1 hu2 (b := b) (off := off) (cs := cs) hb h1 h3 hn hoff (hx.retok ho r2) (by simp [MV.top])
                exact ⟨w', q1, g', q2, q3, r2.trans q4, q5⟩
              · cases he
            · cases he
        · cases he
          exact store1 h hu hb h1 h3 hn hoff hx.era rfl
      · cases he
    · cases he
  · cases he

/-- A variable, at a depth of its own. -/
theorem allocUSound {C : Cfg} {lim : Nat} (h : St w0 K w g s) (hu : s.Und (d + 1)) (t lt : Nat) {o : Option Tmp} {cs : List MV} {vs : Array Value} (T : TypeId) (hty : ∀ q n, n < 1024 → lt = 1000000 + (q * 1024 + n) → T = q ∧ vs.size = n) (hc : CR w g s cs vs) (htop : ∀ n, ∀ c ∈ cs, c.top n = true)
    {r : MV × Sto} (he : allocU C lim d t o lt cs s = some r) : Mak w0 K w g s d r.1 r.2 (.pointer (some ⟨w.heap.size, 0, none⟩)) (w.alloc (.cells vs T)) := by
  unfold allocU at he
  split at he
  · cases he
    obtain ⟨h1, h2, h3, h4⟩ := h.newAt hu (Nat.sub_le d (C.up t (dstT o))) lt cs vs T (Nat.le_of_eq hc.1) hc.2.1 (htop _) hc.2.2
    exact ⟨_, .ptr _ 0 _ h4 (fun q n hn e => by rw [shape_of_cells (alloc_heap_new w _)]; obtain ⟨rfl, rfl⟩ := hty q n hn e; rfl), h1, h2, h3⟩
  · cases he
theorem top_of1 (v : Value) (n : Nat) : (of1 v).top n = true := by
  unfold of1
  split <;> rfl
theorem top_ofV {v : Value} {cs : List MV} (h : (ofV v).cells = some cs) (n : Nat) : ∀ c ∈ cs, c.top n = true := by
  unfold ofV at h
  split at h
  · split at h
    · simp only [MV.cells, Option.some.injEq] at h
      subst h
      intro c hc
      obtain ⟨v, _, rfl⟩ := List.mem_map.1 hc
      exact top_of1 v n
    · cases h
  · split at h
    · simp only [MV.cells, Option.some.injEq] at h
      subst h
      intro c hc
      simp only [List.mem_cons, List.not_mem_nil, or_false] at hc
      subst hc
      rfl
    · cases h
  · intro c hc
    have key : ∀ m : MV, m.cells = some cs → c ∈ cs → (∃ us, m = .agg us) ∨ c = m := fun m hm hcm => by
      cases m <;> first | exact .inl ⟨_, rfl⟩ | (cases hm; done) | (cases hm; simp only [List.mem_cons, List.not_mem_nil, or_false] at hcm; exact .inr hcm)
    rcases key _ h hc with ⟨us, e⟩ | e
    · unfold of1 at e
      split at e <;> cases e
    · rw [e]; exact top_of1 _ n

theorem keepD_spec {n : Nat} {c c' : MV} {v : Value} (h : keepD n c = some c') (k : VR w g s c v) : VR w g s c' v ∧ c'.flat = true ∧ c'.top n = true := by
  unfold keepD at h
  split at h
  · rename_i hd
    cases h
    exact ⟨k.era, by rw [flat_era]; exact flat_of_data hd, top_of_pur (pur_of_data hd) n⟩
  · split at h
    · split at h
      · rename_i hl; cases h; exact ⟨k, rfl, by simpa [MV.top] using hl⟩
      · cases h
    · split at h
      · rename_i hl; cases h; exact ⟨k, rfl, by simpa [MV.top] using hl⟩
      · cases h
    · cases h
theorem mapM_keep (n : Nat) : ∀ (cs new : List MV), cs.mapM (keepD n) = some new → new.length = cs.length ∧ ∀ (i : Nat) (c' : MV), new[i]? = some c' → ∃ c, cs[i]? = some c ∧ keepD n c = some c'
  | [], new, h => by simp at h; subst h; simp
  | c :: cs, new, h => by
    rw [List.mapM_cons] at h
    cases hm : keepD n c with
    | none => simp [hm] at h
    | some x =>
      cases hr : cs.mapM (keepD n) with
      | none => simp [hm, hr] at h
      | some xs =>
        simp [hm, hr] at h
        subst h
        obtain ⟨r1, r2⟩ := mapM_keep n cs xs hr
        refine ⟨by simp [r1], fun i c' hi => ?_⟩
        cases i with
        | zero => simp at hi; subst hi; exact ⟨c, rfl, hm⟩
        | succ i => simpa using r2 i c' (by simpa using hi)
theorem CR.keep {n : Nat} {cs new : List MV} {vs : Array Value} (h : CR w g s cs vs) (k : cs.mapM (keepD n) = some new) : CR w g s new vs ∧ ∀ c ∈ new, c.top n = true := by
  obtain ⟨r1, r2⟩ := mapM_keep n cs new k
  refine ⟨⟨r1.trans h.1, fun c hc => ?_, fun i c hc => ?_⟩, fun c hc => ?_⟩
  · obtain ⟨i, hi⟩ := List.mem_iff_getElem?.1 hc
    obtain ⟨c', e1, e2⟩ := r2 i c hi
    exact (keepD_spec e2 (h.2.2 i c' e1)).2.1
  · obtain ⟨c', e1, e2⟩ := r2 i c hc
    exact (keepD_spec e2 (h.2.2 i c' e1)).1
  · obtain ⟨i, hi⟩ := List.mem_iff_getElem?.1 hc
    obtain ⟨c', e1, e2⟩ := r2 i c hi
    exact (keepD_spec e2 (h.2.2 i c' e1)).2.2
theorem keepU_spec {n : Nat} {c c' : MV} {v : Value} (h : keepU n c = some c') (k : VR w g s c v) : VR w g s c' v ∧ c'.flat = true ∧ c'.top n = true := by
  unfold keepU at h
  split at h
  · rename_i hc
    cases h
    simp only [Bool.and_eq_true] at hc
    exact ⟨k, hc.1, hc.2⟩
  · exact keepD_spec h k
theorem mapM_keepU (n : Nat) : ∀ (cs new : List MV), cs.mapM (keepU n) = some new → new.length = cs.length ∧ ∀ (i : Nat) (c' : MV), new[i]? = some c' → ∃ c, cs[i]? = some c ∧ keepU n c = some c'
  | [], new, h => by simp at h; subst h; simp
  | c :: cs, new, h => by
    rw [List.mapM_cons] at h
    cases hm : keepU n c with
    | none => simp [hm] at h
    | some c1 =>
      cases hr : cs.mapM (keepU n) with
      | none => simp [hm, hr] at h
      | some r =>
        simp only [hm, hr, Option.pure_def, Option.bind_eq_bind, Option.bind_some, Option.some.injEq] at h
        subst h
        obtain ⟨r1, r2⟩ := mapM_keepU n cs r hr
        refine ⟨by simp [r1], fun i c' hi => ?_⟩
        cases i with
        | zero => simp at hi; subst hi; exact ⟨c, rfl, hm⟩
        | succ i => simp at hi; obtain ⟨c2, e1, e2⟩ := r2 i c' hi; exact ⟨c2, by simpa using e1, e2⟩
theorem CR.keepU {n : Nat} {cs new : List MV} {vs : Array Value} (h : CR w g s cs vs) (k : cs.mapM (keepU n) = some new) : CR w g s new vs ∧ ∀ c ∈ new, c.top n = true := by
  obtain ⟨r1, r2⟩ := mapM_keepU n cs new k
  refine ⟨⟨r1.trans h.1, fun c hc => ?_, fun i c hc => ?_⟩, fun c hc => ?_⟩
  · obtain ⟨i, hi⟩ := List.mem_iff_getElem?.1 hc
    obtain ⟨c', e1, e2⟩ := r2 i c hi
    exact (keepU_spec e2 (h.2.2 i c' e1)).2.1
  · obtain ⟨c', e1, e2⟩ := r2 i c hc
    exact (keepU_spec e2 (h.2.2 i c' e1)).1
  · obtain ⟨i, hi⟩ := List.mem_iff_getElem?.1 hc
    obtain ⟨c', e1, e2⟩ := r2 i c hi
    exact (keepU_spec e2 (h.2.2 i c' e1)).2.2
/-- A variable with a content, at a depth of its own. -/
theorem boxUSound {C : Cfg} {lim : Nat} (h : St w0 K w g s) (hu : s.Und (d + 1)) (t lt : Nat) {o : Option Tmp} {cs : List MV} {vs : Array Value} (T : TypeId) (hty : ∀ q n, n < 1024 → lt = 1000000 + (q * 1024 + n) → T = q ∧ vs.size = n) (hc : CR w g s cs vs)
    {r : MV × Sto} (he : boxU C lim d t o lt cs s = some r) : Mak w0 K w g s d r.1 r.2 (.pointer (some ⟨w.heap.size, 0, none⟩)) (w.alloc (.cells vs T)) := by
  unfold boxU at he
  split at he
  · cases he
    exact allocSound h hu lt T hty hc
  · split at he
    · obtain ⟨cs', hk, rfl⟩ := Option.map_eq_some_iff.1 he
      obtain ⟨hc', htop⟩ := hc.keepU hk
      obtain ⟨h1, h2, h3, h4⟩ := h.newAt hu (Nat.sub_le d (C.up t (dstT o))) lt cs' vs T (Nat.le_of_eq hc'.1) hc'.2.1 htop hc'.2.2
      exact ⟨_, .ptr _ 0 _ h4 (fun q n hn e => by rw [shape_of_cells (alloc_heap_new w _)]; obtain ⟨rfl, rfl⟩ := hty q n hn e; rfl), h1, h2, h3⟩
    · cases he

/-- A store, at a store that says it so. -/
theorem storeGen (h : St w0 K w g s) (hu : s.Und (d + 1)) {t : TypeId} {l : Loc} {off b n : Nat} {q : Bool} {cs new : List MV} {x : Value} (hb : g.π l = some b) (h1 : shp P t = some (q, n)) (h3 : s.ob l = some cs) (hn : new.length = n) (hoff : off + n ≤ cs.length) (hnew : CR w g s new x.cells) (htop : ∀ c ∈ new, c.top l.d = true) :
    ∃ w', (Instr.storeAt t (.pointer (some ⟨b, off, none⟩)) x).run P w = .ok () w' ∧ Mak w0 K w g s d .undef (s.set l (putC cs new off)) undef w' := by
  obtain ⟨k1, k2, k3⟩ := hnew
  obtain ⟨vs, T, e1, e2, e3⟩ := h.obj l cs b h3 hb
  have hfl := h.flat l cs h3
  have hone : ∀ u ∈ x.cells.toList, u.oneCell' = true := fun u hu' => by
    obtain ⟨i, hi⟩ := List.mem_iff_getElem?.1 hu'
    have hil : i < new.length := by rw [k1]; simpa using (List.getElem?_eq_some_iff.1 hi).1
    have h5 := k3 i new[i] (List.getElem?_eq_getElem hil)
    have h6 : x.cells[i]? = some u := by simpa using hi
    rw [h6] at h5
    exact (h5.one (k2 _ (List.getElem_mem hil))).1
  have hst := run_storeCells_at P b off T x.cells.toList 0 vs w e1 (by simp only [Array.length_toList, ← k1]; omega) hone
  simp only [Nat.add_zero, Array.length_toList] at hst
  have hrun : (Instr.storeAt t (.pointer (some ⟨b, off, none⟩)) x).run P w = .ok () (w.setRow b (vs.toList.take off ++ x.cells.toList ++ vs.toList.drop (off + x.cells.size)).toArray) := by
    have hsz : x.cells.size = n := by rw [← k1]; exact hn
    simp [Instr.storeAt, Instr.sureAddr, storeVar, (shp_run h1 w).2, hsz]
    simpa [hsz] using hst
  have hcr : CL1 w g s cs vs := ⟨e2, fun c hc => (hfl c hc).1, e3⟩
  have hvs : ∀ i, ((vs.toList.take off ++ x.cells.toList ++ vs.toList.drop (off + x.cells.size)).toArray)[i]? = if off ≤ i ∧ i < off + new.length then x.cells[i - off]? else vs[i]? := fun i => by
    rw [k1]
    have hle : off + x.cells.size ≤ vs.size := by rw [← k1]; omega
    simp only [List.getElem?_toArray]
    by_cases i1 : i < off
    · rw [if_neg (by omega), List.append_assoc, List.getElem?_append_left (by simp; omega), List.getElem?_take, if_pos i1]
      simp
    · by_cases i2 : i < off + x.cells.size
      · rw [if_pos ⟨by omega, i2⟩, List.getElem?_append_left (by simp; omega), List.getElem?_append_right (by simp; omega)]
        simp
        congr 1
        omega
      · rw [if_neg (by omega), List.getElem?_append_right (by simp; omega), List.getElem?_drop]
        simp
        congr 1
        omega
  have hvz : ((vs.toList.take off ++ x.cells.toList ++ vs.toList.drop (off + x.cells.size)).toArray).size = vs.size := by
    simp
    omega
  refine ⟨_, hrun, ?_⟩
  have hput := CL1.put (off := off) hcr ⟨k1, k2, k3⟩ (by omega) hvz hvs
  have hall : ∀ c ∈ putC cs new off, c.flat = true ∧ c.top l.d = true := fun c hc => by
    rcases mem_putC hc with hc | hc
    · exact hfl c hc
    · exact ⟨k2 c hc, htop c hc⟩
  obtain ⟨r1, r2, r3⟩ := h.put hu h3 hb e1 hput.1 hvz hall hput.2.2
  exact ⟨g, .undef, r1, r2, r3⟩
theorem storePSound (h : St w0 K w g s) (hu : s.Und (d + 1)) {t : TypeId} {m v : MV} {a x : Value} (ha : VR w g s m a) (hx : VR w g s v x) {s' : Sto} {lim : Nat} (he : stP P lim d t s m v = some s') :
    ∃ w', (Instr.storeAt t a x).run P w = .ok () w' ∧ Mak w0 K w g s d .undef s' undef w' := by
  cases ha <;> try (simp only [stP] at he; cases he; done)
  rename_i l off b hb hty
  simp only [stP] at he
  split at he
  · rename_i q n new cs h1 h2 h3
    split at he
    · rename_i hc
      obtain ⟨c1, c2, c3, c4⟩ := hc
      obtain ⟨new', hn', rfl⟩ := Option.map_eq_some_iff.1 he
      obtain ⟨r1, r2⟩ := CR.keep (hx.cells h2) hn'
      exact storeGen h hu hb h1 h3 (by rw [(mapM_keep _ _ _ hn').1]; exact c1) c2 r1 r2
    · cases he
  · cases he

theorem garbSound (h : St w0 K w g s) (hu : s.Und (d + 1)) (x : Obj) (u : Value) : Mak w0 K w g s d .junk s u (w.alloc x) := by
  obtain ⟨r1, r2⟩ := h.garb x
  exact ⟨g, .junk u, r1, r2, hu⟩

/-- A list of elements and the row of their cells. -/
theorem row_elem {z : Nat} : ∀ (xs : List (List MV)), (∀ x ∈ xs, x.length = z) → ∀ (i j : Nat) (x : List MV), xs[i]? = some x → j < z → xs.flatten[i * z + j]? = x[j]?
  | [], _, i, j, x, h, _ => by simp at h
  | y :: ys, hz, 0, j, x, h, hj => by
    simp only [List.getElem?_cons_zero, Option.some.injEq] at h
    subst h
    rw [List.flatten_cons, Nat.zero_mul, Nat.zero_add, List.getElem?_append_left (by rw [hz y (List.mem_cons_self ..)]; exact hj)]
  | y :: ys, hz, i + 1, j, x, h, hj => by
    have hy := hz y (List.mem_cons_self ..)
    have ih := row_elem ys (fun x hx => hz x (List.mem_cons_of_mem _ hx)) i j x (by simpa using h) hj
    rw [List.flatten_cons, List.getElem?_append_right (by rw [hy, Nat.succ_mul]; omega), hy]
    rw [← ih]
    congr 1
    rw [Nat.succ_mul]
    omega
theorem flatten_len {z : Nat} : ∀ (xs : List (List MV)), (∀ x ∈ xs, x.length = z) → xs.flatten.length = xs.length * z
  | [], _ => by simp
  | x :: xs, h => by
    rw [List.flatten_cons, List.length_append, flatten_len xs fun x hx => h x (List.mem_cons_of_mem _ hx), h x (List.mem_cons_self ..), List.length_cons, Nat.succ_mul]
    omega

/-- A slice of a new row. -/
theorem rowSound (h : St w0 K w g s) {s' : Sto} (hu' : s'.Und (d + 1)) {dd cc M z cap : Nat} (hs : TokUp s s' dd cc M z) (vs : Array Value) (T : TypeId) (hz : 0 < z) (hM : M ≤ cap) (hc : cap * z ≤ vs.size)
    {xs : List (List MV)} (hl : xs.length = M) (hx : ∀ x ∈ xs, x.length = z) (hp : ∀ x ∈ xs, ∀ c ∈ x, c.pur = true)
    (hv : ∀ (k : Nat) (c : MV), xs.flatten[k]? = some c → VR w g s c (vs[k]?.getD undef)) :
    Mak w0 K w g s d (.sl (.own dd cc) xs) s' (.slice (some ⟨w.heap.size, 0, none⟩) M cap) (w.alloc (.cells vs T)) := by
  obtain ⟨r1, r2⟩ := h.row hs vs T hz hM hc
  have hMz : M * z ≤ vs.size := Nat.le_trans (Nat.mul_le_mul_right z hM) hc
  refine ⟨_, ?_, r1, r2, hu'⟩
  subst hl
  refine .sl (.own dd cc) xs _ cap w.heap.size 0 z (fun i j => vs[i * z + j]?.getD undef) hM ⟨hs.lt, fun m z' ho => ?_⟩ (fun _ => rfl) hx (fun i j hi hj => ?_) (fun i x hix j c hjc => hp x (List.mem_of_getElem? hix) c (List.mem_of_getElem? hjc)) (fun i x hix j c hjc => ?_)
  · rw [hs.ow, if_pos ⟨rfl, rfl⟩] at ho
    cases ho
    exact ⟨Nat.le_refl _, fun _ => by simp⟩
  · have hlt : i * z + j < xs.length * z := by
      have : (i + 1) * z ≤ xs.length * z := Nat.mul_le_mul_right z hi
      rw [Nat.succ_mul] at this
      omega
    refine ⟨.inr ⟨rfl, by omega⟩, ?_⟩
    rw [Nat.zero_add, cell_of_cells (alloc_heap_new w _), Array.getElem?_eq_getElem (by omega)]
    rfl
  · have hj : j < z := by rw [← hx x (List.mem_of_getElem? hix)]; exact (List.getElem?_eq_some_iff.1 hjc).1
    have := hv (i * z + j) c (by rw [row_elem xs hx i j x hix hj]; exact hjc)
    exact this.ev r2

/-- Cells and values, one by one. -/
def CL (w : World) (g : Gh) (s : Sto) (cs : List MV) (vs : List Value) : Prop := cs.length = vs.length ∧ ∀ (i : Nat) (c : MV), cs[i]? = some c → VR w g s c (vs[i]?.getD undef)
theorem CL.nil : CL w g s [] [] := ⟨rfl, fun i c h => by simp at h⟩
theorem CL.append {cs cs' : List MV} {vs vs' : List Value} (h : CL w g s cs vs) (k : CL w g s cs' vs') : CL w g s (cs ++ cs') (vs ++ vs') := by
  refine ⟨by simp [h.1, k.1], fun i c hc => ?_⟩
  by_cases hi : i < cs.length
  · rw [List.getElem?_append_left hi] at hc
    rw [List.getElem?_append_left (by rw [← h.1]; exact hi)]
    exact h.2 i c hc
  · rw [List.getElem?_append_right (by omega)] at hc
    rw [List.getElem?_append_right (by rw [← h.1]; omega), ← h.1]
    exact k.2 _ c hc
theorem CL.cons {cs : List MV} {vs : List Value} {c : MV} {v : Value} (h : VR w g s c v) (k : CL w g s cs vs) : CL w g s (c :: cs) (v :: vs) :=
  CL.append (cs := [c]) (vs := [v]) ⟨rfl, fun i x hx => by cases i <;> simp at hx; subst hx; exact h⟩ k
theorem CL.ev {w' : World} {g' : Gh} {s' : Sto} {cs : List MV} {vs : List Value} (e : Ev w g s w' g' s') (h : CL w g s cs vs) : CL w' g' s' cs vs := ⟨h.1, fun i c hc => (h.2 i c hc).ev e⟩

theorem fillRow (z : Nat) : ∀ (qs : List (Nat × Value)) (i : Nat) (arr : Array Value), (∀ (k : Nat) (q : Nat × Value), qs[k]? = some q → q.1 = i + k ∧ q.2.cells.size = z) → (i + qs.length) * z = arr.size →
    ∃ arr', Instr.fill (fun i => some (i * z, z)) arr qs = some arr' ∧ arr'.toList = arr.toList.take (i * z) ++ (qs.map fun q => q.2.cells.toList).flatten
  | [], i, arr, _, hs => ⟨arr, rfl, by simp at hs ⊢; rw [List.take_of_length_le (by simp; omega)]⟩
  | (j, v) :: qs, i, arr, hq, hs => by
    obtain ⟨e1, e2⟩ := hq 0 (j, v) rfl
    simp only [Nat.add_zero] at e1 e2
    subst e1
    simp only [List.length_cons] at hs
    have hs' : (j + 1 + qs.length) * z = arr.size := by rw [← hs]; congr 1; omega
    have hjz : (j + 1) * z ≤ arr.size := by rw [← hs', Nat.add_mul (j + 1)]; omega
    have hj1 : (j + 1) * z = j * z + z := Nat.succ_mul j z
    obtain ⟨f1, f2⟩ := fold_set (j * z) v.cells.toList 0 arr (by simp [e2]; omega)
    have hz : (v.cells.zipIdx.foldl (fun cs (x : Value × Nat) => cs.setIfInBounds (j * z + x.2) x.1) arr) = ((v.cells.toList.zipIdx 0).foldl (fun cs (x : Value × Nat) => cs.setIfInBounds (j * z + x.2) x.1) arr) := by
      rw [← Array.foldl_toList]
      simp
    obtain ⟨arr', r1, r2⟩ := fillRow z qs (j + 1) (v.cells.zipIdx.foldl (fun cs (x : Value × Nat) => cs.setIfInBounds (j * z + x.2) x.1) arr) (fun k q hk => by
      have := hq (k + 1) q (by simpa using hk)
      exact ⟨by rw [this.1]; omega, this.2⟩) (by rw [hz, f1]; exact hs')
    refine ⟨arr', ?_, ?_⟩
    · simp only [Instr.fill]
      rw [if_neg (by simp [e2]; omega)]
      exact r1
    · rw [r2]
      simp only [List.map_cons, List.flatten_cons]
      rw [← List.append_assoc]
      congr 1
      apply List.ext_getElem?
      intro k
      rw [List.getElem?_take, hz, Array.getElem?_toList, f2 k]
      simp only [Nat.add_zero, Array.length_toList, e2]
      by_cases k1 : k < j * z
      · rw [if_pos (by omega), if_neg (by omega), List.getElem?_append_left (by simp; omega), List.getElem?_take, if_pos k1]
        simp
      · by_cases k2 : k < j * z + z
        · rw [if_pos (by omega), if_pos ⟨by omega, k2⟩, List.getElem?_append_right (by simp; omega)]
          simp
          congr 1
          omega
        · rw [if_neg (by omega), List.getElem?_eq_none (by simp [e2]; omega)]

theorem partsSound {z : Nat} : ∀ (ps : List (Nat × MV)) (i : Nat) (xs : List (List MV)) (qs : List (Nat × Value)), sliceParts z i ps = some xs → qs.length = ps.length →
    (∀ (k : Nat) (p : Nat × MV), ps[k]? = some p → ∃ q, qs[k]? = some q ∧ q.1 = p.1 ∧ VR w g s p.2 q.2) →
    xs.length = ps.length ∧ (∀ x ∈ xs, x.length = z) ∧ (∀ x ∈ xs, ∀ c ∈ x, c.pur = true) ∧ (∀ (k : Nat) (q : Nat × Value), qs[k]? = some q → q.1 = i + k ∧ q.2.cells.size = z) ∧ CL w g s xs.flatten (qs.map fun q => q.2.cells.toList).flatten
  | [], i, xs, qs, h, hl, _ => by
    cases h
    cases qs with
    | nil => exact ⟨rfl, by simp, by simp, by simp, .nil⟩
    | cons q qs => simp at hl
  | (j, v) :: ps, i, xs, qs, h, hl, hq => by
    cases qs with
    | nil => simp at hl
    | cons q qs =>
      obtain ⟨q', e1, e2, e3⟩ := hq 0 (j, v) rfl
      simp only [List.getElem?_cons_zero, Option.some.injEq] at e1
      subst e1
      simp only [sliceParts] at h
      split at h
      · rename_i hj
        subst hj
        obtain ⟨cs, hc, h⟩ := Option.bind_eq_some_iff.1 h
        split at h
        · rename_i hz
          obtain ⟨x, hx, h⟩ := Option.bind_eq_some_iff.1 h
          obtain ⟨xs', hxs, rfl⟩ := Option.map_eq_some_iff.1 h
          obtain ⟨r1, r2, r3, r4, r5⟩ := partsSound ps (j + 1) xs' qs hxs (by simpa using hl) (fun k p hk => by simpa using hq (k + 1) p (by simpa using hk))
          have hcr : CR w g s cs q.2.cells := e3.cells hc
          have hcr' := hcr.datas hx
          have hxl : x.length = z := by rw [(pur_of_datas hx).1]; simpa using hz
          refine ⟨by simp [r1], ?_, ?_, ?_, ?_⟩
          · intro y hy
            rcases List.mem_cons.1 hy with rfl | hy
            · exact hxl
            · exact r2 y hy
          · intro y hy
            rcases List.mem_cons.1 hy with rfl | hy
            · exact (pur_of_datas hx).2.1
            · exact r3 y hy
          · intro k p hk
            cases k with
            | zero =>
              simp only [List.getElem?_cons_zero, Option.some.injEq] at hk
              subst hk
              exact ⟨by rw [e2]; rfl, by rw [← hcr.1]; exact hz⟩
            | succ k =>
              have := r4 k p (by simpa using hk)
              exact ⟨by rw [this.1]; omega, this.2⟩
          · simp only [List.flatten_cons, List.map_cons]
            exact CL.append ⟨by simpa using hcr'.1, fun i c hi => by simpa using hcr'.2.2 i c hi⟩ r5
        · cases h
      · cases h

theorem bslSound (h : St w0 K w g s) (hu : s.Und (d + 1)) {t : TypeId} {n : Nat} {ps : List (Nat × MV)} {qs : Array (Nat × Value)} {r : MV × Sto} (hl : qs.size = ps.length)
    (hq : ∀ (i : Nat) (p : Nat × MV), ps[i]? = some p → ∃ q, qs[i]? = some q ∧ q.1 = p.1 ∧ VR w g s p.2 q.2) (he : bslO P d t n ps s = some r) :
    ∃ u w', (Instr.buildSlice t n qs).run P w = .ok u w' ∧ Mak w0 K w g s d r.1 r.2 u w' := by
  simp only [bslO] at he
  split at he
  · rename_i e z b hs
    split at he
    · rename_i hc
      obtain ⟨hc1, hc2, hc3⟩ := hc
      obtain ⟨xs, hxs, rfl⟩ := Option.map_eq_some_iff.1 he
      obtain ⟨inf, zv, hu1, hinf, hsz, hby, hzv, hzs⟩ := slc_spec hs
      obtain ⟨r1, r2, r3, r4, r5⟩ := partsSound (w := w) (g := g) (s := s) ps 0 xs qs.toList hxs (by simpa using hl) (fun k p hk => by simpa using hq k p hk)
      have hql : qs.toList.length = n := by simpa using hl.trans hc1
      obtain ⟨arr', a1, a2⟩ := fillRow z qs.toList 0 ((Array.range (n * z)).map (fun k => (if n * z = 0 then #[] else zv.cells)[k % (if n * z = 0 then #[] else zv.cells).size]!)) (fun k q hk => by simpa using r4 k q hk) (by simp [← hql])
      simp only [Nat.zero_mul, List.take_zero, List.nil_append] at a2
      have hrun : (Instr.buildSlice t n qs).run P w = .ok (.slice (some ⟨w.heap.size, 0, none⟩) n n) (w.alloc (.cells arr' e)) := by
        have hlt : ¬ (2 ^ 24 < n * z) := by omega
        simp only [Instr.buildSlice, Sem.run_bind, run_underlying hu1, Result.andThen_ok, sizeOf, typeInfo, run_program, hinf, Sem.run_pure, hsz]
        rw [if_neg (by omega)]
        by_cases h0 : n * z = 0
        · simp only [h0, if_true] at a1 ⊢
          simp [newRow] at a1 ⊢
          simp [a1]
        · simp only [h0, if_false] at a1 ⊢
          simp [zeroValue, typeInfo, hinf, hzv, a1, newRow]
      have hf : (xs.flatten).length = n * z := by rw [flatten_len xs r2, r1, hc1]
      have harr : arr'.size = n * z := by
        have := congrArg List.length a2
        rw [Array.length_toList, ← r5.1] at this
        rw [this, hf]
      refine ⟨_, _, hrun, ?_⟩
      have := rowSound (d := d) h (Und.fresh hu n z) (TokUp.fresh s d n z) arr' e hc3 (Nat.le_refl n) (by omega) (r1.trans hc1) r2 r3 (fun k c hk => by
        have h5 := r5.2 k c hk
        rw [← a2] at h5
        simpa using h5)
      exact this
    · cases he
  · cases he
end
end Go.Mv
/- append. -/
namespace Go.Mv
section
variable {P : Program} {w0 w : World} {K : Kp} {g : Gh} {s : Sto} {d : Nat}

theorem run_append_room' (t ty e T : TypeId) (i : TypeInfo) (ht : P.underlying t = some (.slice e)) (hi : P.info? e = some i)
    (b sLen sCap : Nat) (cur : Array Value) (hg : w.heap[b]? = some (.cells cur T (0, 0)))
    (a : Addr) (m c : Nat) (news : List Value) (hl : news.length = m * i.size) (hnews : ∀ j u, news[j]? = some u → w.cell? (a.add j) = some u) (h1 : ∀ u ∈ news, u.oneCell' = true)
    (hroom : sLen + m ≤ sCap) (hfit : sLen * i.size + news.length ≤ cur.size) :
    (Builtin.append_ #[t, t] ty #[.slice (some ⟨b, 0, none⟩) sLen sCap, .slice (some a) m c]).run P w =
      .ok (.slice (some ⟨b, 0, none⟩) (sLen + m) sCap) (w.setRow b (cur.toList.take (sLen * i.size) ++ news ++ cur.toList.drop (sLen * i.size + news.length)).toArray) := by
  have hf := run_firstCells_some (P := P) w i.size m a m c news hl hnews
  have hst := run_storeCells_at P b (sLen * i.size) T news 0 cur w hg (by simpa using hfit) h1
  simp only [Nat.add_zero] at hst
  simp [Builtin.append_, run_underlying ht, sizeOf, typeInfo, hi, Builtin.lenOf, hroom, hf, Addr.add_lit, hst]

theorem run_append_zero (t ty e : TypeId) (i : TypeInfo) (ht : P.underlying t = some (.slice e)) (hi : P.info? e = some i) (a a' : Option Addr) (n cap c : Nat) (hn : n ≤ cap) :
    (Builtin.append_ #[t, t] ty #[.slice a n cap, .slice a' 0 c]).run P w = .ok (.slice a n cap) w := by
  have hf : (Builtin.firstCells i.size 0 (.slice a' 0 c)).run P w = .ok #[] w := by
    cases a' <;> simp [Builtin.firstCells, loadCells, loadCellsFrom]
  cases a <;> simp [Builtin.append_, run_underlying ht, sizeOf, typeInfo, hi, Builtin.lenOf, hn, hf, storeCells]

theorem mapM_datas : ∀ (ys ys' : List (List MV)), ys.mapM datas = some ys' → ys'.length = ys.length ∧ ys'.flatten = ys.flatten.map MV.era ∧ (∀ z, (∀ y ∈ ys, y.length = z) → ∀ y ∈ ys', y.length = z) ∧ (∀ y ∈ ys', ∀ c ∈ y, c.pur = true)
  | [], ys', h => by
    simp at h
    subst h
    exact ⟨rfl, rfl, by simp, by simp⟩
  | y :: ys, ys', h => by
    rw [List.mapM_cons] at h
    cases hy : datas y with
    | none => simp [hy] at h
    | some x =>
      cases hr : ys.mapM datas with
      | none => simp [hy, hr] at h
      | some xs =>
        simp [hy, hr] at h
        subst h
        obtain ⟨r1, r2, r3, r4⟩ := mapM_datas ys xs hr
        obtain ⟨e1, e2, _⟩ := pur_of_datas hy
        refine ⟨by simp [r1], by simp [r2, e1], fun z hz q hq => ?_, fun q hq => ?_⟩
        · rcases List.mem_cons.1 hq with rfl | hq
          · rw [e1, List.length_map]; exact hz y (List.mem_cons_self ..)
          · exact r3 z (fun y hy => hz y (List.mem_cons_of_mem _ hy)) q hq
        · rcases List.mem_cons.1 hq with rfl | hq
          · exact e2
          · exact r4 q hq

/-- A slice's cells in the world. -/
theorem slice_cells {xs : List (List MV)} {b o z : Nat} {u : Nat → Nat → Value} (hz : ∀ x ∈ xs, x.length = z) (hF : ∀ i j, i < xs.length → j < z → g.F b (o + i * z + j) ∧ w.cell? ⟨b, o + i * z + j, none⟩ = some (u i j))
    (hp : ∀ (i : Nat) (x : List MV), xs[i]? = some x → ∀ (j : Nat) (c : MV), x[j]? = some c → c.pur = true)
    (hv : ∀ (i : Nat) (x : List MV), xs[i]? = some x → ∀ (j : Nat) (c : MV), x[j]? = some c → VR w g s c (u i j)) :
    ∃ vs : List Value, vs.length = xs.length * z ∧ (∀ j v, vs[j]? = some v → g.F b (o + j) ∧ w.cell? ⟨b, o + j, none⟩ = some v) ∧ (∀ v ∈ vs, v.oneCell' = true) ∧ CL w g s xs.flatten vs := by
  have key : ∀ k, k < xs.length * z → ∃ v, g.F b (o + k) ∧ w.cell? ⟨b, o + k, none⟩ = some v ∧ v.oneCell' = true ∧ ∀ c, xs.flatten[k]? = some c → VR w g s c v := fun k hk => by
    have hz0 : 0 < z := by
      apply Nat.pos_of_ne_zero
      rintro rfl
      simp at hk
    have hi : k / z < xs.length := Nat.div_lt_of_lt_mul (by rw [Nat.mul_comm]; exact hk)
    have hj : k % z < z := Nat.mod_lt _ hz0
    have hk' : k / z * z + k % z = k := Nat.div_add_mod' k z
    obtain ⟨f1, f2⟩ := hF _ _ hi hj
    rw [Nat.add_assoc, hk'] at f1 f2
    have hx : xs[k / z]? = some xs[k / z] := List.getElem?_eq_getElem hi
    have hxl := hz _ (List.getElem_mem hi)
    have hc : xs[k / z][k % z]? = some (xs[k / z][k % z]'(by rw [hxl]; exact hj)) := List.getElem?_eq_getElem _
    have hvr := hv _ _ hx _ _ hc
    refine ⟨_, f1, f2, (hvr.one (flat_of_pur (hp _ _ hx _ _ hc))).1, fun c hcc => ?_⟩
    rw [← hk', row_elem xs hz _ _ _ hx hj, hc] at hcc
    cases hcc
    exact hvr
  refine ⟨(List.range (xs.length * z)).map fun k => (w.cell? ⟨b, o + k, none⟩).getD undef, by simp, fun j v hj => ?_, fun v hv' => ?_, by simp [flatten_len xs hz], fun i c hc => ?_⟩
  · rw [List.getElem?_map, Option.map_eq_some_iff] at hj
    obtain ⟨k, hk, rfl⟩ := hj
    have hkl : j < xs.length * z := by simpa using (List.getElem?_eq_some_iff.1 hk).1
    have : k = j := by rw [List.getElem?_range hkl] at hk; cases hk; rfl
    subst this
    obtain ⟨v, f1, f2, _⟩ := key k hkl
    rw [f2]
    exact ⟨f1, rfl⟩
  · obtain ⟨k, hk, rfl⟩ := List.mem_map.1 hv'
    obtain ⟨v, f1, f2, f3, _⟩ := key k (List.mem_range.1 hk)
    rw [f2]
    exact f3
  · have hil : i < xs.length * z := by rw [← flatten_len xs hz]; exact (List.getElem?_eq_some_iff.1 hc).1
    obtain ⟨v, f1, f2, f3, f4⟩ := key i hil
    rw [List.getElem?_map, List.getElem?_range hil]
    simp only [Option.map_some, Option.getD_some, f2]
    exact f4 c hc

theorem CL.era {cs : List MV} {vs : List Value} (h : CL w g s cs vs) : CL w g s (cs.map MV.era) vs := ⟨by simpa using h.1, fun i c hc => by
  rw [List.getElem?_map] at hc
  obtain ⟨c', hc', rfl⟩ := Option.map_eq_some_iff.1 hc
  exact (h.2 i c' hc').era⟩

theorem appSound (h : St w0 K w g s) (hu : s.Und (d + 1)) {t ty : TypeId} {m m' : MV} {a a' : Value} (ha : VR w g s m a) (ha' : VR w g s m' a') {r : MV × Sto} {lim : Nat} (he : appO P lim d t s m m' = some r) :
    ∃ u w', (Builtin.append_ #[t, t] ty #[a, a']).run P w = .ok u w' ∧ Mak w0 K w g s d r.1 r.2 u w' := by
  cases ha <;> cases ha' <;> try (simp only [appO] at he; cases he; done)
  rename_i tk xs a cap b o z u hcap htok ha hz hF hp hv tk' ys a' cap' b' o' z' u' hcap' htok' ha' hz' hF' hp' hv'
  simp only [appO] at he
  split at he
  · rename_i e sz by' hs
    obtain ⟨inf, zv, hu1, hinf, hsz, hby, hzv, hzs⟩ := slc_spec hs
    split at he
    · rename_i hy
      cases he
      subst hy
      refine ⟨_, _, run_append_zero t ty e inf hu1 hinf a a' xs.length cap cap' hcap, g, .sl tk xs a cap b o z u hcap htok ha hz hF hp hv, h, .refl _ _ _, hu⟩
    · rename_i hy
      split at he
      · rename_i hc
        obtain ⟨hc0, hc1, hc2, hc3, hc4⟩ := hc
        have hay := ha' hy
        subst hay
        have hzs' : z' = sz := by
          cases ys with
          | nil => exact absurd rfl hy
          | cons y ys =>
            simp only [okz, List.all_cons, Bool.and_eq_true, beq_iff_eq] at hc1
            rw [← hz' y (List.mem_cons_self ..)]
            exact hc1.1
        subst hzs'
        cases hym : ys.mapM datas with
        | none => simp [hym] at he
        | some ys' =>
          simp only [hym] at he
          obtain ⟨y1, y2, y3, y4⟩ := mapM_datas ys ys' hym
          have y3' := y3 z' hz'
          obtain ⟨news, n1, n2, n3, n4⟩ := slice_cells (s := s) hz' hF' hp' hv'
          have n4' : CL w g s ys'.flatten news := by rw [y2]; exact n4.era
          have hm0 : 0 < ys.length := List.length_pos_iff.2 hy
          have hbig : xs.length + ys.length ≤ 140737488355328 := Nat.le_trans (Nat.le_mul_of_pos_right _ hc3) hc4
          have hnews : ∀ j v, news[j]? = some v → w.cell? ((⟨b', o', none⟩ : Addr).add j) = some v := fun j v hj => by rw [add_lit]; exact (n2 j v hj).2
          cases tk with
          | no => simp at he
          | byt d' c q => simp at he
          | nil =>
            simp only at he
            split at he
            · rename_i hx
              cases he
              subst hx
              obtain ⟨rfl, rfl⟩ := htok
              simp only [List.length_nil, Nat.zero_add] at hc4 hbig
              have hrun := run_append_nil (P := P) w t ty e inf zv hu1 hinf hzv ⟨b', o', none⟩ ys.length cap' news (by rw [hsz]; exact n1) hnews hm0 (by omega) (by rw [hby]; omega)
              refine ⟨_, _, hrun, ?_⟩
              obtain ⟨hd1, hd2⟩ := h.same (w' := w.drew) rfl rfl rfl rfl
              have hge := grownCap_ge w ys.length 0 e
              obtain ⟨g', q1, q2, q3, q4⟩ := rowSound (d := d) hd1 (Und.fresh hu ys'.length z') (TokUp.fresh s d ys'.length z') (cap := grownCap w ys.length 0 e) (news.toArray ++ Builtin.zeroCells zv.cells (grownCap w ys.length 0 e - ys.length)) e hc2 (by rw [y1]; exact hge)
                (by
                  simp only [Array.size_append, List.size_toArray, size_zeroCells, hzs, n1, ← Nat.add_mul]
                  exact Nat.mul_le_mul_right _ (by omega)) rfl y3' y4 (fun k c hk => by
                  have hkl : k < news.length := by rw [← n4'.1]; exact (List.getElem?_eq_some_iff.1 hk).1
                  have := (n4'.2 k c hk).ev hd2
                  rw [Array.getElem?_append_left (by simpa using hkl)]
                  simpa using this)
              refine ⟨g', ?_, q2, hd2.trans q3, q4⟩
              change VR _ g' ((s.own d (s.ct d) (some (ys'.length, z'))).tick d) (.sl (.own d (s.ct d)) ys') _
              rw [y1] at q1 ⊢
              exact q1
            · cases he
          | own d' c =>
            simp only at he
            split at he
            · rename_i ho
              obtain ⟨_, ho⟩ := ho
              cases he
              obtain ⟨t1, t2⟩ := htok
              obtain ⟨_, t3⟩ := t2 _ _ ho
              obtain ⟨rfl, rfl⟩ := t3 rfl
              obtain ⟨vs, T, k1, k2, k3, k4, k5, k6, k7, k8⟩ := h.tok d' c _ _ ho
              have hup : TokUp s (s.own d' c (some (xs.length + ys'.length, z'))) d' c (xs.length + ys'.length) z' := TokUp.grow t1 ho (by omega)
              have hu' := Und.grow hu ho (some (xs.length + ys'.length, z'))
              -- the old cells
              have hxs : ∃ olds : List Value, olds.length = xs.length * z' ∧ (∀ j v, olds[j]? = some v → g.F (g.τ d' c).1 (0 + j) ∧ w.cell? ⟨(g.τ d' c).1, 0 + j, none⟩ = some v) ∧ CL w g s xs.flatten olds ∧ (∀ x ∈ xs, x.length = z') ∧ (∀ x ∈ xs, ∀ c ∈ x, c.pur = true) := by
                by_cases hx0 : xs = []
                · subst hx0
                  exact ⟨[], by simp, by simp, .nil, by simp, by simp⟩
                · have e1 := ha hx0
                  rw [k8] at e1
                  simp only [Option.some.injEq, Addr.mk.injEq] at e1
                  obtain ⟨e1, e2, _⟩ := e1
                  subst e1
                  have e2' : o = 0 := e2.symm
                  subst e2'
                  have hzz : z = z' := by
                    cases xs with
                    | nil => exact absurd rfl hx0
                    | cons x xs =>
                      simp only [okz, List.all_cons, Bool.and_eq_true, beq_iff_eq] at hc0
                      rw [← hz x (List.mem_cons_self ..)]
                      exact hc0.1
                  subst hzz
                  obtain ⟨olds, o1, o2, _, o4⟩ := slice_cells (s := s) hz hF hp hv
                  exact ⟨olds, o1, o2, o4, hz, fun x hx c hcx => by
                    obtain ⟨i, hi⟩ := List.mem_iff_getElem?.1 hx
                    obtain ⟨j, hj⟩ := List.mem_iff_getElem?.1 hcx
                    exact hp i x hi j c hj⟩
              obtain ⟨olds, o1, o2, o4, o5, o6⟩ := hxs
              have hxz : ∀ x ∈ xs ++ ys', x.length = z' := fun x hx => (List.mem_append.1 hx).elim (o5 x) (y3' x)
              have hxp : ∀ x ∈ xs ++ ys', ∀ c ∈ x, c.pur = true := fun x hx => (List.mem_append.1 hx).elim (o6 x) (y4 x)
              have hcl : CL w g s (xs ++ ys').flatten (olds ++ news) := by rw [List.flatten_append]; exact o4.append n4'
              have hon : (olds ++ news).length = (xs.length + ys.length) * z' := by rw [List.length_append, o1, n1, Nat.add_mul]
              by_cases hroom : xs.length + ys.length ≤ (g.τ d' c).2.2
              · -- there is room
                have hfit : xs.length * inf.size + news.length ≤ vs.size := by
                  rw [hsz, n1, ← Nat.add_mul]
                  have := Nat.mul_le_mul_right z' hroom
                  omega
                have hrun := run_append_room' (P := P) (w := w) t ty e T inf hu1 hinf (g.τ d' c).1 xs.length (g.τ d' c).2.2 vs k1 ⟨b', o', none⟩ ys.length cap' news (by rw [hsz]; exact n1) hnews n3 hroom hfit
                rw [hsz] at hrun hfit
                have hvz : ((vs.toList.take (xs.length * z') ++ news ++ vs.toList.drop (xs.length * z' + news.length)).toArray).size = vs.size := by
                  simp
                  omega
                have hvs : ∀ i, i < xs.length * z' → ((vs.toList.take (xs.length * z') ++ news ++ vs.toList.drop (xs.length * z' + news.length)).toArray)[i]? = vs[i]? := fun i hi => by
                  simp only [List.getElem?_toArray]
                  rw [List.append_assoc, List.getElem?_append_left (by simp; omega), List.getElem?_take, if_pos hi]
                  simp
                have hvn : ∀ i v, (olds ++ news)[i]? = some v → ((vs.toList.take (xs.length * z') ++ news ++ vs.toList.drop (xs.length * z' + news.length)).toArray)[i]? = some v := fun i v hi => by
                  by_cases hi1 : i < xs.length * z'
                  · rw [hvs i hi1]
                    rw [List.getElem?_append_left (by rw [o1]; exact hi1)] at hi
                    have := (o2 i v hi).2
                    rw [Nat.zero_add, cell_of_cells k1] at this
                    exact this
                  · rw [List.getElem?_append_right (by rw [o1]; omega), o1] at hi
                    have hin : i - xs.length * z' < news.length := (List.getElem?_eq_some_iff.1 hi).1
                    simp only [List.getElem?_toArray]
                    rw [List.getElem?_append_left (by simp; omega), List.getElem?_append_right (by simp; omega)]
                    have e1 : (vs.toList.take (xs.length * z')).length = xs.length * z' := by simp; omega
                    rw [e1]
                    exact hi
                obtain ⟨x1, x2⟩ := h.ext hup ho (Nat.le_add_right _ _) (by rw [y1]; exact hroom) k1 hvz (fun i hi => hvs i (by rw [k8] at hi; omega))
                have hval : Value.slice (some ⟨(g.τ d' c).1, (g.τ d' c).2.1, none⟩) xs.length (g.τ d' c).2.2 = .slice (some ⟨(g.τ d' c).1, 0, none⟩) xs.length (g.τ d' c).2.2 := by rw [k8]
                rw [hval]
                refine ⟨_, _, hrun, _, ?_, x1, x2, hu'⟩
                have hlen : (xs ++ ys').length = xs.length + ys.length := by rw [List.length_append, y1]
                rw [← hlen]
                refine .sl (.own d' c) (xs ++ ys') _ _ (g.τ d' c).1 0 z' (fun i j => ((olds ++ news)[i * z' + j]?).getD undef) (by rw [hlen]; exact hroom) ⟨hup.lt, fun m zz hmz => ?_⟩ (fun _ => rfl) hxz (fun i j hi hj => ?_) (fun i x hix j c hjc => hxp x (List.mem_of_getElem? hix) c (List.mem_of_getElem? hjc)) (fun i x hix j c hjc => ?_)
                · rw [hup.ow, if_pos ⟨rfl, rfl⟩] at hmz
                  cases hmz
                  exact ⟨by rw [hlen, y1]; exact Nat.le_refl _, fun _ => by simp [k8]⟩
                · have hlt : i * z' + j < (xs.length + ys.length) * z' := by
                    have : (i + 1) * z' ≤ (xs.length + ys.length) * z' := Nat.mul_le_mul_right z' (by rw [← hlen]; exact hi)
                    rw [Nat.succ_mul] at this
                    omega
                  have hget : (olds ++ news)[i * z' + j]? = some ((olds ++ news)[i * z' + j]'(by rw [hon]; exact hlt)) := List.getElem?_eq_getElem _
                  constructor
                  · by_cases hi1 : i * z' + j < xs.length * z'
                    · left
                      have hg : olds[i * z' + j]? = some (olds[i * z' + j]'(by rw [o1]; exact hi1)) := List.getElem?_eq_getElem _
                      have := (o2 _ _ hg).1
                      rw [← Nat.add_assoc] at this
                      exact this
                    · right
                      refine ⟨rfl, ?_, ?_⟩
                      · rw [k8]; omega
                      · rw [k8, y1]; omega
                  · rw [cell_of_cells (setRow_heap w _ vs _ T (0, 0) k1), Nat.zero_add, hget]
                    exact hvn _ _ hget
                · have hj : j < z' := by rw [← hxz x (List.mem_of_getElem? hix)]; exact (List.getElem?_eq_some_iff.1 hjc).1
                  exact (hcl.2 (i * z' + j) c (by rw [row_elem _ hxz i j x hix hj]; exact hjc)).ev x2
              · -- a new row
                have hval : Value.slice (some ⟨(g.τ d' c).1, (g.τ d' c).2.1, none⟩) xs.length (g.τ d' c).2.2 = .slice (some ⟨(g.τ d' c).1, 0, none⟩) xs.length (g.τ d' c).2.2 := by rw [k8]
                rw [hval]
                have hrun := run_append_grow (P := P) w t ty e inf zv hu1 hinf hzv ⟨(g.τ d' c).1, 0, none⟩ xs.length (g.τ d' c).2.2 olds (by rw [hsz]; exact o1) (fun j v hj => by rw [add_lit]; exact (o2 j v hj).2) ⟨b', o', none⟩ ys.length cap' news (by rw [hsz]; exact n1) hnews (by omega) (by omega)
                  (growslice_fits (by omega) (by rw [hby]; exact hc4))
                refine ⟨_, _, hrun, ?_⟩
                obtain ⟨hd1, hd2⟩ := h.same (w' := w.drew) rfl rfl rfl rfl
                have hge := grownCap_ge w (xs.length + ys.length) (g.τ d' c).2.2 e
                obtain ⟨g', q1, q2, q3, q4⟩ := rowSound (d := d) hd1 hu' hup (cap := grownCap w (xs.length + ys.length) (g.τ d' c).2.2 e) (olds.toArray ++ news.toArray ++ Builtin.zeroCells zv.cells (grownCap w (xs.length + ys.length) (g.τ d' c).2.2 e - (xs.length + ys.length))) e hc2 (by rw [y1]; exact hge)
                  (by
                    simp only [Array.size_append, List.size_toArray, size_zeroCells, hzs, n1, o1, ← Nat.add_mul]
                    exact Nat.mul_le_mul_right _ (by omega)) (by rw [List.length_append]) hxz hxp (fun k c hk => by
                    have hkl : k < (olds ++ news).length := by rw [← hcl.1]; exact (List.getElem?_eq_some_iff.1 hk).1
                    have := (hcl.2 k c hk).ev hd2
                    rw [Array.getElem?_append_left (by simpa using hkl)]
                    simpa using this)
                refine ⟨g', ?_, q2, hd2.trans q3, q4⟩
                change VR _ g' (s.own d' c (some (xs.length + ys'.length, z'))) (.sl (.own d' c) (xs ++ ys')) _
                rw [y1] at q1 ⊢
                exact q1
            · cases he
      · cases he
  · cases he
end
end Go.Mv
/- Rows that lie in the store: appended to, and made. -/
namespace Go.Mv
section
variable {P : Program} {w0 w : World} {K : Kp} {g : Gh} {s : Sto} {d : Nat}

theorem mapM_keeps (n : Nat) : ∀ (ys ys' : List (List MV)), ys.mapM (fun y => y.mapM (keepD n)) = some ys' → ys'.length = ys.length ∧ ys.flatten.mapM (keepD n) = some ys'.flatten
  | [], ys', h => by simp at h; subst h; simp
  | y :: ys, ys', h => by
    rw [List.mapM_cons] at h
    cases hy : y.mapM (keepD n) with
    | none => simp [hy] at h
    | some x =>
      cases hr : ys.mapM (fun y => y.mapM (keepD n)) with
      | none => simp [hy, hr] at h
      | some xs =>
        simp [hy, hr] at h
        subst h
        obtain ⟨r1, r2⟩ := mapM_keeps n ys xs hr
        refine ⟨by simp [r1], ?_⟩
        rw [List.flatten_cons, List.flatten_cons, List.mapM_append, hy, r2]
        rfl
theorem CL.keep {n : Nat} {cs new : List MV} {vs : List Value} (h : CL w g s cs vs) (k : cs.mapM (keepD n) = some new) : CL w g s new vs ∧ (∀ c ∈ new, c.flat = true) ∧ ∀ c ∈ new, c.top n = true := by
  obtain ⟨r1, r2⟩ := mapM_keep n cs new k
  have key : ∀ c ∈ new, c.flat = true ∧ c.top n = true := fun c hc => by
    obtain ⟨i, hi⟩ := List.mem_iff_getElem?.1 hc
    obtain ⟨c', e1, e2⟩ := r2 i c hi
    exact (keepD_spec e2 (h.2 i c' e1)).2
  refine ⟨⟨r1.trans h.1, fun i c hc => ?_⟩, fun c hc => (key c hc).1, fun c hc => (key c hc).2⟩
  obtain ⟨c', e1, e2⟩ := r2 i c hc
  exact (keepD_spec e2 (h.2 i c' e1)).1

/-- A row in a new block. -/
theorem rowNew (h : St w0 K w g s) (hu : s.Und (d + 1)) {dd : Nat} (hdd : dd ≤ d) {t : Nat} (ht : t < 1000000) (T : TypeId) {n z cap : Nat} {cs : List MV} {vs : Array Value} (hn : n ≤ cap) (hv : vs.size = cap * z) (hl : cs.length ≤ vs.size) (hf : ∀ c ∈ cs, c.flat = true) (htop : ∀ c ∈ cs, c.top dd = true)
    (hvr : ∀ (i : Nat) (c : MV), cs[i]? = some c → VR w g s c (vs[i]?.getD undef)) :
    Mak w0 K w g s d (rowO s dd t n z cs).1 (rowO s dd t n z cs).2 (.slice (some ⟨w.heap.size, 0, none⟩) n cap) (w.alloc (.cells vs T)) := by
  obtain ⟨h1, h2, h3, h4⟩ := h.newAt hu hdd t cs vs T hl hf htop hvr
  exact ⟨_, .rs _ 0 n z _ cap h4 hn ⟨ht, fun _ => ⟨T, by rw [shape_of_cells (alloc_heap_new w _), hv, Nat.zero_add]⟩⟩, h1, h2, h3⟩

theorem appRSound (h : St w0 K w g s) (hu : s.Und (d + 1)) {t ty : TypeId} {m m' : MV} {a a' : Value} (ha : VR w g s m a) (ha' : VR w g s m' a') {r : MV × Sto} {lim up dst : Nat} (he : appR P lim d up dst t s m m' = some r) :
    ∃ u w', (Builtin.append_ #[t, t] ty #[a, a']).run P w = .ok u w' ∧ Mak w0 K w g s d r.1 r.2 u w' := by
  cases ha' <;> try (simp only [appR] at he; cases he; done)
  rename_i tk' ys a' cap' b' o' z' u' hcap' htok' ha' hz' hF' hp' hv'
  simp only [appR] at he
  split at he
  · rename_i e sz by' hs
    obtain ⟨inf, zv, hu1, hinf, hsz, hby, hzv, hzs⟩ := slc_spec hs
    split at he
    · rename_i hc
      obtain ⟨c1, c2, c3, c4, c5, c6, c7⟩ := hc
      have hay := ha' c7
      subst hay
      have hzs' : z' = sz := by
        cases ys with
        | nil => exact absurd rfl c7
        | cons y ys =>
          simp only [okz, List.all_cons, Bool.and_eq_true, beq_iff_eq] at c3
          rw [← hz' y (List.mem_cons_self ..)]
          exact c3.1
      subst hzs'
      split at he
      · rename_i ys' hym
        obtain ⟨y1, y2⟩ := mapM_keeps _ ys ys' hym
        obtain ⟨news, n1, n2, n3, n4⟩ := slice_cells (s := s) hz' hF' hp' hv'
        obtain ⟨n5, n6, n7⟩ := n4.keep y2
        have hm0 : 0 < ys.length := List.length_pos_iff.2 c7
        have hnews : ∀ j v, news[j]? = some v → w.cell? ((⟨b', o', none⟩ : Addr).add j) = some v := fun j v hj => by rw [add_lit]; exact (n2 j v hj).2
        obtain ⟨hd1, hd2⟩ := h.same (w' := w.drew) rfl rfl rfl rfl
        split at he
        · -- nil
          split at he
          · rename_i hb
            cases he
            obtain ⟨rfl⟩ : a = .slice none 0 0 := by
              cases ha with
              | sl t xs a cap b o z u hcap htok ha hz hF hp hv =>
                obtain ⟨rfl, rfl⟩ := htok
                rfl
            have hbig : ys.length ≤ 140737488355328 := Nat.le_trans (Nat.le_mul_of_pos_right _ c5) hb
            have hrun := run_append_nil (P := P) w t ty e inf zv hu1 hinf hzv ⟨b', o', none⟩ ys.length cap' news (by rw [hsz]; exact n1) hnews hm0 (by omega) (by rw [hby]; omega)
            refine ⟨_, _, hrun, ?_⟩
            have hge := grownCap_ge w ys.length 0 e
            have hvz : (news.toArray ++ Builtin.zeroCells zv.cells (grownCap w ys.length 0 e - ys.length)).size = grownCap w ys.length 0 e * z' := by
              simp only [Array.size_append, List.size_toArray, size_zeroCells, hzs, n1, ← Nat.add_mul]
              congr 1
              omega
            obtain ⟨g', q1, q2, q3, q4⟩ := rowNew (d := d) hd1 hu (Nat.sub_le d up) (t := 500000 + dst) (by omega) e (n := ys.length) (cs := ys'.flatten) hge hvz (by rw [n5.1]; simp only [Array.size_append, List.size_toArray]; omega) n6 n7 (fun k c hk => by
                have hkl : k < news.length := by rw [← n5.1]; exact (List.getElem?_eq_some_iff.1 hk).1
                have := (n5.2 k c hk).ev hd2
                rw [Array.getElem?_append_left (by simpa using hkl)]
                simpa using this)
            exact ⟨g', q1, q2, hd2.trans q3, q4⟩
          · cases he
        · -- a row
          rename_i l off len z
          split at he
          · rename_i cs hcs
            split at he
            · rename_i hc
              obtain ⟨k1, k2, k3, k4, k5, k6, k7, k8⟩ := hc
              cases he
              subst k1; subst k2
              cases ha
              rename_i b cap hb hcap hrow
              obtain ⟨vs, T, e1, e2, e3⟩ := h.obj l cs b hcs hb
              have hfl := h.flat l cs hcs
              obtain ⟨q, hsh⟩ := hrow.2 k4
              rw [shape_of_cells e1] at hsh
              have hvsz : vs.size = cap * z := by
                have := (Prod.mk.inj (Option.some.inj hsh)).2
                omega
              have hdel := h.del l
              have hudel := Und.del hu l
              have htop : ∀ c ∈ cs ++ ys'.flatten, c.top (d - up) = true := fun c hc => (List.mem_append.1 hc).elim (fun hc => List.all_eq_true.1 k7 c hc) (n7 c)
              have hflat : ∀ c ∈ cs ++ ys'.flatten, c.flat = true := fun c hc => (List.mem_append.1 hc).elim (fun hc => (hfl c hc).1) (n6 c)
              have hbig : len + ys.length ≤ 140737488355328 := Nat.le_trans (Nat.le_mul_of_pos_right _ c5) k8
              have holen : (vs.toList.take (len * z)).length = len * z := by simp; omega
              have hone : ∀ i v, (vs.toList.take (len * z))[i]? = some v → vs[i]? = some v := fun i v hi => by
                rw [List.getElem?_take] at hi
                split at hi
                · simpa using hi
                · cases hi
              have hcl : ∀ (i : Nat) (c : MV), (cs ++ ys'.flatten)[i]? = some c → VR w g s c ((vs.toList.take (len * z) ++ news)[i]?.getD undef) := fun i c hi => by
                by_cases hlt : i < cs.length
                · rw [List.getElem?_append_left hlt] at hi
                  rw [List.getElem?_append_left (by rw [holen]; omega), List.getElem?_take, if_pos (by omega)]
                  have := e3 i c hi
                  simpa using this
                · rw [List.getElem?_append_right (by omega)] at hi
                  rw [List.getElem?_append_right (by rw [holen]; omega), holen, k3]
                  exact n5.2 _ c hi
              have hcn : (cs ++ ys'.flatten).length = (len + ys.length) * z := by rw [List.length_append, n5.1, n1, ← k3, Nat.add_mul]
              by_cases hroom : len + ys.length ≤ cap
              · have hfit : len * inf.size + news.length ≤ vs.size := by
                  rw [hsz, n1, ← Nat.add_mul, hvsz]
                  exact Nat.mul_le_mul_right z hroom
                have hrun := run_append_room' (P := P) (w := w) t ty e T inf hu1 hinf b len cap vs e1 ⟨b', o', none⟩ ys.length cap' news (by rw [hsz]; exact n1) hnews n3 hroom hfit
                rw [hsz] at hrun hfit
                have hvz : ((vs.toList.take (len * z) ++ news ++ vs.toList.drop (len * z + news.length)).toArray).size = vs.size := by
                  simp
                  omega
                have hvr : ∀ (i : Nat) (c : MV), (cs ++ ys'.flatten)[i]? = some c → VR w g s c (((vs.toList.take (len * z) ++ news ++ vs.toList.drop (len * z + news.length)).toArray)[i]?.getD undef) := fun i c hi => by
                  have hlt : i < (vs.toList.take (len * z) ++ news).length := by
                    have := (List.getElem?_eq_some_iff.1 hi).1
                    rw [hcn] at this
                    rw [List.length_append, holen, n1, ← Nat.add_mul]
                    exact this
                  simp only [List.getElem?_toArray]
                  rw [List.getElem?_append_left hlt]
                  exact hcl i c hi
                obtain ⟨r1, r2, r3, r4⟩ := hdel.1.alias (b := b) hudel (Nat.sub_le d up) ⟨l, hb⟩ (fun l' hp => by
                    by_cases hll : l' = l
                    · subst hll
                      exact ⟨by simp [Sto.del], k5⟩
                    · obtain ⟨i1, i2⟩ := h.inj l' l b hp hb (by rw [hcs]; rfl)
                      refine ⟨?_, by omega⟩
                      simp only [Sto.del]
                      rw [if_neg hll]
                      cases ho : s.ob l' with
                      | none => rfl
                      | some x => exact absurd (i2 (by rw [ho]; rfl)) hll) (500000 + dst) e1 (cs ++ ys'.flatten) (by rw [hvz, hcn, hvsz]; exact Nat.mul_le_mul_right z hroom) hvz hflat htop (fun i c hi => (hvr i c hi).ev hdel.2)
                refine ⟨_, _, hrun, _, .rs _ 0 (len + ys.length) z b cap r4 hroom ⟨by show 500000 + dst < 1000000; omega, fun _ => ⟨T, ?_⟩⟩, r1, hdel.2.trans r2, r3⟩
                rw [shape_of_cells (setRow_heap w b vs _ T (0, 0) e1), hvz, hvsz, Nat.zero_add]
              · have hrun := run_append_grow (P := P) w t ty e inf zv hu1 hinf hzv ⟨b, 0, none⟩ len cap (vs.toList.take (len * z)) (by rw [hsz]; exact holen) (fun j v hj => by rw [add_lit, Nat.zero_add, cell_of_cells e1]; exact hone j v hj) ⟨b', o', none⟩ ys.length cap' news (by rw [hsz]; exact n1) hnews (by omega) (by omega)
                  (growslice_fits (by omega) (by rw [hby]; exact k8))
                refine ⟨_, _, hrun, ?_⟩
                have hge := grownCap_ge w (len + ys.length) cap e
                have hvz : ((vs.toList.take (len * z)).toArray ++ news.toArray ++ Builtin.zeroCells zv.cells (grownCap w (len + ys.length) cap e - (len + ys.length))).size = grownCap w (len + ys.length) cap e * z := by
                  simp only [Array.size_append, List.size_toArray, size_zeroCells, hzs, n1, holen, ← Nat.add_mul]
                  congr 1
                  omega
                have hd1' := hd1.del l
                obtain ⟨g', q1, q2, q3, q4⟩ := rowNew (d := d) hd1'.1 hudel (Nat.sub_le d up) (t := 500000 + dst) (by omega) e (n := len + ys.length) (cs := cs ++ ys'.flatten) hge hvz (by rw [hvz, hcn]; exact Nat.mul_le_mul_right z hge) hflat htop (fun k c hk => by
                    have hkl : k < (vs.toList.take (len * z) ++ news).length := by
                      have := (List.getElem?_eq_some_iff.1 hk).1
                      rw [hcn] at this
                      rw [List.length_append, holen, n1, ← Nat.add_mul]
                      exact this
                    have := (hcl k c hk).ev (hd2.trans hd1'.2)
                    rw [Array.getElem?_append_left (by simpa using hkl)]
                    simpa using this)
                exact ⟨g', q1, q2, (hd2.trans hd1'.2).trans q3, q4⟩
            · cases he
          · cases he
        · cases he
      · cases he
    · cases he
  · cases he

theorem appXSound {C : Cfg} (h : St w0 K w g s) (hu : s.Und (d + 1)) {t ty : TypeId} {m m' : MV} {a a' : Value} (ha : VR w g s m a) (ha' : VR w g s m' a') {r : MV × Sto} {lim dst : Nat} (he : appX C lim d dst t s m m' = some r) :
    ∃ u w', (Builtin.append_ #[t, t] ty #[a, a']).run C.P w = .ok u w' ∧ Mak w0 K w g s d r.1 r.2 u w' := by
  unfold appX at he
  split at he
  · exact appRSound h hu ha ha' he
  · exact appSound h hu ha ha' he

theorem made_cells {z : List MV} {zv : Value} {k : Nat} (hz : CR w g s z zv.cells) (hl : z.length = k) (h0 : 0 < k) (n : Nat) : ∀ (i : Nat) (c : MV), (List.replicate n z).flatten[i]? = some c → VR w g s c ((madeCells zv.cells (n * k))[i]?.getD undef) := fun i c hi => by
  have hlen : (List.replicate n z).flatten.length = n * k := by
    rw [flatten_len (z := k) _ (fun x hx => by rw [List.eq_of_mem_replicate hx]; exact hl), List.length_replicate]
  have hin : i < n * k := by rw [← hlen]; exact (List.getElem?_eq_some_iff.1 hi).1
  have hq : i / k < n := Nat.div_lt_of_lt_mul (by rw [Nat.mul_comm]; exact hin)
  have hr : i % k < k := Nat.mod_lt _ h0
  have hk : i / k * k + i % k = i := Nat.div_add_mod' i k
  have h1 := row_elem (z := k) (List.replicate n z) (fun x hx => by rw [List.eq_of_mem_replicate hx]; exact hl) (i / k) (i % k) z (by rw [List.getElem?_replicate, if_pos hq]) hr
  rw [hk, hi] at h1
  have h2 := hz.2.2 (i % k) c h1.symm
  have hsz : zv.cells.size = k := by rw [← hz.1]; exact hl
  have : (madeCells zv.cells (n * k))[i]? = some (zv.cells[i % k]'(by rw [hsz]; exact hr)) := by
    simp only [madeCells, Array.getElem?_map]
    rw [Array.getElem?_range, if_pos hin]
    simp only [Option.map_some, hsz]
    rw [getElem!_pos zv.cells (i % k) (by rw [hsz]; exact hr)]
  rw [this]
  rw [Array.getElem?_eq_getElem (by rw [hsz]; exact hr)] at h2
  exact h2

theorem mkRSound (h : St w0 K w g s) (hu : s.Und (d + 1)) {t : TypeId} {m m' : MV} {a a' : Value} (ha : VR w g s m a) (ha' : VR w g s m' a') {r : MV × Sto} {lim up dst : Nat} (he : mkR P lim d up dst t s m m' = some r) :
    ∃ u w', (Instr.makeSlice t a a').run P w = .ok u w' ∧ Mak w0 K w g s d r.1 r.2 u w' := by
  unfold mkR at he
  split at he
  · rename_i n c
    cases ha
    cases ha'
    split at he
    · rename_i e sz by' hs
      obtain ⟨inf, zv, hu1, hinf, hsz, hby, hzv, hzs⟩ := slc_spec hs
      split at he
      · rename_i z hz
        split at he
        · rename_i hc
          obtain ⟨c1, c2, c3, rfl, c5, c6, c7, c8, c9⟩ := hc
          cases he
          obtain ⟨z0, hz0, hzc⟩ := Option.bind_eq_some_iff.1 hz
          unfold zer at hz0
          simp only [hinf, hzv, Option.bind_some, Option.map_some, Option.some.injEq] at hz0
          subst hz0
          have hcr : CR w g s z zv.cells := (VR_ofV zv).cells hzc
          have htz := top_ofV hzc
          have hb1 : c ≤ 140737488355328 := by
            have : c * 1 ≤ c * (by' : Int) ∨ by' = 0 := by
              rcases Nat.eq_zero_or_pos by' with h0 | h0
              · exact .inr h0
              · exact .inl (Int.mul_le_mul_of_nonneg_left (by omega) c3)
            rcases this with h1 | h1
            · omega
            · subst h1
              have h2 : c.toNat * 1 ≤ c.toNat * sz := Nat.mul_le_mul_left _ c6
              omega
          have hrun := run_make (P := P) w t e inf zv hu1 hinf hzv .i64 .i64 c c c3 (Int.le_refl _) (by rw [hby, Int.mul_comm]; omega) (by omega)
          rw [hsz] at hrun
          refine ⟨_, _, hrun, ?_⟩
          have hl : (List.replicate c.toNat z).flatten.length = c.toNat * sz := by
            rw [flatten_len (z := sz) _ (fun x hx => by rw [List.eq_of_mem_replicate hx]; exact c5), List.length_replicate]
          refine rowNew h hu (Nat.sub_le d up) (by omega) e (Nat.le_refl _) (size_madeCells _ _) (by rw [hl, size_madeCells]; exact Nat.le_refl _) (fun c hc => ?_) (fun c hc => ?_) (made_cells hcr c5 c6 _)
          · obtain ⟨x, hx, hcx⟩ := List.mem_flatten.1 hc
            rw [List.eq_of_mem_replicate hx] at hcx
            exact hcr.2.1 c hcx
          · obtain ⟨x, hx, hcx⟩ := List.mem_flatten.1 hc
            rw [List.eq_of_mem_replicate hx] at hcx
            exact htz _ c hcx
        · cases he
      · cases he
    · cases he
  · cases he
theorem mkXSound {C : Cfg} (h : St w0 K w g s) (hu : s.Und (d + 1)) {t : TypeId} {m m' : MV} {a a' : Value} (ha : VR w g s m a) (ha' : VR w g s m' a') {r : MV × Sto} {lim dst : Nat} (he : mkX C lim d dst t s m m' = some r) :
    ∃ u w', (Instr.makeSlice t a a').run C.P w = .ok u w' ∧ Mak w0 K w g s d r.1 r.2 u w' := by
  unfold mkX at he
  split at he
  · exact mkRSound h hu ha ha' he
  · cases he
end
end Go.Mv
/- What is made ahead of depth lim is left as it is. -/
namespace Go.Mv
variable {C : Cfg} {lim d : Nat}

structure Same (lim : Nat) (s s' : Sto) : Prop where
  ob : ∀ l, l.d < lim → s'.ob l = s.ob l
  ow : ∀ d c, d < lim → s'.ow d c = s.ow d c
  ct : ∀ d, d < lim → s'.ct d = s.ct d
theorem Same.refl (s : Sto) : Same lim s s := ⟨fun _ _ => rfl, fun _ _ _ => rfl, fun _ _ => rfl⟩
theorem Same.trans {s s' s'' : Sto} (h : Same lim s s') (k : Same lim s' s'') : Same lim s s'' :=
  ⟨fun l hl => (k.ob l hl).trans (h.ob l hl), fun d c hd => (k.ow d c hd).trans (h.ow d c hd), fun d hd => (k.ct d hd).trans (h.ct d hd)⟩
theorem Same.set {s : Sto} {l : Loc} (h : lim ≤ l.d) (cs : List MV) : Same lim s (s.set l cs) :=
  ⟨fun l' hl => by simp only [Sto.set]; rw [if_neg (by rintro rfl; omega)], fun _ _ _ => rfl, fun _ _ => rfl⟩
theorem Same.tick {s : Sto} (h : lim ≤ d) : Same lim s (s.tick d) :=
  ⟨fun _ _ => rfl, fun _ _ _ => rfl, fun d' hd => by simp only [Sto.tick, upd]; rw [if_neg (by omega)]⟩
theorem Same.own {s : Sto} (h : lim ≤ d) (c : Nat) (v : Option (Nat × Nat)) : Same lim s (s.own d c v) :=
  ⟨fun _ _ => rfl, fun d' c' hd => by simp only [Sto.own]; rw [if_neg (by omega)], fun _ _ => rfl⟩
theorem Same.cut {s : Sto} (h : lim ≤ d) : Same lim s (s.cut d) :=
  ⟨fun l hl => by simp only [Sto.cut]; rw [if_pos (by omega)], fun d' c hd => by simp only [Sto.cut]; rw [if_pos (by omega)], fun d' hd => by simp only [Sto.cut]; rw [if_pos (by omega)]⟩
theorem Same.alloc {s : Sto} (h : lim ≤ d) (t : Nat) (cs : List MV) : Same lim s (allocO s d t cs).2 := (Same.set (l := ⟨d, t, s.ct d⟩) h cs).trans (.tick h)
theorem Same.tok {s : Sto} (h : lim ≤ d) (n z : Nat) (xs : List (List MV)) : Same lim s (tokO s d n z xs).2 := (Same.own h _ _).trans (.tick h)

theorem Same.del {s : Sto} {l : Loc} (h : lim ≤ l.d) : Same lim s (s.del l) :=
  ⟨fun l' hl => by simp only [Sto.del]; rw [if_neg (by rintro rfl; omega)], fun _ _ _ => rfl, fun _ _ => rfl⟩
theorem Same.rowO {s : Sto} (h : lim ≤ d) (t n z : Nat) (cs : List MV) : Same lim s (rowO s d t n z cs).2 := (Same.set (l := ⟨d, t, s.ct d⟩) h cs).trans (.tick h)

/-- A call keeps what lies ahead of its limit. -/
def Keeps (c : Call) : Prop := ∀ lim d f args s r, lim ≤ d → c lim d f args s = some r → Same lim s r.2

theorem stO_same {P : Program} {t : TypeId} {s s' : Sto} {m v : MV} (hd : lim ≤ d) (h : stO P lim d t s m v = some s') : Same lim s s' := by
  unfold stO at h
  split at h
  · rename_i l off
    split at h
    · split at h
      · split at h
        · split at h
          · rename_i hl
            obtain ⟨new', _, rfl⟩ := Option.map_eq_some_iff.1 h
            exact .set hl _
          · cases h
        · split at h
          · rename_i hl
            cases h
            exact .set (by omega) _
          · cases h
      · cases h
    · cases h
  · cases h
theorem stK_same {P : Program} {t : TypeId} {s s' : Sto} {m v : MV} (hd : lim ≤ d) (h : stK P lim d t s m v = some s') : Same lim s s' := by
  unfold stK at h
  split at h
  · split at h
    · split at h
      · rename_i hc
        obtain ⟨_, _, hl1, hl2⟩ := hc
        split at h
        · cases h; exact .set hl2 _
        · split at h
          · cases h; exact .set hl2 _
          · rename_i hk
            split at h
            · split at h
              · cases h
                exact (((Same.own (by omega) _ _).trans (.own hl2 _ _)).trans (.tick hl2)).trans (.set hl2 _)
              · cases h
            · cases h
        · cases h; exact .set hl2 _
      · cases h
    · cases h
  · cases h
theorem appO_same {P : Program} {t : TypeId} {s : Sto} {m v : MV} {r : MV × Sto} (hd : lim ≤ d) (h : appO P lim d t s m v = some r) : Same lim s r.2 := by
  unfold appO at h
  split at h
  · split at h
    · split at h
      · cases h; exact .refl _
      · split at h
        · split at h
          · split at h
            · split at h
              · cases h; exact .tok hd _ _ _
              · cases h
            · split at h
              · rename_i hl
                cases h
                exact .own hl.1 _ _
              · cases h
            · cases h
            · cases h
          · cases h
        · cases h
    · cases h
  · cases h
theorem bslO_same {P : Program} {t : TypeId} {n : Nat} {ps : List (Nat × MV)} {s : Sto} {r : MV × Sto} (hd : lim ≤ d) (h : bslO P d t n ps s = some r) : Same lim s r.2 := by
  unfold bslO at h
  split at h
  · split at h
    · obtain ⟨xs, _, rfl⟩ := Option.map_eq_some_iff.1 h
      exact .tok hd _ _ _
    · cases h
  · cases h

theorem allocU_same {C : Cfg} {t lt : Nat} {o : Option Tmp} {cs : List MV} {s : Sto} {r : MV × Sto} (hd : lim ≤ d) (h : allocU C lim d t o lt cs s = some r) : Same lim s r.2 := by
  unfold allocU at h
  split at h
  · rename_i hc
    cases h
    exact .alloc (by omega) _ _
  · cases h
theorem boxU_same {C : Cfg} {t lt : Nat} {o : Option Tmp} {cs : List MV} {s : Sto} {r : MV × Sto} (hd : lim ≤ d) (h : boxU C lim d t o lt cs s = some r) : Same lim s r.2 := by
  unfold boxU at h
  split at h
  · cases h
    exact .alloc hd _ _
  · split at h
    · rename_i hc
      obtain ⟨cs', _, rfl⟩ := Option.map_eq_some_iff.1 h
      exact .alloc (by omega) _ _
    · cases h
theorem stP_same {P : Program} {t : TypeId} {s s' : Sto} {m v : MV} (h : stP P lim d t s m v = some s') : Same lim s s' := by
  unfold stP at h
  split at h
  · split at h
    · split at h
      · rename_i hc
        obtain ⟨_, _, rfl⟩ := Option.map_eq_some_iff.1 h
        exact .set hc.2.2.2 _
      · cases h
    · cases h
  · cases h
theorem appX_same {C : Cfg} {dst : Nat} {t : TypeId} {s : Sto} {m v : MV} {r : MV × Sto} (hd : lim ≤ d) (h : appX C lim d dst t s m v = some r) : Same lim s r.2 := by
  unfold appX at h
  split at h
  · unfold appR at h
    split at h
    · split at h
      · split at h
        · rename_i hc
          split at h
          · split at h
            · split at h
              · cases h; exact .rowO hc.2.1 _ _ _ _
              · cases h
            · split at h
              · split at h
                · rename_i hk
                  cases h
                  exact (Same.del hk.2.2.2.2.2.1).trans (.rowO hc.2.1 _ _ _ _)
                · cases h
              · cases h
            · cases h
          · cases h
        · cases h
      · cases h
    · cases h
  · exact appO_same hd h
theorem mkX_same {C : Cfg} {dst : Nat} {t : TypeId} {s : Sto} {m v : MV} {r : MV × Sto} (h : mkX C lim d dst t s m v = some r) : Same lim s r.2 := by
  unfold mkX at h
  split at h
  · unfold mkR at h
    split at h
    · split at h
      · split at h
        · split at h
          · rename_i hc
            cases h
            exact .rowO hc.2.1 _ _ _ _
          · cases h
        · cases h
      · cases h
    · cases h
  · cases h

theorem evOp_same {c : Call} (hc : Keeps c) {a : Nat → MV} {o : Oper} {s : Sto} {r : MV × Sto} (hd : lim ≤ d) (h : evOp C c lim d a o s = some r) : Same lim s r.2 := by
  have pure' : ∀ {x : Option MV}, (x.map fun v => (v, s)) = some r → Same lim s r.2 := fun hx => by
    obtain ⟨v, _, rfl⟩ := Option.map_eq_some_iff.1 hx
    exact .refl _
  obtain ⟨dst, op, ty, pos, aft, gd⟩ := o
  cases op <;> simp only [evOp] at h <;> try (first | exact pure' h | (cases h; done))
  case move x => cases h; exact .refl _
  case assign x => cases h; exact .refl _
  case pick x y z =>
    split at h
    · cases h; exact .refl _
    · cases h
  case alloc t =>
    obtain ⟨z, _, h⟩ := Option.bind_eq_some_iff.1 h
    obtain ⟨cs, _, h⟩ := Option.bind_eq_some_iff.1 h
    exact allocU_same hd h
  case makeMap t r =>
    cases r <;> simp only at h
    · cases h; exact .refl _
    · cases h
  case makeSlice t n c => exact mkX_same h
  case box t x =>
    obtain ⟨cs, _, h⟩ := Option.bind_eq_some_iff.1 h
    exact boxU_same hd h
  case buildSlice t n ps => exact bslO_same hd h
  case store t x v =>
    obtain ⟨s', hs, rfl⟩ := Option.map_eq_some_iff.1 h
    split at hs
    · exact stK_same hd hs
    · split at hs
      · exact stP_same hs
      · exact stO_same hd hs
  case nilCheck x =>
    split at h <;> cases h <;> exact .refl _
  case slice t x lo hi mx =>
    cases mx <;> simp only at h
    · exact pure' h
    · cases h
  case extract x i =>
    split at h
    · exact pure' h
    · cases h
  case call k =>
    obtain ⟨callee, args, ts⟩ := k
    cases callee with
    | value f =>
      simp only at h
      split at h
      · exact hc _ _ _ _ _ _ (by omega) h
      · cases h
    | invoke _ _ => simp at h
    | builtin b =>
      simp only at h
      split at h <;> try (first | exact pure' h | (cases h; done))
      split at h
      · exact appX_same hd h
      · cases h

theorem evOps_same {c : Call} (hc : Keeps c) {ops : Array Oper} (hd : lim ≤ d) : ∀ (l : List Oper) {a : Nat → MV} {s : Sto} {r : (Nat → MV) × Sto}, evOps C c lim d ops l a s = some r → Same lim s r.2
  | [], _, _, _, h => by cases h; exact .refl _
  | o :: l, a, s, r, h => by
    simp only [evOps] at h
    split at h
    · obtain ⟨x, hx, h⟩ := Option.bind_eq_some_iff.1 h
      exact (evOp_same hc hd hx).trans (evOps_same hc hd l h)
    · exact evOps_same hc hd l h
    · cases h
theorem evNews_same (hd : lim ≤ d) : ∀ (l : List Oper) {a : Nat → MV} {s : Sto} {r : (Nat → MV) × Sto}, evNews C lim d l a s = some r → Same lim s r.2
  | [], _, _, _, h => by cases h; exact .refl _
  | o :: l, a, s, r, h => by
    simp only [evNews] at h
    split at h
    · obtain ⟨cs, _, h⟩ := Option.bind_eq_some_iff.1 h
      obtain ⟨x, hx, h⟩ := Option.bind_eq_some_iff.1 h
      exact (allocU_same hd hx).trans (evNews_same hd l h)
    · exact evNews_same hd l h
theorem evDraw_same {c : Call} (hc : Keeps c) {ops : Array Oper} (hd : lim ≤ d) {a : Nat → MV} {s : Sto} {r : (Nat → MV) × Sto} (h : evDraw C c lim d ops a s = some r) : Same lim s r.2 := by
  simp only [evDraw] at h
  obtain ⟨a1, _, h⟩ := Option.bind_eq_some_iff.1 h
  obtain ⟨x, h2, h⟩ := Option.bind_eq_some_iff.1 h
  exact (evNews_same hd _ h2).trans (evOps_same hc hd _ h)

theorem evOpsV_same {c : Call} (hc : Keeps c) {ops : Array Oper} (hd : lim ≤ d) : ∀ (l : List Oper) {i : Nat} {sf : List Nat} {a : Nat → MV} {s : Sto} {r : (Nat → MV) × Sto}, evOpsV C c lim d ops l i sf a s = some r → Same lim s r.2
  | [], _, _, _, _, _, h => by cases h; exact .refl _
  | o :: l, i, sf, a, s, r, h => by
    simp only [evOpsV] at h
    split at h
    · split at h
      · obtain ⟨x, hx, h⟩ := Option.bind_eq_some_iff.1 h
        split at h
        · exact (evOp_same hc hd hx).trans (evOpsV_same hc hd l h)
        · cases h
      · obtain ⟨v, hv, h⟩ := Option.bind_eq_some_iff.1 h
        exact evOpsV_same hc hd l h
    · split at h
      · exact evOpsV_same hc hd l h
      · exact evOpsV_same hc hd l h
    · cases h
theorem evHot_same {c : Call} (hc : Keeps c) {ops : Array Oper} (hd : lim ≤ d) {a : Nat → MV} {s : Sto} {r : (Nat → MV) × Sto} (h : evHot C c lim d ops a s = some r) : Same lim s r.2 := evOpsV_same hc hd _ h

theorem evOpsL_same {c : Call} (hc : Keeps c) {ops : Array Oper} {av : List Loc} (hd : lim ≤ d) : ∀ (l : List Oper) {a : Nat → MV} {s : Sto} {r : (Nat → MV) × Sto}, evOpsL C c lim d ops av l a s = some r → Same lim s r.2
  | [], _, _, _, h => by cases h; exact .refl _
  | o :: l, a, s, r, h => by
    simp only [evOpsL] at h
    split at h
    · split at h
      · obtain ⟨x, hx, h⟩ := Option.bind_eq_some_iff.1 h
        exact (evOp_same hc hd hx).trans (evOpsL_same hc hd l h)
      · cases h
    · exact evOpsL_same hc hd l h
    · cases h
theorem evLoose_same {c : Call} (hc : Keeps c) {ops : Array Oper} (hd : lim ≤ d) {a : Nat → MV} {s : Sto} {r : (Nat → MV) × Sto} (h : evLoose C c lim d ops a s = some r) : Same lim s r.2 := by
  simp only [evLoose] at h
  obtain ⟨a1, _, h⟩ := Option.bind_eq_some_iff.1 h
  split at h
  · obtain ⟨x, h2, h⟩ := Option.bind_eq_some_iff.1 h
    exact (evNews_same hd _ h2).trans (evOpsL_same hc hd _ h)
  · cases h

theorem evLoop_same {b : (Nat → MV) → Sto → Out} (hb : ∀ a s e a' s', b a s = some (e, a', s') → Same lim s s') : ∀ (n : Nat) {a : Nat → MV} {s : Sto} {e : Ex} {a' : Nat → MV} {s' : Sto}, evLoop b n a s = some (e, a', s') → Same lim s s'
  | 0, _, _, _, _, _, h => by cases h
  | n + 1, a, s, e, a', s', h => by
    simp only [evLoop] at h
    cases hx : b a s with
    | none => simp [hx] at h
    | some x =>
      obtain ⟨e1, a1, s1⟩ := x
      simp only [hx] at h
      cases e1 with
      | nrm => exact (hb _ _ _ _ _ hx).trans (evLoop_same hb n h)
      | exit id => cases h; exact hb _ _ _ _ _ hx
      | ret => cases h; exact hb _ _ _ _ _ hx
      | goto l => cases h; exact hb _ _ _ _ _ hx

theorem evScope_same {has : Nat → Bool} {go : Nat → (Nat → MV) → Sto → Out} (hg : ∀ l a s e a' s', go l a s = some (e, a', s') → Same lim s s') : ∀ (n : Nat) {e0 : Ex} {a0 : Nat → MV} {s0 : Sto} {e : Ex} {a' : Nat → MV} {s' : Sto}, evScope has go n (some (e0, a0, s0)) = some (e, a', s') → Same lim s0 s' := by
  intro n
  induction n with
  | zero =>
    intro e0 a0 s0 e a' s' h
    cases e0 <;> simp only [evScope] at h
    · cases h; exact .refl _
    · cases h; exact .refl _
    · cases h; exact .refl _
    · split at h
      · cases h
      · cases h; exact .refl _
  | succ n ih =>
    intro e0 a0 s0 e a' s' h
    cases e0 <;> simp only [evScope] at h
    · cases h; exact .refl _
    · cases h; exact .refl _
    · cases h; exact .refl _
    · rename_i l
      split at h
      · cases hq : go l a0 s0 with
        | none => rw [hq, evScope_none] at h; cases h
        | some y =>
          obtain ⟨e1, a1, s1⟩ := y
          rw [hq] at h
          exact (hg _ _ _ _ _ _ hq).trans (ih h)
      · cases h; exact .refl _
mutual
theorem evCode_same {c : Call} (hc : Keeps c) {n : Nat} (hd : lim ≤ d) : ∀ (x : Code) {a : Nat → MV} {s : Sto} {e : Ex} {a' : Nat → MV} {s' : Sto}, evCode C c n lim d x a s = some (e, a', s') → Same lim s s'
  | .skip, _, _, _, _, _, h => by cases h; exact .refl _
  | .label _, _, _, _, _, _, h => by cases h; exact .refl _
  | .region _ ops false, _, _, _, _, _, h => by
    simp only [evCode, Option.map_eq_some_iff] at h
    obtain ⟨x, hx, hr⟩ := h
    cases hr
    exact evOps_same hc hd _ hx
  | .region _ ops true, _, _, _, _, _, h => by
    simp only [evCode, Option.map_eq_some_iff] at h
    obtain ⟨x, hx, hr⟩ := h
    cases hr
    split at hx
    · split at hx
      · exact evHot_same hc hd hx
      · cases hx
    · split at hx
      · exact evDraw_same hc hd hx
      · split at hx
        · exact evLoose_same hc hd hx
        · cases hx
  | .seq x y, a, s, e, a', s', h => by
    simp only [evCode] at h
    cases hx : evCode C c n lim d x a s with
    | none => simp [hx] at h
    | some z =>
      obtain ⟨e1, a1, s1⟩ := z
      simp only [hx] at h
      cases e1 with
      | nrm => exact (evCode_same hc hd x hx).trans (evCode_same hc hd y h)
      | exit id => cases h; exact evCode_same hc hd x hx
      | ret => cases h; exact evCode_same hc hd x hx
      | goto l => cases h; exact evCode_same hc hd x hx
  | .cond v x y, a, s, e, a', s', h => by
    simp only [evCode] at h
    cases hv : valO a v <;> rw [hv] at h <;> try (simp at h; done)
    rename_i b
    cases b
    · exact evCode_same hc hd y h
    · exact evCode_same hc hd x h
  | .block id x, a, s, e, a', s', h => by
    simp only [evCode] at h
    cases hx : evCode C c n lim d x a s with
    | none => simp [hx] at h
    | some z =>
      obtain ⟨e1, a1, s1⟩ := z
      rw [hx] at h
      have := evCode_same hc hd x hx
      cases e1 with
      | nrm => cases h; exact this
      | exit id' =>
        simp only at h
        split at h <;> cases h <;> exact this
      | ret => cases h; exact this
      | goto l => cases h; exact this
  | .loop x, a, s, e, a', s', h => evLoop_same (fun a s e a' s' hx => evCode_same hc hd x hx) n h
  | .exit _, _, _, _, _, _, h => by cases h; exact .refl _
  | .ret, _, _, _, _, _, h => by cases h; exact .refl _
  | .goto _, _, _, _, _, _, h => by simp only [evCode] at h; cases h; exact .refl _
  | .scope x, a, s, e, a', s', h => by
    simp only [evCode] at h
    cases hx : evCode C c n lim d x a s with
    | none => rw [hx, evScope_none] at h; cases h
    | some z =>
      obtain ⟨e1, a1, s1⟩ := z
      rw [hx] at h
      exact (evCode_same hc hd x hx).trans (evScope_same (fun l a s e a' s' hq => evAt_same hc hd x l hq) n h)
  | .rangeFunc .., _, _, _, _, _, h => by simp [evCode] at h
  | .refuse _, _, _, _, _, _, h => by simp [evCode] at h
theorem evAt_same {c : Call} (hc : Keeps c) {n : Nat} (hd : lim ≤ d) : ∀ (x : Code) (l : Nat) {a : Nat → MV} {s : Sto} {e : Ex} {a' : Nat → MV} {s' : Sto}, evAt C c n lim d x l a s = some (e, a', s') → Same lim s s'
  | .seq x y, l, a, s, e, a', s', h => by
    simp only [evAt] at h
    split at h
    · cases hx : evAt C c n lim d x l a s with
      | none => simp [hx] at h
      | some z =>
        obtain ⟨e1, a1, s1⟩ := z
        simp only [hx] at h
        cases e1 with
        | nrm => exact (evAt_same hc hd x l hx).trans (evCode_same hc hd y h)
        | exit id => cases h; exact evAt_same hc hd x l hx
        | ret => cases h; exact evAt_same hc hd x l hx
        | goto l => cases h; exact evAt_same hc hd x _ hx
    · exact evAt_same hc hd y l h
  | .label l', l, a, s, e, a', s', h => by
    simp only [evAt] at h
    split at h
    · cases h; exact .refl _
    · cases h
  | .skip, _, _, _, _, _, _, h => by simp [evAt] at h
  | .region .., _, _, _, _, _, _, h => by simp [evAt] at h
  | .cond .., _, _, _, _, _, _, h => by simp [evAt] at h
  | .block .., _, _, _, _, _, _, h => by simp [evAt] at h
  | .loop _, _, _, _, _, _, _, h => by simp [evAt] at h
  | .exit _, _, _, _, _, _, _, h => by simp [evAt] at h
  | .ret, _, _, _, _, _, _, h => by simp [evAt] at h
  | .goto _, _, _, _, _, _, _, h => by simp [evAt] at h
  | .scope _, _, _, _, _, _, _, h => by simp [evAt] at h
  | .rangeFunc .., _, _, _, _, _, _, h => by simp [evAt] at h
  | .refuse _, _, _, _, _, _, _, h => by simp [evAt] at h
end

theorem mev_keeps (hp : ∀ f p, C.prim f = some p → Keeps fun lim d _ args σ => p lim d args σ) (n : Nat) : Keeps (mev C n) := by
  induction n with
  | zero => intro lim d f args s r _ h; cases h
  | succ n ih =>
    intro lim d f args s r hd h
    simp only [mev] at h
    split at h
    · rename_i p hpf
      exact hp f p hpf lim d f args s r hd h
    · split at h
      · split at h
        · split at h
          · rename_i c _ _
            cases hx : evCode C (mev C n) n lim d c (startA args) s with
            | none => simp [hx, endO] at h
            | some z =>
              obtain ⟨e, a', s'⟩ := z
              have := evCode_same ih hd c hx
              cases e <;> simp only [hx, endO] at h
              · obtain ⟨v, _, h⟩ := Option.bind_eq_some_iff.1 h
                obtain ⟨v', _, rfl⟩ := Option.map_eq_some_iff.1 h
                exact this.trans (.cut hd)
              · cases h
              · obtain ⟨v, _, h⟩ := Option.bind_eq_some_iff.1 h
                obtain ⟨v', _, rfl⟩ := Option.map_eq_some_iff.1 h
                exact this.trans (.cut hd)
              · cases h
          · cases h
        · cases h
      · cases h
end Go.Mv
/- A call's end: what was made in it is gone; and blocks that are kept for a while. -/
namespace Go.Mv
section
variable {w0 w w' : World} {K : Kp} {g g' : Gh} {s s' : Sto} {d : Nat}

/-- What was made at depth d, or beyond, stays as it is from then on. -/
def Gh.cut (g : Gh) (s : Sto) (d : Nat) : Gh :=
  { g with F := fun b o => g.F b o ∨ ∃ l cs, d ≤ l.d ∧ s.ob l = some cs ∧ g.π l = some b ∧ o < cs.length, π := fun l => if l.d < d then g.π l else none }
theorem cutF (b o : Nat) (h : g.F b o) : (g.cut s d).F b o ∧ w.cell? ⟨b, o, none⟩ = w.cell? ⟨b, o, none⟩ := ⟨.inl h, rfl⟩

theorem VR.cutPure {m : MV} {v : Value} (k : VR w g s m v) (hm : m.pur = true) : VR w (g.cut s d) (s.cut d) m v := VR.pure' (g := g) (s := s) (g' := g.cut s d) (s' := s.cut d) (fun b o h => cutF b o h) k hm

theorem VR.cutTop {n : Nat} (hn : n < d) {m : MV} {v : Value} (k : VR w g s m v) (hf : m.flat = true) (ht : m.top n = true) : VR w (g.cut s d) (s.cut d) m v := by
  cases k <;> try (cases hf; done)
  case bool b => exact .bool b
  case int k n => exact .int k n
  case str x => exact .str x
  case ptr l off b hb hty =>
    refine .ptr l off b ?_ hty
    simp only [MV.top, decide_eq_true_eq] at ht
    simp only [Gh.cut]
    rw [if_pos (by omega)]
    exact hb
  case rs l off len z b cap hb hc hlt =>
    refine .rs l off len z b cap ?_ hc hlt
    simp only [MV.top, decide_eq_true_eq] at ht
    simp only [Gh.cut]
    rw [if_pos (by omega)]
    exact hb
  case nilp => exact .nilp
  case fn f => exact .fn f
  case sl t xs a cap b o z u hcap htok ha hz hF hp hv =>
    refine .sl t xs a cap b o z u hcap ?_ ha hz (fun i j hi hj => ⟨.inl (hF i j hi hj).1, (hF i j hi hj).2⟩) hp fun i x hx j c hc => (hv i x hx j c hc).cutPure (hp i x hx j c hc)
    cases t with
    | no => exact trivial
    | nil => exact htok
    | own d' c =>
      simp only [MV.top, decide_eq_true_eq] at ht
      have hd : d' < d := by omega
      simp only [tokR, Sto.cut, Gh.cut, if_pos hd]
      exact htok
    | byt d' c q =>
      simp only [MV.top, decide_eq_true_eq] at ht
      have hd : d' < d := by omega
      simp only [tokR, Sto.cut, Gh.cut, if_pos hd]
      exact htok

theorem VR.cutRes {m : MV} {v : Value} (k : VR w g s m v) (hr : okRes1 d m = true) : VR w (g.cut s d) (s.cut d) m.era v := by
  cases k <;> try (cases hr; done)
  case junk => exact .junk _
  case undef => exact .undef
  case bool b => exact .bool b
  case int k n => exact .int k n
  case str x => exact .str x
  case ptr l off b hb hty =>
    refine .ptr l off b ?_ hty
    simp only [okRes1, decide_eq_true_eq] at hr
    simp only [Gh.cut]
    rw [if_pos hr]
    exact hb
  case rs l off len z b cap hb hc hlt =>
    refine .rs l off len z b cap ?_ hc hlt
    simp only [okRes1, decide_eq_true_eq] at hr
    simp only [Gh.cut]
    rw [if_pos hr]
    exact hb
  case nilp => exact .nilp
  case fn f => exact .fn f
  case sl t xs a cap b o z u hcap htok ha hz hF hp hv =>
    exact .sl .no xs a cap b o z u hcap trivial ha hz (fun i j hi hj => ⟨.inl (hF i j hi hj).1, (hF i j hi hj).2⟩) hp fun i x hx j c hc => (hv i x hx j c hc).cutPure (hp i x hx j c hc)

theorem chunks_len (cs : List MV) (z : Nat) : ∀ (n off : Nat), (chunks cs off z n).length = n
  | 0, _ => rfl
  | n + 1, off => by simp [chunks, chunks_len cs z n]
theorem chunks_at (cs : List MV) (z : Nat) : ∀ (n off i : Nat), i < n → (chunks cs off z n)[i]? = some ((cs.drop (off + i * z)).take z)
  | 0, _, _, h => by omega
  | n + 1, off, 0, _ => by simp [chunks]
  | n + 1, off, i + 1, h => by
    simp only [chunks, List.getElem?_cons_succ]
    rw [chunks_at cs z n (off + z) i (by omega)]
    congr 3
    rw [Nat.succ_mul]
    omega
theorem mapM_datas_at : ∀ (ys ys' : List (List MV)), ys.mapM datas = some ys' → ∀ (i : Nat) (y' : List MV), ys'[i]? = some y' → ∃ y, ys[i]? = some y ∧ datas y = some y'
  | [], ys', h => by simp at h; subst h; simp
  | y :: ys, ys', h => by
    rw [List.mapM_cons] at h
    cases hy : datas y with
    | none => simp [hy] at h
    | some x =>
      cases hr : ys.mapM datas with
      | none => simp [hy, hr] at h
      | some xs =>
        simp [hy, hr] at h
        subst h
        intro i y' hi
        cases i with
        | zero => simp at hi; subst hi; exact ⟨y, rfl, hy⟩
        | succ i => simpa using mapM_datas_at ys xs hr i y' (by simpa using hi)

theorem VR.frz (h : St w0 K w g s) {m m' : MV} {v : Value} (k : VR w g s m v) (hr : m.frz s d = some m') : VR w (g.cut s d) (s.cut d) m' v := by
  have other : (if okRes1 d m then some m.era else none) = some m' → VR w (g.cut s d) (s.cut d) m' v := fun hr => by
    split at hr
    · rename_i ha
      cases hr
      exact k.cutRes ha
    · cases hr
  cases m with
  | rs l off len z =>
    simp only [MV.frz] at hr
    split at hr
    · rename_i hl
      cases hr
      exact k.cutRes (by simpa [okRes1] using hl)
    · rename_i hl
      obtain ⟨cs, hcs, hr⟩ := Option.bind_eq_some_iff.1 hr
      split at hr
      · rename_i hlen
        obtain ⟨xs, hxs, rfl⟩ := Option.map_eq_some_iff.1 hr
        cases k
        rename_i b cap hb hc hlt
        obtain ⟨vs, T, e1, e2, e3⟩ := h.obj l cs b hcs hb
        obtain ⟨y1, y2, y3, y4⟩ := mapM_datas _ _ hxs
        have hxl : xs.length = len := by rw [y1, chunks_len]
        have hz : ∀ x ∈ xs, x.length = z := y3 z fun y hy => by
          obtain ⟨i, hi⟩ := List.mem_iff_getElem?.1 hy
          have hil : i < len := by rw [← chunks_len cs z len off]; exact (List.getElem?_eq_some_iff.1 hi).1
          rw [chunks_at cs z len off i hil] at hi
          cases hi
          have : (i + 1) * z ≤ len * z := Nat.mul_le_mul_right z hil
          rw [Nat.succ_mul] at this
          simp
          omega
        rw [← hxl]
        refine .sl .no xs _ cap b off z (fun i j => vs[off + i * z + j]?.getD Go.undef) (by omega) trivial (fun _ => rfl) hz (fun i j hi hj => ?_) (fun i x hx j c hc => y4 x (List.mem_of_getElem? hx) c (List.mem_of_getElem? hc)) (fun i x hx j c hc => ?_)
        · have hlt : off + i * z + j < cs.length := by
            have : (i + 1) * z ≤ len * z := Nat.mul_le_mul_right z (by omega)
            rw [Nat.succ_mul] at this
            omega
          refine ⟨.inr ⟨l, cs, by omega, hcs, hb, hlt⟩, ?_⟩
          rw [cell_of_cells e1, Array.getElem?_eq_getElem (by omega)]
          rfl
        · have hil : i < len := by rw [← hxl]; exact (List.getElem?_eq_some_iff.1 hx).1
          obtain ⟨y, hy, hd⟩ := mapM_datas_at _ _ hxs i x hx
          rw [chunks_at cs z len off i hil] at hy
          cases hy
          obtain ⟨rfl, hp, _⟩ := pur_of_datas hd
          have hcm := List.mem_of_getElem? hc
          rw [List.getElem?_map] at hc
          obtain ⟨c', hc', rfl⟩ := Option.map_eq_some_iff.1 hc
          rw [List.getElem?_take] at hc'
          split at hc'
          · rw [List.getElem?_drop] at hc'
            exact (e3 _ c' hc').era.cutPure (hp _ hcm)
          · cases hc'
      · cases hr
  | _ => exact other hr

theorem mapM_frz (h : St w0 K w g s) : ∀ (ms ms' : List MV), ms.mapM (MV.frz s d) = some ms' → ms'.length = ms.length ∧ (∀ (i : Nat) (c : MV), ms'[i]? = some c → ∃ c', ms[i]? = some c' ∧ c'.frz s d = some c)
  | [], ms', h => by simp at h; subst h; exact ⟨rfl, by simp⟩
  | m :: ms, ms', hh => by
    rw [List.mapM_cons] at hh
    cases hm : m.frz s d with
    | none => simp [hm] at hh
    | some x =>
      cases hr : ms.mapM (MV.frz s d) with
      | none => simp [hm, hr] at hh
      | some xs =>
        simp [hm, hr] at hh
        subst hh
        obtain ⟨r1, r2⟩ := mapM_frz h ms xs hr
        refine ⟨by simp [r1], fun i c hc => ?_⟩
        cases i with
        | zero => simp at hc; subst hc; exact ⟨m, rfl, hm⟩
        | succ i => obtain ⟨c', e1, e2⟩ := r2 i c (by simpa using hc); exact ⟨c', by simpa using e1, e2⟩
theorem flat_frz {m m' : MV} (hf : m.flat = true) (h : m.frz s d = some m') : m'.flat = true := by
  have other : (if okRes1 d m then some m.era else none) = some m' → m'.flat = true := fun hr => by
    split at hr
    · cases hr; rw [flat_era]; exact hf
    · cases hr
  cases m with
  | rs l off len z =>
    simp only [MV.frz] at h
    split at h
    · cases h; rfl
    · obtain ⟨cs, _, h⟩ := Option.bind_eq_some_iff.1 h
      split at h
      · obtain ⟨xs, _, rfl⟩ := Option.map_eq_some_iff.1 h
        rfl
      · cases h
  | _ => exact other h

theorem VR.res1 (h : St w0 K w g s) {m m' : MV} {v : Value} (k : VR w g s m v) (hr : m.res1 s d = some m') : VR w (g.cut s d) (s.cut d) m' v := by
  cases m with
  | agg cs =>
    cases k
    rename_i vs hl hf hv
    simp only [MV.res1] at hr
    obtain ⟨ms, hm, rfl⟩ := Option.map_eq_some_iff.1 hr
    obtain ⟨r1, r2⟩ := mapM_frz h cs ms hm
    refine .agg _ vs (r1.trans hl) (fun c hc => ?_) fun i c hc => ?_
    · obtain ⟨i, hi⟩ := List.mem_iff_getElem?.1 hc
      obtain ⟨c', e1, e2⟩ := r2 i c hi
      exact flat_frz (hf c' (List.mem_of_getElem? e1)) e2
    · obtain ⟨c', e1, e2⟩ := r2 i c hc
      exact (hv i c' e1).frz h e2
  | _ => exact VR.frz h k hr

theorem mapM_res : ∀ (ms ms' : List MV), ms.mapM (MV.res1 s d) = some ms' → ms'.length = ms.length ∧ ∀ (i : Nat) (c : MV), ms'[i]? = some c → ∃ c', ms[i]? = some c' ∧ c'.res1 s d = some c
  | [], ms', h => by simp at h; subst h; exact ⟨rfl, by simp⟩
  | m :: ms, ms', h => by
    rw [List.mapM_cons] at h
    cases hm : m.res1 s d with
    | none => simp [hm] at h
    | some x =>
      cases hr : ms.mapM (MV.res1 s d) with
      | none => simp [hm, hr] at h
      | some xs =>
        simp [hm, hr] at h
        subst h
        obtain ⟨r1, r2⟩ := mapM_res ms xs hr
        refine ⟨by simp [r1], fun i c hc => ?_⟩
        cases i with
        | zero => simp at hc; subst hc; exact ⟨m, rfl, hm⟩
        | succ i => obtain ⟨c', e1, e2⟩ := r2 i c (by simpa using hc); exact ⟨c', by simpa using e1, e2⟩

theorem VR.res (h : St w0 K w g s) {m m' : MV} {v : Value} (k : VR w g s m v) (hr : m.res s d = some m') : VR w (g.cut s d) (s.cut d) m' v := by
  cases m with
  | tup cs =>
    cases k
    rename_i vs hl hv
    simp only [MV.res, Option.map_eq_some_iff] at hr
    obtain ⟨ms, hm, rfl⟩ := hr
    obtain ⟨r1, r2⟩ := mapM_res cs ms hm
    refine .tup ms vs (r1.trans hl) fun i c hc => ?_
    obtain ⟨c', e1, e2⟩ := r2 i c hc
    exact (hv i c' e1).res1 h e2
  | _ => exact VR.res1 h k hr

theorem St.cut (h : St w0 K w g s) (d : Nat) : St w0 K w (g.cut s d) (s.cut d) := by
  have hpi : ∀ {l b}, (g.cut s d).π l = some b → g.π l = some b ∧ l.d < d := fun {l b} hp => by
    simp only [Gh.cut] at hp
    split at hp
    · rename_i hl; exact ⟨hp, hl⟩
    · cases hp
  have hob : ∀ {l cs}, (s.cut d).ob l = some cs → s.ob l = some cs ∧ l.d < d := fun {l b} hp => by
    simp only [Sto.cut] at hp
    split at hp
    · rename_i hl; exact ⟨hp, hl⟩
    · cases hp
  have how : ∀ {d' c x}, (s.cut d).ow d' c = some x → s.ow d' c = some x ∧ d' < d := fun {d' c x} hp => by
    simp only [Sto.cut] at hp
    split at hp
    · rename_i hl; exact ⟨hp, hl⟩
    · cases hp
  refine ⟨h.os, h.tape, h.output, h.old, fun k hk => ⟨(h.kn k hk).1, fun o hF => ?_⟩, fun l cs b hl hp => ?_, fun l cs hl => h.flat l cs (hob hl).1, fun l b hp => h.piB l b (hpi hp).1, fun l l' b hp hp' hlv => ?_, fun l hc => ?_, fun b o hF => ?_, fun b o l hF hp => ?_,
    fun d' c m z ho => ?_, fun d1 c1 d2 c2 x1 x2 h1 h2 he => h.tin d1 c1 d2 c2 x1 x2 (how h1).1 (how h2).1 he, fun d' c hc => ?_⟩
  · rcases hF with hF | ⟨l, cs, _, _, hp, _⟩
    · exact (h.kn k hk).2 o hF
    · obtain ⟨x, hx⟩ := (h.kn k hk).1
      exact (h.piB l k hp).2 x hx
  · obtain ⟨vs, T, e1, e2, e3⟩ := h.obj l cs b (hob hl).1 (hpi hp).1
    refine ⟨vs, T, e1, e2, fun i c hi => ?_⟩
    have := h.flat l cs (hob hl).1 c (List.mem_of_getElem? hi)
    exact (e3 i c hi).cutTop (hob hl).2 this.1 this.2
  · have his : ∀ l', ((s.cut d).ob l').isSome = true → (s.ob l').isSome = true := fun l' hq => by
      obtain ⟨cs, hcs⟩ := Option.isSome_iff_exists.1 hq
      rw [(hob hcs).1]; rfl
    obtain ⟨q1, q2⟩ := h.inj l l' b (hpi hp).1 (hpi hp').1 (his _ hlv)
    exact ⟨q1, fun hq => q2 (his _ hq)⟩
  · simp only [Gh.cut, Sto.cut] at hc ⊢
    split
    · rename_i hl
      rw [if_pos hl] at hc
      exact h.fr l hc
    · rfl
  · rcases hF with hF | ⟨l, cs, _, hcs, hp, ho⟩
    · exact h.FB b o hF
    · obtain ⟨vs, T, e1, e2, e3⟩ := h.obj l cs b hcs hp
      exact ⟨vs[o]'(by omega), by rw [cell_of_cells e1]; exact Array.getElem?_eq_getElem (by omega)⟩
  · rcases hF with hF | ⟨l', cs, hl', hcs, hp', _⟩
    · exact h.Fpi b o l hF (hpi hp).1
    · have h1 := (h.inj l l' b (hpi hp).1 hp' (by rw [hcs]; rfl)).1
      have := (hpi hp).2
      omega
  · obtain ⟨vs, T, e1, e2, e3, e4, e5, e6, e7, e8⟩ := h.tok d' c m z (how ho).1
    refine ⟨vs, T, e1, e2, e3, e4, e5, fun i hF => ?_, fun l hp => e7 l (hpi hp).1, e8⟩
    rcases hF with hF | ⟨l, cs, _, _, hp, _⟩
    · exact e6 i hF
    · exact absurd hp (e7 l)
  · simp only [Sto.cut] at hc ⊢
    split
    · rename_i hl
      rw [if_pos hl] at hc
      exact h.tfr d' c hc
    · rfl
theorem Und.cut (s : Sto) (d : Nat) : (s.cut d).Und d :=
  ⟨fun l hl => by simp only [Sto.cut]; rw [if_neg (by omega)], fun d' c hl => by simp only [Sto.cut]; rw [if_neg (by omega)], fun d' hl => by simp only [Sto.cut]; rw [if_neg (by omega)]⟩

/-- What the caller sees of a call. -/
theorem Ev.cut (h : St w0 K w g s) (hu : s.Und d) (e : Ev w g s w' g' s') : Ev w g s w' (g'.cut s' d) (s'.cut d) := by
  refine ⟨fun b o hF => ⟨.inl (e.F b o hF).1, (e.F b o hF).2⟩, fun l b hp => ?_, fun d' => ?_, fun d' c m z hc ho => ?_, e.sh⟩
  · have hl : l.d < d := by
      apply Nat.lt_of_not_le
      intro hle
      rw [h.fr l (by rw [hu.ct l.d hle]; exact Nat.zero_le _)] at hp
      cases hp
    simp only [Gh.cut]
    rw [if_pos hl]
    exact e.pi l b hp
  · simp only [Sto.cut]
    split
    · exact e.ct d'
    · rename_i hl
      rw [hu.ct d' (by omega)]
      exact Nat.le_refl _
  · simp only [Sto.cut] at ho
    split at ho
    · exact e.ow d' c m z hc ho
    · cases ho
theorem Ev.same (hh : ∀ b o, g.F b o → g'.F b o ∧ w'.cell? ⟨b, o, none⟩ = w.cell? ⟨b, o, none⟩) (hp : g'.π = g.π) (ht : g'.τ = g.τ) (hsh : ∀ b x, w.shape? b = some x → w'.shape? b = some x) : Ev w g s w' g' s :=
  ⟨hh, fun l b h => by rw [hp]; exact h, fun _ => Nat.le_refl _, fun d c m z _ h => ⟨m, z, h, Nat.le_refl _, fun _ => by rw [ht]⟩, hsh⟩

/-! ### Kept blocks -/
def Kp.add (K : Kp) (b : Nat) (x : Obj) : Kp := { k := fun k y => K.k k y ∨ (k = b ∧ y = x), n := fun k => K.n k ∨ k = b }

/-- A new block, kept as it is. -/
theorem St.keepNew (h : St w0 K w g s) (x : Obj) : St w0 (K.add w.heap.size x) (w.alloc x) g s ∧ Ev w g s (w.alloc x) g s := by
  have hold : ∀ k, k < w.heap.size → (w.alloc x).heap[k]? = w.heap[k]? := fun k hk => alloc_heap_old w _ hk
  have hFlt : ∀ b o, g.F b o → b < w.heap.size := fun b o hF => by obtain ⟨u, hu⟩ := h.FB b o hF; exact block_of_cell hu
  have ev : Ev w g s (w.alloc x) g s := Ev.same (fun b o hF => ⟨hF, cell_eq_of_heap (hold b (hFlt b o hF)) o⟩) rfl rfl fun b x hx => by rw [shape_of_heap (hold b (block_of_shape hx))]; exact hx
  refine ⟨⟨h.os, h.tape, h.output, fun k y hk => ?_, fun k hk => ?_, fun l cs b hl hp => ?_, h.flat, fun l b hp => ?_, h.inj, h.fr, fun b o hF => ?_, h.Fpi, fun d' c m z ho => ?_, h.tin, h.tfr⟩, ev⟩
  · rcases hk with hk | ⟨rfl, rfl⟩
    · have := h.old k y hk; rw [hold k (getElem?_of_some this)]; exact this
    · exact alloc_heap_new w _
  · rcases hk with hk | rfl
    · exact ⟨(h.kn k hk).1.imp fun _ => .inl, (h.kn k hk).2⟩
    · exact ⟨⟨x, .inr ⟨rfl, rfl⟩⟩, fun o hF => by have := hFlt _ o hF; omega⟩
  · obtain ⟨vs, T, e1, e2, e3⟩ := h.obj l cs b hl hp
    exact ⟨vs, T, (hold b (getElem?_of_some e1)).trans e1, e2, fun i c hi => (e3 i c hi).ev ev⟩
  · have := h.piB l b hp
    refine ⟨by simp only [World.size_alloc]; omega, fun y hy => ?_⟩
    rcases hy with hy | ⟨rfl, _⟩
    · exact this.2 y hy
    · omega
  · obtain ⟨u, hu'⟩ := h.FB b o hF
    exact ⟨u, (ev.F b o hF).2.trans hu'⟩
  · obtain ⟨vs, T, e1, e2, e3⟩ := h.tok d' c m z ho
    refine ⟨vs, T, (hold _ (getElem?_of_some e1)).trans e1, fun y hy => ?_, e3⟩
    rcases hy with hy | ⟨hb, _⟩
    · exact e2 y hy
    · have := getElem?_of_some e1; omega

/-- A kept block that becomes an object. -/
theorem St.adoptAt {b dd : Nat} {vs : Array Value} {T : TypeId} (h : St w0 (K.add b (.cells vs T (0, 0))) w g s) (hu : s.Und (d + 1)) (hdd : dd ≤ d) (hb : ∀ x, ¬ K.k b x) (hn : ∀ k, K.n k → ∃ x, K.k k x) (t : Nat) (hty : ∀ q n, n < 1024 → t = 1000000 + (q * 1024 + n) → T = q ∧ vs.size = n) {cs : List MV} (hc : CR w g s cs vs) (htop : ∀ c ∈ cs, c.top dd = true) :
    Mak w0 K w g s d (allocO s dd t cs).1 (allocO s dd t cs).2 (.pointer (some ⟨b, 0, none⟩)) w := by
  have hheap : w.heap[b]? = some (.cells vs T (0, 0)) := h.old b _ (.inr ⟨rfl, rfl⟩)
  have hFb : ∀ o, ¬ g.F b o := (h.kn b (.inr rfl)).2
  have hfr : g.π ⟨dd, t, s.ct dd⟩ = none := h.fr _ (Nat.le_refl _)
  have hpb : ∀ l, g.π l ≠ some b := fun l hp => (h.piB l b hp).2 _ (.inr ⟨rfl, rfl⟩)
  let g' : Gh := { g with π := fun l => if l = ⟨dd, t, s.ct dd⟩ then some b else g.π l }
  have ev : Ev w g s w g' (allocO s dd t cs).2 := by
    refine ⟨fun b o hF => ⟨hF, rfl⟩, fun l b' hp => ?_, fun d' => ?_, fun d' c m z hc ho => ⟨m, z, ho, Nat.le_refl _, fun _ => rfl⟩, fun _ _ h => h⟩
    · show (if l = _ then _ else _) = _
      rw [if_neg (by rintro rfl; rw [hfr] at hp; cases hp)]
      exact hp
    · show s.ct d' ≤ upd s.ct dd (s.ct dd + 1) d'
      unfold upd
      split
      · rename_i e; subst e; omega
      · omega
  refine ⟨g', .ptr _ 0 b (by simp [g']) (fun q n hn e => by rw [shape_of_cells hheap]; obtain ⟨rfl, rfl⟩ := hty q n hn e; rfl), ⟨h.os, h.tape, h.output, fun k x hk => h.old k x (.inl hk), fun k hk => ?_, fun l cs' b' hl' hp => ?_, fun l cs' hl' => ?_, fun l b' hp => ?_, fun l l' b' hp hp' hlv => ?_, fun l hc => ?_, h.FB, fun b' o l hF => ?_, fun d' c m z ho => ?_, h.tin, fun d' c hc => ?_⟩, ev, ⟨fun l hd => ?_, hu.ow, fun d' hd => ?_⟩⟩
  · exact ⟨hn k hk, (h.kn k (.inl hk)).2⟩
  · simp only [allocO, Sto.tick, Sto.set] at hl'
    simp only [g'] at hp
    split at hl'
    · rename_i e
      subst e
      simp only [if_true, Option.some.injEq] at hp hl'
      subst hp; subst hl'
      exact ⟨vs, T, hheap, Nat.le_of_eq hc.1, fun i c hi => (hc.2.2 i c hi).ev ev⟩
    · rename_i e
      rw [if_neg e] at hp
      obtain ⟨vs', T', e1, e2, e3⟩ := h.obj l cs' b' hl' hp
      exact ⟨vs', T', e1, e2, fun i c hi => (e3 i c hi).ev ev⟩
  · simp only [allocO, Sto.tick, Sto.set] at hl'
    split at hl'
    · rename_i e
      subst e
      simp only [Option.some.injEq] at hl'
      subst hl'
      exact fun c hc' => ⟨hc.2.1 c hc', htop c hc'⟩
    · exact h.flat l cs' hl'
  · simp only [g'] at hp
    split at hp
    · simp only [Option.some.injEq] at hp
      subst hp
      exact ⟨getElem?_of_some hheap, hb⟩
    · have := h.piB l b' hp
      exact ⟨this.1, fun x hx => this.2 x (.inl hx)⟩
  · simp only [g'] at hp hp'
    split at hp <;> split at hp'
    · rename_i e1 e2
      exact ⟨by rw [e1, e2]; exact Nat.le_refl _, fun _ => e1.trans e2.symm⟩
    · simp only [Option.some.injEq] at hp
      subst hp
      exact absurd hp' (hpb l')
    · simp only [Option.some.injEq] at hp'
      subst hp'
      exact absurd hp (hpb l)
    · rename_i e1 e2
      simp only [allocO, Sto.tick, Sto.set, if_neg e2] at hlv
      obtain ⟨q1, q2⟩ := h.inj l l' b' hp hp' hlv
      refine ⟨q1, fun hl => q2 ?_⟩
      simpa only [allocO, Sto.tick, Sto.set, if_neg e1] using hl
  · simp only [allocO, Sto.tick, Sto.set, upd] at hc
    simp only [g']
    split
    · rename_i e
      subst e
      simp only [if_true] at hc
      omega
    · refine h.fr l ?_
      split at hc
      · rename_i e; rw [e]; omega
      · exact hc
  · simp only [g']
    split
    · intro e
      simp only [Option.some.injEq] at e
      subst e
      exact hFb o hF
    · exact h.Fpi b' o l hF
  · obtain ⟨vs', T', e1, e2, e3, e4, e5, e6, e7, e8⟩ := h.tok d' c m z ho
    refine ⟨vs', T', e1, fun x hx => e2 x (.inl hx), e3, e4, e5, e6, fun l => ?_, e8⟩
    simp only [g']
    split
    · intro e
      simp only [Option.some.injEq] at e
      exact e2 _ (.inr ⟨e.symm, rfl⟩)
    · exact e7 l
  · refine h.tfr d' c ?_
    simp only [allocO, Sto.tick, Sto.set, upd] at hc
    split at hc
    · rename_i e; rw [e]; omega
    · exact hc
  · simp only [allocO, Sto.tick, Sto.set]
    rw [if_neg (by rintro rfl; simp at hd; omega)]
    exact hu.ob l hd
  · simp only [allocO, Sto.tick, Sto.set, upd]
    rw [if_neg (by omega)]
    exact hu.ct d' hd

theorem St.adopt {b : Nat} {vs : Array Value} {T : TypeId} (h : St w0 (K.add b (.cells vs T (0, 0))) w g s) (hu : s.Und (d + 1)) (hb : ∀ x, ¬ K.k b x) (hn : ∀ k, K.n k → ∃ x, K.k k x) (t : Nat) (hty : ∀ q n, n < 1024 → t = 1000000 + (q * 1024 + n) → T = q ∧ vs.size = n) {cs : List MV} (hc : CR w g s cs vs) :
    Mak w0 K w g s d (allocO s d t cs).1 (allocO s d t cs).2 (.pointer (some ⟨b, 0, none⟩)) w :=
  h.adoptAt hu (Nat.le_refl d) hb hn t hty hc fun c hc' => by
    obtain ⟨i, hi⟩ := List.mem_iff_getElem?.1 hc'
    exact h.top hu (hc.2.2 i c hi)

/-- A row that nothing owns. -/
theorem St.rowFree (h : St w0 K w g s) {M z : Nat} (vs : Array Value) (T : TypeId) (hc : M * z ≤ vs.size) :
    let w' := w.alloc (.cells vs T)
    let g' : Gh := { F := fun b o => g.F b o ∨ (b = w.heap.size ∧ o < M * z), π := g.π, τ := g.τ }
    St w0 K w' g' s ∧ Ev w g s w' g' s := by
  intro w' g'
  have hold : ∀ k, k < w.heap.size → w'.heap[k]? = w.heap[k]? := fun k hk => alloc_heap_old w _ hk
  have hFlt : ∀ b o, g.F b o → b < w.heap.size := fun b o hF => by obtain ⟨u, hu⟩ := h.FB b o hF; exact block_of_cell hu
  have ev : Ev w g s w' g' s := Ev.same (fun b o hF => ⟨.inl hF, cell_eq_of_heap (hold b (hFlt b o hF)) o⟩) rfl rfl fun b x hx => by rw [shape_of_heap (hold b (block_of_shape hx))]; exact hx
  refine ⟨⟨h.os, h.tape, h.output, fun k x hk => ?_, fun k hk => ?_, fun l cs b hl hp => ?_, h.flat, fun l b hp => ?_, h.inj, h.fr, fun b o hF => ?_, fun b o l hF => ?_, fun d' c m z' ho => ?_, h.tin, h.tfr⟩, ev⟩
  · have := h.old k x hk; rw [hold k (getElem?_of_some this)]; exact this
  · refine ⟨(h.kn k hk).1, fun o hF => ?_⟩
    rcases hF with hF | ⟨rfl, _⟩
    · exact (h.kn k hk).2 o hF
    · obtain ⟨x, hx⟩ := (h.kn _ hk).1
      have := getElem?_of_some (h.old _ x hx)
      omega
  · obtain ⟨vs', T', e1, e2, e3⟩ := h.obj l cs b hl hp
    exact ⟨vs', T', (hold b (getElem?_of_some e1)).trans e1, e2, fun i c hi => (e3 i c hi).ev ev⟩
  · have := h.piB l b hp
    exact ⟨by simp only [w', World.size_alloc]; omega, this.2⟩
  · rcases hF with hF | ⟨rfl, ho⟩
    · obtain ⟨u, hu'⟩ := h.FB b o hF
      exact ⟨u, (ev.F b o hF).2.trans hu'⟩
    · refine ⟨vs[o]'(by omega), ?_⟩
      rw [cell_of_cells (alloc_heap_new w _)]
      exact Array.getElem?_eq_getElem (by omega)
  · rcases hF with hF | ⟨rfl, _⟩
    · exact h.Fpi b o l hF
    · intro e
      have := (h.piB l _ e).1
      omega
  · obtain ⟨vs', T', e1, e2, e3, e4, e5, e6, e7, e8⟩ := h.tok d' c m z' ho
    refine ⟨vs', T', (hold _ (getElem?_of_some e1)).trans e1, e2, e3, e4, e5, fun i hF => ?_, e7, e8⟩
    rcases hF with hF | ⟨hb, _⟩
    · exact e6 i hF
    · have h1 := getElem?_of_some e1
      have h2 : (g.τ d' c).1 = w.heap.size := hb
      omega

/-- A slice literal in a region that draws. -/
theorem bslFree {P : Program} (h : St w0 K w g s) (hu : s.Und (d + 1)) {t e : TypeId} {n z b : Nat} {ps : List (Nat × MV)} {qs : Array (Nat × Value)} {xs : List (List MV)} (hs : slc P t = some (e, z, b)) (hl : qs.size = ps.length) (hc1 : ps.length = n) (hc2 : n * z ≤ 65536)
    (hq : ∀ (i : Nat) (p : Nat × MV), ps[i]? = some p → ∃ q, qs[i]? = some q ∧ q.1 = p.1 ∧ VR w g s p.2 q.2) (hxs : sliceParts z 0 ps = some xs) :
    ∃ u w', (Instr.buildSlice t n qs).run P w = .ok u w' ∧ Mak w0 K w g s d (.sl .no xs) s u w' := by
  obtain ⟨inf, zv, hu1, hinf, hsz, hby, hzv, hzs⟩ := slc_spec hs
  obtain ⟨r1, r2, r3, r4, r5⟩ := partsSound (w := w) (g := g) (s := s) ps 0 xs qs.toList hxs (by simpa using hl) (fun k p hk => by simpa using hq k p hk)
  have hql : qs.toList.length = n := by simpa using hl.trans hc1
  obtain ⟨arr', a1, a2⟩ := fillRow z qs.toList 0 ((Array.range (n * z)).map (fun k => (if n * z = 0 then #[] else zv.cells)[k % (if n * z = 0 then #[] else zv.cells).size]!)) (fun k q hk => by simpa using r4 k q hk) (by simp [← hql])
  simp only [Nat.zero_mul, List.take_zero, List.nil_append] at a2
  have hrun : (Instr.buildSlice t n qs).run P w = .ok (.slice (some ⟨w.heap.size, 0, none⟩) n n) (w.alloc (.cells arr' e)) := by
    have hlt : ¬ (2 ^ 24 < n * z) := by omega
    simp only [Instr.buildSlice, Sem.run_bind, run_underlying hu1, Result.andThen_ok, sizeOf, typeInfo, run_program, hinf, Sem.run_pure, hsz]
    rw [if_neg (by omega)]
    by_cases h0 : n * z = 0
    · simp only [h0, if_true] at a1 ⊢
      simp [newRow] at a1 ⊢
      simp [a1]
    · simp only [h0, if_false] at a1 ⊢
      simp [zeroValue, typeInfo, hinf, hzv, a1, newRow]
  have hf : (xs.flatten).length = n * z := by rw [flatten_len xs r2, r1, hc1]
  have harr : arr'.size = n * z := by
    have := congrArg List.length a2
    rw [Array.length_toList, ← r5.1] at this
    rw [this, hf]
  obtain ⟨q1, q2⟩ := h.rowFree (M := n) (z := z) arr' e (by omega)
  refine ⟨_, _, hrun, _, ?_, q1, q2, hu⟩
  have hlen : xs.length = n := r1.trans hc1
  subst hlen
  refine .sl .no xs _ xs.length w.heap.size 0 z (fun i j => arr'[i * z + j]?.getD undef) (Nat.le_refl _) trivial (fun _ => rfl) r2 (fun i j hi hj => ?_) (fun i x hix j c hjc => r3 x (List.mem_of_getElem? hix) c (List.mem_of_getElem? hjc)) (fun i x hix j c hjc => ?_)
  · have hlt : i * z + j < xs.length * z := by
      have : (i + 1) * z ≤ xs.length * z := Nat.mul_le_mul_right z hi
      rw [Nat.succ_mul] at this
      omega
    refine ⟨.inr ⟨rfl, by omega⟩, ?_⟩
    rw [Nat.zero_add, cell_of_cells (alloc_heap_new w _), Array.getElem?_eq_getElem (by omega)]
    rfl
  · have hj : j < z := by rw [← r2 x (List.mem_of_getElem? hix)]; exact (List.getElem?_eq_some_iff.1 hjc).1
    have := r5.2 (i * z + j) c (by rw [row_elem xs r2 i j x hix hj]; exact hjc)
    rw [← a2] at this
    simpa using this.ev q2

/-- A made slice in a region that draws. -/
theorem mkFree {P : Program} (h : St w0 K w g s) (hu : s.Und (d + 1)) {t e : TypeId} {z b : Nat} {zc : List MV} {n : Int} (hs : slc P t = some (e, z, b)) (hz : (zer P e).bind MV.cells = some zc) (c3 : 0 ≤ n) (c5 : zc.length = z) (c6 : 0 < z) (c7 : n * b ≤ 140737488355328) (c8 : n.toNat * z ≤ 65536) (hp : zc.all MV.pur = true) :
    ∃ u w', (Instr.makeSlice t (.int .i64 n) (.int .i64 n)).run P w = .ok u w' ∧ Mak w0 K w g s d (.sl .no (List.replicate n.toNat zc)) s u w' := by
  obtain ⟨inf, zv, hu1, hinf, hsz, hby, hzv, hzs⟩ := slc_spec hs
  obtain ⟨z0, hz0, hzc⟩ := Option.bind_eq_some_iff.1 hz
  unfold zer at hz0
  simp only [hinf, hzv, Option.bind_some, Option.map_some, Option.some.injEq] at hz0
  subst hz0
  have hcr : CR w g s zc zv.cells := (VR_ofV zv).cells hzc
  have hb1 : n ≤ 140737488355328 := by
    have : n * 1 ≤ n * (b : Int) ∨ b = 0 := by
      rcases Nat.eq_zero_or_pos b with h0 | h0
      · exact .inr h0
      · exact .inl (Int.mul_le_mul_of_nonneg_left (by omega) c3)
    rcases this with h1 | h1
    · omega
    · subst h1
      have h2 : n.toNat * 1 ≤ n.toNat * z := Nat.mul_le_mul_left _ c6
      omega
  have hrun := run_make (P := P) w t e inf zv hu1 hinf hzv .i64 .i64 n n c3 (Int.le_refl _) (by rw [hby, Int.mul_comm]; omega) (by omega)
  rw [hsz] at hrun
  have hx : ∀ x ∈ List.replicate n.toNat zc, x.length = z := fun x hx => by rw [List.eq_of_mem_replicate hx]; exact c5
  obtain ⟨q1, q2⟩ := h.rowFree (M := n.toNat) (z := z) (madeCells zv.cells (n.toNat * z)) e (by rw [size_madeCells]; exact Nat.le_refl _)
  refine ⟨_, _, hrun, _, ?_, q1, q2, hu⟩
  have hlen : (List.replicate n.toNat zc).length = n.toNat := List.length_replicate
  have := VR.sl (w := w.alloc (.cells (madeCells zv.cells (n.toNat * z)) e)) (s := s) .no (List.replicate n.toNat zc) (some ⟨w.heap.size, 0, none⟩) n.toNat w.heap.size 0 z (fun i j => (madeCells zv.cells (n.toNat * z))[i * z + j]?.getD undef) (by rw [hlen]; exact Nat.le_refl _) trivial (fun _ => rfl) hx (g := { F := fun b o => g.F b o ∨ (b = w.heap.size ∧ o < n.toNat * z), π := g.π, τ := g.τ }) (fun i j hi hj => ?_) (fun i x hix j c hjc => ?_) (fun i x hix j c hjc => ?_)
  · rw [hlen] at this
    exact this
  · rw [hlen] at hi
    have hlt : i * z + j < n.toNat * z := by
      have : (i + 1) * z ≤ n.toNat * z := Nat.mul_le_mul_right z hi
      rw [Nat.succ_mul] at this
      omega
    refine ⟨.inr ⟨rfl, by omega⟩, ?_⟩
    rw [Nat.zero_add, cell_of_cells (alloc_heap_new w _), Array.getElem?_eq_getElem (by rw [size_madeCells]; exact hlt)]
    rfl
  · have hxm := List.mem_of_getElem? hix
    rw [List.eq_of_mem_replicate hxm] at hjc
    exact List.all_eq_true.1 hp c (List.mem_of_getElem? hjc)
  · have hj : j < z := by rw [← hx x (List.mem_of_getElem? hix)]; exact (List.getElem?_eq_some_iff.1 hjc).1
    exact (made_cells hcr c5 c6 n.toNat (i * z + j) c (by rw [row_elem _ hx i j x hix hj]; exact hjc)).ev q2
end
end Go.Mv
