/- Walks: what the functions compute. -/
import Derived.Test.YtclnccgiicgooaaGreatDoorE0
import Derived.Test.YtclnccgiicgooaaGreatDoorMvD
import Derived.Test.YtclnccgiicgooaaGreatDoorMvF
import Derived.Test.YtclnccgiicgooaaGreatDoorSh
import Derived.Lib.SliceRun
import Derived.Laws.Externs
import Derived.Lib.Bytealg
import Derived.Lib.Index
import Derived.Lib.Builder
import Derived.Lib.UnsafeStr
import Derived.Laws.CopyRow
import Derived.Shelf.Abstract
import Derived.Shelf.RegionOpenPlain
import Derived.WalkKit
import Derived.Lib.Walk
set_option linter.unusedVariables false
set_option linter.unusedSimpArgs false
/- The configuration is sound: a Builder's functions. -/
namespace Go.Proofs.Tryz.E
open Go.Mv
set_option maxRecDepth 100000
set_option maxHeartbeats 4000000

theorem does_calls {P : Program} {f : FuncId} {args : Array Value} {w : World} {R : Value → World → Prop} (h : ∀ args w, (callFunc f args).run P w = .ok (.enter f args) w)
    (k : Calls P f args w fun | .returned v, w' => R v w' | _, _ => False) : Does P f args w R := .inr ⟨f, args, w, h args w, k⟩
theorem ent_501 (args : Array Value) (w : World) : (callFunc 113 args).run X.P w = .ok (.enter 113 args) w := Go.Proofs.enters_of Tryz.func113 (by kernel_rfl) rfl args w
theorem ent_502 (args : Array Value) (w : World) : (callFunc 165 args).run X.P w = .ok (.enter 165 args) w := Go.Proofs.enters_of Tryz.func165 (by kernel_rfl) rfl args w
theorem ent_503 (args : Array Value) (w : World) : (callFunc 32 args).run X.P w = .ok (.enter 32 args) w := Go.Proofs.enters_of Tryz.func32 (by kernel_rfl) rfl args w
theorem ent_504 (args : Array Value) (w : World) : (callFunc 156 args).run X.P w = .ok (.enter 156 args) w := Go.Proofs.enters_of Tryz.func156 (by kernel_rfl) rfl args w

theorem sizeB : ∃ j, Tryz.prog.info? 85 = some j ∧ j.size = 2 := by
  have h : (Tryz.prog.info? 85).map (·.size) = some 2 := by kernel_rfl
  exact Option.map_eq_some_iff.1 h
theorem liesB : liesAt Tryz.prog Tryz.prog.depth 85 (2 / Tryz.prog.cellsOf 85) 0 85 1 = true := by kernel_rfl

/-- copyCheck at a Builder that has been used: nothing turns. -/
theorem cc_used (b : Nat) (w : World) (h0 : w.cell? ⟨b, 0, none⟩ = some (.pointer (some ⟨b, 0, none⟩))) :
    Calls Tryz.prog 156 #[.pointer (some ⟨b, 0, none⟩)] w fun e w' => e = .returned (.tuple #[]) ∧ w' = w := by
  obtain ⟨j, hj, _⟩ := sizeB
  have mixed : Tryz.prog.follows .mixedOrders = true := by kernel_rfl
  have t72 := Tryz.underlying85; have a72 := Tryz.isAgg85; have z72 := Tryz.sizeOf85; have v72 := Tryz.zeroValue85; have u72 := run_underlying Tryz.underlying85
  have t70 := Tryz.underlying83; have a70 := Tryz.isAgg83; have z70 := Tryz.sizeOf83; have v70 := Tryz.zeroValue83; have u70 := run_underlying Tryz.underlying83
  have t4 := Tryz.underlying4; have a4 := Tryz.isAgg4; have z4 := Tryz.sizeOf4; have v4 := Tryz.zeroValue4; have u4 := run_underlying Tryz.underlying4
  have t164 := Tryz.underlying246; have a164 := Tryz.isAgg246; have z164 := Tryz.sizeOf246; have v164 := Tryz.zeroValue246; have u164 := run_underlying Tryz.underlying246
  go_enter Tryz.func156, Tryz.ntmps156
  go_wp2
  rw [Lib.run_neq_ptr_same w _ Tryz.underlying83 hj]
  go_wp2
  go_end0
  exact ⟨rfl, rfl⟩
theorem cc_fresh (b : Nat) (w : World) (h0 : w.cell? ⟨b, 0, none⟩ = some (.pointer none)) (hsh : w.shape? b = some (85, 2)) (hfz : w.frozen? ⟨b, 0, none⟩ = false) :
    Calls Tryz.prog 156 #[.pointer (some ⟨b, 0, none⟩)] w fun e w' => e = .returned (.tuple #[]) ∧ w' = w.setCell ⟨b, 0, none⟩ (.pointer (some ⟨b, 0, none⟩)) := by
  obtain ⟨j, hj, hjs⟩ := sizeB
  have mixed : Tryz.prog.follows .mixedOrders = true := by kernel_rfl
  have t72 := Tryz.underlying85; have a72 := Tryz.isAgg85; have z72 := Tryz.sizeOf85; have v72 := Tryz.zeroValue85; have u72 := run_underlying Tryz.underlying85
  have t70 := Tryz.underlying83; have a70 := Tryz.isAgg83; have z70 := Tryz.sizeOf83; have v70 := Tryz.zeroValue83; have u70 := run_underlying Tryz.underlying83
  have t4 := Tryz.underlying4; have a4 := Tryz.isAgg4; have z4 := Tryz.sizeOf4; have v4 := Tryz.zeroValue4; have u4 := run_underlying Tryz.underlying4
  have t164 := Tryz.underlying246; have a164 := Tryz.isAgg246; have z164 := Tryz.sizeOf246; have v164 := Tryz.zeroValue246; have u164 := run_underlying Tryz.underlying246
  go_enter Tryz.func156, Tryz.ntmps156
  go_wp2
  rw [Lib.run_to_unsafe w ⟨b, 0, none⟩ Tryz.underlying83 Tryz.underlying246 hj (by rw [hjs]; decide) hsh (Nat.zero_lt_succ 1)]
  simp only [Result.andThen]
  rw [Oper.upon_value]
  go_wp2
  rw [run_callFunc_extern Tryz.func192 (by kernel_rfl) (by kernel_rfl) (by kernel_rfl) (e := Extern.AbiNoEscape.same) (by kernel_rfl)]
  rw [Lib.run_noEscape]
  simp only [Result.andThen]
  rw [Oper.upon_value]
  go_wp2
  rw [Lib.run_from_unsafe w ⟨b, 0, none⟩ Tryz.underlying246 Tryz.underlying83 hj hsh liesB]
  simp only [Result.andThen]
  rw [Oper.upon_value]
  go_wp2
  go_end0
  exact ⟨rfl, rfl⟩

theorem setCell_row {w : World} {b i : Nat} {vs : Array Value} {T : TypeId} {fr : Nat × Nat} (hb : w.heap[b]? = some (.cells vs T fr)) (v : Value) : w.setCell ⟨b, i, none⟩ v = w.setRow b (vs.setIfInBounds i v) := by
  unfold World.setCell World.setRow
  congr 1
  apply Array.ext_getElem?
  intro j
  rw [Array.getElem?_modify, Array.getElem?_modify]
  by_cases e : b = j
  · subst e
    rw [if_pos rfl, if_pos rfl, hb]
    simp
  · rw [if_neg e, if_neg e]
theorem bapp_set {lim k q : Nat} {σ : Sto} {l : Mv.Loc} {cs : List MV} {tk : Tok} {xs : List (List MV)} {x : List UInt8} {v : MV} {s' : Sto} (h : bapp lim k q σ tk xs x = some (v, s')) : bapp lim k q (σ.set l cs) tk xs x = some (v, s'.set l cs) := by
  unfold bapp at *
  split at h
  · rename_i hx; rw [if_pos hx]; cases h; rfl
  · rename_i hx
    rw [if_neg hx]
    split at h
    · rename_i hc
      rw [if_pos hc]
      split at h
      · split at h
        · rename_i hxs; simp only [if_pos hxs]; cases h; rfl
        · cases h
      · split at h
        · rename_i hxs
          have : lim ≤ _ ∧ _ ∧ (σ.set l cs).ow _ _ = _ := hxs
          simp only [if_pos this]; cases h; rfl
        · cases h
      · cases h
    · cases h
theorem bapp_ob {lim k q : Nat} {σ : Sto} {tk : Tok} {xs : List (List MV)} {x : List UInt8} {v : MV} {s' : Sto} (h : bapp lim k q σ tk xs x = some (v, s')) : s'.ob = σ.ob ∧ ∃ tk' xs', v = .sl tk' xs' := by
  unfold bapp at h
  split at h
  · cases h; exact ⟨rfl, _, _, rfl⟩
  · split at h
    · split at h
      · split at h
        · cases h; exact ⟨rfl, _, _, rfl⟩
        · cases h
      · split at h
        · cases h; exact ⟨rfl, _, _, rfl⟩
        · cases h
      · cases h
    · cases h
theorem bapp_top {lim k q : Nat} {σ : Sto} {tk : Tok} {xs : List (List MV)} {x : List UInt8} {v : MV} {s' : Sto} (h : bapp lim k q σ tk xs x = some (v, s')) (ht : (MV.sl tk xs).top k = true) : v.top k = true := by
  unfold bapp at h
  split at h
  · cases h; exact ht
  · split at h
    · split at h
      · split at h
        · cases h; simp [MV.top]
        · cases h
      · split at h
        · cases h; simpa [MV.top] using ht
        · cases h
      · cases h
    · cases h
section
variable {w0 w : World} {K : Kp} {g : Gh} {s : Sto} {lim d : Nat} {l : Mv.Loc} {b : Nat} {p : MV} {tk : Tok} {xs : List (List MV)}
theorem isB_sh (hl : isB l = true) (hty : ∀ q n, n < 1024 → l.t = 1000000 + (q * 1024 + n) → w.shape? b = some (q, n)) : w.shape? b = some (85, 2) := by
  simp only [isB, decide_eq_true_eq] at hl
  exact hty _ 2 (by decide) hl
/-- A Builder's cells. -/
theorem bld_open (hs : St w0 K w g s) (hpi : g.π l = some b) (hsh : w.shape? b = some (85, 2)) (ho : s.ob l = some [p, .sl tk xs]) :
    ∃ pv sv, w.heap[b]? = some (.cells #[pv, sv] 85 (0, 0)) ∧ VR w g s p pv ∧ VR w g s (.sl tk xs) sv := by
  obtain ⟨vs, T, e1, e2, e3⟩ := hs.obj l _ b ho hpi
  rw [shape_of_cells e1] at hsh
  simp only [Option.some.injEq, Prod.mk.injEq] at hsh
  obtain ⟨rfl, h2⟩ := hsh
  obtain ⟨vs⟩ := vs
  match vs, h2 with
  | [pv, sv], _ => exact ⟨pv, sv, e1, by simpa using e3 0 p rfl, by simpa using e3 1 _ rfl⟩
theorem okA_val (hp : okA l p = true) (hpi : g.π l = some b) {pv : Value} (h : VR w g s p pv) : pv = .pointer none ∨ pv = .pointer (some ⟨b, 0, none⟩) := by
  unfold okA at hp
  split at hp
  · cases h; exact .inl rfl
  · simp only [decide_eq_true_eq] at hp
    subst hp
    cases h with
    | ptr l off b' hb ht =>
      rw [hpi] at hb
      cases hb
      exact .inr rfl
  · cases hp
theorem cc_any {pv sv : Value} (hb : w.heap[b]? = some (.cells #[pv, sv] 85 (0, 0))) (hp : pv = .pointer none ∨ pv = .pointer (some ⟨b, 0, none⟩)) :
    Calls Tryz.prog 156 #[.pointer (some ⟨b, 0, none⟩)] w fun e w' => e = .returned (.tuple #[]) ∧ w' = w.setRow b #[.pointer (some ⟨b, 0, none⟩), sv] := by
  have hc0 : w.cell? ⟨b, 0, none⟩ = some pv := by rw [cell_of_cells hb]; rfl
  rcases hp with rfl | rfl
  · refine (cc_fresh b w hc0 (by rw [shape_of_cells hb]; rfl) (by simp [World.frozen?, hb])).mono ?_
    rintro e w' ⟨rfl, rfl⟩
    exact ⟨rfl, by rw [setCell_row hb]; rfl⟩
  · refine (cc_used b w hc0).mono ?_
    rintro e w' ⟨rfl, rfl⟩
    exact ⟨rfl, (setRow_self _ _ _ _ _ hb).symm⟩
/-- Behind the copy check. -/
theorem bld_one (hs : St w0 K w g s) (hu : s.Und (d + 1)) (hpi : g.π l = some b) (hty : ∀ q n, n < 1024 → l.t = 1000000 + (q * 1024 + n) → w.shape? b = some (q, n)) (ho : s.ob l = some [p, .sl tk xs]) {pv sv : Value} (hb : w.heap[b]? = some (.cells #[pv, sv] 85 (0, 0))) (hv : VR w g s (.sl tk xs) sv) :
    St w0 K (w.setRow b #[.pointer (some ⟨b, 0, none⟩), sv]) g (s.set l [.ptr l 0, .sl tk xs]) ∧ Ev w g s (w.setRow b #[.pointer (some ⟨b, 0, none⟩), sv]) g (s.set l [.ptr l 0, .sl tk xs]) ∧ (s.set l [.ptr l 0, .sl tk xs]).Und (d + 1) := by
  have hfl := hs.flat l _ ho
  exact hs.put hu ho hpi hb (vs' := #[.pointer (some ⟨b, 0, none⟩), sv]) (by simp) (by simp) (fun c hc => by
      simp only [List.mem_cons, List.not_mem_nil, or_false] at hc
      rcases hc with rfl | rfl
      · exact ⟨rfl, by simp [MV.top]⟩
      · exact hfl _ (by simp)) (fun i c hc => by
      match i, hc with
      | 0, hc => simp at hc; subst hc; exact .ptr l 0 b hpi hty
      | 1, hc => simp at hc; subst hc; exact hv)
/-- Bytes are put behind, and the row is kept. -/
theorem bld_two (hs : St w0 K w g s) (hu : s.Und (d + 1)) (hk : l.d ≤ d) (hpi : g.π l = some b) (hty : ∀ q n, n < 1024 → l.t = 1000000 + (q * 1024 + n) → w.shape? b = some (q, n)) (hsh : w.shape? b = some (85, 2)) (ho : s.ob l = some [.ptr l 0, .sl tk xs]) {sv : Value} (hv : VR w g s (.sl tk xs) sv)
    {f : Value → Sem Value} {x : List UInt8} (hf : Ap Tryz.prog w 5 f x) {v : MV} {s' : Sto} (he : bapp lim l.d 5 s tk xs x = some (v, s')) :
    ∃ ao n cap w2 sv2, (f sv).run Tryz.prog w = .ok (.slice ao n cap) w2 ∧ w2.heap[b]? = some (.cells #[.pointer (some ⟨b, 0, none⟩), sv2] 85 (0, 0)) ∧
      ∃ g2, St w0 K (w2.setRow b #[.pointer (some ⟨b, 0, none⟩), .slice ao n cap]) g2 (s'.set l [.ptr l 0, v]) ∧ Ev w g s (w2.setRow b #[.pointer (some ⟨b, 0, none⟩), .slice ao n cap]) g2 (s'.set l [.ptr l 0, v]) ∧ (s'.set l [.ptr l 0, v]).Und (d + 1) := by
  obtain ⟨u, w2, hrun, g2, q1, q2, q3, q4⟩ := bappSound hs hu hk hf hv he
  obtain ⟨hob, tk', xs', rfl⟩ := bapp_ob he
  have hpi2 := q3.pi l b hpi
  have ho2 : s'.ob l = some [.ptr l 0, .sl tk xs] := by rw [hob]; exact ho
  obtain ⟨pv, sv2, hb2, hp2, _⟩ := bld_open q2 hpi2 (q3.sh _ _ hsh) ho2
  have hpv : pv = .pointer (some ⟨b, 0, none⟩) := by
    cases hp2 with
    | ptr l off b' hb ht => rw [hpi2] at hb; cases hb; rfl
  subst hpv
  have htop : (MV.sl tk xs).top l.d = true := (hs.flat l _ ho _ (by simp)).2
  have htop' := bapp_top he htop
  have : ∃ ao n cap, u = .slice ao n cap := by
    cases q1 with
    | sl t xs a cap b o z u hcap htok ha hz hF hp hv => exact ⟨_, _, _, rfl⟩
  obtain ⟨ao, n, cap, rfl⟩ := this
  obtain ⟨r1, r2, r3⟩ := q2.put q4 ho2 hpi2 hb2 (vs' := #[.pointer (some ⟨b, 0, none⟩), .slice ao n cap]) (cs' := [.ptr l 0, .sl tk' xs']) (by simp) (by simp) (fun c hc => by
      simp only [List.mem_cons, List.not_mem_nil, or_false] at hc
      rcases hc with rfl | rfl
      · exact ⟨rfl, by simp [MV.top]⟩
      · exact ⟨rfl, htop'⟩) (fun i c hc => by
      match i, hc with
      | 0, hc => simp at hc; subst hc; exact .ptr l 0 b hpi2 (fun q n hn e => q3.sh _ _ (hty q n hn e))
      | 1, hc => simp at hc; subst hc; exact q1)
  exact ⟨ao, n, cap, w2, sv2, hrun, hb2, g2, r1, q3.trans r2, r3⟩
end

theorem set2 (σ : Sto) (l : Mv.Loc) (a b : List MV) : (σ.set l a).set l b = σ.set l b := by
  refine Sto.ext' (fun l' => ?_) (fun _ _ => rfl) fun _ => rfl
  simp only [Sto.set]; split <;> rfl
theorem info8 : ∃ i, Tryz.prog.info? 5 = some i ∧ i.size = 1 ∧ i.zero = some (.int .u8 0) ∧ i.bytes = 1 := by
  have h : (Tryz.prog.info? 5).map (fun i => (i.size, i.bytes)) = some (1, 1) := by kernel_rfl
  have h2 : (Tryz.prog.info? 5).bind (·.zero) = some (.int .u8 0) := by kernel_rfl
  obtain ⟨i, hi, h3⟩ := Option.map_eq_some_iff.1 h
  rw [hi] at h2
  simp only [Prod.mk.injEq] at h3
  exact ⟨i, hi, h3.1, h2, h3.2⟩
theorem strC (x : List UInt8) : Lib.strCells ⟨x.toArray⟩ = cellsB x := by simp [Lib.strCells, cellsB]
theorem baS (x : List UInt8) : (ByteArray.mk x.toArray).size = x.length := by simp [ByteArray.size]
theorem und43 : Tryz.prog.underlying 58 = some (.slice 5) := by kernel_rfl
theorem und9 : Tryz.prog.underlying 9 = some .string := by kernel_rfl
theorem ap_string (w : World) (x : List UInt8) : Ap Tryz.prog w 5 (fun v => Builtin.append_ #[58, 9] 58 #[v, .string ⟨x.toArray⟩]) x := by
  obtain ⟨i, hi, h1, h2, h3⟩ := info8
  refine ⟨fun hx a n cap hn => ?_, fun hx hl => ?_, fun b n cap cur hb hr hf => ?_, fun b n cap olds ho hc hg hl => ?_⟩
  · subst hx
    have hf : (Builtin.firstCells i.size 0 (.string ⟨#[]⟩)).run Tryz.prog w = .ok #[] w := by simp [Builtin.firstCells]
    have hz : (ByteArray.mk #[]).size = 0 := rfl
    cases a <;> simp [hz, Builtin.append_, run_underlying und43, run_underlying und9, sizeOf, typeInfo, hi, Builtin.lenOf, hn, hf, storeCells]
  · have := run_append_nil_string (P := Tryz.prog) w 58 9 58 5 i (.int .u8 0) und43 und9 hi h2 ⟨x.toArray⟩ (by rw [baS]; exact List.length_pos_iff.2 hx) (by rw [baS]; omega) (by rw [baS, h3]; omega)
    rw [baS] at this
    have e : (ByteArray.mk x.toArray).data.map (fun b => Value.int .u8 b.toNat) = (cellsB x).toArray := by
      apply Array.ext'
      simp [cellsB]
    rw [e] at this
    exact this
  · have := Lib.run_append_room_string (P := Tryz.prog) w 58 9 58 5 i und43 und9 hi h1 b n cap cur hb ⟨x.toArray⟩ (by rw [baS]; exact hr) (by rw [baS]; exact hf)
    rw [baS, strC] at this
    exact this
  · have := Lib.run_append_grow_string (P := Tryz.prog) w 58 9 58 5 i (.int .u8 0) und43 und9 hi h2 ⟨b, 0, none⟩ n cap olds (by rw [h1, ho]; omega) (fun j v hj => by rw [add_lit]; simpa using hc j v hj) ⟨x.toArray⟩ (by rw [baS]; exact hg) (by rw [baS]; omega) (by rw [baS, h3]; exact growslice_fits (by omega) (by omega))
    rw [baS, strC] at this
    exact this
theorem wpList_app {P : Program} {ops : Array Oper} {rest : List Oper} {o : Oper} {a : Act} {Q : Exit → Act → World → Prop} (hgd : o.guard = none) (sl x : Operand) (t u : TypeId)
    (ho : o.op = .call { callee := .builtin .append, args := #[sl, x], argTypes := #[t, u] }) {v1 v2 v' : Value} {w w' : World} (hs : a.eval sl = v1) (hx : a.eval x = v2) (hr : (Builtin.append_ #[t, u] o.type #[v1, v2]).run P w = .ok v' w')
    (h : wpList P ops Q rest (a.put o.dst v') w') : wpList P ops Q (o :: rest) a w := by
  refine wpList_plain hgd fun K hK => ?_
  unfold Oper.wp execOp
  simp only [ho, resolve, invoke, builtin, Sem.run_bind, Sem.run_pure, Result.andThen_ok, List.map_toArray, List.map_cons, List.map_nil, hs, hx, hr]
  exact hK _ _ h
theorem wstr_inv {lim d : Nat} {ms : List MV} {s : Sto} {r : MV × Sto} (h : wstrP lim (d + 1) ms s = some r) : ∃ l x p tk xs v s', ms = [.ptr l 0, .str x] ∧ lim ≤ l.d ∧ l.d ≤ d ∧ isB l = true ∧ s.ob l = some [p, .sl tk xs] ∧ okA l p = true ∧ bapp lim l.d 5 s tk xs x = some (v, s') ∧ r = (.tup [.int .i64 x.length, .junk], s'.set l [.ptr l 0, v]) := by
  unfold wstrP at h
  split at h
  · rename_i hd
    cases hd
    split at h
    · rename_i hc
      split at h
      · rename_i p tk xs hob
        split at h
        · rename_i hok
          obtain ⟨⟨v, s'⟩, h1, rfl⟩ := Option.map_eq_some_iff.1 h
          exact ⟨_, _, p, tk, xs, v, s', rfl, hc.1, hc.2.1, hc.2.2, hob, hok, h1, rfl⟩
        · cases h
      · cases h
    · cases h
  · cases h
section
variable {w0 w : World} {K : Kp} {g : Gh} {s : Sto} {lim d : Nat} {ms : List MV} {r : MV × Sto} {vs : Array Value}
theorem args2 {m m' : MV} (ha : ArgsR w g s [m, m'] vs) : ∃ v v', vs = #[v, v'] ∧ VR w g s m v ∧ VR w g s m' v' := by
  obtain ⟨a1, a2⟩ := ha
  obtain ⟨vs⟩ := vs
  match vs, a1 with
  | [v, v'], _ =>
    have h1 := a2 0 _ rfl
    have h2 := a2 1 _ rfl
    simp only [List.getElem?_toArray, List.getElem?_cons_zero, List.getElem?_cons_succ, Option.getD_some] at h1 h2
    exact ⟨v, v', rfl, h1, h2⟩
theorem wstr_ok (h : wstrP lim (d + 1) ms s = some r) (hs : St w0 K w g s) (hu : s.Und (d + 1)) (ha : ArgsR w g s ms vs) : Does X.P 113 vs w fun u w' => Mak w0 K w g s d r.1 r.2 u w' := by
  obtain ⟨l, x, p, tk, xs, v, s', rfl, hl1, hl2, hl3, hob, hok, happ, rfl⟩ := wstr_inv h
  obtain ⟨v0, v1, rfl, h0, h1⟩ := args2 ha
  cases h1
  cases h0 with
  | ptr l off b hpi hty =>
  obtain ⟨pv, sv, hb, hp, hv⟩ := bld_open hs hpi (isB_sh hl3 hty) hob
  have hpv := okA_val hok hpi hp
  obtain ⟨a1, a2, a3⟩ := bld_one hs hu hpi hty hob hb hv
  obtain ⟨ao, n, cap, w2, sv2, hrun, hb2, g2, c1, c2, c3⟩ := bld_two a1 a3 hl2 hpi (fun q n hn e => a2.sh _ _ (hty q n hn e)) (a2.sh _ _ (isB_sh hl3 hty)) (by simp [Sto.set]) (hv.ev a2) (ap_string _ x) (bapp_set happ)
  rw [set2] at c1 c2 c3
  have hb1 : (w.setRow b #[.pointer (some ⟨b, 0, none⟩), sv]).heap[b]? = some (.cells #[.pointer (some ⟨b, 0, none⟩), sv] 85 (0, 0)) := setRow_heap w b _ _ _ _ hb
  have c0 : (w.setRow b #[.pointer (some ⟨b, 0, none⟩), sv]).cell? ⟨b, 0, none⟩ = some (.pointer (some ⟨b, 0, none⟩)) := by rw [cell_of_cells hb1]; rfl
  have d0 : (w.setRow b #[.pointer (some ⟨b, 0, none⟩), sv]).cell? ⟨b, 1, none⟩ = some sv := by rw [cell_of_cells hb1]; rfl
  have e1 : w2.cell? ⟨b, 1, none⟩ = some sv2 := by rw [cell_of_cells hb2]; rfl
  have f1 : w2.frozen? ⟨b, 1, none⟩ = false := by simp [World.frozen?, hb2]
  refine does_calls ent_501 ?_
  change Calls Tryz.prog 113 _ _ _
  have mixed : Tryz.prog.follows .mixedOrders = true := by kernel_rfl
  have t72 := Tryz.underlying85; have a72 := Tryz.isAgg85; have z72 := Tryz.sizeOf85; have v72 := Tryz.zeroValue85; have u72 := run_underlying Tryz.underlying85
  have t70 := Tryz.underlying83; have a70 := Tryz.isAgg83; have z70 := Tryz.sizeOf83; have v70 := Tryz.zeroValue83; have u70 := run_underlying Tryz.underlying83
  have t37 := Tryz.underlying58; have a37 := Tryz.isAgg58; have z37 := Tryz.sizeOf58; have v37 := Tryz.zeroValue58; have u37 := run_underlying Tryz.underlying58
  have t3 := Tryz.underlying3; have a3' := Tryz.isAgg3; have z3 := Tryz.sizeOf3; have v3 := Tryz.zeroValue3; have u3 := run_underlying Tryz.underlying3
  have t9 := Tryz.underlying9; have a9 := Tryz.isAgg9; have z9 := Tryz.sizeOf9; have v9 := Tryz.zeroValue9; have u9 := run_underlying Tryz.underlying9
  have t5 := Tryz.underlying5; have a5 := Tryz.isAgg5; have z5 := Tryz.sizeOf5; have v5 := Tryz.zeroValue5; have u5 := run_underlying Tryz.underlying5
  go_enter Tryz.func113, Tryz.ntmps113
  go_wp2_with (go_at_call 156; refine (cc_any hb hpv).mono ?_)
  rintro e w1 ⟨rfl, rfl⟩
  go_wp2_with (at_builtin; refine wpList_app rfl (.tmp 12) (.tmp 13) 58 9 rfl (v1 := sv) (v2 := .string ⟨x.toArray⟩) rfl rfl hrun ?_)
  go_wp2
  go_ret2
  rw [setCell_row hb2]
  exact (show Mak w0 K w g s d (.tup [.int .i64 x.length, .junk]) (s'.set l [.ptr l 0, v]) (.tuple #[.int .i64 x.length, .nilIface]) (w2.setRow b #[.pointer (some ⟨b, 0, none⟩), .slice ao n cap]) from
    ⟨g2, .tup _ _ rfl (fun i c hc => by
      match i, hc with
      | 0, hc => simp at hc; subst hc; exact .int _ _
      | 1, hc => simp at hc; subst hc; exact .junk _), c1, a2.trans c2, c3⟩)
end
theorem st_far {w0 w w' : World} {K : Kp} {g : Gh} {s : Sto} (h : St w0 K w g s) (h1 : w'.os = w.os) (h2 : w'.tape = w.tape) (h3 : w'.output = w.output)
    (hold : ∀ k, k < w.heap.size → w'.heap[k]? = w.heap[k]?) (hsz : w.heap.size ≤ w'.heap.size) : St w0 K w' g s ∧ Ev w g s w' g s := by
  have ev : Ev w g s w' g s := ⟨fun b o hF => ⟨hF, by obtain ⟨u, hu⟩ := h.FB b o hF; exact cell_eq_of_heap (hold b (block_of_cell hu)) o⟩, fun _ _ k => k, fun _ => Nat.le_refl _, fun _ _ m z _ k => ⟨m, z, k, Nat.le_refl _, fun _ => rfl⟩, fun b x hx => by rw [shape_of_heap (hold b (block_of_shape hx))]; exact hx⟩
  refine ⟨⟨h1.trans h.os, h2.trans h.tape, h3.trans h.output, fun k x hk => ?_, h.kn, fun l cs b hl hp => ?_, h.flat, fun l b hp => ?_, h.inj, h.fr, fun b o hF => ?_, h.Fpi, fun d c m z ho => ?_, h.tin, h.tfr⟩, ev⟩
  · have := h.old k x hk; rw [hold k (getElem?_of_some this)]; exact this
  · obtain ⟨vs, T, e1, e2, e3⟩ := h.obj l cs b hl hp
    exact ⟨vs, T, (hold b (getElem?_of_some e1)).trans e1, e2, fun i c hi => (e3 i c hi).ev ev⟩
  · have := h.piB l b hp; exact ⟨by omega, this.2⟩
  · obtain ⟨u, hu⟩ := h.FB b o hF; exact ⟨u, (ev.F b o hF).2.trans hu⟩
  · obtain ⟨vs, T, e1, e2⟩ := h.tok d c m z ho
    exact ⟨vs, T, (hold _ (getElem?_of_some e1)).trans e1, e2⟩
theorem ap_slice (w : World) (k : Nat) (c : UInt8) (hk : w.cell? ⟨k, 0, none⟩ = some (.int .u8 c.toNat)) : Ap Tryz.prog w 5 (fun v => Builtin.append_ #[58, 58] 58 #[v, .slice (some ⟨k, 0, none⟩) 1 1]) [c] := by
  obtain ⟨i, hi, h1, h2, h3⟩ := info8
  have hn : ∀ j v, [Value.int .u8 c.toNat][j]? = some v → w.cell? ((⟨k, 0, none⟩ : Addr).add j) = some v := fun j v hj => by
    match j, hj with
    | 0, hj => simp at hj; subst hj; simpa [Addr.add] using hk
  have h1' : ∀ u ∈ [Value.int .u8 (c.toNat : Int)], u.oneCell' = true := fun u hu => by simp at hu; subst hu; rfl
  refine ⟨fun hx a n cap hn => (by cases hx), fun hx hl => ?_, fun b n cap cur hb hr hf => ?_, fun b n cap olds ho hc hg hl => ?_⟩
  · exact run_append_nil (P := Tryz.prog) w 58 58 5 i (.int .u8 0) und43 hi h2 ⟨k, 0, none⟩ 1 1 [.int .u8 c.toNat] (by rw [h1]; rfl) hn (by decide) (by decide) (by rw [h3]; decide)
  · have := run_append_room' (P := Tryz.prog) (w := w) 58 58 5 5 i und43 hi b n cap cur hb ⟨k, 0, none⟩ 1 1 [.int .u8 c.toNat] (by rw [h1]; rfl) hn h1' (by simpa using hr) (by rw [h1]; simpa using hf)
    rw [h1, Nat.mul_one] at this
    exact this
  · have := run_append_grow (P := Tryz.prog) w 58 58 5 i (.int .u8 0) und43 hi h2 ⟨b, 0, none⟩ n cap olds (by rw [h1, ho]; omega) (fun j v hj => by rw [add_lit]; simpa using hc j v hj) ⟨k, 0, none⟩ 1 1 [.int .u8 c.toNat] (by rw [h1]; rfl) hn (by simpa using hg) (by have := hl; simp at this ⊢; omega) (by rw [h3]; have := hl; simp at this hg; exact growslice_fits (by omega) (by omega))
    exact this
theorem wbyte_inv {lim d : Nat} {ms : List MV} {s : Sto} {r : MV × Sto} (h : wbyteP lim (d + 1) ms s = some r) : ∃ l c p tk xs v s', ms = [.ptr l 0, .int .u8 c] ∧ lim ≤ l.d ∧ l.d ≤ d ∧ isB l = true ∧ 0 ≤ c ∧ c < 256 ∧ s.ob l = some [p, .sl tk xs] ∧ okA l p = true ∧ bapp lim l.d 5 s tk xs [UInt8.ofNat c.toNat] = some (v, s') ∧ r = (.junk, s'.set l [.ptr l 0, v]) := by
  unfold wbyteP at h
  split at h
  · rename_i hd
    cases hd
    split at h
    · rename_i hc
      split at h
      · rename_i p tk xs hob
        split at h
        · rename_i hok
          obtain ⟨⟨v, s'⟩, h1, rfl⟩ := Option.map_eq_some_iff.1 h
          exact ⟨_, _, p, tk, xs, v, s', rfl, hc.1, hc.2.1, hc.2.2.1, hc.2.2.2.1, hc.2.2.2.2, hob, hok, h1, rfl⟩
        · cases h
      · cases h
    · cases h
  · cases h
section
variable {w0 w : World} {K : Kp} {g : Gh} {s : Sto} {lim d : Nat} {ms : List MV} {r : MV × Sto} {vs : Array Value}
theorem wbyte_ok (h : wbyteP lim (d + 1) ms s = some r) (hs : St w0 K w g s) (hu : s.Und (d + 1)) (ha : ArgsR w g s ms vs) : Does X.P 165 vs w fun u w' => Mak w0 K w g s d r.1 r.2 u w' := by
  obtain ⟨l, c, p, tk, xs, v, s', rfl, hl1, hl2, hl3, hc1, hc2, hob, hok, happ, rfl⟩ := wbyte_inv h
  obtain ⟨v0, v1, rfl, h0, h1⟩ := args2 ha
  cases h1
  cases h0 with
  | ptr l off b hpi hty =>
  have hcc : ((UInt8.ofNat c.toNat).toNat : Int) = c := by
    have : (UInt8.ofNat c.toNat).toNat = c.toNat := by simp; omega
    omega
  obtain ⟨pv, sv, hb, hp, hv⟩ := bld_open hs hpi (isB_sh hl3 hty) hob
  have hpv := okA_val hok hpi hp
  obtain ⟨a1, a2, a3⟩ := bld_one hs hu hpi hty hob hb hv
  have hb1 : (w.setRow b #[.pointer (some ⟨b, 0, none⟩), sv]).heap[b]? = some (.cells #[.pointer (some ⟨b, 0, none⟩), sv] 85 (0, 0)) := setRow_heap w b _ _ _ _ hb
  let wa := (w.setRow b #[.pointer (some ⟨b, 0, none⟩), sv]).alloc (.cells #[.int .u8 c] 5)
  obtain ⟨b1, b2⟩ := st_far a1 (w' := wa) rfl rfl rfl (fun k hk => alloc_heap_old _ _ hk) (by simp [wa])
  have hsz : (w.setRow b #[.pointer (some ⟨b, 0, none⟩), sv]).heap.size = w.heap.size := by simp
  have hck : wa.cell? ⟨w.heap.size, 0, none⟩ = some (.int .u8 (UInt8.ofNat c.toNat).toNat) := by
    rw [← hsz, cell_of_cells (alloc_heap_new _ _), hcc]; rfl
  have a2b := a2.trans b2
  obtain ⟨ao, n, cap, w2, sv2, hrun, hb2, g2, c1, c2, c3⟩ := bld_two b1 a3 hl2 hpi (fun q n hn e => a2b.sh _ _ (hty q n hn e)) (a2b.sh _ _ (isB_sh hl3 hty)) (by simp [Sto.set]) (hv.ev a2b) (ap_slice wa _ _ hck) (bapp_set happ)
  rw [set2] at c1 c2 c3
  have c0 : (w.setRow b #[.pointer (some ⟨b, 0, none⟩), sv]).cell? ⟨b, 0, none⟩ = some (.pointer (some ⟨b, 0, none⟩)) := by rw [cell_of_cells hb1]; rfl
  have d0 : (w.setRow b #[.pointer (some ⟨b, 0, none⟩), sv]).cell? ⟨b, 1, none⟩ = some sv := by rw [cell_of_cells hb1]; rfl
  have e1 : w2.cell? ⟨b, 1, none⟩ = some sv2 := by rw [cell_of_cells hb2]; rfl
  have f1 : w2.frozen? ⟨b, 1, none⟩ = false := by simp [World.frozen?, hb2]
  refine does_calls ent_502 ?_
  change Calls Tryz.prog 165 _ _ _
  have mixed : Tryz.prog.follows .mixedOrders = true := by kernel_rfl
  have t72 := Tryz.underlying85; have a72 := Tryz.isAgg85; have z72 := Tryz.sizeOf85; have v72 := Tryz.zeroValue85; have u72 := run_underlying Tryz.underlying85
  have t70 := Tryz.underlying83; have a70 := Tryz.isAgg83; have z70 := Tryz.sizeOf83; have v70 := Tryz.zeroValue83; have u70 := run_underlying Tryz.underlying83
  have t37 := Tryz.underlying58; have a37 := Tryz.isAgg58; have z37 := Tryz.sizeOf58; have v37 := Tryz.zeroValue58; have u37 := run_underlying Tryz.underlying58
  have t5 := Tryz.underlying5; have a5 := Tryz.isAgg5; have z5 := Tryz.sizeOf5; have v5 := Tryz.zeroValue5; have u5 := run_underlying Tryz.underlying5
  go_enter Tryz.func165, Tryz.ntmps165
  go_wp2_with (go_at_call 156; refine (cc_any hb hpv).mono ?_)
  rintro e w1 ⟨rfl, rfl⟩
  go_wp2_with (at_builtin; refine wpList_app rfl (.tmp 11) (.tmp 13) 58 58 rfl (v1 := sv) (v2 := .slice (some ⟨w.heap.size, 0, none⟩) 1 1) rfl rfl hrun ?_)
  go_wp2
  go_ret
  rw [setCell_row hb2]
  exact (show Mak w0 K w g s d .junk (s'.set l [.ptr l 0, v]) .nilIface (w2.setRow b #[.pointer (some ⟨b, 0, none⟩), .slice ao n cap]) from ⟨g2, .junk _, c1, a2b.trans c2, c3⟩)
end

theorem bytesOf_eq : ∀ (xs : List (List MV)) (bs : List UInt8), bytesOf xs = some bs → xs.length = bs.length ∧ ∀ (i : Nat) (x : List MV), xs[i]? = some x → ∃ n, x = [.int .u8 n] ∧ bs[i]? = some (UInt8.ofNat n.toNat)
  | [], bs, h => by
    simp only [bytesOf, Option.some.injEq] at h
    subst h
    exact ⟨rfl, by simp⟩
  | y :: xs, bs, h => by
    unfold bytesOf at h
    split at h
    · rename_i q; cases q
    · rename_i n r q
      cases q
      obtain ⟨bs', h1, rfl⟩ := Option.map_eq_some_iff.1 h
      obtain ⟨e1, e2⟩ := bytesOf_eq _ bs' h1
      refine ⟨by simp [e1], fun i x hx => ?_⟩
      cases i with
      | zero => simp at hx; subst hx; exact ⟨n, rfl, by simp⟩
      | succ i => simpa using e2 i x (by simpa using hx)
    · cases h
theorem freeze_at {w : World} {r n : Nat} {vs : Array Value} {T : TypeId} (hr : w.heap[r]? = some (.cells vs T (0, 0))) : ∃ fr, (w.freeze ⟨r, 0, none⟩ n).heap[r]? = some (.cells vs T fr) := by
  unfold World.freeze
  split
  · exact ⟨_, hr⟩
  · exact ⟨(0, 0 + n), by rw [Array.getElem?_modify, if_pos rfl, hr]; rfl⟩
theorem freeze_other {w : World} {r n k : Nat} (hk : k ≠ r) : (w.freeze ⟨r, 0, none⟩ n).heap[k]? = w.heap[k]? := by
  unfold World.freeze
  split
  · rfl
  · rw [Array.getElem?_modify, if_neg (fun e => hk e.symm)]
theorem freeze_size {w : World} {r n : Nat} : (w.freeze ⟨r, 0, none⟩ n).heap.size = w.heap.size := by
  unfold World.freeze
  split <;> simp
theorem freeze_os {w : World} {r n : Nat} : (w.freeze ⟨r, 0, none⟩ n).os = w.os ∧ (w.freeze ⟨r, 0, none⟩ n).tape = w.tape ∧ (w.freeze ⟨r, 0, none⟩ n).output = w.output := by
  unfold World.freeze
  split <;> exact ⟨rfl, rfl, rfl⟩
section
variable {w0 w : World} {K : Kp} {g : Gh} {s : Sto} {lim d : Nat} {ms : List MV} {r : MV × Sto} {vs : Array Value}
/-- A row is frozen: nothing goes behind it any more. -/
theorem st_frz {k c m z n : Nat} (h : St w0 K w g s) (ho : s.ow k c = some (m, z)) : St w0 K (w.freeze ⟨(g.τ k c).1, 0, none⟩ n) g (s.own k c none) ∧ Ev w g s (w.freeze ⟨(g.τ k c).1, 0, none⟩ n) g (s.own k c none) := by
  obtain ⟨vs, T, t1, t2, t3, t4, t5, t6, t7, t8⟩ := h.tok k c m z ho
  obtain ⟨fr, hr⟩ := freeze_at (n := n) t1
  have hold : ∀ b, b ≠ (g.τ k c).1 → (w.freeze ⟨(g.τ k c).1, 0, none⟩ n).heap[b]? = w.heap[b]? := fun b hb => freeze_other hb
  have hcell : ∀ b o, (w.freeze ⟨(g.τ k c).1, 0, none⟩ n).cell? ⟨b, o, none⟩ = w.cell? ⟨b, o, none⟩ := fun b o => by
    by_cases e : b = (g.τ k c).1
    · subst e; rw [cell_of_cells hr, cell_of_cells t1]
    · exact cell_eq_of_heap (hold b e) o
  have ev : Ev w g s (w.freeze ⟨(g.τ k c).1, 0, none⟩ n) g (s.own k c none) := ⟨fun b o hF => ⟨hF, hcell b o⟩, fun _ _ h => h, fun _ => Nat.le_refl _, fun d' c' m' z' _ h' => by
      simp only [Sto.own] at h'
      split at h'
      · cases h'
      · exact ⟨m', z', h', Nat.le_refl _, fun _ => rfl⟩, fun b x hx => by
      by_cases e : b = (g.τ k c).1
      · subst e; rw [shape_of_cells hr, ← shape_of_cells t1]; exact hx
      · rw [shape_of_heap (hold b e)]; exact hx⟩
  obtain ⟨f1, f2, f3⟩ := freeze_os (w := w) (r := (g.τ k c).1) (n := n)
  refine ⟨⟨f1.trans h.os, f2.trans h.tape, f3.trans h.output, fun b x hk => ?_, h.kn, fun l cs b hl hp => ?_, h.flat, fun l b hp => ?_, h.inj, h.fr, fun b o hF => ?_, h.Fpi, fun d' c' m' z' ho' => ?_, fun d1 c1 d2 c2 x1 x2 h1 h2 => ?_, fun d' c' hc' => ?_⟩, ev⟩
  · rw [hold b (by rintro rfl; exact t2 x hk)]; exact h.old b x hk
  · obtain ⟨vs2, T2, e1, e2, e3⟩ := h.obj l cs b hl hp
    exact ⟨vs2, T2, (hold b (fun e => t7 l (by rw [← e]; exact hp))).trans e1, e2, fun i c hi => (e3 i c hi).ev ev⟩
  · have := h.piB l b hp; exact ⟨by rw [freeze_size]; exact this.1, this.2⟩
  · obtain ⟨u, hu⟩ := h.FB b o hF; exact ⟨u, (hcell b o).trans hu⟩
  · simp only [Sto.own] at ho'
    split at ho'
    · cases ho'
    · rename_i hne
      obtain ⟨vs2, T2, e1, e2⟩ := h.tok d' c' m' z' ho'
      exact ⟨vs2, T2, (hold _ (fun e => hne (h.tin d' c' k c _ _ ho' ho e))).trans e1, e2⟩
  · simp only [Sto.own] at h1 h2
    split at h1
    · cases h1
    · split at h2
      · cases h2
      · exact h.tin d1 c1 d2 c2 x1 x2 h1 h2
  · simp only [Sto.own]
    split
    · rfl
    · exact h.tfr d' c' hc'
theorem cellsByte : Tryz.prog.cellsOf 5 = 1 := by kernel_rfl
theorem bstr_nil {b : Nat} (hbk : w.cell? ⟨b, 1, none⟩ = some (.slice none 0 0)) :
    Calls Tryz.prog 32 #[.pointer (some ⟨b, 0, none⟩)] w fun e w' => e = .returned (.string ⟨#[]⟩) ∧ w' = w.drew := by
  have hUS : ∀ (W : World) (q : Option Addr), (Builtin.unsafeString_ #[118, 3] 9 #[.pointer q, .int .i64 0]).run Tryz.prog W = .ok (.string .empty) W := fun W q => Lib.run_unsafeString_none W _ _ _ q
  have c1 : w.drew.cell? ⟨b, 1, none⟩ = some (.slice none 0 0) := hbk
  have hSD : (Builtin.unsafeSliceData_ #[58] 118 #[.slice none 0 0]).run Tryz.prog w.drew = .ok (.pointer none) w.drew := rfl
  have mixed : Tryz.prog.follows .mixedOrders = true := by kernel_rfl
  have t72 := Tryz.underlying85; have a72 := Tryz.isAgg85; have z72 := Tryz.sizeOf85; have v72 := Tryz.zeroValue85; have u72 := run_underlying Tryz.underlying85
  have t70 := Tryz.underlying83; have a70 := Tryz.isAgg83; have z70 := Tryz.sizeOf83; have v70 := Tryz.zeroValue83; have u70 := run_underlying Tryz.underlying83
  have t37 := Tryz.underlying58; have a37 := Tryz.isAgg58; have z37 := Tryz.sizeOf58; have v37 := Tryz.zeroValue58; have u37 := run_underlying Tryz.underlying58
  have t127 := Tryz.underlying118; have a127 := Tryz.isAgg118; have z127 := Tryz.sizeOf118; have v127 := Tryz.zeroValue118; have u127 := run_underlying Tryz.underlying118
  have t3 := Tryz.underlying3; have a3 := Tryz.isAgg3; have z3 := Tryz.sizeOf3; have v3 := Tryz.zeroValue3; have u3 := run_underlying Tryz.underlying3
  have t9 := Tryz.underlying9; have a9 := Tryz.isAgg9; have z9 := Tryz.sizeOf9; have v9 := Tryz.zeroValue9; have u9 := run_underlying Tryz.underlying9
  have t5 := Tryz.underlying5; have a5 := Tryz.isAgg5; have z5 := Tryz.sizeOf5; have v5 := Tryz.zeroValue5; have u5 := run_underlying Tryz.underlying5
  go_enter Tryz.func32, Tryz.ntmps32
  go_wp2
  go_region_o
  all_goals (go_wp2; go_ret; exact ⟨rfl, rfl⟩)
theorem bstr_row {b q cap : Nat} {bs : List UInt8} {cur : Array Value} (h0 : bs ≠ []) (hbk : w.cell? ⟨b, 1, none⟩ = some (.slice (some ⟨q, 0, none⟩) bs.length cap)) (hg : w.heap[q]? = some (.cells cur 5 (0, 0))) (hnc : bs.length ≤ cap) (hcm : bs.length ≤ 9223372036854775807) (hcs : bs.length ≤ cur.size)
    (hc : ∀ (j : Nat) (x : UInt8), bs[j]? = some x → cur[j]? = some (.int .u8 x.toNat)) :
    Calls Tryz.prog 32 #[.pointer (some ⟨b, 0, none⟩)] w fun e w' => e = .returned (.string ⟨bs.toArray⟩) ∧ w' = w.drew.freeze ⟨q, 0, none⟩ bs.length := by
  have hl0 : bs.length ≠ 0 := by simpa using h0
  have c1 : w.drew.cell? ⟨b, 1, none⟩ = some (.slice (some ⟨q, 0, none⟩) bs.length cap) := hbk
  have hSD : (Builtin.unsafeSliceData_ #[58] 118 #[.slice (some ⟨q, 0, none⟩) bs.length cap]).run Tryz.prog w.drew = .ok (.pointer (some ⟨q, 0, none⟩)) w.drew :=
    Lib.run_unsafeSliceData_row _ _ _ _ _ _ (by omega)
  have hUS : (Builtin.unsafeString_ #[118, 3] 9 #[.pointer (some ⟨q, 0, none⟩), .int .i64 bs.length]).run Tryz.prog w.drew = .ok (.string ⟨bs.toArray⟩) (w.drew.freeze ⟨q, 0, none⟩ bs.length) := by
    refine Lib.run_unsafeString_row w.drew 118 3 9 5 Tryz.underlying118 cellsByte q cur.size (by have hg' : w.drew.heap[q]? = some (.cells cur 5 (0, 0)) := hg; simp [World.shape?, hg']) bs h0 hcs hcm ?_
    intro j x hx
    have hg' : w.drew.heap[q]? = some (.cells cur 5 (0, 0)) := hg
    rw [add_lit, Nat.zero_add, Lib.cell_of_heap hg']
    exact hc j x hx
  have mixed : Tryz.prog.follows .mixedOrders = true := by kernel_rfl
  have t72 := Tryz.underlying85; have a72 := Tryz.isAgg85; have z72 := Tryz.sizeOf85; have v72 := Tryz.zeroValue85; have u72 := run_underlying Tryz.underlying85
  have t70 := Tryz.underlying83; have a70 := Tryz.isAgg83; have z70 := Tryz.sizeOf83; have v70 := Tryz.zeroValue83; have u70 := run_underlying Tryz.underlying83
  have t37 := Tryz.underlying58; have a37 := Tryz.isAgg58; have z37 := Tryz.sizeOf58; have v37 := Tryz.zeroValue58; have u37 := run_underlying Tryz.underlying58
  have t127 := Tryz.underlying118; have a127 := Tryz.isAgg118; have z127 := Tryz.sizeOf118; have v127 := Tryz.zeroValue118; have u127 := run_underlying Tryz.underlying118
  have t3 := Tryz.underlying3; have a3 := Tryz.isAgg3; have z3 := Tryz.sizeOf3; have v3 := Tryz.zeroValue3; have u3 := run_underlying Tryz.underlying3
  have t9 := Tryz.underlying9; have a9 := Tryz.isAgg9; have z9 := Tryz.sizeOf9; have v9 := Tryz.zeroValue9; have u9 := run_underlying Tryz.underlying9
  have t5 := Tryz.underlying5; have a5 := Tryz.isAgg5; have z5 := Tryz.sizeOf5; have v5 := Tryz.zeroValue5; have u5 := run_underlying Tryz.underlying5
  go_enter Tryz.func32, Tryz.ntmps32
  go_wp2
  go_region_o
  all_goals (go_wp2; go_ret; exact ⟨rfl, rfl⟩)
theorem args1 {m : MV} (ha : ArgsR w g s [m] vs) : ∃ v, vs = #[v] ∧ VR w g s m v := by
  obtain ⟨a1, a2⟩ := ha
  obtain ⟨vs⟩ := vs
  match vs, a1 with
  | [v], _ =>
    have h1 := a2 0 _ rfl
    simp only [List.getElem?_toArray, List.getElem?_cons_zero, Option.getD_some] at h1
    exact ⟨v, rfl, h1⟩
theorem bstr_inv (h : bstrP lim (d + 1) ms s = some r) : ∃ l, ms = [.ptr l 0] ∧ lim ≤ l.d ∧ l.d ≤ d ∧ ((∃ p, s.ob l = some [p, .sl .nil []] ∧ r = (.str [], s)) ∨
    ∃ p k c xs bs, s.ob l = some [p, .sl (.byt k c 5) xs] ∧ bytesOf xs = some bs ∧ lim ≤ k ∧ k ≤ l.d ∧ bs ≠ [] ∧ okz 1 xs = true ∧ (inB xs = true ∧ xs.length ≤ 140737488355328) ∧ s.ow k c = some (xs.length, 1) ∧ r = (.str bs, (s.own k c none).set l [p, .sl .no xs])) := by
  unfold bstrP at h
  split at h
  · rename_i hd
    cases hd
    split at h
    · rename_i hc
      split at h
      · rename_i p hob
        cases h
        exact ⟨_, rfl, hc.1, hc.2, .inl ⟨p, hob, rfl⟩⟩
      · rename_i p k c q xs hob
        split at h
        · rename_i bs hbs
          split at h
          · rename_i hcc
            obtain ⟨hc1, hc2, rfl, hc4, hc5, hc6, hc7⟩ := hcc
            cases h
            exact ⟨_, rfl, hc.1, hc.2, .inr ⟨p, k, c, xs, bs, hob, hbs, hc1, hc2, hc4, hc5, hc6, hc7, rfl⟩⟩
          · cases h
        · cases h
      · cases h
    · cases h
  · cases h
theorem inB_at : ∀ {xs : List (List MV)}, inB xs = true → ∀ (i : Nat) (n : Int), xs[i]? = some [.int .u8 n] → 0 ≤ n ∧ n < 256
  | [], _, i, n, hi => by simp at hi
  | y :: xs, h, i, n, hi => by
    unfold inB at h
    split at h
    · rename_i q; cases q
    · rename_i m r q
      cases q
      simp only [Bool.and_eq_true, decide_eq_true_eq] at h
      cases i with
      | zero => simp at hi; subst hi; exact h.1
      | succ i => exact inB_at h.2 i n (by simpa using hi)
    · cases h
theorem bstr_ok (h : bstrP lim (d + 1) ms s = some r) (hs : St w0 K w g s) (hu : s.Und (d + 1)) (ha : ArgsR w g s ms vs) : Does X.P 32 vs w fun u w' => Mak w0 K w g s d r.1 r.2 u w' := by
  obtain ⟨l, rfl, hl1, hl2, h | h⟩ := bstr_inv h
  · obtain ⟨p, hob, rfl⟩ := h
    obtain ⟨v0, rfl, h0⟩ := args1 ha
    cases h0 with
    | ptr l off b hpi hty =>
    obtain ⟨vsb, T, e1, e2, e3⟩ := hs.obj l _ b hob hpi
    have h1 := e3 1 _ rfl
    have hlt : 1 < vsb.size := by simp at e2; omega
    rw [Array.getElem?_eq_getElem hlt, Option.getD_some] at h1
    have hv : vsb[1] = .slice none 0 0 := by
      generalize vsb[1] = z at h1
      cases h1 with
      | sl t xs a cap b o z u hcap htok ha hz hF hp hv =>
        obtain ⟨rfl, rfl⟩ := htok
        rfl
    have hc1 : w.cell? ⟨b, 1, none⟩ = some (.slice none 0 0) := by rw [cell_of_cells e1, Array.getElem?_eq_getElem hlt, hv]
    refine does_calls ent_503 ?_
    refine (show Calls Tryz.prog 32 _ _ _ from bstr_nil hc1).mono ?_
    rintro e w' ⟨rfl, rfl⟩
    obtain ⟨k1, k2⟩ := hs.same (w' := w.drew) rfl rfl rfl rfl
    exact (show Mak w0 K w g s d (.str []) s (.string ⟨#[]⟩) w.drew from ⟨g, .str [], k1, k2, hu⟩)
  · obtain ⟨p, k, c, xs, bs, hob, hbs, hc1, hc2, hc4, hc5, hc6, hc7, rfl⟩ := h
    obtain ⟨v0, rfl, h0⟩ := args1 ha
    cases h0 with
    | ptr l off b hpi hty =>
    obtain ⟨vsb, T, e1, e2, e3⟩ := hs.obj l _ b hob hpi
    have h1 := e3 1 _ rfl
    have h00 := e3 0 _ rfl
    have hlt : 1 < vsb.size := by simp at e2; omega
    obtain ⟨rvs, T2, t1, t2, t3, t4, t5, t6, t7, t8⟩ := hs.tok k c _ _ hc7
    rw [Array.getElem?_eq_getElem hlt, Option.getD_some] at h1
    have hcl1 : w.cell? ⟨b, 1, none⟩ = some vsb[1] := by rw [cell_of_cells e1, Array.getElem?_eq_getElem hlt]
    have hera := h1.era
    have hvb : vsb[1]? = some vsb[1] := Array.getElem?_eq_getElem hlt
    generalize vsb[1] = zv at h1 hcl1 hera hvb
    obtain ⟨l1, l2⟩ := bytesOf_eq _ _ hbs
    have hmax : xs.length ≤ 9223372036854775807 := by omega
    have hfit : xs.length ≤ rvs.size := by omega
    have key : ∃ cap, zv = .slice (some ⟨(g.τ k c).1, 0, none⟩) xs.length cap ∧ xs.length ≤ cap ∧ rvs.size = rvs.size ∧ T2 = 5 ∧ ∀ (j : Nat) (x : UInt8), bs[j]? = some x → rvs[j]? = some (.int .u8 x.toNat) := by
      cases h1 with
      | sl t xs a cap b' o z u hcap htok ha hz hF hp hv =>
      obtain ⟨_, t9⟩ := htok.2 _ _ hc7
      obtain ⟨rfl, rfl, kk, hsh⟩ := t9 rfl
      rw [shape_of_cells t1] at hsh
      simp only [Option.some.injEq, Prod.mk.injEq] at hsh
      have hne : xs ≠ [] := by
        intro e; subst e; simp at l1; exact hc4 (List.length_eq_zero_iff.1 l1.symm)
      have ea := ha hne
      rw [t8] at ea
      simp only [Option.some.injEq, Addr.mk.injEq] at ea
      obtain ⟨rfl, rfl, _⟩ := ea
      have hz1 : z = 1 := by
        cases xs with
        | nil => exact absurd rfl hne
        | cons y ys =>
          rw [← hz y (List.mem_cons_self ..)]
          have := List.all_eq_true.1 hc5 y (List.mem_cons_self ..)
          simpa using this
      subst hz1
      refine ⟨_, by rw [t8], hcap, rfl, hsh.1, fun j x hx => ?_⟩
      have hj : j < xs.length := by rw [l1]; exact (List.getElem?_eq_some_iff.1 hx).1
      have hxj : xs[j]? = some xs[j] := List.getElem?_eq_getElem hj
      obtain ⟨n, hn1, hn2⟩ := l2 j _ hxj
      rw [hx] at hn2
      cases hn2
      have hn3 := inB_at hc6.1 j n (by rw [hxj, hn1])
      have hcv := hv j _ hxj 0 (.int .u8 n) (by rw [hn1]; rfl)
      have hcc := (hF j 0 hj (Nat.lt_succ_self 0)).2
      rw [Nat.zero_add, Nat.mul_one, Nat.add_zero, cell_of_cells t1] at hcc
      rw [hcc]
      generalize u j 0 = uu at hcv
      cases hcv
      have : ((UInt8.ofNat n.toNat).toNat : Int) = n := by
        have : (UInt8.ofNat n.toNat).toNat = n.toNat := by simp; omega
        omega
      rw [this]
    obtain ⟨cap, rfl, hcap, _, rfl, hcur⟩ := key
    rw [l1] at hcl1
    refine does_calls ent_503 ?_
    refine (show Calls Tryz.prog 32 _ _ _ from bstr_row hc4 hcl1 t1 (by omega) (by omega) (by omega) hcur).mono ?_
    rintro e w' ⟨rfl, rfl⟩
    obtain ⟨k1, k2⟩ := hs.same (w' := w.drew) rfl rfl rfl rfl
    obtain ⟨m1, m2⟩ := st_frz (n := bs.length) k1 hc7
    have e1' : (w.drew.freeze ⟨(g.τ k c).1, 0, none⟩ bs.length).heap[b]? = some (.cells vsb T (0, 0)) := by
      rw [freeze_other (fun e => t7 l (by rw [← e]; exact hpi))]; exact e1
    have hev := k2.trans m2
    obtain ⟨r1, r2, r3⟩ := m1.put (Und.grow hu hc7 none) (l := l) (cs := [p, .sl (.byt k c 5) xs]) (cs' := [p, .sl .no xs]) hob hpi e1' (vs' := vsb) (by simpa using e2) rfl (fun cc hcc => by
        simp only [List.mem_cons, List.not_mem_nil, or_false] at hcc
        rcases hcc with rfl | rfl
        · exact hs.flat l _ hob _ (by simp)
        · exact ⟨rfl, rfl⟩) (fun i cc hcc => by
        match i, hcc with
        | 0, hcc => simp at hcc; subst hcc; exact h00.ev hev
        | 1, hcc =>
          simp at hcc; subst hcc
          rw [hvb, Option.getD_some]
          exact hera.ev hev)
    rw [setRow_self _ _ _ _ _ e1'] at r1 r2
    exact (show Mak w0 K w g s d (.str bs) ((s.own k c none).set l [p, .sl .no xs]) (.string ⟨bs.toArray⟩) (w.drew.freeze ⟨(g.τ k c).1, 0, none⟩ bs.length) from ⟨g, .str bs, r1, hev.trans r2, r3⟩)
end
end Go.Proofs.Tryz.E
