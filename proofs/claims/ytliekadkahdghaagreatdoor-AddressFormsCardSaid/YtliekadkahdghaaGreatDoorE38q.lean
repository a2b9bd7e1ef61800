/- Walks: what the functions compute. -/
import Derived.Test.YtliekadkahdghaaGreatDoorE0
import Derived.Test.YtliekadkahdghaaGreatDoorMvD
import Derived.Test.YtliekadkahdghaaGreatDoorSh
import Derived.Lib.SliceRun
import Derived.Laws.Externs
import Derived.Lib.Bytealg
import Derived.Lib.Index
import Derived.Shelf.Abstract
import Derived.Shelf.RegionOpenPlain
import Derived.WalkKit
import Derived.Lib.Walk
set_option linter.unusedVariables false
set_option linter.unusedSimpArgs false
/- The configuration is sound: what is asked of it holds of the program. -/
namespace Go.Proofs.Tryz.E
open Go.Mv
set_option maxRecDepth 100000
set_option maxHeartbeats 4000000

theorem num_ok (f : FuncId) (fn : Func) (hf : X.P.funcs[f]? = some fn) : (fn.name == "runtime.NumGoroutine") = false := by
  have h : (X.P.funcs.toList.all fun fn => !(fn.name == "runtime.NumGoroutine")) = true := by kernel_rfl
  have hm : fn ∈ X.P.funcs.toList := by
    obtain ⟨hl, rfl⟩ := Array.getElem?_eq_some_iff.1 hf
    exact Array.mem_toList_iff.2 (Array.getElem_mem hl)
  have := List.all_eq_true.1 h fn hm
  simpa using this
theorem mix_ok : X.P.follows .mixedOrders = true := by kernel_rfl
theorem eq_ok (t : TypeId) (sh : List Sh) (h : X.eqT t = some sh) : EqFact X.P t sh := by
  unfold X at h
  simp only at h
  repeat' split at h
  all_goals first
    | (rename_i e; cases h; subst e; first | exact eqFact_of (d := 4) (by kernel_rfl) (by decide) (by kernel_rfl) (by kernel_rfl) | exact eqFact_of (d := 3) (by kernel_rfl) (by decide) (by kernel_rfl) (by kernel_rfl))
    | cases h

theorem st_far {w0 w w' : World} {K : Kp} {g : Gh} {s : Sto} (h : St w0 K w g s) (h1 : w'.os = w.os) (h2 : w'.tape = w.tape) (h3 : w'.output = w.output)
    (hold : ∀ k, k < w.heap.size → w'.heap[k]? = w.heap[k]?) (hsz : w.heap.size ≤ w'.heap.size) : St w0 K w' g s ∧ Ev w g s w' g s := by
  have ev : Ev w g s w' g s := ⟨fun b o hF => ⟨hF, by obtain ⟨u, hu⟩ := h.FB b o hF; exact cell_eq_of_heap (hold b (block_of_cell hu)) o⟩, fun _ _ k => k, fun _ => Nat.le_refl _, fun _ _ m z _ k => ⟨m, z, k, Nat.le_refl _, fun _ => rfl⟩⟩
  refine ⟨⟨h1.trans h.os, h2.trans h.tape, h3.trans h.output, fun k x hk => ?_, h.kn, fun l cs b hl hp => ?_, h.flat, fun l b hp => ?_, h.inj, h.fr, fun b o hF => ?_, h.Fpi, fun d c m z ho => ?_, h.tin, h.tfr⟩, ev⟩
  · have := h.old k x hk; rw [hold k (getElem?_of_some this)]; exact this
  · obtain ⟨vs, T, e1, e2, e3⟩ := h.obj l cs b hl hp
    exact ⟨vs, T, (hold b (getElem?_of_some e1)).trans e1, e2, fun i c hi => (e3 i c hi).ev ev⟩
  · have := h.piB l b hp; exact ⟨by omega, this.2⟩
  · obtain ⟨u, hu⟩ := h.FB b o hF; exact ⟨u, (ev.F b o hF).2.trans hu⟩
  · obtain ⟨vs, T, e1, e2⟩ := h.tok d c m z ho
    exact ⟨vs, T, (hold _ (getElem?_of_some e1)).trans e1, e2⟩

theorem does_calls {P : Program} {f : FuncId} {args : Array Value} {w : World} {R : Value → World → Prop} (h : ∀ args w, (callFunc f args).run P w = .ok (.enter f args) w)
    (k : Calls P f args w fun | .returned v, w' => R v w' | _, _ => False) : Does P f args w R := .inr ⟨f, args, w, h args w, k⟩
theorem ent_304 (args : Array Value) (w : World) : (callFunc 15 args).run X.P w = .ok (.enter 15 args) w := Go.Proofs.enters_of Tryz.func15 (by kernel_rfl) rfl args w
theorem ent_221 (args : Array Value) (w : World) : (callFunc 39 args).run X.P w = .ok (.enter 39 args) w := Go.Proofs.enters_of Tryz.func39 (by kernel_rfl) rfl args w

section
variable {w0 w : World} {K : Kp} {g : Gh} {s : Sto} {lim d : Nat} {ms : List MV} {r : MV × Sto} {vs : Array Value}
theorem args2 {m m' : MV} (ha : ArgsR w g s [m, m'] vs) : ∃ v v', vs = #[v, v'] ∧ VR w g s m v ∧ VR w g s m' v' := by
  obtain ⟨a1, a2⟩ := ha
  obtain ⟨vs⟩ := vs
  match vs, a1 with
  | [v, v'], _ =>
    have h1 := a2 0 _ rfl
    have h2 := a2 1 _ rfl
    simp only [List.getElem?_toArray, List.getElem?_cons_zero, List.getElem?_cons_succ, Option.getD_some] at h1 h2
    exact ⟨v, v', rfl, h1, h2⟩
theorem new_ok (h : newP lim (d + 1) ms s = some r) (hs : St w0 K w g s) (hu : s.Und (d + 1)) (ha : ArgsR w g s ms vs) : Does X.P 15 vs w fun u w' => Mak w0 K w g s d r.1 r.2 u w' := by
  have : ∃ x, ms = [.str x] := by
    unfold newP at h
    split at h
    · exact ⟨_, rfl⟩
    · cases h
  obtain ⟨x, rfl⟩ := this
  simp only [newP] at h
  split at h
  · rename_i hc
    cases h
    obtain ⟨a1, a2⟩ := ha
    obtain ⟨vs⟩ := vs
    match vs, a1 with
    | [v], _ =>
      have hv := a2 0 _ rfl
      simp only [List.getElem?_toArray, List.getElem?_cons_zero, Option.getD_some] at hv
      clear a2
      cases hv
      refine does_calls ent_304 ?_
      have hz : ∀ w, Sem.run X.P (zeroValue 63) w = .ok (.agg #[.string ⟨#[]⟩, .int .i64 0]) w := fun w => by kernel_rfl
      have hun : ∀ w, Sem.run X.P (underlying 63) w = .ok (.struct #[⟨"s", 9, 0, false, "", "redactor/lexer", 0⟩, ⟨"at", 3, 1, false, "", "redactor/lexer", 16⟩]) w := fun w => run_underlying (by kernel_rfl) w
      have s9 : ∀ w, Sem.run X.P (sizeOf 9) w = .ok 1 w := fun w => by kernel_rfl
      have s3 : ∀ w, Sem.run X.P (sizeOf 3) w = .ok 1 w := fun w => by kernel_rfl
      have s44 : ∀ w, Sem.run X.P (sizeOf 63) w = .ok 2 w := fun w => by kernel_rfl
      go_enter Tryz.func15, Tryz.ntmps15
      go_wp2
      obtain ⟨k1, k2, k3, k4⟩ := hs.new hu 0 [.str x, .int .i64 0] #[.string ⟨x.toArray⟩, .int .i64 0] 63 (by simp) (by simp [MV.flat]) (fun i c hc => by
        match i, hc with
        | 0, hc => simp at hc; subst hc; exact .str x
        | 1, hc => simp at hc; subst hc; exact .int _ _)
      have hM : Mak w0 K w g s d (MV.ptr ⟨d, 0, s.ct d⟩ 0) ((s.set ⟨d, 0, s.ct d⟩ [MV.str x, MV.int IntKind.i64 0]).tick d) (.pointer (some ⟨w.heap.size, 0, none⟩)) (w.alloc (.cells #[.string ⟨x.toArray⟩, .int .i64 0] 63)) := ⟨_, .ptr _ 0 _ k4, k1, k2, k3⟩
      refine bodyPost_ret (results_tmp Tryz.results15 _ _ _) rfl ?_
      exact hM
  · cases h
theorem trim_ok (h : trimP lim (d + 1) ms s = some r) (hs : St w0 K w g s) (hu : s.Und (d + 1)) (ha : ArgsR w g s ms vs) : Does X.P 39 vs w fun u w' => Mak w0 K w g s d r.1 r.2 u w' := by
  have : ∃ x y, ms = [.str x, .str y] := by
    unfold trimP at h
    split at h
    · exact ⟨_, _, rfl⟩
    · cases h
  obtain ⟨x, y, rfl⟩ := this
  simp only [trimP] at h
  split at h
  · rename_i hc
    cases h
    obtain ⟨v, v', rfl, h1, h2⟩ := args2 ha
    cases h1
    cases h2
    rcases hc with rfl | rfl
    · refine does_calls ent_221 ?_
      refine (Tryz.trimLeft_ascii ⟨x.toArray⟩ ⟨#[48, 49, 50, 51, 52, 53, 54, 55, 56, 57]⟩ w (by decide) (fun j b hj => ?_)).mono ?_
      · have hm := List.mem_of_getElem? hj
        simp at hm
        rcases hm with rfl | rfl | rfl | rfl | rfl | rfl | rfl | rfl | rfl | rfl <;> decide
      · rintro e w' ⟨rfl, hb⟩
        obtain ⟨k1, k2⟩ := st_far hs hb.os hb.tape hb.output hb.block hb.size
        exact ⟨g, .str _, k1, k2, hu⟩
    · refine does_calls ent_221 ?_
      refine (Tryz.trimLeft_ascii ⟨x.toArray⟩ ⟨#[32, 9]⟩ w (by decide) (fun j b hj => ?_)).mono ?_
      · have hm := List.mem_of_getElem? hj
        simp at hm
        rcases hm with rfl | rfl <;> decide
      · rintro e w' ⟨rfl, hb⟩
        obtain ⟨k1, k2⟩ := st_far hs hb.os hb.tape hb.output hb.block hb.size
        exact ⟨g, .str _, k1, k2, hu⟩
  · cases h
end
theorem X_ok : X.OK where
  mix := mix_ok
  num := num_ok
  eq := eq_ok
  prim := fun f p hp w0 K hK lim d ms s r hr w g vs hs hu ha => by
    unfold X at hp
    simp only at hp
    split at hp
    · rename_i e; cases hp; subst e; exact new_ok hr hs hu ha
    · split at hp
      · rename_i e; cases hp; subst e; exact trim_ok hr hs hu ha
      · cases hp
  keep := fun f p hp => by
    unfold X at hp
    simp only at hp
    split at hp
    · cases hp
      intro lim d f args s r hl h
      change newP lim d args s = some r at h
      have : ∃ d' x, d = d' + 1 ∧ args = [.str x] := by
        unfold newP at h
        split at h
        · exact ⟨_, _, rfl, rfl⟩
        · cases h
      obtain ⟨d', x, rfl, rfl⟩ := this
      simp only [newP] at h
      split at h
      · rename_i hc
        cases h
        exact (Same.set (l := ⟨d', 0, s.ct d'⟩) hc _).trans (.tick hc)
      · cases h
    · split at hp
      · cases hp
        intro lim d f args s r hl h
        change trimP lim d args s = some r at h
        unfold trimP at h
        split at h
        · split at h
          · cases h; exact .refl _
          · cases h
        · cases h
      · cases hp
end Go.Proofs.Tryz.E
