/- Walks: what the functions compute. -/
import Derived.Test.YtclnccgiicgooaaGreatDoorE38g
import Derived.Lib.AppendIntMem
set_option linter.unusedVariables false
set_option linter.unusedSimpArgs false
/- The configuration is sound: what is asked of it holds of the program. -/
namespace Go.Proofs.Tryz.E
open Go.Mv
set_option maxRecDepth 100000
set_option maxHeartbeats 4000000

theorem num_ok (f : FuncId) (fn : Func) (hf : X.P.funcs[f]? = some fn) : (fn.name == "runtime.NumGoroutine") = false := by
  have h : (X.P.funcs.toList.all fun fn => !(fn.name == "runtime.NumGoroutine")) = true := by kernel_rfl
  have hm : fn ∈ X.P.funcs.toList := by
    obtain ⟨hl, rfl⟩ := Array.getElem?_eq_some_iff.1 hf
    exact Array.mem_toList_iff.2 (Array.getElem_mem hl)
  have := List.all_eq_true.1 h fn hm
  simpa using this
theorem mix_ok : X.P.follows .mixedOrders = true := by kernel_rfl
theorem eq_ok (t : TypeId) (sh : List Sh) (h : X.eqT t = some sh) : EqFact X.P t sh := by
  unfold X at h
  simp only at h
  split at h
  · rename_i e; cases h; subst e
    exact eqFact_of (d := 4) (by kernel_rfl) (by decide) (by kernel_rfl) (by kernel_rfl)
  · split at h
    · rename_i e; cases h; subst e
      exact eqFact_of (d := 3) (by kernel_rfl) (by decide) (by kernel_rfl) (by kernel_rfl)
    · cases h

theorem wpList_appC {C : Cfg} {ops : Array Oper} {rest : List Oper} {o : Oper} {act : Act} {Q : Exit → Act → World → Prop} {w w' : World} (hgd : o.guard = none) (x y : Operand) (t : TypeId) (ho : o.op = .call { callee := .builtin .append, args := #[x, y], argTypes := #[t, t] })
    (a b : Value) (ha : act.eval x = a) (hb : act.eval y = b) {u : Value} (hr : (Builtin.append_ #[t, t] o.type #[a, b]).run C.P w = .ok u w') (h : wpList C.P ops Q rest (act.put o.dst u) w') : wpList C.P ops Q (o :: rest) act w := by
  subst ha hb
  exact wpList_plain hgd fun _ hK => wp_value (C := C) (x := Builtin.append_ #[t, t] o.type #[act.eval x, act.eval y]) (by simp [execOp, resolve, invoke, builtin, ho]) hr (hK _ _ h)
theorem clone_run (a : Option Addr) (n cap : Nat) (news : List Value) (w : World) (hn : a = none → n = 0) (hl : news.length = n * 10) (hnews : ∀ j v b o, a = some ⟨b, o, none⟩ → news[j]? = some v → w.cell? ⟨b, o + j, none⟩ = some v)
    (ha : n ≠ 0 → ∃ b o, a = some ⟨b, o, none⟩) (hbig : n * 96 ≤ 140737488355328)
    {Q : Ending → World → Prop} (q1 : a = none → Q (.returned (.slice none 0 0)) w) (q2 : ∀ x c, n = 0 → Q (.returned (.slice (some x) 0 c)) (w.alloc (.cells #[] 67)))
    (q3 : ∀ c T r, n ≠ 0 → n ≤ c → Q (.returned (.slice (some ⟨w.heap.size + 1, 0, none⟩) n c)) ((w.alloc (.cells #[] 67)).drew.alloc (.cells (news.toArray ++ r) T))) :
    Calls X.P 81 #[.slice a n cap] w Q := by
  obtain ⟨inf, zv, t26, hi1, hi2, hi3, hi4, hi5⟩ := slc_spec (P := X.P) (t := 65) (e := 67) (n := 10) (b := 96) (by kernel_rfl)
  have q26 : ∀ (w : World) (a : Option Addr) (n c n' c' : Nat), (binOp .eql 65 (.slice a n c) (.slice none n' c')).run X.P w = .ok (.bool a.isNone) w := fun w a n c n' c' => Lib.run_eql_slice_nil w _ _ a n c n' c' t26
  have u26 : ∀ w, Sem.run X.P (underlying 65) w = Result.ok (TypeDesc.slice 67) w := run_underlying t26
  have s28 : ∀ w, Sem.run X.P (sizeOf 67) w = Result.ok 10 w := fun w => by simp [sizeOf, typeInfo, hi1, hi2]
  have mixed : X.P.follows .mixedOrders = true := by kernel_rfl
  go_enter Tryz.func81, Tryz.ntmps81
  cases a with
  | none =>
    go_wp2
    rfl
  | some a =>
    by_cases hn0 : n = 0
    · subst hn0
      go_wp2
      trivial
    · obtain ⟨b, o, e⟩ := ha hn0
      cases e
      have hb' : Builtin.nextslicecap (0 + n) 0 * inf.bytes ≤ 281474976710656 := growslice_fits (by omega) (by rw [hi3]; omega)
      have hrun := run_append_grow (P := X.P) (w.alloc (Obj.cells #[] 67)) 65 65 67 inf zv t26 hi1 hi4 ⟨w.heap.size, 0, none⟩ 0 0 [] (by simp) (by simp) ⟨b, o, none⟩ n cap news (by rw [hi2]; exact hl) (fun j v hj => by
        rw [add_lit]
        have := hnews j v b o rfl hj
        rw [cell_eq_of_heap (alloc_heap_old w _ (block_of_cell this))]
        exact this) (by omega) (by omega) hb'
      rw [Nat.zero_add] at hrun
      have hge := grownCap_ge (w.alloc (Obj.cells #[] 67)) n 0 67
      go_wp2_with (at_builtin; go_loud (refine wpList_appC (C := X) rfl _ _ 65 rfl _ _ rfl rfl hrun ?_))
      all_goals exact q3 _ 67 _ hn0 hge

theorem ent_52 (args : Array Value) (w : World) : (callFunc 81 args).run X.P w = .ok (.enter 81 args) w := Go.Proofs.enters_of Tryz.func81 (by kernel_rfl) rfl args w
theorem ent_91 (args : Array Value) (w : World) : (callFunc 180 args).run X.P w = .ok (.enter 180 args) w := Go.Proofs.enters_of Tryz.func180 (by kernel_rfl) rfl args w

section
variable {w0 w : World} {K : Kp} {g : Gh} {s : Sto} {lim d : Nat} {ms : List MV} {r : MV × Sto} {vs : Array Value}
theorem clone_ok (h : cloneP 10 96 lim (d + 1) ms s = some r) (hs : St w0 K w g s) (hu : s.Und (d + 1)) (ha : ArgsR w g s ms vs) : Does X.P 81 vs w fun u w' => Mak w0 K w g s d r.1 r.2 u w' := by
  have : ∃ tk xs, ms = [.sl tk xs] := by
    unfold cloneP at h
    split at h
    · exact ⟨_, _, rfl⟩
    · cases h
  obtain ⟨tk, xs, rfl⟩ := this
  simp only [cloneP] at h
  obtain ⟨a1, a2⟩ := ha
  obtain ⟨vs⟩ := vs
  match vs, a1 with
  | [v], _ =>
    have hv := a2 0 _ rfl
    simp only [List.getElem?_toArray, List.getElem?_cons_zero, Option.getD_some] at hv
    clear a2
    cases hv with
    | sl _ _ a cap b o z u hcap htok hsome hz hF hp hv =>
      refine does_calls ent_52 ?_
      have far : ∀ T, St w0 K (w.alloc (.cells #[] T)).drew g s ∧ Ev w g s (w.alloc (.cells #[] T)).drew g s := fun T => st_far hs rfl rfl rfl (fun k hk => alloc_heap_old w _ hk) (by simp)
      split at h
      · rename_i hx
        cases h
        subst hx
        refine clone_run a 0 cap [] w (fun _ => rfl) rfl (fun j v b o _ hj => by simp at hj) (fun h => absurd rfl h) (by omega) (fun _ => ?_) (fun x c _ => ?_) (fun c T r h => absurd rfl h)
        · exact ⟨g, .sl .no [] none 0 0 0 0 (fun _ _ => undef) (Nat.le_refl _) trivial (fun h => absurd rfl h) (by simp) (by simp) (by simp) (by simp), hs, .refl _ _ _, hu⟩
        · have f := st_far hs (w' := w.alloc (.cells #[] 67)) rfl rfl rfl (fun k hk => alloc_heap_old w _ hk) (by simp)
          exact ⟨g, .sl .no [] (some x) c 0 0 0 (fun _ _ => undef) (Nat.zero_le _) trivial (fun h => absurd rfl h) (by simp) (by simp) (by simp) (by simp), f.1, f.2, hu⟩
      · rename_i hx
        split at h
        · rename_i hc
          obtain ⟨c1, c2, c3⟩ := hc
          obtain ⟨ys, hy, rfl⟩ := Option.map_eq_some_iff.1 h
          have hzz : z = 10 := by
            cases xs with
            | nil => exact absurd rfl hx
            | cons x xs =>
              simp only [okz, List.all_cons, Bool.and_eq_true, beq_iff_eq] at c2
              rw [← hz x (List.mem_cons_self ..)]
              exact c2.1
          subst hzz
          obtain ⟨news, n1, n2, n3, n4⟩ := slice_cells (s := s) hz hF hp hv
          obtain ⟨y1, y2, y3, y4⟩ := mapM_datas xs ys hy
          have hsa := hsome hx
          have n4' : CL w g s ys.flatten news := by rw [y2]; exact n4.era
          refine clone_run a xs.length cap news w (fun e => by rw [e] at hsa; cases hsa) n1 (fun j v b' o' e hj => ?_) (fun _ => ⟨b, o, hsa⟩) c3 (fun e => by rw [e] at hsa; cases hsa) (fun x c e => ?_) (fun c T r hn hle => ?_)
          · rw [hsa] at e; cases e
            exact (n2 j v hj).2
          · exact absurd (List.length_eq_zero_iff.1 e) hx
          · obtain ⟨f1, f2⟩ := far 67
            have hsz : ((w.alloc (.cells #[] 67)).drew).heap.size = w.heap.size + 1 := by simp
            obtain ⟨k1, k2, k3, k4⟩ := f1.new hu 0 ys.flatten (news.toArray ++ r) T (by rw [n4'.1]; simp) (fun c hc => by
              obtain ⟨y, hy1, hy2⟩ := List.mem_flatten.1 hc
              exact flat_of_pur (y4 y hy1 c hy2)) (fun i c hc => by
              have hi : i < news.length := by rw [← n4'.1]; exact (List.getElem?_eq_some_iff.1 hc).1
              have := (n4'.2 i c hc).ev f2
              rw [Array.getElem?_append_left (by simpa using hi)]
              simpa using this)
            exact ⟨_, .rs _ 0 xs.length 10 _ c (k4.trans (congrArg some hsz)) hle ⟨(show 0 < 1000000 by decide), fun hq => absurd (show 500000 ≤ 0 from hq) (by decide)⟩, k1, f2.trans k2, k3⟩
        · cases h

theorem idxB_eq (c : UInt8) : ∀ l : List UInt8, idxB l c.toNat = Go.Lib.indexByte l c
  | [] => rfl
  | b :: l => by
    have ih := idxB_eq c l
    have hg := Go.Lib.indexByte_ge l c
    unfold idxB Go.Lib.indexByte
    by_cases h : b = c
    · subst h; simp
    · have h1 : ¬ ((b.toNat : Int) = (c.toNat : Int)) := fun e => h (UInt8.toNat_inj.1 (by omega))
      have h3 : (b == c) = false := by simpa using h
      simp only [h1, if_false, h3, Bool.false_eq_true, ih]
      by_cases h2 : Go.Lib.indexByte l c = -1
      · simp [h2]
      · have h4 : ¬ (Go.Lib.indexByte l c < 0) := by omega
        simp [h4, h2]
theorem idxS_eq (t : List UInt8) : ∀ l : List UInt8, idxS l t = Go.Lib.index l t
  | [] => by unfold idxS Go.Lib.index; cases t <;> simp
  | b :: l => by
    have ih := idxS_eq t l
    have hg := Go.Lib.index_ge l t
    unfold idxS Go.Lib.index
    by_cases h : t <+: (b :: l)
    · have h3 := List.isPrefixOf_iff_prefix.2 h
      simp only [h, if_true, h3]
    · have h3 : t.isPrefixOf (b :: l) = false := by
        cases h4 : t.isPrefixOf (b :: l) with
        | false => rfl
        | true => exact absurd (List.isPrefixOf_iff_prefix.1 h4) h
      simp only [h, if_false, h3, Bool.false_eq_true, ih]
      by_cases h2 : Go.Lib.index l t = -1
      · simp [h2]
      · have h4 : ¬ (Go.Lib.index l t < 0) := by omega
        simp [h4, h2]
theorem idxByte_ok (h : idxByteP lim (d + 1) ms s = some r) (hs : St w0 K w g s) (hu : s.Und (d + 1)) (ha : ArgsR w g s ms vs) : Does X.P 159 vs w fun u w' => Mak w0 K w g s d r.1 r.2 u w' := by
  have : ∃ x c, ms = [.str x, .int .u8 c] := by
    unfold idxByteP at h
    split at h
    · exact ⟨_, _, rfl⟩
    · cases h
  obtain ⟨x, c, rfl⟩ := this
  simp only [idxByteP] at h
  · split at h
    · rename_i hc
      cases h
      obtain ⟨v, v', rfl, h1, h2⟩ := args2 ha
      cases h1
      cases h2
      refine .inl ⟨_, w, ?_, .of hs hu (.int .i64 _)⟩
      rw [run_callFunc_extern (P := X.P) Tryz.func159 (by kernel_rfl) (by kernel_rfl) (by kernel_rfl) (e := Extern.BytealgIndexByte.indexByte) (by kernel_rfl), Go.Lib.run_indexByteString]
      have e : c = ((c.toNat.toUInt8).toNat : Int) := by simp; omega
      have := idxB_eq c.toNat.toUInt8 x
      rw [← e] at this
      simp [this]
    · cases h
theorem index_ok (hK : X.KO K) (h : indexP lim (d + 1) ms s = some r) (hs : St w0 K w g s) (hu : s.Und (d + 1)) (ha : ArgsR w g s ms vs) : Does X.P 180 vs w fun u w' => Mak w0 K w g s d r.1 r.2 u w' := by
  have : ∃ x y, ms = [.str x, .str y] := by
    unfold indexP at h
    split at h
    · exact ⟨_, _, rfl⟩
    · cases h
  obtain ⟨x, y, rfl⟩ := this
  simp only [indexP] at h
  · split at h
    · rename_i hc
      cases h
      obtain ⟨v, v', rfl, h1, h2⟩ := args2 ha
      cases h1
      cases h2
      obtain ⟨_, ⟨m, t, i, rfl⟩, hk⟩ := hK 0 _ ⟨rfl, rfl⟩
      have hm : w.cell? ⟨0, 0, none⟩ = some (.int .i64 m) := by
        rw [cell_of_cells (hs.old 0 _ hk)]; rfl
      refine does_calls ent_91 ?_
      refine (Tryz.stringslite_Index ⟨x.toArray⟩ ⟨y.toArray⟩ m w (by change x.toArray.size < _; simpa using hc) hm).mono ?_
      rintro e w' ⟨rfl, rfl⟩
      rw [show Go.Lib.index (ByteArray.mk x.toArray).data.toList (ByteArray.mk y.toArray).data.toList = idxS x y from (idxS_eq y x).symm]
      exact .of hs hu (.int .i64 _)
    · cases h
theorem ent_221 (args : Array Value) (w : World) : (callFunc 124 args).run X.P w = .ok (.enter 124 args) w := Go.Proofs.enters_of Tryz.func124 (by kernel_rfl) rfl args w
theorem new_inv (h : newP lim (d + 1) ms s = some r) : ∃ x, ms = [.str x] ∧ lim ≤ d ∧ r = (.ptr ⟨d, 0, s.ct d⟩ 0, (s.set ⟨d, 0, s.ct d⟩ [.str x, .int .i64 0]).tick d) := by
  have : ∃ x, ms = [.str x] := by
    unfold newP at h
    split at h
    · exact ⟨_, rfl⟩
    · cases h
  obtain ⟨x, rfl⟩ := this
  simp only [newP] at h
  split at h
  · rename_i hc; cases h; exact ⟨x, rfl, hc, rfl⟩
  · cases h
theorem ent_304 (args : Array Value) (w : World) : (callFunc 38 args).run X.P w = .ok (.enter 38 args) w := Go.Proofs.enters_of Tryz.func38 (by kernel_rfl) rfl args w
theorem new_ok (h : newP lim (d + 1) ms s = some r) (hs : St w0 K w g s) (hu : s.Und (d + 1)) (ha : ArgsR w g s ms vs) : Does X.P 38 vs w fun u w' => Mak w0 K w g s d r.1 r.2 u w' := by
  have : ∃ x, ms = [.str x] := by
    unfold newP at h
    split at h
    · exact ⟨_, rfl⟩
    · cases h
  obtain ⟨x, rfl⟩ := this
  simp only [newP] at h
  split at h
  · rename_i hc
    cases h
    obtain ⟨a1, a2⟩ := ha
    obtain ⟨vs⟩ := vs
    match vs, a1 with
    | [v], _ =>
      have hv := a2 0 _ rfl
      simp only [List.getElem?_toArray, List.getElem?_cons_zero, Option.getD_some] at hv
      clear a2
      cases hv
      refine does_calls ent_304 ?_
      have hz : ∀ w, Sem.run X.P (zeroValue 126) w = .ok (.agg #[.string ⟨#[]⟩, .int .i64 0]) w := fun w => by kernel_rfl
      have hun : ∀ w, Sem.run X.P (underlying 126) w = .ok (.struct #[⟨"s", 9, 0, false, "", "redactor/lexer", 0⟩, ⟨"at", 3, 1, false, "", "redactor/lexer", 16⟩]) w := fun w => run_underlying (by kernel_rfl) w
      have s9 : ∀ w, Sem.run X.P (sizeOf 9) w = .ok 1 w := fun w => by kernel_rfl
      have s3 : ∀ w, Sem.run X.P (sizeOf 3) w = .ok 1 w := fun w => by kernel_rfl
      have s44 : ∀ w, Sem.run X.P (sizeOf 126) w = .ok 2 w := fun w => by kernel_rfl
      go_enter Tryz.func38, Tryz.ntmps38
      go_wp2
      obtain ⟨k1, k2, k3, k4⟩ := hs.new hu 0 [.str x, .int .i64 0] #[.string ⟨x.toArray⟩, .int .i64 0] 126 (by simp) (by simp [MV.flat]) (fun i c hc => by
        match i, hc with
        | 0, hc => simp at hc; subst hc; exact .str x
        | 1, hc => simp at hc; subst hc; exact .int _ _)
      have hM : Mak w0 K w g s d (MV.ptr ⟨d, 0, s.ct d⟩ 0) ((s.set ⟨d, 0, s.ct d⟩ [MV.str x, MV.int IntKind.i64 0]).tick d) (.pointer (some ⟨w.heap.size, 0, none⟩)) (w.alloc (.cells #[.string ⟨x.toArray⟩, .int .i64 0] 126)) := ⟨_, .ptr _ 0 _ k4 (fun q n _ e => by have e' : 0 = 1000000 + (q * 1024 + n) := e; omega), k1, k2, k3⟩
      refine bodyPost_ret (results_tmp Tryz.results38 _ _ _) rfl ?_
      exact hM
  · cases h
theorem trim_ok (h : trimP lim (d + 1) ms s = some r) (hs : St w0 K w g s) (hu : s.Und (d + 1)) (ha : ArgsR w g s ms vs) : Does X.P 124 vs w fun u w' => Mak w0 K w g s d r.1 r.2 u w' := by
  have : ∃ x y, ms = [.str x, .str y] := by
    unfold trimP at h
    split at h
    · exact ⟨_, _, rfl⟩
    · cases h
  obtain ⟨x, y, rfl⟩ := this
  simp only [trimP] at h
  split at h
  · rename_i hc
    cases h
    obtain ⟨v, v', rfl, h1, h2⟩ := args2 ha
    cases h1
    cases h2
    rcases hc with rfl | rfl
    · refine does_calls ent_221 ?_
      refine (Tryz.trimLeft_ascii ⟨x.toArray⟩ ⟨#[48, 49, 50, 51, 52, 53, 54, 55, 56, 57]⟩ w (by decide) (fun j b hj => ?_)).mono ?_
      · have hm := List.mem_of_getElem? hj
        simp at hm
        rcases hm with rfl | rfl | rfl | rfl | rfl | rfl | rfl | rfl | rfl | rfl <;> decide
      · rintro e w' ⟨rfl, hb⟩
        obtain ⟨k1, k2⟩ := st_far hs hb.os hb.tape hb.output hb.block hb.size
        exact ⟨g, .str _, k1, k2, hu⟩
    · refine does_calls ent_221 ?_
      refine (Tryz.trimLeft_ascii ⟨x.toArray⟩ ⟨#[32, 9]⟩ w (by decide) (fun j b hj => ?_)).mono ?_
      · have hm := List.mem_of_getElem? hj
        simp at hm
        rcases hm with rfl | rfl <;> decide
      · rintro e w' ⟨rfl, hb⟩
        obtain ⟨k1, k2⟩ := st_far hs hb.os hb.tape hb.output hb.block hb.size
        exact ⟨g, .str _, k1, k2, hu⟩
  · cases h
theorem count_ok (h : countP lim (d + 1) ms s = some r) (hs : St w0 K w g s) (hu : s.Und (d + 1)) (ha : ArgsR w g s ms vs) : Does X.P 182 vs w fun u w' => Mak w0 K w g s d r.1 r.2 u w' := by
  have : ∃ x c, ms = [.str x, .int .u8 c] := by
    unfold countP at h
    split at h
    · exact ⟨_, _, rfl⟩
    · cases h
  obtain ⟨x, c, rfl⟩ := this
  simp only [countP] at h
  · split at h
    · rename_i hc
      cases h
      obtain ⟨v, v', rfl, h1, h2⟩ := args2 ha
      cases h1
      cases h2
      refine .inl ⟨_, w, ?_, .of hs hu (.int .i64 _)⟩
      rw [run_callFunc_extern (P := X.P) Tryz.func182 (by kernel_rfl) (by kernel_rfl) (by kernel_rfl) (e := Extern.BytealgCount.count) (by kernel_rfl), Go.Lib.run_countString]
      rfl
    · cases h
end
theorem wstrG_keep {lim d : Nat} {args : List MV} {s : Sto} {r : MV × Sto} (h : wstrG lim d args s = some r) : Same lim s r.2 := by
  unfold wstrG at h
  split at h
  · exact appG_keep h
  · cases h
theorem wbyteG_keep {lim d : Nat} {args : List MV} {s : Sto} {r : MV × Sto} (h : wbyteG lim d args s = some r) : Same lim s r.2 := by
  unfold wbyteG at h
  split at h
  · split at h
    · exact appG_keep h
    · cases h
  · cases h
theorem bstrG_keep {lim d : Nat} {args : List MV} {s : Sto} {r : MV × Sto} (h : bstrG lim d args s = some r) : Same lim s r.2 := by
  cases d with
  | zero => simp [bstrG] at h
  | succ d =>
    obtain ⟨l, o, cs, rfl, h1, h2, _, h⟩ := bstrG_inv h
    rcases h with ⟨_, rfl⟩ | ⟨k, c, xs, bs, _, _, h3, _, _, _, _, _, rfl⟩
    · exact .refl _
    · exact (Same.own h3 c none).trans (.set h1 _)
theorem X_ok : X.OK where
  mix := mix_ok
  num := num_ok
  eq := eq_ok
  prim := fun f p hp w0 K hK lim d ms s r hr w g vs hs hu ha => by
    unfold X at hp
    simp only at hp
    split at hp
    · rename_i e; cases hp; subst e; exact clone_ok hr hs hu ha
    split at hp
    · rename_i e; cases hp; subst e; exact idxByte_ok hr hs hu ha
    split at hp
    · rename_i e; cases hp; subst e; exact index_ok hK hr hs hu ha
    split at hp
    · rename_i e; cases hp; subst e; exact wstrG_ok hr hs hu ha
    split at hp
    · rename_i e; cases hp; subst e; exact wbyteG_ok hr hs hu ha
    split at hp
    · rename_i e; cases hp; subst e; exact bstrG_ok hr hs hu ha
    split at hp
    · rename_i e; cases hp; subst e; exact trim_ok hr hs hu ha
    split at hp
    · rename_i e; cases hp; subst e; exact new_ok hr hs hu ha
    split at hp
    · rename_i e; cases hp; subst e; exact count_ok hr hs hu ha
    · cases hp
  keep := fun f p hp => by
    unfold X at hp
    simp only at hp
    split at hp
    · cases hp
      intro lim d f args s r hl h
      change cloneP 10 96 lim d args s = some r at h
      have : ∃ d' tk xs, d = d' + 1 ∧ args = [.sl tk xs] := by
        unfold cloneP at h
        split at h
        · exact ⟨_, _, _, rfl, rfl⟩
        · cases h
      obtain ⟨d', tk, xs, rfl, rfl⟩ := this
      simp only [cloneP] at h
      split at h
      · cases h; exact .refl _
      · split at h
        · rename_i hc
          obtain ⟨ys, hy, rfl⟩ := Option.map_eq_some_iff.1 h
          exact (Same.set (l := ⟨d', 0, s.ct d'⟩) hc.1 _).trans (.tick hc.1)
        · cases h
    split at hp
    · cases hp
      intro lim d f args s r hl h
      change idxByteP lim d args s = some r at h
      unfold idxByteP at h
      split at h
      · split at h
        · cases h; exact .refl _
        · cases h
      · cases h
    split at hp
    · cases hp
      intro lim d f args s r hl h
      change indexP lim d args s = some r at h
      unfold indexP at h
      split at h
      · split at h
        · cases h; exact .refl _
        · cases h
      · cases h
    split at hp
    · cases hp
      intro lim d f args s r hl h
      exact wstrG_keep h
    split at hp
    · cases hp
      intro lim d f args s r hl h
      exact wbyteG_keep h
    split at hp
    · cases hp
      intro lim d f args s r hl h
      exact bstrG_keep h
    split at hp
    · cases hp
      intro lim d f args s r hl h
      change trimP lim d args s = some r at h
      unfold trimP at h
      split at h
      · split at h
        · cases h; exact .refl _
        · cases h
      · cases h
    split at hp
    · cases hp
      intro lim d f args s r hl h
      change newP lim d args s = some r at h
      cases d with
      | zero => unfold newP at h; split at h <;> first | cases h | (rename_i q; cases q)
      | succ d =>
        obtain ⟨x, rfl, hc, rfl⟩ := new_inv h
        exact (Same.set hc _).trans (.tick hc)
    split at hp
    · cases hp
      intro lim d f args s r hl h
      change countP lim d args s = some r at h
      unfold countP at h
      split at h
      · split at h
        · cases h; exact .refl _
        · cases h
      · cases h
    · cases hp
theorem bapp_lm {lim lim' k q : Nat} {σ : Sto} {tk : Tok} {xs : List (List MV)} {x : List UInt8} {r : MV × Sto} (hl : lim' ≤ lim) (h : bapp lim k q σ tk xs x = some r) : bapp lim' k q σ tk xs x = some r := by
  unfold bapp at *
  split at h
  · rename_i hx; rw [if_pos hx]; exact h
  · rename_i hx
    rw [if_neg hx]
    split at h
    · rename_i hc
      rw [if_pos hc]
      split at h
      · exact h
      · split at h
        · rename_i hxs; rw [if_pos ⟨Nat.le_trans hl hxs.1, hxs.2⟩]; exact h
        · cases h
      · cases h
    · cases h
theorem wstrG_lm {lim lim' d : Nat} {args : List MV} {s : Sto} {r : MV × Sto} (hl : lim' ≤ lim) (h : wstrG lim d args s = some r) : wstrG lim' d args s = some r := by
  unfold wstrG at h ⊢
  split at h
  · exact appG_lm hl (bapp_lm hl) h
  · cases h
theorem wbyteG_lm {lim lim' d : Nat} {args : List MV} {s : Sto} {r : MV × Sto} (hl : lim' ≤ lim) (h : wbyteG lim d args s = some r) : wbyteG lim' d args s = some r := by
  unfold wbyteG at h ⊢
  split at h
  · split at h
    · rename_i hc
      simp only [if_pos hc]
      exact appG_lm hl (bapp_lm hl) h
    · cases h
  · cases h
theorem bstrG_lm {lim lim' d : Nat} {args : List MV} {s : Sto} {r : MV × Sto} (hl : lim' ≤ lim) (h : bstrG lim d args s = some r) : bstrG lim' d args s = some r := by
  cases d with
  | zero => simp [bstrG] at h
  | succ d =>
    obtain ⟨l, o, cs, rfl, h1, h2, h3, h⟩ := bstrG_inv h
    rcases h with ⟨h4, rfl⟩ | ⟨k, c, xs, bs, h4, h5, h6, h7, h8, h9, h10, h11, rfl⟩
    · simp only [bstrG, Nat.le_trans hl h1, h2, h3, h4, and_self, if_true]
    · simp only [bstrG, Nat.le_trans hl h1, h2, h3, h4, h5, Nat.le_trans hl h6, h7, h9, h10.1, h10.2, h11, and_self, true_and, if_true, ne_eq, h8, not_false_eq_true]
theorem X_lm (f : FuncId) (p : Nat → Nat → List MV → Sto → Option (MV × Sto)) (hp : X.prim f = some p) : Lm fun lim d _ args σ => p lim d args σ := by
  unfold X at hp
  simp only at hp
  split at hp
  · cases hp
    intro lim lim' d f args s r hl h
    change cloneP 10 96 lim d args s = some r at h
    change cloneP 10 96 lim' d args s = some r
    unfold cloneP at *
    split at h
    · split at h
      · rename_i hx; simp only [if_pos hx]; exact h
      · rename_i hx
        split at h
        · rename_i hc; simp only [if_neg hx]; rw [if_pos ⟨Nat.le_trans hl hc.1, hc.2⟩]; exact h
        · cases h
    · cases h
  split at hp
  · cases hp
    intro lim lim' d f args s r hl h
    change idxByteP lim d args s = some r at h
    change idxByteP lim' d args s = some r
    unfold idxByteP at *
    split at h
    · exact h
    · cases h
  split at hp
  · cases hp
    intro lim lim' d f args s r hl h
    change indexP lim d args s = some r at h
    change indexP lim' d args s = some r
    unfold indexP at *
    split at h
    · exact h
    · cases h
  split at hp
  · cases hp
    intro lim lim' d f args s r hl h
    exact wstrG_lm hl h
  split at hp
  · cases hp
    intro lim lim' d f args s r hl h
    exact wbyteG_lm hl h
  split at hp
  · cases hp
    intro lim lim' d f args s r hl h
    exact bstrG_lm hl h
  split at hp
  · cases hp
    intro lim lim' d f args s r hl h
    change trimP lim d args s = some r at h
    change trimP lim' d args s = some r
    unfold trimP at *
    split at h
    · exact h
    · cases h
  split at hp
  · cases hp
    intro lim lim' d f args s r hl h
    change newP lim d args s = some r at h
    change newP lim' d args s = some r
    cases d with
    | zero => unfold newP at h; split at h <;> first | cases h | (rename_i q; cases q)
    | succ d =>
      obtain ⟨x, rfl, hc, rfl⟩ := new_inv h
      simp only [newP, if_pos (Nat.le_trans hl hc)]
  split at hp
  · cases hp
    intro lim lim' d f args s r hl h
    change countP lim d args s = some r at h
    change countP lim' d args s = some r
    unfold countP at *
    split at h
    · exact h
    · cases h
  · cases hp
end Go.Proofs.Tryz.E
