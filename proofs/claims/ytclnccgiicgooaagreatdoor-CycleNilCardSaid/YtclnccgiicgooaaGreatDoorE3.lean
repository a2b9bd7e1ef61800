/- Walks: what the functions compute. -/
import Derived.Test.YtclnccgiicgooaaGreatDoorE2
set_option linter.unusedVariables false
set_option linter.unusedSimpArgs false
/- Nodes in new memory; flat lists. -/
namespace Go.Proofs.Tryz.E
open Go.Mv
@[go_sem] theorem putC_succ (c : MV) (cs new : List MV) (o : Nat) : putC (c :: cs) new (o + 1) = c :: putC cs new o := by
  simp [putC, Nat.add_right_comm]
@[go_sem] theorem putC_cons (c x : MV) (cs new : List MV) : putC (c :: cs) (x :: new) 0 = x :: putC cs new 0 := by simp [putC]
@[go_sem] theorem putC_nil (cs : List MV) : putC cs [] 0 = cs := by simp [putC]
attribute [go_sem] List.take_succ_cons List.take_zero List.drop_succ_cons Nat.reduceLeDiff
@[go_sem] theorem lenT_rs (e : TypeId) (l : Mv.Loc) (o n s : Nat) : lenT (.slice e) (.rs l o n s) = some (.int .i64 n) := rfl
@[go_sem] theorem iaO_rs (P : Program) (t : TypeId) (l : Mv.Loc) (off len z : Nat) (k : IntKind) (i : Int) : iaO P t (.rs l off len z) (.int k i) = (slc P t).bind fun x => if z = x.2.1 ∧ 0 ≤ i ∧ i < len then some (.ptr l (off + i.toNat * x.2.1)) else none := by
  unfold iaO
  cases slc P t <;> rfl
@[go_sem] theorem frz_rs (σ : Sto) (d : Nat) (l : Mv.Loc) (off len s : Nat) : (MV.rs l off len s).frz σ d = if l.d < d then some (.rs l off len s) else (σ.ob l).bind fun cs => if off + len * s ≤ cs.length then ((chunks cs off s len).mapM datas).map fun xs => .sl .no xs else none := rfl
@[go_sem] theorem cells_rs (l : Mv.Loc) (o n s : Nat) : (MV.rs l o n s).cells = some [.rs l o n s] := rfl
@[go_sem] theorem era_rs (l : Mv.Loc) (o n s : Nat) : (MV.rs l o n s).era = .rs l o n s := rfl
@[go_sem] theorem arg_rs (l : Mv.Loc) (o n s : Nat) : (MV.rs l o n s).arg = .rs l o n s := rfl

theorem encs_nil (l : List Nd) : encs l = [] ↔ l = [] := by cases l <;> simp [encs]
theorem encs_okz : ∀ l, okz 10 (encs l) = true
  | [] => rfl
  | x :: l => by
    have := encs_okz l
    unfold okz at this ⊢
    simp [encs, enc_len, this]
theorem encs_datas : ∀ l, (encs l).mapM datas = some (encs l)
  | [] => rfl
  | x :: l => by
    rw [encs, List.mapM_cons, encs_datas l]
    simp [datas, enc_data, enc_era]
theorem flat_len : ∀ l, (encs l).flatten.length = l.length * 10
  | [] => rfl
  | x :: l => by simp [encs, enc_len, flat_len l, Nat.succ_mul]; omega
theorem flat_at : ∀ (l : List Nd) (i : Nat) (h : i < l.length), ((encs l).flatten.drop (i * 10)).take 10 = enc l[i]
  | x :: l, 0, h => by simp [encs, List.take_append_of_le_length, enc_len, enc_take]
  | x :: l, i + 1, h => by
    have : (i + 1) * 10 = 10 + i * 10 := by omega
    rw [encs, List.flatten_cons, this, ← List.drop_drop, List.drop_append_of_le_length (by simp [enc_len])]
    simp only [List.getElem_cons_succ]
    have e : (enc x).drop 10 = [] := List.drop_eq_nil_of_le (by simp [enc_len])
    rw [e, List.nil_append]
    exact flat_at l i (by simpa using h)
theorem putC_same (cs : List MV) (o n : Nat) (h : o + n ≤ cs.length) : putC cs ((cs.drop o).take n) o = cs := by
  unfold putC
  have : ((cs.drop o).take n).length = n := by simp; omega
  rw [this, List.append_assoc, ← List.drop_drop, List.take_append_drop, List.take_append_drop]
theorem chunks_encs : ∀ (l : List Nd) (pre : List MV), chunks (pre ++ (encs l).flatten) pre.length 10 l.length = encs l
  | [], _ => rfl
  | x :: l, pre => by
    simp only [List.length_cons, chunks, encs, List.flatten_cons]
    have h1 : ((pre ++ (enc x ++ (encs l).flatten)).drop pre.length).take 10 = enc x := by
      rw [List.drop_left, List.take_append_of_le_length (by simp [enc_len]), enc_take]
    rw [h1, ← List.append_assoc]
    have h2 := chunks_encs l (pre ++ enc x)
    rw [List.length_append, enc_len] at h2
    rw [h2]
theorem set_same {σ : Sto} {l : Mv.Loc} {cs : List MV} (h : σ.ob l = some cs) : σ.set l cs = σ := by
  refine Sto.ext' (fun l' => ?_) (fun _ _ => rfl) fun _ => rfl
  simp only [Sto.set]
  split
  · rename_i e; rw [e, h]
  · rfl
theorem wf52 (lim d : Nat) (l : List Nd) (σ : Sto) (Q : MV → Sto → Prop) (hlim : lim ≤ d) (hl : l.length ≤ 1000000) :
    WF X lim (d + 1) 81 [.sl .no (encs l)] σ Q ↔ if l = [] then Q (.sl .no []) σ else Q (.rs ⟨d, 0, σ.ct d⟩ 0 l.length 10) ((σ.set ⟨d, 0, σ.ct d⟩ (encs l).flatten).tick d) := by
  rw [WF_prim (C := X) (p := cloneP 10 96) rfl]
  simp only [cloneP, encs_nil]
  by_cases h : l = []
  · simp [h, Opt_some]
  · have hc : lim ≤ d ∧ okz 10 (encs l) = true ∧ (encs l).length * 96 ≤ 140737488355328 := ⟨hlim, encs_okz l, by rw [encs_len]; omega⟩
    rw [if_neg h, if_neg h, if_pos hc, encs_datas]
    simp only [Option.map_some, Opt_some, encs_len]
set_option maxHeartbeats 2000000
theorem w39 : ∀ (x : Nd), sz x ≤ 1000000 → ∀ (lim d : Nat) (σ : Sto), lim ≤ d → σ.Und d → Ret lim d 54 [.agg (enc x)] σ (.agg (enc x)) σ := by
  refine Nd.ind fun kind c s0 s1 s2 s3 n mn mx l ih hsz lim d σ hlim hu => ?_
  have hl := len_le l
  simp only [sz] at hsz
  have hct := hu.ct d (Nat.le_refl d)
  unfold Ret
  rw [WF_body (C := X) rfl Go.Proofs.Tryz.func54 rfl (by kernel_rfl)]
  simp only [go_sem, Nat.reduceLT, reduceIte, W_seq, WO_guard, Go.Proofs.Tryz.results54, enc, hct, Nat.reduceEqDiff, Nat.reduceAdd, reduceCtorEq]
  rw [wf52 lim d l _ _ hlim (by omega)]
  by_cases hnil : l = []
  · subst hnil
    rw [if_pos rfl]
    simp only [go_sem, Nat.reduceLT, reduceIte, W_seq, WO_guard, hct, Nat.reduceEqDiff, Nat.reduceAdd, reduceCtorEq, Nat.reduceLeDiff]
    rw [W_loop]
    simp only [go_sem, Nat.reduceLT, reduceIte, W_seq, WO_guard, hct, encs, Nat.reduceEqDiff, Nat.reduceAdd, reduceCtorEq, Nat.reduceLeDiff, cut_und _ _ hu, Int.natCast_zero, Int.lt_irrefl]
  · rw [if_neg hnil]
    simp only [go_sem, Nat.reduceLT, reduceIte, W_seq, WO_guard, hct, Nat.reduceEqDiff, Nat.reduceAdd, reduceCtorEq, Nat.reduceLeDiff]
    refine loop_ind (I := fun k a s => ∃ (i : Nat), i + k = l.length ∧ a 11 = .int .i64 i ∧ a 10 = .int .i64 l.length ∧ a 1 = .ptr ⟨d, 1, 0⟩ 0 ∧ a 2 = .ptr ⟨d, 2, 1⟩ 0 ∧ s.cut d = σ ∧ s.Und (d + 1) ∧
      s.ob ⟨d, 1, 0⟩ = some [.int .i64 kind, .int .u8 c, .int .u64 s0, .int .u64 s1, .int .u64 s2, .int .u64 s3, .int .i64 n, .int .i64 mn, .int .i64 mx, .rs ⟨d, 0, 2⟩ 0 l.length 10] ∧
      s.ob ⟨d, 2, 1⟩ = some [.int .i64 0, .int .u8 0, .int .u64 0, .int .u64 0, .int .u64 0, .int .u64 0, .int .i64 0, .int .i64 0, .int .i64 0, .sl .nil []] ∧ s.ob ⟨d, 0, 2⟩ = some (encs l).flatten) ?_ l.length _ _ ?_
    · rintro k a s ⟨i, hk, h11, h10, h1, h2, hs, hs2, ho1, ho2, ho0⟩
      by_cases hi : i < l.length
      · have e1 : ((i : Int) < (l.length : Int)) := by omega
        have e2 : l[i]? = some l[i] := List.getElem?_eq_getElem hi
        have e3 : i * 10 + 10 ≤ (encs l).flatten.length := by rw [flat_len]; omega
        have e4 : putC (encs l).flatten (enc l[i]) (i * 10) = (encs l).flatten := by rw [← flat_at l i hi]; exact putC_same _ _ _ e3
        have hm := List.getElem_mem hi
        have hy := sz_le l _ hm
        simp only [go_sem, Nat.reduceLT, reduceIte, W_seq, WO_guard, e1, h11, h10, h1, h2, Nat.reduceEqDiff, Nat.reduceAdd, reduceCtorEq]
        rw [W_dr (by kernel_rfl) rfl]
        simp only [go_sem, Nat.reduceLT, reduceIte, W_seq, WO_guard, e1, h11, h10, h1, h2, ho1, ho0, e3, flat_at l i hi, Nat.reduceEqDiff, Nat.reduceAdd, reduceCtorEq]
        refine (ih l[i] hm (by omega) (d + 1) (d + 1) _ (Nat.le_refl _) hs2).wf ?_
        simp only [go_sem, Nat.reduceLT, reduceIte, W_seq, WO_guard, e1, e4, h11, h10, h1, h2, ho1, ho0, e3, hlim, evNews, Nat.reduceEqDiff, Nat.reduceAdd, reduceCtorEq, set_same ho0]
        exact ⟨k - 1, by omega, i + 1, by omega, by rw [wr64 _ (by omega) (by omega)]; rfl, hs, hs2, ho2⟩
      · have e1 : ¬ ((i : Int) < (l.length : Int)) := by omega
        have e5 : chunks (encs l).flatten 0 10 l.length = encs l := by simpa using chunks_encs l []
        have e6 : l.length * 10 ≤ (encs l).flatten.length := by rw [flat_len]; exact Nat.le_refl _
        simp only [go_sem, Nat.reduceLT, reduceIte, W_seq, WO_guard, e1, h11, h10, h1, h2, ho1, ho2, ho0, Nat.reduceEqDiff, Nat.reduceAdd, reduceCtorEq, Nat.reduceLeDiff, e5, e6, encs_datas, hs]
    · refine ⟨0, Nat.zero_add _, rfl, rfl, rfl, rfl, ?_, ?_, ?_, ?_, ?_⟩
      · simp only [go_sem, Nat.reduceLT, reduceIte, W_seq, WO_guard, cut_und _ _ hu]
      · exact und_tick (und_tick (und_tick (und_set (und_set (und_set (und_set (und_succ hu) (Nat.lt_succ_self d) _) (Nat.lt_succ_self d) _) (Nat.lt_succ_self d) _) (Nat.lt_succ_self d) _) (Nat.lt_succ_self d)) (Nat.lt_succ_self d)) (Nat.lt_succ_self d)
      all_goals simp only [go_sem, Nat.reduceLT, reduceIte, W_seq, WO_guard, Nat.reduceEqDiff, Nat.reduceAdd]
end Go.Proofs.Tryz.E
