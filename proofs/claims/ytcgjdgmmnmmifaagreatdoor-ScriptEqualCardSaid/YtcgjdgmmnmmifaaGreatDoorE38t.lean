/- Walks: what the functions compute. -/
import Derived.Test.YtcgjdgmmnmmifaaGreatDoorE38p
set_option linter.unusedVariables false
set_option linter.unusedSimpArgs false
/- The configuration is sound: a Builder's functions, where it is a part of what gathers parts. -/
namespace Go.Proofs.Tryz.E
open Go.Mv
set_option maxRecDepth 100000
set_option maxHeartbeats 4000000
theorem liesB1 : liesAt Tryz.prog Tryz.prog.depth 176 (3 / Tryz.prog.cellsOf 176) 1 151 1 = true := by kernel_rfl
theorem cc_used1 (b : Nat) (w : World) (h0 : w.cell? ⟨b, 1, none⟩ = some (.pointer (some ⟨b, 1, none⟩))) :
    Calls Tryz.prog 94 #[.pointer (some ⟨b, 1, none⟩)] w fun e w' => e = .returned (.tuple #[]) ∧ w' = w := by
  obtain ⟨j, hj, _⟩ := sizeB
  have mixed : Tryz.prog.follows .mixedOrders = true := by kernel_rfl
  have t72 := Tryz.underlying151; have a72 := Tryz.isAgg151; have z72 := Tryz.sizeOf151; have v72 := Tryz.zeroValue151; have u72 := run_underlying Tryz.underlying151
  have t70 := Tryz.underlying149; have a70 := Tryz.isAgg149; have z70 := Tryz.sizeOf149; have v70 := Tryz.zeroValue149; have u70 := run_underlying Tryz.underlying149
  have t4 := Tryz.underlying4; have a4 := Tryz.isAgg4; have z4 := Tryz.sizeOf4; have v4 := Tryz.zeroValue4; have u4 := run_underlying Tryz.underlying4
  have t164 := Tryz.underlying186; have a164 := Tryz.isAgg186; have z164 := Tryz.sizeOf186; have v164 := Tryz.zeroValue186; have u164 := run_underlying Tryz.underlying186
  go_enter Tryz.func94, Tryz.ntmps94
  go_wp2
  rw [Lib.run_neq_ptr_same w _ Tryz.underlying149 hj]
  go_wp2
  go_end0
  exact ⟨rfl, rfl⟩
theorem cc_fresh1 (b : Nat) (w : World) (h0 : w.cell? ⟨b, 1, none⟩ = some (.pointer none)) (hsh : w.shape? b = some (176, 3)) (hfz : w.frozen? ⟨b, 1, none⟩ = false) :
    Calls Tryz.prog 94 #[.pointer (some ⟨b, 1, none⟩)] w fun e w' => e = .returned (.tuple #[]) ∧ w' = w.setCell ⟨b, 1, none⟩ (.pointer (some ⟨b, 1, none⟩)) := by
  obtain ⟨j, hj, hjs⟩ := sizeB
  have mixed : Tryz.prog.follows .mixedOrders = true := by kernel_rfl
  have t72 := Tryz.underlying151; have a72 := Tryz.isAgg151; have z72 := Tryz.sizeOf151; have v72 := Tryz.zeroValue151; have u72 := run_underlying Tryz.underlying151
  have t70 := Tryz.underlying149; have a70 := Tryz.isAgg149; have z70 := Tryz.sizeOf149; have v70 := Tryz.zeroValue149; have u70 := run_underlying Tryz.underlying149
  have t4 := Tryz.underlying4; have a4 := Tryz.isAgg4; have z4 := Tryz.sizeOf4; have v4 := Tryz.zeroValue4; have u4 := run_underlying Tryz.underlying4
  have t164 := Tryz.underlying186; have a164 := Tryz.isAgg186; have z164 := Tryz.sizeOf186; have v164 := Tryz.zeroValue186; have u164 := run_underlying Tryz.underlying186
  go_enter Tryz.func94, Tryz.ntmps94
  go_wp2
  rw [Lib.run_to_unsafe w ⟨b, 1, none⟩ Tryz.underlying149 Tryz.underlying186 hj (by rw [hjs]; decide) hsh (show 1 < 3 by decide)]
  simp only [Result.andThen]
  rw [Oper.upon_value]
  go_wp2
  rw [run_callFunc_extern Tryz.func111 (by kernel_rfl) (by kernel_rfl) (by kernel_rfl) (e := Extern.AbiNoEscape.same) (by kernel_rfl)]
  rw [Lib.run_noEscape]
  simp only [Result.andThen]
  rw [Oper.upon_value]
  go_wp2
  rw [Lib.run_from_unsafe w ⟨b, 1, none⟩ Tryz.underlying186 Tryz.underlying149 hj hsh liesB1]
  simp only [Result.andThen]
  rw [Oper.upon_value]
  go_wp2
  go_end0
  exact ⟨rfl, rfl⟩
section
variable {w0 w : World} {K : Kp} {g : Gh} {s : Sto} {lim d : Nat} {l : Mv.Loc} {b : Nat} {q p : MV} {tk : Tok} {xs : List (List MV)}
theorem isB_sh1 (hl : isB1 l = true) (hty : ∀ q n, n < 1024 → l.t = 1000000 + (q * 1024 + n) → w.shape? b = some (q, n)) : w.shape? b = some (176, 3) := by
  simp only [isB1, decide_eq_true_eq] at hl
  exact hty _ 3 (by decide) hl
theorem bld_open1 (hs : St w0 K w g s) (hpi : g.π l = some b) (hsh : w.shape? b = some (176, 3)) (ho : s.ob l = some [q, p, .sl tk xs]) :
    ∃ qv pv sv, w.heap[b]? = some (.cells #[qv, pv, sv] 176 (0, 0)) ∧ VR w g s p pv ∧ VR w g s (.sl tk xs) sv ∧ VR w g s q qv := by
  obtain ⟨vs, T, e1, e2, e3⟩ := hs.obj l _ b ho hpi
  rw [shape_of_cells e1] at hsh
  simp only [Option.some.injEq, Prod.mk.injEq] at hsh
  obtain ⟨rfl, h2⟩ := hsh
  obtain ⟨vs⟩ := vs
  match vs, h2 with
  | [qv, pv, sv], _ => exact ⟨qv, pv, sv, e1, by simpa using e3 1 p rfl, by simpa using e3 2 _ rfl, by simpa using e3 0 q rfl⟩
theorem okA_val1 (hp : okA1 l p = true) (hpi : g.π l = some b) {pv : Value} (h : VR w g s p pv) : pv = .pointer none ∨ pv = .pointer (some ⟨b, 1, none⟩) := by
  unfold okA1 at hp
  split at hp
  · cases h; exact .inl rfl
  · simp only [decide_eq_true_eq] at hp
    subst hp
    cases h with
    | ptr l off b' hb ht =>
      rw [hpi] at hb
      cases hb
      exact .inr rfl
  · cases hp
theorem cc_any1 {qv pv sv : Value} (hb : w.heap[b]? = some (.cells #[qv, pv, sv] 176 (0, 0))) (hp : pv = .pointer none ∨ pv = .pointer (some ⟨b, 1, none⟩)) :
    Calls Tryz.prog 94 #[.pointer (some ⟨b, 1, none⟩)] w fun e w' => e = .returned (.tuple #[]) ∧ w' = w.setRow b #[qv, .pointer (some ⟨b, 1, none⟩), sv] := by
  have hc0 : w.cell? ⟨b, 1, none⟩ = some pv := by rw [cell_of_cells hb]; rfl
  rcases hp with rfl | rfl
  · refine (cc_fresh1 b w hc0 (by rw [shape_of_cells hb]; rfl) (by simp [World.frozen?, hb])).mono ?_
    rintro e w' ⟨rfl, rfl⟩
    exact ⟨rfl, by rw [setCell_row hb]; rfl⟩
  · refine (cc_used1 b w hc0).mono ?_
    rintro e w' ⟨rfl, rfl⟩
    exact ⟨rfl, (setRow_self _ _ _ _ _ hb).symm⟩
theorem bld_one1 (hs : St w0 K w g s) (hu : s.Und (d + 1)) (hpi : g.π l = some b) (hty : ∀ q n, n < 1024 → l.t = 1000000 + (q * 1024 + n) → w.shape? b = some (q, n)) (ho : s.ob l = some [q, p, .sl tk xs]) {qv pv sv : Value} (hb : w.heap[b]? = some (.cells #[qv, pv, sv] 176 (0, 0))) (hv : VR w g s (.sl tk xs) sv) (hq : VR w g s q qv) :
    St w0 K (w.setRow b #[qv, .pointer (some ⟨b, 1, none⟩), sv]) g (s.set l [q, .ptr l 1, .sl tk xs]) ∧ Ev w g s (w.setRow b #[qv, .pointer (some ⟨b, 1, none⟩), sv]) g (s.set l [q, .ptr l 1, .sl tk xs]) ∧ (s.set l [q, .ptr l 1, .sl tk xs]).Und (d + 1) := by
  have hfl := hs.flat l _ ho
  exact hs.put hu ho hpi hb (vs' := #[qv, .pointer (some ⟨b, 1, none⟩), sv]) (by simp) (by simp) (fun c hc => by
      simp only [List.mem_cons, List.not_mem_nil, or_false] at hc
      rcases hc with rfl | rfl | rfl
      · exact hfl _ (by simp)
      · exact ⟨rfl, by simp [MV.top]⟩
      · exact hfl _ (by simp)) (fun i c hc => by
      match i, hc with
      | 0, hc => simp at hc; subst hc; exact hq
      | 1, hc => simp at hc; subst hc; exact .ptr l 1 b hpi hty
      | 2, hc => simp at hc; subst hc; exact hv)
theorem bld_two1 (hs : St w0 K w g s) (hu : s.Und (d + 1)) (hk : l.d ≤ d) (hpi : g.π l = some b) (hty : ∀ q n, n < 1024 → l.t = 1000000 + (q * 1024 + n) → w.shape? b = some (q, n)) (hsh : w.shape? b = some (176, 3)) (ho : s.ob l = some [q, .ptr l 1, .sl tk xs]) {sv : Value} (hv : VR w g s (.sl tk xs) sv)
    {f : Value → Sem Value} {x : List UInt8} (hf : Ap Tryz.prog w 5 f x) {v : MV} {s' : Sto} (he : bapp lim l.d 5 s tk xs x = some (v, s')) :
    ∃ ao n cap w2 qv sv2, (f sv).run Tryz.prog w = .ok (.slice ao n cap) w2 ∧ w2.heap[b]? = some (.cells #[qv, .pointer (some ⟨b, 1, none⟩), sv2] 176 (0, 0)) ∧
      ∃ g2, St w0 K (w2.setRow b #[qv, .pointer (some ⟨b, 1, none⟩), .slice ao n cap]) g2 (s'.set l [q, .ptr l 1, v]) ∧ Ev w g s (w2.setRow b #[qv, .pointer (some ⟨b, 1, none⟩), .slice ao n cap]) g2 (s'.set l [q, .ptr l 1, v]) ∧ (s'.set l [q, .ptr l 1, v]).Und (d + 1) := by
  obtain ⟨u, w2, hrun, g2, q1, q2, q3, q4⟩ := bappSound hs hu hk hf hv he
  obtain ⟨hob, tk', xs', rfl⟩ := bapp_ob he
  have hpi2 := q3.pi l b hpi
  have ho2 : s'.ob l = some [q, .ptr l 1, .sl tk xs] := by rw [hob]; exact ho
  obtain ⟨qv, pv, sv2, hb2, hp2, _, hq2⟩ := bld_open1 q2 hpi2 (q3.sh _ _ hsh) ho2
  have hpv : pv = .pointer (some ⟨b, 1, none⟩) := by
    cases hp2 with
    | ptr l off b' hb ht => rw [hpi2] at hb; cases hb; rfl
  subst hpv
  have htop : (MV.sl tk xs).top l.d = true := (hs.flat l _ ho _ (by simp)).2
  have htop' := bapp_top he htop
  have : ∃ ao n cap, u = .slice ao n cap := by
    cases q1 with
    | sl t xs a cap b o z u hcap htok ha hz hF hp hv => exact ⟨_, _, _, rfl⟩
  obtain ⟨ao, n, cap, rfl⟩ := this
  obtain ⟨r1, r2, r3⟩ := q2.put q4 ho2 hpi2 hb2 (vs' := #[qv, .pointer (some ⟨b, 1, none⟩), .slice ao n cap]) (cs' := [q, .ptr l 1, .sl tk' xs']) (by simp) (by simp) (fun c hc => by
      simp only [List.mem_cons, List.not_mem_nil, or_false] at hc
      rcases hc with rfl | rfl | rfl
      · exact hs.flat l _ ho _ (by simp)
      · exact ⟨rfl, by simp [MV.top]⟩
      · exact ⟨rfl, htop'⟩) (fun i c hc => by
      match i, hc with
      | 0, hc => simp at hc; subst hc; exact hq2
      | 1, hc => simp at hc; subst hc; exact .ptr l 1 b hpi2 (fun q n hn e => q3.sh _ _ (hty q n hn e))
      | 2, hc => simp at hc; subst hc; exact q1)
  exact ⟨ao, n, cap, w2, qv, sv2, hrun, hb2, g2, r1, q3.trans r2, r3⟩
end
theorem wbyte_inv1 {lim d : Nat} {ms : List MV} {s : Sto} {r : MV × Sto} (h : wbyteP1 lim (d + 1) ms s = some r) : ∃ l c q p tk xs v s', ms = [.ptr l 1, .int .u8 c] ∧ lim ≤ l.d ∧ l.d ≤ d ∧ isB1 l = true ∧ 0 ≤ c ∧ c < 256 ∧ s.ob l = some [q, p, .sl tk xs] ∧ okA1 l p = true ∧ bapp lim l.d 5 s tk xs [UInt8.ofNat c.toNat] = some (v, s') ∧ r = (.junk, s'.set l [q, .ptr l 1, v]) := by
  unfold wbyteP1 at h
  split at h
  · rename_i hd
    cases hd
    split at h
    · rename_i hc
      split at h
      · rename_i q p tk xs hob
        split at h
        · rename_i hok
          obtain ⟨⟨v, s'⟩, h1, rfl⟩ := Option.map_eq_some_iff.1 h
          exact ⟨_, _, q, p, tk, xs, v, s', rfl, hc.1, hc.2.1, hc.2.2.1, hc.2.2.2.1, hc.2.2.2.2, hob, hok, h1, rfl⟩
        · cases h
      · cases h
    · cases h
  · cases h
section
variable {w0 w : World} {K : Kp} {g : Gh} {s : Sto} {lim d : Nat} {ms : List MV} {r : MV × Sto} {vs : Array Value}
theorem wbyte_ok1 (h : wbyteP1 lim (d + 1) ms s = some r) (hs : St w0 K w g s) (hu : s.Und (d + 1)) (ha : ArgsR w g s ms vs) : Does X.P 76 vs w fun u w' => Mak w0 K w g s d r.1 r.2 u w' := by
  obtain ⟨l, c, q, p, tk, xs, v, s', rfl, hl1, hl2, hl3, hc1, hc2, hob, hok, happ, rfl⟩ := wbyte_inv1 h
  obtain ⟨v0, v1, rfl, h0, h1⟩ := args2 ha
  cases h1
  cases h0 with
  | ptr l off b hpi hty =>
  have hcc : ((UInt8.ofNat c.toNat).toNat : Int) = c := by
    have : (UInt8.ofNat c.toNat).toNat = c.toNat := by simp; omega
    omega
  obtain ⟨qv, pv, sv, hb, hp, hv, hq⟩ := bld_open1 hs hpi (isB_sh1 hl3 hty) hob
  have hpv := okA_val1 hok hpi hp
  obtain ⟨a1, a2, a3⟩ := bld_one1 hs hu hpi hty hob hb hv hq
  have hb1 : (w.setRow b #[qv, .pointer (some ⟨b, 1, none⟩), sv]).heap[b]? = some (.cells #[qv, .pointer (some ⟨b, 1, none⟩), sv] 176 (0, 0)) := setRow_heap w b _ _ _ _ hb
  let wa := (w.setRow b #[qv, .pointer (some ⟨b, 1, none⟩), sv]).alloc (.cells #[.int .u8 c] 5)
  obtain ⟨b1, b2⟩ := st_far a1 (w' := wa) rfl rfl rfl (fun k hk => alloc_heap_old _ _ hk) (by simp [wa])
  have hsz : (w.setRow b #[qv, .pointer (some ⟨b, 1, none⟩), sv]).heap.size = w.heap.size := by simp
  have hck : wa.cell? ⟨w.heap.size, 0, none⟩ = some (.int .u8 (UInt8.ofNat c.toNat).toNat) := by
    rw [← hsz, cell_of_cells (alloc_heap_new _ _), hcc]; rfl
  have a2b := a2.trans b2
  obtain ⟨ao, n, cap, w2, qv2, sv2, hrun, hb2, g2, c1, c2, c3⟩ := bld_two1 (q := q) b1 a3 hl2 hpi (fun q n hn e => a2b.sh _ _ (hty q n hn e)) (a2b.sh _ _ (isB_sh1 hl3 hty)) (by simp [Sto.set]) (hv.ev a2b) (ap_slice wa _ _ hck) (bapp_set happ)
  rw [set2] at c1 c2 c3
  have c0 : (w.setRow b #[qv, .pointer (some ⟨b, 1, none⟩), sv]).cell? ⟨b, 1, none⟩ = some (.pointer (some ⟨b, 1, none⟩)) := by rw [cell_of_cells hb1]; rfl
  have d0 : (w.setRow b #[qv, .pointer (some ⟨b, 1, none⟩), sv]).cell? ⟨b, 2, none⟩ = some sv := by rw [cell_of_cells hb1]; rfl
  have e1 : w2.cell? ⟨b, 2, none⟩ = some sv2 := by rw [cell_of_cells hb2]; rfl
  have f1 : w2.frozen? ⟨b, 2, none⟩ = false := by simp [World.frozen?, hb2]
  refine does_calls ent_502 ?_
  change Calls Tryz.prog 76 _ _ _
  have mixed : Tryz.prog.follows .mixedOrders = true := by kernel_rfl
  have t72 := Tryz.underlying151; have a72 := Tryz.isAgg151; have z72 := Tryz.sizeOf151; have v72 := Tryz.zeroValue151; have u72 := run_underlying Tryz.underlying151
  have t70 := Tryz.underlying149; have a70 := Tryz.isAgg149; have z70 := Tryz.sizeOf149; have v70 := Tryz.zeroValue149; have u70 := run_underlying Tryz.underlying149
  have t37 := Tryz.underlying148; have a37 := Tryz.isAgg148; have z37 := Tryz.sizeOf148; have v37 := Tryz.zeroValue148; have u37 := run_underlying Tryz.underlying148
  have t5 := Tryz.underlying5; have a5 := Tryz.isAgg5; have z5 := Tryz.sizeOf5; have v5 := Tryz.zeroValue5; have u5 := run_underlying Tryz.underlying5
  go_enter Tryz.func76, Tryz.ntmps76
  go_wp2_with (go_at_call 94; refine (cc_any1 hb hpv).mono ?_)
  rintro e w1 ⟨rfl, rfl⟩
  go_wp2_with (at_builtin; refine wpList_app rfl (.tmp 11) (.tmp 13) 148 148 rfl (v1 := sv) (v2 := .slice (some ⟨w.heap.size, 0, none⟩) 1 1) rfl rfl hrun ?_)
  go_wp2
  go_ret
  rw [setCell_row hb2]
  exact (show Mak w0 K w g s d .junk (s'.set l [q, .ptr l 1, v]) .nilIface (w2.setRow b #[qv2, .pointer (some ⟨b, 1, none⟩), .slice ao n cap]) from ⟨g2, .junk _, c1, a2b.trans c2, c3⟩)
theorem bstr_nil1 {b : Nat} (hbk : w.cell? ⟨b, 2, none⟩ = some (.slice none 0 0)) :
    Calls Tryz.prog 77 #[.pointer (some ⟨b, 1, none⟩)] w fun e w' => e = .returned (.string ⟨#[]⟩) ∧ w' = w.drew := by
  have hUS : ∀ (W : World) (q : Option Addr), (Builtin.unsafeString_ #[173, 3] 9 #[.pointer q, .int .i64 0]).run Tryz.prog W = .ok (.string .empty) W := fun W q => Lib.run_unsafeString_none W _ _ _ q
  have c1 : w.drew.cell? ⟨b, 2, none⟩ = some (.slice none 0 0) := hbk
  have hSD : (Builtin.unsafeSliceData_ #[148] 173 #[.slice none 0 0]).run Tryz.prog w.drew = .ok (.pointer none) w.drew := rfl
  have mixed : Tryz.prog.follows .mixedOrders = true := by kernel_rfl
  have t72 := Tryz.underlying151; have a72 := Tryz.isAgg151; have z72 := Tryz.sizeOf151; have v72 := Tryz.zeroValue151; have u72 := run_underlying Tryz.underlying151
  have t70 := Tryz.underlying149; have a70 := Tryz.isAgg149; have z70 := Tryz.sizeOf149; have v70 := Tryz.zeroValue149; have u70 := run_underlying Tryz.underlying149
  have t37 := Tryz.underlying148; have a37 := Tryz.isAgg148; have z37 := Tryz.sizeOf148; have v37 := Tryz.zeroValue148; have u37 := run_underlying Tryz.underlying148
  have t127 := Tryz.underlying173; have a127 := Tryz.isAgg173; have z127 := Tryz.sizeOf173; have v127 := Tryz.zeroValue173; have u127 := run_underlying Tryz.underlying173
  have t3 := Tryz.underlying3; have a3 := Tryz.isAgg3; have z3 := Tryz.sizeOf3; have v3 := Tryz.zeroValue3; have u3 := run_underlying Tryz.underlying3
  have t9 := Tryz.underlying9; have a9 := Tryz.isAgg9; have z9 := Tryz.sizeOf9; have v9 := Tryz.zeroValue9; have u9 := run_underlying Tryz.underlying9
  have t5 := Tryz.underlying5; have a5 := Tryz.isAgg5; have z5 := Tryz.sizeOf5; have v5 := Tryz.zeroValue5; have u5 := run_underlying Tryz.underlying5
  go_enter Tryz.func77, Tryz.ntmps77
  go_wp2
  go_region_o
  all_goals (go_wp2; go_ret; exact ⟨rfl, rfl⟩)
theorem bstr_row1 {b q cap : Nat} {bs : List UInt8} {cur : Array Value} (h0 : bs ≠ []) (hbk : w.cell? ⟨b, 2, none⟩ = some (.slice (some ⟨q, 0, none⟩) bs.length cap)) (hg : w.heap[q]? = some (.cells cur 5 (0, 0))) (hnc : bs.length ≤ cap) (hcm : bs.length ≤ 9223372036854775807) (hcs : bs.length ≤ cur.size)
    (hc : ∀ (j : Nat) (x : UInt8), bs[j]? = some x → cur[j]? = some (.int .u8 x.toNat)) :
    Calls Tryz.prog 77 #[.pointer (some ⟨b, 1, none⟩)] w fun e w' => e = .returned (.string ⟨bs.toArray⟩) ∧ w' = w.drew.freeze ⟨q, 0, none⟩ bs.length := by
  have hl0 : bs.length ≠ 0 := by simpa using h0
  have c1 : w.drew.cell? ⟨b, 2, none⟩ = some (.slice (some ⟨q, 0, none⟩) bs.length cap) := hbk
  have hSD : (Builtin.unsafeSliceData_ #[148] 173 #[.slice (some ⟨q, 0, none⟩) bs.length cap]).run Tryz.prog w.drew = .ok (.pointer (some ⟨q, 0, none⟩)) w.drew :=
    Lib.run_unsafeSliceData_row _ _ _ _ _ _ (by omega)
  have hUS : (Builtin.unsafeString_ #[173, 3] 9 #[.pointer (some ⟨q, 0, none⟩), .int .i64 bs.length]).run Tryz.prog w.drew = .ok (.string ⟨bs.toArray⟩) (w.drew.freeze ⟨q, 0, none⟩ bs.length) := by
    refine Lib.run_unsafeString_row w.drew 173 3 9 5 Tryz.underlying173 cellsByte q cur.size (by have hg' : w.drew.heap[q]? = some (.cells cur 5 (0, 0)) := hg; simp [World.shape?, hg']) bs h0 hcs hcm ?_
    intro j x hx
    have hg' : w.drew.heap[q]? = some (.cells cur 5 (0, 0)) := hg
    rw [add_lit, Nat.zero_add, Lib.cell_of_heap hg']
    exact hc j x hx
  have mixed : Tryz.prog.follows .mixedOrders = true := by kernel_rfl
  have t72 := Tryz.underlying151; have a72 := Tryz.isAgg151; have z72 := Tryz.sizeOf151; have v72 := Tryz.zeroValue151; have u72 := run_underlying Tryz.underlying151
  have t70 := Tryz.underlying149; have a70 := Tryz.isAgg149; have z70 := Tryz.sizeOf149; have v70 := Tryz.zeroValue149; have u70 := run_underlying Tryz.underlying149
  have t37 := Tryz.underlying148; have a37 := Tryz.isAgg148; have z37 := Tryz.sizeOf148; have v37 := Tryz.zeroValue148; have u37 := run_underlying Tryz.underlying148
  have t127 := Tryz.underlying173; have a127 := Tryz.isAgg173; have z127 := Tryz.sizeOf173; have v127 := Tryz.zeroValue173; have u127 := run_underlying Tryz.underlying173
  have t3 := Tryz.underlying3; have a3 := Tryz.isAgg3; have z3 := Tryz.sizeOf3; have v3 := Tryz.zeroValue3; have u3 := run_underlying Tryz.underlying3
  have t9 := Tryz.underlying9; have a9 := Tryz.isAgg9; have z9 := Tryz.sizeOf9; have v9 := Tryz.zeroValue9; have u9 := run_underlying Tryz.underlying9
  have t5 := Tryz.underlying5; have a5 := Tryz.isAgg5; have z5 := Tryz.sizeOf5; have v5 := Tryz.zeroValue5; have u5 := run_underlying Tryz.underlying5
  go_enter Tryz.func77, Tryz.ntmps77
  go_wp2
  go_region_o
  all_goals (go_wp2; go_ret; exact ⟨rfl, rfl⟩)
theorem bstr_inv1 (h : bstrP1 lim (d + 1) ms s = some r) : ∃ l, ms = [.ptr l 1] ∧ lim ≤ l.d ∧ l.d ≤ d ∧ ((∃ q p, s.ob l = some [q, p, .sl .nil []] ∧ r = (.str [], s)) ∨
    ∃ q p k c xs bs, s.ob l = some [q, p, .sl (.byt k c 5) xs] ∧ bytesOf xs = some bs ∧ lim ≤ k ∧ k ≤ l.d ∧ bs ≠ [] ∧ okz 1 xs = true ∧ (inB xs = true ∧ xs.length ≤ 140737488355328) ∧ s.ow k c = some (xs.length, 1) ∧ r = (.str bs, (s.own k c none).set l [q, p, .sl .no xs])) := by
  unfold bstrP1 at h
  split at h
  · rename_i hd
    cases hd
    split at h
    · rename_i hc
      split at h
      · rename_i q p hob
        cases h
        exact ⟨_, rfl, hc.1, hc.2, .inl ⟨q, p, hob, rfl⟩⟩
      · rename_i q p k c e xs hob
        split at h
        · rename_i bs hbs
          split at h
          · rename_i hcc
            obtain ⟨hc1, hc2, rfl, hc4, hc5, hc6, hc7⟩ := hcc
            cases h
            exact ⟨_, rfl, hc.1, hc.2, .inr ⟨q, p, k, c, xs, bs, hob, hbs, hc1, hc2, hc4, hc5, hc6, hc7, rfl⟩⟩
          · cases h
        · cases h
      · cases h
    · cases h
  · cases h
theorem bstr_ok1 (h : bstrP1 lim (d + 1) ms s = some r) (hs : St w0 K w g s) (hu : s.Und (d + 1)) (ha : ArgsR w g s ms vs) : Does X.P 77 vs w fun u w' => Mak w0 K w g s d r.1 r.2 u w' := by
  obtain ⟨l, rfl, hl1, hl2, h | h⟩ := bstr_inv1 h
  · obtain ⟨q, p, hob, rfl⟩ := h
    obtain ⟨v0, rfl, h0⟩ := args1 ha
    cases h0 with
    | ptr l off b hpi hty =>
    obtain ⟨vsb, T, e1, e2, e3⟩ := hs.obj l _ b hob hpi
    have h1 := e3 2 _ rfl
    have hlt : 2 < vsb.size := by simp at e2; omega
    rw [Array.getElem?_eq_getElem hlt, Option.getD_some] at h1
    have hv : vsb[2] = .slice none 0 0 := by
      generalize vsb[2] = z at h1
      cases h1 with
      | sl t xs a cap b o z u hcap htok ha hz hF hp hv =>
        obtain ⟨rfl, rfl⟩ := htok
        rfl
    have hc1 : w.cell? ⟨b, 2, none⟩ = some (.slice none 0 0) := by rw [cell_of_cells e1, Array.getElem?_eq_getElem hlt, hv]
    refine does_calls ent_503 ?_
    refine (show Calls Tryz.prog 77 _ _ _ from bstr_nil1 hc1).mono ?_
    rintro e w' ⟨rfl, rfl⟩
    obtain ⟨k1, k2⟩ := hs.same (w' := w.drew) rfl rfl rfl rfl
    exact (show Mak w0 K w g s d (.str []) s (.string ⟨#[]⟩) w.drew from ⟨g, .str [], k1, k2, hu⟩)
  · obtain ⟨q, p, k, c, xs, bs, hob, hbs, hc1, hc2, hc4, hc5, hc6, hc7, rfl⟩ := h
    obtain ⟨v0, rfl, h0⟩ := args1 ha
    cases h0 with
    | ptr l off b hpi hty =>
    obtain ⟨vsb, T, e1, e2, e3⟩ := hs.obj l _ b hob hpi
    have h1 := e3 2 _ rfl
    have h00 := e3 1 _ rfl
    have hq0 := e3 0 _ rfl
    have hlt : 2 < vsb.size := by simp at e2; omega
    obtain ⟨rvs, T2, t1, t2, t3, t4, t5, t6, t7, t8⟩ := hs.tok k c _ _ hc7
    rw [Array.getElem?_eq_getElem hlt, Option.getD_some] at h1
    have hcl1 : w.cell? ⟨b, 2, none⟩ = some vsb[2] := by rw [cell_of_cells e1, Array.getElem?_eq_getElem hlt]
    have hera := h1.era
    have hvb : vsb[2]? = some vsb[2] := Array.getElem?_eq_getElem hlt
    generalize vsb[2] = zv at h1 hcl1 hera hvb
    obtain ⟨l1, l2⟩ := bytesOf_eq _ _ hbs
    have hmax : xs.length ≤ 9223372036854775807 := by omega
    have hfit : xs.length ≤ rvs.size := by omega
    have key : ∃ cap, zv = .slice (some ⟨(g.τ k c).1, 0, none⟩) xs.length cap ∧ xs.length ≤ cap ∧ rvs.size = rvs.size ∧ T2 = 5 ∧ ∀ (j : Nat) (x : UInt8), bs[j]? = some x → rvs[j]? = some (.int .u8 x.toNat) := by
      cases h1 with
      | sl t xs a cap b' o z u hcap htok ha hz hF hp hv =>
      obtain ⟨_, t9⟩ := htok.2 _ _ hc7
      obtain ⟨rfl, rfl, kk, hsh⟩ := t9 rfl
      rw [shape_of_cells t1] at hsh
      simp only [Option.some.injEq, Prod.mk.injEq] at hsh
      have hne : xs ≠ [] := by
        intro e; subst e; simp at l1; exact hc4 (List.length_eq_zero_iff.1 l1.symm)
      have ea := ha hne
      rw [t8] at ea
      simp only [Option.some.injEq, Addr.mk.injEq] at ea
      obtain ⟨rfl, rfl, _⟩ := ea
      have hz1 : z = 1 := by
        cases xs with
        | nil => exact absurd rfl hne
        | cons y ys =>
          rw [← hz y (List.mem_cons_self ..)]
          have := List.all_eq_true.1 hc5 y (List.mem_cons_self ..)
          simpa using this
      subst hz1
      refine ⟨_, by rw [t8], hcap, rfl, hsh.1, fun j x hx => ?_⟩
      have hj : j < xs.length := by rw [l1]; exact (List.getElem?_eq_some_iff.1 hx).1
      have hxj : xs[j]? = some xs[j] := List.getElem?_eq_getElem hj
      obtain ⟨n, hn1, hn2⟩ := l2 j _ hxj
      rw [hx] at hn2
      cases hn2
      have hn3 := inB_at hc6.1 j n (by rw [hxj, hn1])
      have hcv := hv j _ hxj 0 (.int .u8 n) (by rw [hn1]; rfl)
      have hcc := (hF j 0 hj (Nat.lt_succ_self 0)).2
      rw [Nat.zero_add, Nat.mul_one, Nat.add_zero, cell_of_cells t1] at hcc
      rw [hcc]
      generalize u j 0 = uu at hcv
      cases hcv
      have : ((UInt8.ofNat n.toNat).toNat : Int) = n := by
        have : (UInt8.ofNat n.toNat).toNat = n.toNat := by simp; omega
        omega
      rw [this]
    obtain ⟨cap, rfl, hcap, _, rfl, hcur⟩ := key
    rw [l1] at hcl1
    refine does_calls ent_503 ?_
    refine (show Calls Tryz.prog 77 _ _ _ from bstr_row1 hc4 hcl1 t1 (by omega) (by omega) (by omega) hcur).mono ?_
    rintro e w' ⟨rfl, rfl⟩
    obtain ⟨k1, k2⟩ := hs.same (w' := w.drew) rfl rfl rfl rfl
    obtain ⟨m1, m2⟩ := st_frz (n := bs.length) k1 hc7
    have e1' : (w.drew.freeze ⟨(g.τ k c).1, 0, none⟩ bs.length).heap[b]? = some (.cells vsb T (0, 0)) := by
      rw [freeze_other (fun e => t7 l (by rw [← e]; exact hpi))]; exact e1
    have hev := k2.trans m2
    obtain ⟨r1, r2, r3⟩ := m1.put (Und.grow hu hc7 none) (l := l) (cs := [q, p, .sl (.byt k c 5) xs]) (cs' := [q, p, .sl .no xs]) hob hpi e1' (vs' := vsb) (by simpa using e2) rfl (fun cc hcc => by
        simp only [List.mem_cons, List.not_mem_nil, or_false] at hcc
        rcases hcc with rfl | rfl | rfl
        · exact hs.flat l _ hob _ (by simp)
        · exact hs.flat l _ hob _ (by simp)
        · exact ⟨rfl, rfl⟩) (fun i cc hcc => by
        match i, hcc with
        | 0, hcc => simp at hcc; subst hcc; exact hq0.ev hev
        | 1, hcc => simp at hcc; subst hcc; exact h00.ev hev
        | 2, hcc =>
          simp at hcc; subst hcc
          rw [hvb, Option.getD_some]
          exact hera.ev hev)
    rw [setRow_self _ _ _ _ _ e1'] at r1 r2
    exact (show Mak w0 K w g s d (.str bs) ((s.own k c none).set l [q, p, .sl .no xs]) (.string ⟨bs.toArray⟩) (w.drew.freeze ⟨(g.τ k c).1, 0, none⟩ bs.length) from ⟨g, .str bs, r1, hev.trans r2, r3⟩)
end
end Go.Proofs.Tryz.E
