/- Walks: what the functions compute. -/
import Derived.Test.YtclnccgiicgooaaGreatDoorE38p
set_option linter.unusedVariables false
set_option linter.unusedSimpArgs false
/- The configuration is sound: a Builder's functions, wherever in a variable it lies. -/
namespace Go.Proofs.Tryz.E
open Go.Mv
set_option maxRecDepth 100000
set_option maxHeartbeats 4000000
theorem bldT_ok {T n o : Nat} (h : (T, n, o) ∈ bldT) : n < 1024 ∧ o + 1 < n ∧ liesAt Tryz.prog Tryz.prog.depth T (n / Tryz.prog.cellsOf T) o 85 1 = true := by
  simp only [bldT, List.mem_cons, List.not_mem_nil, or_false, Prod.mk.injEq] at h
  rcases h with ⟨rfl, rfl, rfl⟩ | ⟨rfl, rfl, rfl⟩ | ⟨rfl, rfl, rfl⟩
  · exact ⟨by decide, by decide, by kernel_rfl⟩
  · exact ⟨by decide, by decide, by kernel_rfl⟩
  · exact ⟨by decide, by decide, by kernel_rfl⟩
theorem isG_inv {l : Mv.Loc} {o : Nat} (h : isG l o = true) : ∃ T n, (T, n, o) ∈ bldT ∧ l.t = 1000000 + (T * 1024 + n) := by
  unfold isG at h
  obtain ⟨⟨T, n, o'⟩, h1, h2⟩ := List.any_eq_true.1 h
  simp only [Bool.and_eq_true, decide_eq_true_eq, beq_iff_eq] at h2
  obtain ⟨h2, rfl⟩ := h2
  exact ⟨T, n, h1, h2⟩
theorem ccG_used (b o : Nat) (w : World) (h0 : w.cell? ⟨b, o, none⟩ = some (.pointer (some ⟨b, o, none⟩))) :
    Calls Tryz.prog 156 #[.pointer (some ⟨b, o, none⟩)] w fun e w' => e = .returned (.tuple #[]) ∧ w' = w := by
  obtain ⟨j, hj, _⟩ := sizeB
  have mixed : Tryz.prog.follows .mixedOrders = true := by kernel_rfl
  have t72 := Tryz.underlying85; have a72 := Tryz.isAgg85; have z72 := Tryz.sizeOf85; have v72 := Tryz.zeroValue85; have u72 := run_underlying Tryz.underlying85
  have t70 := Tryz.underlying83; have a70 := Tryz.isAgg83; have z70 := Tryz.sizeOf83; have v70 := Tryz.zeroValue83; have u70 := run_underlying Tryz.underlying83
  have t4 := Tryz.underlying4; have a4 := Tryz.isAgg4; have z4 := Tryz.sizeOf4; have v4 := Tryz.zeroValue4; have u4 := run_underlying Tryz.underlying4
  have t164 := Tryz.underlying246; have a164 := Tryz.isAgg246; have z164 := Tryz.sizeOf246; have v164 := Tryz.zeroValue246; have u164 := run_underlying Tryz.underlying246
  go_enter Tryz.func156, Tryz.ntmps156
  go_wp2
  rw [Lib.run_neq_ptr_same w _ Tryz.underlying83 hj]
  go_wp2
  go_end0
  exact ⟨rfl, rfl⟩
theorem ccG_fresh {T n o : Nat} (hm : (T, n, o) ∈ bldT) (b : Nat) (w : World) (h0 : w.cell? ⟨b, o, none⟩ = some (.pointer none)) (hsh : w.shape? b = some (T, n)) (hfz : w.frozen? ⟨b, o, none⟩ = false) :
    Calls Tryz.prog 156 #[.pointer (some ⟨b, o, none⟩)] w fun e w' => e = .returned (.tuple #[]) ∧ w' = w.setCell ⟨b, o, none⟩ (.pointer (some ⟨b, o, none⟩)) := by
  obtain ⟨j, hj, hjs⟩ := sizeB
  obtain ⟨_, hlt, hlies⟩ := bldT_ok hm
  have mixed : Tryz.prog.follows .mixedOrders = true := by kernel_rfl
  have t72 := Tryz.underlying85; have a72 := Tryz.isAgg85; have z72 := Tryz.sizeOf85; have v72 := Tryz.zeroValue85; have u72 := run_underlying Tryz.underlying85
  have t70 := Tryz.underlying83; have a70 := Tryz.isAgg83; have z70 := Tryz.sizeOf83; have v70 := Tryz.zeroValue83; have u70 := run_underlying Tryz.underlying83
  have t4 := Tryz.underlying4; have a4 := Tryz.isAgg4; have z4 := Tryz.sizeOf4; have v4 := Tryz.zeroValue4; have u4 := run_underlying Tryz.underlying4
  have t164 := Tryz.underlying246; have a164 := Tryz.isAgg246; have z164 := Tryz.sizeOf246; have v164 := Tryz.zeroValue246; have u164 := run_underlying Tryz.underlying246
  go_enter Tryz.func156, Tryz.ntmps156
  go_wp2
  rw [Lib.run_to_unsafe w ⟨b, o, none⟩ Tryz.underlying83 Tryz.underlying246 hj (by rw [hjs]; decide) hsh (show o < n by omega)]
  simp only [Result.andThen]
  rw [Oper.upon_value]
  go_wp2
  rw [run_callFunc_extern Tryz.func192 (by kernel_rfl) (by kernel_rfl) (by kernel_rfl) (e := Extern.AbiNoEscape.same) (by kernel_rfl)]
  rw [Lib.run_noEscape]
  simp only [Result.andThen]
  rw [Oper.upon_value]
  go_wp2
  rw [Lib.run_from_unsafe w ⟨b, o, none⟩ Tryz.underlying246 Tryz.underlying83 hj hsh hlies]
  simp only [Result.andThen]
  rw [Oper.upon_value]
  go_wp2
  go_end0
  exact ⟨rfl, rfl⟩
theorem ccG_any {T n o b : Nat} {w : World} {vs : Array Value} {pv : Value} (hm : (T, n, o) ∈ bldT) (hb : w.heap[b]? = some (.cells vs T (0, 0))) (hn : vs.size = n) (ho : vs[o]? = some pv) (hp : pv = .pointer none ∨ pv = .pointer (some ⟨b, o, none⟩)) :
    Calls Tryz.prog 156 #[.pointer (some ⟨b, o, none⟩)] w fun e w' => e = .returned (.tuple #[]) ∧ w' = w.setRow b (vs.setIfInBounds o (.pointer (some ⟨b, o, none⟩))) := by
  have hc0 : w.cell? ⟨b, o, none⟩ = some pv := by rw [cell_of_cells hb]; exact ho
  rcases hp with rfl | rfl
  · refine (ccG_fresh hm b w hc0 (by rw [shape_of_cells hb, hn]) (by simp [World.frozen?, hb])).mono ?_
    rintro e w' ⟨rfl, rfl⟩
    exact ⟨rfl, by rw [setCell_row hb]⟩
  · refine (ccG_used b o w hc0).mono ?_
    rintro e w' ⟨rfl, rfl⟩
    have : vs.setIfInBounds o (.pointer (some ⟨b, o, none⟩)) = vs := by
      apply Array.ext_getElem?
      intro i
      rw [Array.getElem?_setIfInBounds]
      split
      · rename_i e; subst e
        rw [if_pos (Array.getElem?_eq_some_iff.1 ho).1, ho]
      · rfl
    exact ⟨rfl, by rw [this]; exact (setRow_self _ _ _ _ _ hb).symm⟩
theorem okG_val {w : World} {g : Gh} {s : Sto} {l : Mv.Loc} {o b : Nat} {p : MV} (hp : okG l o p = true) (hpi : g.π l = some b) {pv : Value} (h : VR w g s p pv) : pv = .pointer none ∨ pv = .pointer (some ⟨b, o, none⟩) := by
  unfold okG at hp
  split at hp
  · cases h; exact .inl rfl
  · simp only [Bool.and_eq_true, decide_eq_true_eq, beq_iff_eq] at hp
    obtain ⟨rfl, rfl⟩ := hp
    cases h with
    | ptr l off b' hb ht =>
      rw [hpi] at hb
      cases hb
      exact .inr rfl
  · cases hp
theorem bldO_inv {cs : List MV} {o : Nat} {p : MV} {tk : Tok} {xs : List (List MV)} (h : bldO cs o = some (p, tk, xs)) : cs[o]? = some p ∧ cs[o + 1]? = some (.sl tk xs) := by
  unfold bldO at h
  split at h
  · rename_i h1 h2; cases h; exact ⟨h1, h2⟩
  · cases h
section
variable {w0 w : World} {K : Kp} {g : Gh} {s : Sto} {lim d : Nat} {l : Mv.Loc} {b T n o : Nat} {p : MV} {tk : Tok} {xs : List (List MV)} {cs : List MV}
theorem bldG_sh (hl : l.t = 1000000 + (T * 1024 + n)) (hn : n < 1024) (hty : ∀ q n, n < 1024 → l.t = 1000000 + (q * 1024 + n) → w.shape? b = some (q, n)) : w.shape? b = some (T, n) := hty _ _ hn hl
theorem bldG_open (hs : St w0 K w g s) (hpi : g.π l = some b) (hsh : w.shape? b = some (T, n)) (ho : s.ob l = some cs) (hp : cs[o]? = some p) (hx : cs[o + 1]? = some (.sl tk xs)) :
    ∃ vs pv sv, w.heap[b]? = some (.cells vs T (0, 0)) ∧ vs.size = n ∧ cs.length ≤ vs.size ∧ vs[o]? = some pv ∧ vs[o + 1]? = some sv ∧ VR w g s p pv ∧ VR w g s (.sl tk xs) sv ∧ ∀ (i : Nat) (c : MV), cs[i]? = some c → VR w g s c (vs[i]?.getD undef) := by
  obtain ⟨vs, T', e1, e2, e3⟩ := hs.obj l _ b ho hpi
  have hsh' := hsh
  rw [shape_of_cells e1] at hsh'
  simp only [Option.some.injEq, Prod.mk.injEq] at hsh'
  obtain ⟨rfl, h2⟩ := hsh'
  have l1 := (List.getElem?_eq_some_iff.1 hp).1
  have l2 := (List.getElem?_eq_some_iff.1 hx).1
  have k1 : vs[o]? = some vs[o] := Array.getElem?_eq_getElem (by omega)
  have k2 : vs[o + 1]? = some vs[o + 1] := Array.getElem?_eq_getElem (by omega)
  have q1 := e3 _ _ hp
  have q2 := e3 _ _ hx
  rw [k1] at q1
  rw [k2] at q2
  exact ⟨vs, _, _, e1, h2, by omega, k1, k2, q1, q2, e3⟩
/-- One cell is written. -/
theorem bldG_put (hs : St w0 K w g s) (hu : s.Und (d + 1)) (hpi : g.π l = some b) (ho : s.ob l = some cs) {vs : Array Value} (hb : w.heap[b]? = some (.cells vs T (0, 0))) (hle : cs.length ≤ vs.size)
    (hv : ∀ (i : Nat) (c : MV), cs[i]? = some c → VR w g s c (vs[i]?.getD undef)) {i : Nat} {c : MV} {u : Value} (hc : c.flat = true ∧ c.top l.d = true) (hcu : VR w g s c u) :
    St w0 K (w.setRow b (vs.setIfInBounds i u)) g (s.set l (cs.set i c)) ∧ Ev w g s (w.setRow b (vs.setIfInBounds i u)) g (s.set l (cs.set i c)) ∧ (s.set l (cs.set i c)).Und (d + 1) := by
  refine hs.put hu ho hpi hb (vs' := vs.setIfInBounds i u) (by simpa using hle) (by simp) (fun c' hc' => ?_) (fun j c' hj => ?_)
  · rcases List.mem_or_eq_of_mem_set hc' with h | rfl
    · exact hs.flat l _ ho _ h
    · exact hc
  · rw [List.getElem?_set] at hj
    rw [Array.getElem?_setIfInBounds]
    split at hj
    · rename_i e; subst e
      split at hj
      · rename_i hlt
        cases hj
        rw [if_pos rfl, if_pos (by omega)]
        exact hcu
      · cases hj
    · rename_i e
      rw [if_neg e]
      exact hv _ _ hj
/-- Bytes are put behind, and the row is kept. -/
theorem bldG_two (hs : St w0 K w g s) (hu : s.Und (d + 1)) (hk : l.d ≤ d) (hpi : g.π l = some b) (hsh : w.shape? b = some (T, n)) (ho : s.ob l = some cs) (hp : cs[o]? = some (.ptr l o)) (hx : cs[o + 1]? = some (.sl tk xs)) {sv : Value} (hv : VR w g s (.sl tk xs) sv)
    {f : Value → Sem Value} {x : List UInt8} (hf : Ap Tryz.prog w 5 f x) {v : MV} {s' : Sto} (he : bapp lim l.d 5 s tk xs x = some (v, s')) :
    ∃ ao n cap w2 vs2 sv2, (f sv).run Tryz.prog w = .ok (.slice ao n cap) w2 ∧ w2.heap[b]? = some (.cells vs2 T (0, 0)) ∧ vs2[o]? = some (.pointer (some ⟨b, o, none⟩)) ∧ vs2[o + 1]? = some sv2 ∧
      ∃ g2, St w0 K (w2.setRow b (vs2.setIfInBounds (o + 1) (.slice ao n cap))) g2 (s'.set l (cs.set (o + 1) v)) ∧ Ev w g s (w2.setRow b (vs2.setIfInBounds (o + 1) (.slice ao n cap))) g2 (s'.set l (cs.set (o + 1) v)) ∧ (s'.set l (cs.set (o + 1) v)).Und (d + 1) := by
  obtain ⟨u, w2, hrun, g2, q1, q2, q3, q4⟩ := bappSound hs hu hk hf hv he
  obtain ⟨hob, tk', xs', rfl⟩ := bapp_ob he
  have hpi2 := q3.pi l b hpi
  have ho2 : s'.ob l = some cs := by rw [hob]; exact ho
  obtain ⟨vs2, pv, sv2, hb2, hn2, hle2, k1, k2, hp2, _, hv2⟩ := bldG_open q2 hpi2 (q3.sh _ _ hsh) ho2 hp hx
  have hpv : pv = .pointer (some ⟨b, o, none⟩) := by
    cases hp2 with
    | ptr l off b' hb ht => rw [hpi2] at hb; cases hb; rfl
  subst hpv
  have htop : (MV.sl tk xs).top l.d = true := (hs.flat l _ ho _ (List.mem_of_getElem? hx)).2
  have htop' := bapp_top he htop
  have : ∃ ao n cap, u = .slice ao n cap := by
    cases q1 with
    | sl t xs a cap b o z u hcap htok ha hz hF hp hv => exact ⟨_, _, _, rfl⟩
  obtain ⟨ao, n, cap, rfl⟩ := this
  obtain ⟨r1, r2, r3⟩ := bldG_put q2 q4 hpi2 ho2 hb2 hle2 hv2 (i := o + 1) (c := .sl tk' xs') ⟨rfl, htop'⟩ q1
  exact ⟨ao, n, cap, w2, vs2, sv2, hrun, hb2, k1, k2, g2, r1, q3.trans r2, r3⟩
end
theorem appG_inv {lim d : Nat} {l : Mv.Loc} {o : Nat} {x : List UInt8} {u : MV} {s : Sto} {r : MV × Sto} (h : appG lim d l o x u s = some r) : ∃ cs p tk xs v s', lim ≤ l.d ∧ l.d ≤ d ∧ isG l o = true ∧ s.ob l = some cs ∧ bldO cs o = some (p, tk, xs) ∧ okG l o p = true ∧ bapp lim l.d 5 s tk xs x = some (v, s') ∧ r = (u, s'.set l ((cs.set o (.ptr l o)).set (o + 1) v)) := by
  unfold appG at h
  split at h
  · rename_i hc
    split at h
    · rename_i cs hob
      split at h
      · rename_i p tk xs hbo
        split at h
        · rename_i hok
          obtain ⟨⟨v, s'⟩, h1, rfl⟩ := Option.map_eq_some_iff.1 h
          exact ⟨cs, p, tk, xs, v, s', hc.1, hc.2.1, hc.2.2, hob, hbo, hok, h1, rfl⟩
        · cases h
      · cases h
    · cases h
  · cases h
theorem bapp_same {lim k q : Nat} {σ : Sto} {tk : Tok} {xs : List (List MV)} {x : List UInt8} {v : MV} {s' : Sto} (hk : lim ≤ k) (h : bapp lim k q σ tk xs x = some (v, s')) : Same lim σ s' := by
  unfold bapp at h
  split at h
  · cases h; exact .refl _
  · split at h
    · split at h
      · split at h
        · cases h; exact (Same.own hk _ _).trans (.tick hk)
        · cases h
      · split at h
        · rename_i hc; cases h; exact .own hc.1 _ _
        · cases h
      · cases h
    · cases h
theorem appG_keep {lim d : Nat} {l : Mv.Loc} {o : Nat} {x : List UInt8} {u : MV} {s : Sto} {r : MV × Sto} (h : appG lim d l o x u s = some r) : Same lim s r.2 := by
  obtain ⟨cs, p, tk, xs, v, s', h1, h2, h3, h4, h5, h6, h7, rfl⟩ := appG_inv h
  exact (bapp_same h1 h7).trans (.set h1 _)
theorem appG_lm {lim lim' d : Nat} {l : Mv.Loc} {o : Nat} {x : List UInt8} {u : MV} {s : Sto} {r : MV × Sto} (hl : lim' ≤ lim) (hb : ∀ {tk : Tok} {xs : List (List MV)} {r : MV × Sto}, bapp lim l.d 5 s tk xs x = some r → bapp lim' l.d 5 s tk xs x = some r) (h : appG lim d l o x u s = some r) : appG lim' d l o x u s = some r := by
  obtain ⟨cs, p, tk, xs, v, s', h1, h2, h3, h4, h5, h6, h7, rfl⟩ := appG_inv h
  simp only [appG, Nat.le_trans hl h1, h2, h3, h4, h5, h6, and_self, if_true, hb h7, Option.map_some]
section
variable {w0 w : World} {K : Kp} {g : Gh} {s : Sto} {lim d : Nat} {ms : List MV} {r : MV × Sto} {vs : Array Value}
/-- What is had at a Builder's place ahead of a byte or a text. -/
theorem appG_pre {l : Mv.Loc} {o b : Nat} {x : List UInt8} {u : MV} (h : appG lim d l o x u s = some r) (hs : St w0 K w g s) (hu : s.Und (d + 1)) (hpi : g.π l = some b) (hty : ∀ q n, n < 1024 → l.t = 1000000 + (q * 1024 + n) → w.shape? b = some (q, n)) :
    ∃ T n vs pv sv cs tk xs v s', (T, n, o) ∈ bldT ∧ w.heap[b]? = some (.cells vs T (0, 0)) ∧ vs.size = n ∧ vs[o]? = some pv ∧ vs[o + 1]? = some sv ∧ (pv = .pointer none ∨ pv = .pointer (some ⟨b, o, none⟩)) ∧ o < n ∧
      l.d ≤ d ∧ w.shape? b = some (T, n) ∧ cs[o]? = some (.ptr l o) ∧ cs[o + 1]? = some (.sl tk xs) ∧ VR w g s (.sl tk xs) sv ∧
      St w0 K (w.setRow b (vs.setIfInBounds o (.pointer (some ⟨b, o, none⟩)))) g (s.set l cs) ∧ Ev w g s (w.setRow b (vs.setIfInBounds o (.pointer (some ⟨b, o, none⟩)))) g (s.set l cs) ∧ (s.set l cs).Und (d + 1) ∧
      bapp lim l.d 5 s tk xs x = some (v, s') ∧ r = (u, s'.set l (cs.set (o + 1) v)) := by
  obtain ⟨cs, p, tk, xs, v, s', h1, h2, h3, hob, h5, hok, happ, rfl⟩ := appG_inv h
  obtain ⟨T, n, hm, hl⟩ := isG_inv h3
  obtain ⟨hn, hon, _⟩ := bldT_ok hm
  obtain ⟨hp, hx⟩ := bldO_inv h5
  have hsh := hty _ _ hn hl
  obtain ⟨vs, pv, sv, hb, hvn, hle, k1, k2, q1, q2, hv⟩ := bldG_open hs hpi hsh hob hp hx
  obtain ⟨a1, a2, a3⟩ := bldG_put hs hu hpi hob hb hle hv (i := o) (c := .ptr l o) (u := .pointer (some ⟨b, o, none⟩)) ⟨rfl, by simp [MV.top]⟩ (.ptr l o b hpi hty)
  have hlo := (List.getElem?_eq_some_iff.1 hp).1
  refine ⟨T, n, vs, pv, sv, cs.set o (.ptr l o), tk, xs, v, s', hm, hb, hvn, k1, k2, okG_val hok hpi q1, by omega, h2, hsh, ?_, ?_, q2, a1, a2, a3, happ, rfl⟩
  · rw [List.getElem?_set_self hlo]
  · rw [List.getElem?_set_ne (by omega)]; exact hx
theorem wstrG_inv (h : wstrG lim (d + 1) ms s = some r) : ∃ l o x, ms = [.ptr l o, .str x] ∧ appG lim d l o x (.tup [.int .i64 x.length, .junk]) s = some r := by
  unfold wstrG at h
  split at h
  · rename_i q; cases q; exact ⟨_, _, _, rfl, h⟩
  · cases h
theorem wbyteG_inv (h : wbyteG lim (d + 1) ms s = some r) : ∃ l o c, ms = [.ptr l o, .int .u8 c] ∧ (0 ≤ c ∧ c < 256) ∧ appG lim d l o [UInt8.ofNat c.toNat] .junk s = some r := by
  unfold wbyteG at h
  split at h
  · rename_i q; cases q
    split at h
    · rename_i hc; exact ⟨_, _, _, rfl, hc, h⟩
    · cases h
  · cases h
theorem wstrG_ok (h : wstrG lim (d + 1) ms s = some r) (hs : St w0 K w g s) (hu : s.Und (d + 1)) (ha : ArgsR w g s ms vs) : Does X.P 113 vs w fun u w' => Mak w0 K w g s d r.1 r.2 u w' := by
  obtain ⟨l, o, x, rfl, h⟩ := wstrG_inv h
  obtain ⟨v0, v1, rfl, h0, h1⟩ := args2 ha
  cases h1
  cases h0 with
  | ptr l o b hpi hty =>
  obtain ⟨T, n, vs, pv, sv, cs, tk, xs, v, s', hm, hb, hvn, hvo, hvs, hpv, hon, hld, hsh, hp, hx, hv, a1, a2, a3, happ, rfl⟩ := appG_pre h hs hu hpi hty
  obtain ⟨ao, n', cap, w2, vs2, sv2, hrun, hb2, k1, k2, g2, c1, c2, c3⟩ := bldG_two a1 a3 hld hpi (a2.sh _ _ hsh) (by simp [Sto.set]) hp hx (hv.ev a2) (ap_string _ x) (bapp_set happ)
  rw [set2] at c1 c2 c3
  have hb1 : (w.setRow b (vs.setIfInBounds o (.pointer (some ⟨b, o, none⟩)))).heap[b]? = some (.cells (vs.setIfInBounds o (.pointer (some ⟨b, o, none⟩))) T (0, 0)) := setRow_heap w b _ _ _ _ hb
  have c0 : (w.setRow b (vs.setIfInBounds o (.pointer (some ⟨b, o, none⟩)))).cell? ⟨b, o, none⟩ = some (.pointer (some ⟨b, o, none⟩)) := by rw [cell_of_cells hb1, Array.getElem?_setIfInBounds, if_pos rfl, if_pos (by omega)]
  have d0 : (w.setRow b (vs.setIfInBounds o (.pointer (some ⟨b, o, none⟩)))).cell? ⟨b, o + 1, none⟩ = some sv := by rw [cell_of_cells hb1, Array.getElem?_setIfInBounds, if_neg (by omega)]; exact hvs
  have e1 : w2.cell? ⟨b, o + 1, none⟩ = some sv2 := by rw [cell_of_cells hb2]; exact k2
  have f1 : w2.frozen? ⟨b, o + 1, none⟩ = false := by simp [World.frozen?, hb2]
  refine does_calls ent_501 ?_
  change Calls Tryz.prog 113 _ _ _
  have mixed : Tryz.prog.follows .mixedOrders = true := by kernel_rfl
  have t72 := Tryz.underlying85; have a72 := Tryz.isAgg85; have z72 := Tryz.sizeOf85; have v72 := Tryz.zeroValue85; have u72 := run_underlying Tryz.underlying85
  have t70 := Tryz.underlying83; have a70 := Tryz.isAgg83; have z70 := Tryz.sizeOf83; have v70 := Tryz.zeroValue83; have u70 := run_underlying Tryz.underlying83
  have t37 := Tryz.underlying58; have a37 := Tryz.isAgg58; have z37 := Tryz.sizeOf58; have v37 := Tryz.zeroValue58; have u37 := run_underlying Tryz.underlying58
  have t3 := Tryz.underlying3; have a3' := Tryz.isAgg3; have z3 := Tryz.sizeOf3; have v3 := Tryz.zeroValue3; have u3 := run_underlying Tryz.underlying3
  have t9 := Tryz.underlying9; have a9 := Tryz.isAgg9; have z9 := Tryz.sizeOf9; have v9 := Tryz.zeroValue9; have u9 := run_underlying Tryz.underlying9
  have t5 := Tryz.underlying5; have a5 := Tryz.isAgg5; have z5 := Tryz.sizeOf5; have v5 := Tryz.zeroValue5; have u5 := run_underlying Tryz.underlying5
  go_enter Tryz.func113, Tryz.ntmps113
  go_wp2_with (go_at_call 156; refine (ccG_any hm hb hvn hvo hpv).mono ?_)
  rintro e w1 ⟨rfl, rfl⟩
  go_wp2_with (at_builtin; refine wpList_app rfl (.tmp 12) (.tmp 13) 58 9 rfl (v1 := sv) (v2 := .string ⟨x.toArray⟩) rfl rfl hrun ?_)
  go_wp2
  go_ret2
  rw [setCell_row hb2]
  exact (show Mak w0 K w g s d (.tup [.int .i64 x.length, .junk]) (s'.set l (cs.set (o + 1) v)) (.tuple #[.int .i64 x.length, .nilIface]) (w2.setRow b (vs2.setIfInBounds (o + 1) (.slice ao n' cap))) from
    ⟨g2, .tup _ _ rfl (fun i c hc => by
      match i, hc with
      | 0, hc => simp at hc; subst hc; exact .int _ _
      | 1, hc => simp at hc; subst hc; exact .junk _), c1, a2.trans c2, c3⟩)
theorem wbyteG_ok (h : wbyteG lim (d + 1) ms s = some r) (hs : St w0 K w g s) (hu : s.Und (d + 1)) (ha : ArgsR w g s ms vs) : Does X.P 165 vs w fun u w' => Mak w0 K w g s d r.1 r.2 u w' := by
  obtain ⟨l, o, c, rfl, hc, h⟩ := wbyteG_inv h
  obtain ⟨v0, v1, rfl, h0, h1⟩ := args2 ha
  cases h1
  cases h0 with
  | ptr l o b hpi hty =>
  obtain ⟨T, n, vs, pv, sv, cs, tk, xs, v, s', hm, hb, hvn, hvo, hvs, hpv, hon, hld, hsh, hp, hx, hv, a1, a2, a3, happ, rfl⟩ := appG_pre h hs hu hpi hty
  have hcc : ((UInt8.ofNat c.toNat).toNat : Int) = c := by
    have : (UInt8.ofNat c.toNat).toNat = c.toNat := by simp; omega
    omega
  have hb1 : (w.setRow b (vs.setIfInBounds o (.pointer (some ⟨b, o, none⟩)))).heap[b]? = some (.cells (vs.setIfInBounds o (.pointer (some ⟨b, o, none⟩))) T (0, 0)) := setRow_heap w b _ _ _ _ hb
  let wa := (w.setRow b (vs.setIfInBounds o (.pointer (some ⟨b, o, none⟩)))).alloc (.cells #[.int .u8 c] 5)
  obtain ⟨b1, b2⟩ := st_far a1 (w' := wa) rfl rfl rfl (fun k hk => alloc_heap_old _ _ hk) (by simp [wa])
  have hsz : (w.setRow b (vs.setIfInBounds o (.pointer (some ⟨b, o, none⟩)))).heap.size = w.heap.size := by simp
  have hck : wa.cell? ⟨w.heap.size, 0, none⟩ = some (.int .u8 (UInt8.ofNat c.toNat).toNat) := by
    rw [← hsz, cell_of_cells (alloc_heap_new _ _), hcc]; rfl
  have a2b := a2.trans b2
  obtain ⟨ao, n', cap, w2, vs2, sv2, hrun, hb2, k1, k2, g2, c1, c2, c3⟩ := bldG_two b1 a3 hld hpi (a2b.sh _ _ hsh) (by simp [Sto.set]) hp hx (hv.ev a2b) (ap_slice wa _ _ hck) (bapp_set happ)
  rw [set2] at c1 c2 c3
  have c0 : (w.setRow b (vs.setIfInBounds o (.pointer (some ⟨b, o, none⟩)))).cell? ⟨b, o, none⟩ = some (.pointer (some ⟨b, o, none⟩)) := by rw [cell_of_cells hb1, Array.getElem?_setIfInBounds, if_pos rfl, if_pos (by omega)]
  have d0 : (w.setRow b (vs.setIfInBounds o (.pointer (some ⟨b, o, none⟩)))).cell? ⟨b, o + 1, none⟩ = some sv := by rw [cell_of_cells hb1, Array.getElem?_setIfInBounds, if_neg (by omega)]; exact hvs
  have e1 : w2.cell? ⟨b, o + 1, none⟩ = some sv2 := by rw [cell_of_cells hb2]; exact k2
  have f1 : w2.frozen? ⟨b, o + 1, none⟩ = false := by simp [World.frozen?, hb2]
  refine does_calls ent_502 ?_
  change Calls Tryz.prog 165 _ _ _
  have mixed : Tryz.prog.follows .mixedOrders = true := by kernel_rfl
  have t72 := Tryz.underlying85; have a72 := Tryz.isAgg85; have z72 := Tryz.sizeOf85; have v72 := Tryz.zeroValue85; have u72 := run_underlying Tryz.underlying85
  have t70 := Tryz.underlying83; have a70 := Tryz.isAgg83; have z70 := Tryz.sizeOf83; have v70 := Tryz.zeroValue83; have u70 := run_underlying Tryz.underlying83
  have t37 := Tryz.underlying58; have a37 := Tryz.isAgg58; have z37 := Tryz.sizeOf58; have v37 := Tryz.zeroValue58; have u37 := run_underlying Tryz.underlying58
  have t5 := Tryz.underlying5; have a5 := Tryz.isAgg5; have z5 := Tryz.sizeOf5; have v5 := Tryz.zeroValue5; have u5 := run_underlying Tryz.underlying5
  go_enter Tryz.func165, Tryz.ntmps165
  go_wp2_with (go_at_call 156; refine (ccG_any hm hb hvn hvo hpv).mono ?_)
  rintro e w1 ⟨rfl, rfl⟩
  go_wp2_with (at_builtin; refine wpList_app rfl (.tmp 11) (.tmp 13) 58 58 rfl (v1 := sv) (v2 := .slice (some ⟨w.heap.size, 0, none⟩) 1 1) rfl rfl hrun ?_)
  go_wp2
  go_ret
  rw [setCell_row hb2]
  exact (show Mak w0 K w g s d .junk (s'.set l (cs.set (o + 1) v)) .nilIface (w2.setRow b (vs2.setIfInBounds (o + 1) (.slice ao n' cap))) from ⟨g2, .junk _, c1, a2b.trans c2, c3⟩)
theorem bstrG_nil {b o : Nat} (hbk : w.cell? ⟨b, o + 1, none⟩ = some (.slice none 0 0)) :
    Calls Tryz.prog 32 #[.pointer (some ⟨b, o, none⟩)] w fun e w' => e = .returned (.string ⟨#[]⟩) ∧ w' = w.drew := by
  have hUS : ∀ (W : World) (q : Option Addr), (Builtin.unsafeString_ #[118, 3] 9 #[.pointer q, .int .i64 0]).run Tryz.prog W = .ok (.string .empty) W := fun W q => Lib.run_unsafeString_none W _ _ _ q
  have c1 : w.drew.cell? ⟨b, o + 1, none⟩ = some (.slice none 0 0) := hbk
  have hSD : (Builtin.unsafeSliceData_ #[58] 118 #[.slice none 0 0]).run Tryz.prog w.drew = .ok (.pointer none) w.drew := rfl
  have mixed : Tryz.prog.follows .mixedOrders = true := by kernel_rfl
  have t72 := Tryz.underlying85; have a72 := Tryz.isAgg85; have z72 := Tryz.sizeOf85; have v72 := Tryz.zeroValue85; have u72 := run_underlying Tryz.underlying85
  have t70 := Tryz.underlying83; have a70 := Tryz.isAgg83; have z70 := Tryz.sizeOf83; have v70 := Tryz.zeroValue83; have u70 := run_underlying Tryz.underlying83
  have t37 := Tryz.underlying58; have a37 := Tryz.isAgg58; have z37 := Tryz.sizeOf58; have v37 := Tryz.zeroValue58; have u37 := run_underlying Tryz.underlying58
  have t127 := Tryz.underlying118; have a127 := Tryz.isAgg118; have z127 := Tryz.sizeOf118; have v127 := Tryz.zeroValue118; have u127 := run_underlying Tryz.underlying118
  have t3 := Tryz.underlying3; have a3 := Tryz.isAgg3; have z3 := Tryz.sizeOf3; have v3 := Tryz.zeroValue3; have u3 := run_underlying Tryz.underlying3
  have t9 := Tryz.underlying9; have a9 := Tryz.isAgg9; have z9 := Tryz.sizeOf9; have v9 := Tryz.zeroValue9; have u9 := run_underlying Tryz.underlying9
  have t5 := Tryz.underlying5; have a5 := Tryz.isAgg5; have z5 := Tryz.sizeOf5; have v5 := Tryz.zeroValue5; have u5 := run_underlying Tryz.underlying5
  go_enter Tryz.func32, Tryz.ntmps32
  go_wp2
  go_region_o
  all_goals (go_wp2; go_ret; exact ⟨rfl, rfl⟩)
theorem bstrG_row {b o q cap : Nat} {bs : List UInt8} {cur : Array Value} (h0 : bs ≠ []) (hbk : w.cell? ⟨b, o + 1, none⟩ = some (.slice (some ⟨q, 0, none⟩) bs.length cap)) (hg : w.heap[q]? = some (.cells cur 5 (0, 0))) (hnc : bs.length ≤ cap) (hcm : bs.length ≤ 9223372036854775807) (hcs : bs.length ≤ cur.size)
    (hc : ∀ (j : Nat) (x : UInt8), bs[j]? = some x → cur[j]? = some (.int .u8 x.toNat)) :
    Calls Tryz.prog 32 #[.pointer (some ⟨b, o, none⟩)] w fun e w' => e = .returned (.string ⟨bs.toArray⟩) ∧ w' = w.drew.freeze ⟨q, 0, none⟩ bs.length := by
  have hl0 : bs.length ≠ 0 := by simpa using h0
  have c1 : w.drew.cell? ⟨b, o + 1, none⟩ = some (.slice (some ⟨q, 0, none⟩) bs.length cap) := hbk
  have hSD : (Builtin.unsafeSliceData_ #[58] 118 #[.slice (some ⟨q, 0, none⟩) bs.length cap]).run Tryz.prog w.drew = .ok (.pointer (some ⟨q, 0, none⟩)) w.drew :=
    Lib.run_unsafeSliceData_row _ _ _ _ _ _ (by omega)
  have hUS : (Builtin.unsafeString_ #[118, 3] 9 #[.pointer (some ⟨q, 0, none⟩), .int .i64 bs.length]).run Tryz.prog w.drew = .ok (.string ⟨bs.toArray⟩) (w.drew.freeze ⟨q, 0, none⟩ bs.length) := by
    refine Lib.run_unsafeString_row w.drew 118 3 9 5 Tryz.underlying118 cellsByte q cur.size (by have hg' : w.drew.heap[q]? = some (.cells cur 5 (0, 0)) := hg; simp [World.shape?, hg']) bs h0 hcs hcm ?_
    intro j x hx
    have hg' : w.drew.heap[q]? = some (.cells cur 5 (0, 0)) := hg
    rw [add_lit, Nat.zero_add, Lib.cell_of_heap hg']
    exact hc j x hx
  have mixed : Tryz.prog.follows .mixedOrders = true := by kernel_rfl
  have t72 := Tryz.underlying85; have a72 := Tryz.isAgg85; have z72 := Tryz.sizeOf85; have v72 := Tryz.zeroValue85; have u72 := run_underlying Tryz.underlying85
  have t70 := Tryz.underlying83; have a70 := Tryz.isAgg83; have z70 := Tryz.sizeOf83; have v70 := Tryz.zeroValue83; have u70 := run_underlying Tryz.underlying83
  have t37 := Tryz.underlying58; have a37 := Tryz.isAgg58; have z37 := Tryz.sizeOf58; have v37 := Tryz.zeroValue58; have u37 := run_underlying Tryz.underlying58
  have t127 := Tryz.underlying118; have a127 := Tryz.isAgg118; have z127 := Tryz.sizeOf118; have v127 := Tryz.zeroValue118; have u127 := run_underlying Tryz.underlying118
  have t3 := Tryz.underlying3; have a3 := Tryz.isAgg3; have z3 := Tryz.sizeOf3; have v3 := Tryz.zeroValue3; have u3 := run_underlying Tryz.underlying3
  have t9 := Tryz.underlying9; have a9 := Tryz.isAgg9; have z9 := Tryz.sizeOf9; have v9 := Tryz.zeroValue9; have u9 := run_underlying Tryz.underlying9
  have t5 := Tryz.underlying5; have a5 := Tryz.isAgg5; have z5 := Tryz.sizeOf5; have v5 := Tryz.zeroValue5; have u5 := run_underlying Tryz.underlying5
  go_enter Tryz.func32, Tryz.ntmps32
  go_wp2
  go_region_o
  all_goals (go_wp2; go_ret; exact ⟨rfl, rfl⟩)
theorem bstrG_inv (h : bstrG lim (d + 1) ms s = some r) : ∃ l o cs, ms = [.ptr l o] ∧ lim ≤ l.d ∧ l.d ≤ d ∧ s.ob l = some cs ∧ ((cs[o + 1]? = some (.sl .nil []) ∧ r = (.str [], s)) ∨
    ∃ k c xs bs, cs[o + 1]? = some (.sl (.byt k c 5) xs) ∧ bytesOf xs = some bs ∧ lim ≤ k ∧ k ≤ l.d ∧ bs ≠ [] ∧ okz 1 xs = true ∧ (inB xs = true ∧ xs.length ≤ 140737488355328) ∧ s.ow k c = some (xs.length, 1) ∧ r = (.str bs, (s.own k c none).set l (cs.set (o + 1) (.sl .no xs)))) := by
  unfold bstrG at h
  split at h
  · rename_i hd
    cases hd
    split at h
    · rename_i hc
      split at h
      · rename_i cs hob
        split at h
        · rename_i hx
          cases h
          exact ⟨_, _, cs, rfl, hc.1, hc.2, hob, .inl ⟨hx, rfl⟩⟩
        · rename_i k c e xs hx
          split at h
          · rename_i bs hbs
            split at h
            · rename_i hcc
              obtain ⟨hc1, hc2, rfl, hc4, hc5, hc6, hc7⟩ := hcc
              cases h
              exact ⟨_, _, cs, rfl, hc.1, hc.2, hob, .inr ⟨k, c, xs, bs, hx, hbs, hc1, hc2, hc4, hc5, hc6, hc7, rfl⟩⟩
            · cases h
          · cases h
        · cases h
      · cases h
    · cases h
  · cases h
theorem bstrG_ok (h : bstrG lim (d + 1) ms s = some r) (hs : St w0 K w g s) (hu : s.Und (d + 1)) (ha : ArgsR w g s ms vs) : Does X.P 32 vs w fun u w' => Mak w0 K w g s d r.1 r.2 u w' := by
  obtain ⟨l, o, cs, rfl, hl1, hl2, hob, h⟩ := bstrG_inv h
  obtain ⟨v0, rfl, h0⟩ := args1 ha
  cases h0 with
  | ptr l o b hpi hty =>
  obtain ⟨vsb, T, e1, e2, e3⟩ := hs.obj l _ b hob hpi
  rcases h with ⟨hx, rfl⟩ | ⟨k, c, xs, bs, hx, hbs, hc1, hc2, hc4, hc5, hc6, hc7, rfl⟩
  · have h1 := e3 (o + 1) _ hx
    have hlt : o + 1 < vsb.size := by have := (List.getElem?_eq_some_iff.1 hx).1; omega
    rw [Array.getElem?_eq_getElem hlt, Option.getD_some] at h1
    have hv : vsb[o + 1] = .slice none 0 0 := by
      generalize vsb[o + 1] = z at h1
      cases h1 with
      | sl t xs a cap b o z u hcap htok ha hz hF hp hv =>
        obtain ⟨rfl, rfl⟩ := htok
        rfl
    have hc1 : w.cell? ⟨b, o + 1, none⟩ = some (.slice none 0 0) := by rw [cell_of_cells e1, Array.getElem?_eq_getElem hlt, hv]
    refine does_calls ent_503 ?_
    refine (show Calls Tryz.prog 32 _ _ _ from bstrG_nil hc1).mono ?_
    rintro e w' ⟨rfl, rfl⟩
    obtain ⟨k1, k2⟩ := hs.same (w' := w.drew) rfl rfl rfl rfl
    exact (show Mak w0 K w g s d (.str []) s (.string ⟨#[]⟩) w.drew from ⟨g, .str [], k1, k2, hu⟩)
  · have h1 := e3 (o + 1) _ hx
    have hlt : o + 1 < vsb.size := by have := (List.getElem?_eq_some_iff.1 hx).1; omega
    obtain ⟨rvs, T2, t1, t2, t3, t4, t5, t6, t7, t8⟩ := hs.tok k c _ _ hc7
    rw [Array.getElem?_eq_getElem hlt, Option.getD_some] at h1
    have hcl1 : w.cell? ⟨b, o + 1, none⟩ = some vsb[o + 1] := by rw [cell_of_cells e1, Array.getElem?_eq_getElem hlt]
    have hera := h1.era
    have hvb : vsb[o + 1]? = some vsb[o + 1] := Array.getElem?_eq_getElem hlt
    have hself : vsb.setIfInBounds (o + 1) vsb[o + 1] = vsb := by
      apply Array.ext_getElem?
      intro i
      rw [Array.getElem?_setIfInBounds]
      split
      · rename_i e; subst e
        simp [hlt]
      · rfl
    generalize vsb[o + 1] = zv at h1 hcl1 hera hvb hself
    obtain ⟨l1, l2⟩ := bytesOf_eq _ _ hbs
    have hmax : xs.length ≤ 9223372036854775807 := by omega
    have hfit : xs.length ≤ rvs.size := by omega
    have key : ∃ cap, zv = .slice (some ⟨(g.τ k c).1, 0, none⟩) xs.length cap ∧ xs.length ≤ cap ∧ rvs.size = rvs.size ∧ T2 = 5 ∧ ∀ (j : Nat) (x : UInt8), bs[j]? = some x → rvs[j]? = some (.int .u8 x.toNat) := by
      cases h1 with
      | sl t xs a cap b' o z u hcap htok ha hz hF hp hv =>
      obtain ⟨_, t9⟩ := htok.2 _ _ hc7
      obtain ⟨rfl, rfl, kk, hsh⟩ := t9 rfl
      rw [shape_of_cells t1] at hsh
      simp only [Option.some.injEq, Prod.mk.injEq] at hsh
      have hne : xs ≠ [] := by
        intro e; subst e; simp at l1; exact hc4 (List.length_eq_zero_iff.1 l1.symm)
      have ea := ha hne
      rw [t8] at ea
      simp only [Option.some.injEq, Addr.mk.injEq] at ea
      obtain ⟨rfl, rfl, _⟩ := ea
      have hz1 : z = 1 := by
        cases xs with
        | nil => exact absurd rfl hne
        | cons y ys =>
          rw [← hz y (List.mem_cons_self ..)]
          have := List.all_eq_true.1 hc5 y (List.mem_cons_self ..)
          simpa using this
      subst hz1
      refine ⟨_, by rw [t8], hcap, rfl, hsh.1, fun j x hx => ?_⟩
      have hj : j < xs.length := by rw [l1]; exact (List.getElem?_eq_some_iff.1 hx).1
      have hxj : xs[j]? = some xs[j] := List.getElem?_eq_getElem hj
      obtain ⟨n, hn1, hn2⟩ := l2 j _ hxj
      rw [hx] at hn2
      cases hn2
      have hn3 := inB_at hc6.1 j n (by rw [hxj, hn1])
      have hcv := hv j _ hxj 0 (.int .u8 n) (by rw [hn1]; rfl)
      have hcc := (hF j 0 hj (Nat.lt_succ_self 0)).2
      rw [Nat.zero_add, Nat.mul_one, Nat.add_zero, cell_of_cells t1] at hcc
      rw [hcc]
      generalize u j 0 = uu at hcv
      cases hcv
      have : ((UInt8.ofNat n.toNat).toNat : Int) = n := by
        have : (UInt8.ofNat n.toNat).toNat = n.toNat := by simp; omega
        omega
      rw [this]
    obtain ⟨cap, rfl, hcap, _, rfl, hcur⟩ := key
    rw [l1] at hcl1
    refine does_calls ent_503 ?_
    refine (show Calls Tryz.prog 32 _ _ _ from bstrG_row hc4 hcl1 t1 (by omega) (by omega) (by omega) hcur).mono ?_
    rintro e w' ⟨rfl, rfl⟩
    obtain ⟨k1, k2⟩ := hs.same (w' := w.drew) rfl rfl rfl rfl
    obtain ⟨m1, m2⟩ := st_frz (n := bs.length) k1 hc7
    have e1' : (w.drew.freeze ⟨(g.τ k c).1, 0, none⟩ bs.length).heap[b]? = some (.cells vsb T (0, 0)) := by
      rw [freeze_other (fun e => t7 l (by rw [← e]; exact hpi))]; exact e1
    have hev := k2.trans m2
    obtain ⟨r1, r2, r3⟩ := bldG_put m1 (Und.grow hu hc7 none) hpi (show (s.own k c none).ob l = some cs from hob) e1' (by omega) (fun i cc hcc => (e3 i cc hcc).ev hev) (i := o + 1) (c := .sl .no xs) ⟨rfl, rfl⟩ (hera.ev hev)
    rw [hself, setRow_self _ _ _ _ _ e1'] at r1 r2
    exact (show Mak w0 K w g s d (.str bs) ((s.own k c none).set l (cs.set (o + 1) (.sl .no xs))) (.string ⟨bs.toArray⟩) (w.drew.freeze ⟨(g.τ k c).1, 0, none⟩ bs.length) from ⟨g, .str bs, r1, hev.trans r2, r3⟩)
end
end Go.Proofs.Tryz.E
