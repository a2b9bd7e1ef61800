/- The evaluator without memory: a part of its proof. -/
import Derived.Test.YtclnccgiicgooaaGreatDoorMvD
import Derived.Lib.AppendStr
set_option linter.unusedVariables false
set_option linter.unusedSimpArgs false
/- Rows of bytes whose type is known: bytes are put behind them. -/
namespace Go.Mv
def bytesM (s : List UInt8) : List (List MV) := s.map fun b => [.int .u8 b.toNat]
def cellsB (s : List UInt8) : List Value := s.map fun b => Value.int .u8 b.toNat
theorem bytesM_len (s : List UInt8) : (bytesM s).length = s.length := by simp [bytesM]
theorem cellsB_len (s : List UInt8) : (cellsB s).length = s.length := by simp [cellsB]
/-- Bytes behind a row, at depth k. -/
def bapp (lim k q : Nat) (σ : Sto) (tk : Tok) (xs : List (List MV)) (s : List UInt8) : Option (MV × Sto) :=
  if s = [] then some (.sl tk xs, σ) else
  if okz 1 xs = true ∧ xs.length + s.length ≤ 140737488355328 then
    match tk with
    | .nil => if xs = [] then some (.sl (.byt k (σ.ct k) q) (bytesM s), (σ.own k (σ.ct k) (some (s.length, 1))).tick k) else none
    | .byt d' c q' => if lim ≤ d' ∧ q' = q ∧ σ.ow d' c = some (xs.length, 1) then some (.sl (.byt d' c q) (xs ++ bytesM s), σ.own d' c (some (xs.length + s.length, 1))) else none
    | _ => none
  else none

structure Ap (P : Program) (w : World) (e : TypeId) (f : Value → Sem Value) (s : List UInt8) : Prop where
  zero : s = [] → ∀ a n cap, n ≤ cap → (f (.slice a n cap)).run P w = .ok (.slice a n cap) w
  nil : s ≠ [] → s.length ≤ 140737488355328 → (f (.slice none 0 0)).run P w = .ok (.slice (some ⟨w.heap.size, 0, none⟩) s.length (grownCap w s.length 0 e))
    (w.drew.alloc (.cells ((cellsB s).toArray ++ Builtin.zeroCells (Value.int .u8 0).cells (grownCap w s.length 0 e - s.length)) e))
  room : ∀ (b n cap : Nat) (cur : Array Value), w.heap[b]? = some (.cells cur e (0, 0)) → n + s.length ≤ cap → n + s.length ≤ cur.size →
    (f (.slice (some ⟨b, 0, none⟩) n cap)).run P w = .ok (.slice (some ⟨b, 0, none⟩) (n + s.length) cap) (w.setRow b (cur.toList.take n ++ cellsB s ++ cur.toList.drop (n + s.length)).toArray)
  grow : ∀ (b n cap : Nat) (olds : List Value), olds.length = n → (∀ j v, olds[j]? = some v → w.cell? ⟨b, j, none⟩ = some v) → cap < n + s.length → n + s.length ≤ 140737488355328 →
    (f (.slice (some ⟨b, 0, none⟩) n cap)).run P w = .ok (.slice (some ⟨w.heap.size, 0, none⟩) (n + s.length) (grownCap w (n + s.length) cap e))
      (w.drew.alloc (.cells (olds.toArray ++ (cellsB s).toArray ++ Builtin.zeroCells (Value.int .u8 0).cells (grownCap w (n + s.length) cap e - (n + s.length))) e))

section
variable {P : Program} {w0 w : World} {K : Kp} {g : Gh} {s : Sto} {d : Nat}
theorem Und.fresh' {k : Nat} (hk : k ≤ d) (hu : s.Und (d + 1)) (M z : Nat) : ((s.own k (s.ct k) (some (M, z))).tick k).Und (d + 1) :=
  ⟨hu.ob, fun d' c hd => by simp only [Sto.tick, Sto.own]; rw [if_neg (by omega)]; exact hu.ow d' c hd, fun d' hd => by simp only [Sto.tick, Sto.own, upd]; rw [if_neg (by omega)]; exact hu.ct d' hd⟩
theorem byt_of_own {xs : List (List MV)} {a : Option Addr} {n cap k c q : Nat} (hsh : ∀ b o, a = some ⟨b, o, none⟩ → ∃ k, w.shape? b = some (q, k)) (h : VR w g s (.sl (.own k c) xs) (.slice a n cap)) : VR w g s (.sl (.byt k c q) xs) (.slice a n cap) := by
  cases h with
  | sl t xs a cap b o z u hcap htok ha hz hF hp hv =>
    refine .sl _ xs a cap b o z u hcap ⟨htok.1, fun m z' ho => ?_⟩ ha hz hF hp hv
    obtain ⟨h1, h2⟩ := htok.2 m z' ho
    refine ⟨h1, fun e => ?_⟩
    obtain ⟨h3, h4⟩ := h2 e
    exact ⟨h3, h4, hsh _ _ h3⟩
theorem bytesM_z (s : List UInt8) : ∀ x ∈ bytesM s, x.length = 1 := by
  intro x hx
  obtain ⟨b, _, rfl⟩ := List.mem_map.1 hx
  rfl
theorem bytesM_pur (s : List UInt8) : ∀ x ∈ bytesM s, ∀ c ∈ x, c.pur = true := by
  intro x hx c hc
  obtain ⟨b, _, rfl⟩ := List.mem_map.1 hx
  simp at hc
  subst hc
  rfl
theorem bytesM_flat (s : List UInt8) : (bytesM s).flatten = s.map fun b => MV.int .u8 b.toNat := by
  induction s with
  | nil => rfl
  | cons b s ih => simp only [bytesM, List.map_cons, List.flatten_cons] at ih ⊢; rw [ih]; rfl
theorem bytes_CL (w : World) (g : Gh) (s : Sto) (x : List UInt8) : CL w g s (bytesM x).flatten (cellsB x) := by
  rw [bytesM_flat]
  refine ⟨by simp [cellsB], fun i c hc => ?_⟩
  rw [List.getElem?_map] at hc
  obtain ⟨b, hb, rfl⟩ := Option.map_eq_some_iff.1 hc
  simp only [cellsB, List.getElem?_map, hb, Option.map_some, Option.getD_some]
  exact .int _ _

theorem bappSound (h : St w0 K w g s) (hu : s.Und (d + 1)) {k : Nat} (hk : k ≤ d) {q : TypeId} {f : Value → Sem Value} {x : List UInt8} (hf : Ap P w q f x) {tk : Tok} {xs : List (List MV)} {a : Value} (ha : VR w g s (.sl tk xs) a) {r : MV × Sto} {lim : Nat}
    (he : bapp lim k q s tk xs x = some r) : ∃ u w', (f a).run P w = .ok u w' ∧ Mak w0 K w g s d r.1 r.2 u w' := by
  cases ha with
  | sl t xs a cap b o z u hcap htok ha hz hF hp hv =>
  unfold bapp at he
  split at he
  · rename_i hx
    cases he
    refine ⟨_, _, hf.zero hx a xs.length cap hcap, g, .sl tk xs a cap b o z u hcap htok ha hz hF hp hv, h, .refl _ _ _, hu⟩
  · rename_i hx
    have hx0 : 0 < x.length := List.length_pos_iff.2 hx
    split at he
    · rename_i hc
      obtain ⟨hc0, hc4⟩ := hc
      have hz1 : ∀ y ∈ xs, y.length = 1 := fun y hy => by
        have := List.all_eq_true.1 hc0 y hy
        simpa using this
      split at he
      · split at he
        · rename_i hxs
          cases he
          subst hxs
          obtain ⟨rfl, rfl⟩ := htok
          simp only [List.length_nil, Nat.zero_add] at hc4
          have hrun := hf.nil hx hc4
          refine ⟨_, _, hrun, ?_⟩
          obtain ⟨hd1, hd2⟩ := h.same (w' := w.drew) rfl rfl rfl rfl
          have hge := grownCap_ge w x.length 0 q
          have hcl := bytes_CL w g s x
          obtain ⟨g', q1, q2, q3, q4⟩ := rowSound (d := d) hd1 (Und.fresh' hk hu x.length 1) (TokUp.fresh s k x.length 1) (cap := grownCap w x.length 0 q) ((cellsB x).toArray ++ Builtin.zeroCells (Value.int .u8 0).cells (grownCap w x.length 0 q - x.length)) q (Nat.lt_succ_self 0) hge
            (by simp only [Array.size_append, List.size_toArray, size_zeroCells, cellsB_len, show (Value.int IntKind.u8 0).cells.size = 1 from rfl]; omega) (bytesM_len x) (bytesM_z x) (bytesM_pur x) (fun i c hi => by
              have hil : i < (cellsB x).length := by rw [← hcl.1]; exact (List.getElem?_eq_some_iff.1 hi).1
              have := (hcl.2 i c hi).ev hd2
              rw [Array.getElem?_append_left (by simpa using hil)]
              simpa using this)
          exact ⟨g', byt_of_own (fun b o e => by cases e; exact ⟨_, shape_of_cells (alloc_heap_new w.drew _)⟩) q1, q2, hd2.trans q3, q4⟩
        · cases he
      · rename_i d' c q'
        split at he
        · rename_i hcc
          obtain ⟨_, rfl, ho⟩ := hcc
          cases he
          obtain ⟨t1, t2⟩ := htok
          obtain ⟨_, t3⟩ := t2 _ _ ho
          obtain ⟨rfl, rfl, nsh, hsh⟩ := t3 rfl
          obtain ⟨vs, T, k1, k2, k3, k4, k5, k6, k7, k8⟩ := h.tok d' c _ _ ho
          rw [shape_of_cells k1] at hsh
          cases hsh
          have hup : TokUp s (s.own d' c (some (xs.length + x.length, 1))) d' c (xs.length + x.length) 1 := TokUp.grow t1 ho (by omega)
          have hu' := Und.grow hu ho (some (xs.length + x.length, 1))
          have hxs : ∃ olds : List Value, olds.length = xs.length ∧ (∀ j v, olds[j]? = some v → g.F (g.τ d' c).1 j ∧ w.cell? ⟨(g.τ d' c).1, j, none⟩ = some v) ∧ CL w g s xs.flatten olds ∧ (∀ y ∈ xs, ∀ c ∈ y, c.pur = true) := by
            by_cases hx0 : xs = []
            · subst hx0
              exact ⟨[], by simp, by simp, .nil, by simp⟩
            · have e1 := ha hx0
              rw [k8] at e1
              simp only [Option.some.injEq, Addr.mk.injEq] at e1
              obtain ⟨e1, e2, _⟩ := e1
              subst e1
              have e2' : o = 0 := e2.symm
              subst e2'
              have hzz : z = 1 := by
                cases xs with
                | nil => exact absurd rfl hx0
                | cons y ys => rw [← hz y (List.mem_cons_self ..)]; exact hz1 y (List.mem_cons_self ..)
              subst hzz
              obtain ⟨olds, o1, o2, _, o4⟩ := slice_cells (s := s) hz hF hp hv
              exact ⟨olds, by simpa using o1, fun j v hj => by simpa using o2 j v hj, o4, fun y hy c hcx => by
                obtain ⟨i, hi⟩ := List.mem_iff_getElem?.1 hy
                obtain ⟨j, hj⟩ := List.mem_iff_getElem?.1 hcx
                exact hp i y hi j c hj⟩
          obtain ⟨olds, o1, o2, o4, o6⟩ := hxs
          have hxz : ∀ y ∈ xs ++ bytesM x, y.length = 1 := fun y hy => (List.mem_append.1 hy).elim (hz1 y) (bytesM_z x y)
          have hxp : ∀ y ∈ xs ++ bytesM x, ∀ c ∈ y, c.pur = true := fun y hy => (List.mem_append.1 hy).elim (o6 y) (bytesM_pur x y)
          have hcl : CL w g s (xs ++ bytesM x).flatten (olds ++ cellsB x) := by rw [List.flatten_append]; exact o4.append (bytes_CL w g s x)
          have hon : (olds ++ cellsB x).length = xs.length + x.length := by rw [List.length_append, o1, cellsB_len]
          have hlen : (xs ++ bytesM x).length = xs.length + x.length := by rw [List.length_append, bytesM_len]
          have hval : Value.slice (some ⟨(g.τ d' c).1, (g.τ d' c).2.1, none⟩) xs.length (g.τ d' c).2.2 = .slice (some ⟨(g.τ d' c).1, 0, none⟩) xs.length (g.τ d' c).2.2 := by rw [k8]
          rw [hval]
          by_cases hroom : xs.length + x.length ≤ (g.τ d' c).2.2
          · have hfit : xs.length + x.length ≤ vs.size := by omega
            have hrun := hf.room (g.τ d' c).1 xs.length (g.τ d' c).2.2 vs k1 hroom hfit
            have hvz : ((vs.toList.take xs.length ++ cellsB x ++ vs.toList.drop (xs.length + x.length)).toArray).size = vs.size := by
              simp [cellsB_len]
              omega
            have hvs : ∀ i, i < xs.length → ((vs.toList.take xs.length ++ cellsB x ++ vs.toList.drop (xs.length + x.length)).toArray)[i]? = vs[i]? := fun i hi => by
              simp only [List.getElem?_toArray]
              rw [List.append_assoc, List.getElem?_append_left (by simp; omega), List.getElem?_take, if_pos hi]
              simp
            have hvn : ∀ i v, (olds ++ cellsB x)[i]? = some v → ((vs.toList.take xs.length ++ cellsB x ++ vs.toList.drop (xs.length + x.length)).toArray)[i]? = some v := fun i v hi => by
              by_cases hi1 : i < xs.length
              · rw [hvs i hi1]
                rw [List.getElem?_append_left (by rw [o1]; exact hi1)] at hi
                have := (o2 i v hi).2
                rw [cell_of_cells k1] at this
                exact this
              · rw [List.getElem?_append_right (by rw [o1]; omega), o1] at hi
                have hin : i - xs.length < (cellsB x).length := (List.getElem?_eq_some_iff.1 hi).1
                simp only [List.getElem?_toArray]
                have e1 : (vs.toList.take xs.length).length = xs.length := by simp; omega
                rw [List.getElem?_append_left (by rw [List.length_append, e1]; omega), List.getElem?_append_right (by rw [e1]; omega), e1]
                exact hi
            obtain ⟨x1, x2⟩ := h.ext hup ho (Nat.le_add_right _ _) hroom k1 hvz (fun i hi => hvs i (by rw [k8] at hi; omega))
            refine ⟨_, _, hrun, _, ?_, x1, x2, hu'⟩
            suffices hs : VR _ _ (s.own d' c (some (xs.length + x.length, 1))) (.sl (.byt d' c q') (xs ++ bytesM x)) (.slice (some ⟨(g.τ d' c).1, 0, none⟩) (xs ++ bytesM x).length (g.τ d' c).2.2) by rw [hlen] at hs; exact hs
            refine .sl (.byt d' c q') (xs ++ bytesM x) _ _ (g.τ d' c).1 0 1 (fun i j => ((olds ++ cellsB x)[i * 1 + j]?).getD undef) (by rw [hlen]; exact hroom) ⟨hup.lt, fun m zz hmz => ?_⟩ (fun _ => rfl) hxz (fun i j hi hj => ?_) (fun i y hix j c hjc => hxp y (List.mem_of_getElem? hix) c (List.mem_of_getElem? hjc)) (fun i y hix j c hjc => ?_)
            · rw [hup.ow, if_pos ⟨rfl, rfl⟩] at hmz
              cases hmz
              exact ⟨by rw [hlen]; exact Nat.le_refl _, fun _ => ⟨by simp [k8], rfl, _, shape_of_cells (setRow_heap w _ vs _ q' (0, 0) k1)⟩⟩
            · have hlt : i * 1 + j < xs.length + x.length := by omega
              have hget : (olds ++ cellsB x)[i * 1 + j]? = some ((olds ++ cellsB x)[i * 1 + j]'(by rw [hon]; exact hlt)) := List.getElem?_eq_getElem _
              constructor
              · by_cases hi1 : i * 1 + j < xs.length
                · left
                  have hg : olds[i * 1 + j]? = some (olds[i * 1 + j]'(by rw [o1]; exact hi1)) := List.getElem?_eq_getElem _
                  have := (o2 _ _ hg).1
                  rw [Nat.zero_add]
                  exact this
                · right
                  refine ⟨rfl, ?_, ?_⟩
                  · rw [k8]; omega
                  · rw [k8]; omega
              · rw [cell_of_cells (setRow_heap w _ vs _ q' (0, 0) k1), Nat.zero_add, hget]
                exact hvn _ _ hget
            · have hj : j < 1 := by rw [← hxz y (List.mem_of_getElem? hix)]; exact (List.getElem?_eq_some_iff.1 hjc).1
              exact (hcl.2 (i * 1 + j) c (by rw [row_elem _ hxz i j y hix hj]; exact hjc)).ev x2
          · have hrun := hf.grow (g.τ d' c).1 xs.length (g.τ d' c).2.2 olds o1 (fun j v hj => (o2 j v hj).2) (by omega) hc4
            refine ⟨_, _, hrun, ?_⟩
            obtain ⟨hd1, hd2⟩ := h.same (w' := w.drew) rfl rfl rfl rfl
            have hge := grownCap_ge w (xs.length + x.length) (g.τ d' c).2.2 q'
            obtain ⟨g', q1, q2, q3, q4⟩ := rowSound (d := d) hd1 hu' hup (cap := grownCap w (xs.length + x.length) (g.τ d' c).2.2 q') (olds.toArray ++ (cellsB x).toArray ++ Builtin.zeroCells (Value.int .u8 0).cells (grownCap w (xs.length + x.length) (g.τ d' c).2.2 q' - (xs.length + x.length))) q' (Nat.lt_succ_self 0) hge
              (by
                simp only [Array.size_append, List.size_toArray, size_zeroCells, cellsB_len, o1, show (Value.int IntKind.u8 0).cells.size = 1 from rfl]
                omega) hlen hxz hxp (fun i c hi => by
                have hil : i < (olds ++ cellsB x).length := by rw [← hcl.1]; exact (List.getElem?_eq_some_iff.1 hi).1
                have := (hcl.2 i c hi).ev hd2
                rw [Array.getElem?_append_left (by simpa using hil)]
                simpa using this)
            exact ⟨g', byt_of_own (fun b o e => by cases e; exact ⟨_, shape_of_cells (alloc_heap_new w.drew _)⟩) q1, q2, hd2.trans q3, q4⟩
        · cases he
      · cases he
    · cases he
end
end Go.Mv
