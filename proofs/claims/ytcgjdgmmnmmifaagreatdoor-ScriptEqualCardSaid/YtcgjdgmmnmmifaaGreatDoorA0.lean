/- Walks: what the functions compute. -/
import Derived.Test.YtcgjdgmmnmmifaaGreatDoorE1
import Derived.Deep.Slices
import Derived.OpenShut
import Derived.Carry
set_option linter.unusedVariables false
set_option linter.unusedSimpArgs false
/- What is read of an argument, as a value without memory; trees among them. -/
namespace Go.Proofs.Tryz.E
open Go.Mv
set_option maxHeartbeats 4000000
set_option maxRecDepth 20000
open Go.ChangeShapes Go.WideShapes Go.RowKit Go.Deep

/-- What has a type's form: the cells of what was read. -/
def Ty (P : Program) : Nat → TypeId → List MV → Prop
  | 0, _, _ => False
  | n + 1, t, ms => match P.underlying t with
    | some .bool => ∃ b, ms = [.bool b]
    | some (.int k) => ∃ x, ms = [.int k x] ∧ (Lit.int k x).wf = true
    | some .string => ∃ s : List UInt8, ms = [.str s] ∧ s.length ≤ maxLen
    | some (.slice e) => ∃ xs, ms = [.sl .no xs] ∧ ∀ x ∈ xs, Ty P n e x
    | some (.struct fs) => ∃ mss : List (List MV), mss.length = fs.size ∧ ms = mss.flatten ∧ ∀ (i : Nat) (f : Field) (m : List MV), fs[i]? = some f → mss[i]? = some m → Ty P n f.type m
    | some (.array k e) => ∃ mss : List (List MV), mss.length = k ∧ ms = mss.flatten ∧ ∀ m ∈ mss, Ty P n e m
    | _ => False

def cumB : Nat → List (Nat × Nat) → Option Nat
  | o, [] => some o
  | o, p :: l => if p.1 = o then cumB (o + p.2) l else none
/-- Types that lead to their like alone. -/
def okS (P : Program) (S : List TypeId) : Bool := S.all fun t => match P.underlying t with
  | some .bool | some (.int _) | some .string => true
  | some (.slice e) => S.contains e && decide (0 < P.cellsOf e)
  | some (.struct fs) => (fs.toList.all fun f => S.contains f.type) && cumB 0 (fs.toList.map fun f => (f.offset, P.cellsOf f.type)) == some (P.cellsOf t)
  | some (.array n e) => S.contains e && P.cellsOf t == n * P.cellsOf e
  | _ => false

theorem cat {R : MV → Value → Prop} (cs : List Value) : ∀ (l : List (Nat × Nat)) (mss : List (List MV)) (o e : Nat), cumB o l = some e → e ≤ cs.length → mss.length = l.length →
    (∀ (i : Nat) (p : Nat × Nat) (m : List MV), l[i]? = some p → mss[i]? = some m → m.length = ((cs.drop p.1).take p.2).length ∧ ∀ (j : Nat) (c : MV), m[j]? = some c → R c (((cs.drop p.1).take p.2)[j]?.getD Go.undef)) →
    o ≤ e ∧ o + mss.flatten.length = e ∧ ∀ (i : Nat) (c : MV), mss.flatten[i]? = some c → R c (cs[o + i]?.getD Go.undef)
  | [], [], o, e, h, _, _, _ => by
    simp only [cumB, Option.some.injEq] at h
    subst h
    exact ⟨Nat.le_refl _, by simp, fun i c hc => by simp at hc⟩
  | [], _ :: _, _, _, _, _, hl, _ => by simp at hl
  | _ :: _, [], _, _, _, _, hl, _ => by simp at hl
  | p :: l, m :: mss, o, e, h, he, hl, hm => by
    simp only [cumB] at h
    split at h
    · rename_i hp
      subst hp
      obtain ⟨h1, h2, h3⟩ := cat cs l mss _ e h he (by simpa using hl) fun i q m' hq hm' => hm (i + 1) q m' (by simpa using hq) (by simpa using hm')
      obtain ⟨k1, k2⟩ := hm 0 p m rfl rfl
      have hlen : m.length = p.2 := by
        rw [k1, List.length_take, List.length_drop]
        omega
      refine ⟨by omega, by rw [List.flatten_cons, List.length_append, hlen]; omega, fun i c hc => ?_⟩
      rw [List.flatten_cons] at hc
      rcases Nat.lt_or_ge i m.length with hi | hi
      · rw [List.getElem?_append_left hi] at hc
        have := k2 i c hc
        rw [List.getElem?_take, if_pos (by omega), List.getElem?_drop] at this
        exact this
      · rw [List.getElem?_append_right hi] at hc
        have := h3 _ c hc
        rw [hlen] at this
        rwa [show p.1 + p.2 + (i - p.2) = p.1 + i by omega] at this
    · cases h

theorem cum_range (z : Nat) : ∀ (n k : Nat), cumB (k * z) ((List.range' k n).map fun i => (i * z, z)) = some ((k + n) * z)
  | 0, k => by simp [cumB]
  | n + 1, k => by
    rw [List.range'_succ, List.map_cons, cumB, if_pos rfl]
    have := cum_range z n (k + 1)
    rw [show (k + 1) * z = k * z + z by rw [Nat.add_mul]; omega] at this
    rw [this]
    congr 2; omega

theorem cell_spot {w : World} {a : Addr} {v : Value} (h : w.cell? a = some v) : a.spot = none := by
  unfold World.cell? at h
  split at h
  · split at h
    · cases h
    · rename_i hs
      simpa using hs
  · cases h

theorem add_off (a : Addr) (n : Nat) : (a.add n).off = a.off + n := by
  unfold Addr.add; split
  · rename_i h; rw [h]; rfl
  · rfl
theorem add_block (a : Addr) (n : Nat) : (a.add n).block = a.block := by
  unfold Addr.add; split <;> rfl
/-- What is read of cells is, as a value without memory, what the cells are. -/
theorem vr_of_trod {H : Type} {tok : TypeId × Value → H} {P : Program} {S : List TypeId} (hS : okS P S = true) {W : World} {sp : Nat → Bool} {hd : Bool} : ∀ (n : Nat) (t : TypeId) (cs : List Value) (x : DataW H × List MemPlace), t ∈ S → DataW.trod tok P W 0 sp hd n t cs = some x →
    ∃ ms, Ty P n t ms ∧ ms.length = cs.length ∧ (∀ c ∈ ms, c.pur = true) ∧ ∀ (i : Nat) (c : MV), ms[i]? = some c → VR W (gOf W) s0 c (cs[i]?.getD Go.undef)
  | 0, t, cs, x, _, h => by cases h
  | n + 1, t, cs, x, ht, h => by
    have hk := List.all_eq_true.1 hS t ht
    have ih := vr_of_trod hS (n := n) (W := W) (sp := sp) (hd := hd) (tok := tok)
    simp only [Ty]
    split at hk
    · rename_i hu
      obtain ⟨b, rfl, _⟩ := DataW.trod_bool hu h
      refine ⟨[.bool b], ⟨b, rfl⟩, rfl, by simp [MV.pur], fun i c hc => ?_⟩
      cases i <;> simp at hc
      subst hc
      exact .bool b
    · rename_i k hu
      obtain ⟨b, rfl, _, hw⟩ := DataW.trod_int hu h
      refine ⟨[.int k b], ⟨b, rfl, hw⟩, rfl, by simp [MV.pur], fun i c hc => ?_⟩
      cases i <;> simp at hc
      subst hc
      exact .int k b
    · rename_i hu
      obtain ⟨s, rfl, _, hw⟩ := DataW.trod_string hu h
      refine ⟨[.str s.data.toList], ⟨_, rfl, by simpa using hw⟩, rfl, by simp [MV.pur], fun i c hc => ?_⟩
      cases i <;> simp at hc
      subst hc
      exact vr_str s
    · rename_i e hu
      simp only [Bool.and_eq_true, decide_eq_true_eq] at hk
      obtain ⟨hk1, hz⟩ := hk
      have he : e ∈ S := by simpa using hk1
      rcases DataW.trod_slice hu h with ⟨rfl, _⟩ | ⟨a, len, cap, elems, rest, m, hm, rfl, _, _, hlc, _, hlen, hel, _⟩
      · refine ⟨[.sl .no []], ⟨[], rfl, by simp⟩, rfl, by simp [MV.pur], fun i c hc => ?_⟩
        cases i <;> simp at hc
        subst hc
        exact .sl .no [] none 0 0 0 0 (fun _ _ => Go.undef) (Nat.le_refl _) trivial (fun h => absurd rfl h) (by simp) (by simp) (by simp) (by simp)
      · cases hm
        obtain ⟨f, hf⟩ := choose_lt (α := List MV × List Value) (n := len) (p := fun i y => W.cells? 0 (a.add (i * P.cellsOf e)) (P.cellsOf e) = some y.2 ∧ Ty P n e y.1 ∧ y.2.length = P.cellsOf e ∧ y.1.length = y.2.length ∧ (∀ c ∈ y.1, c.pur = true) ∧ ∀ (i : Nat) (c : MV), y.1[i]? = some c → VR W (gOf W) s0 c (y.2[i]?.getD Go.undef)) fun i hi => by
          have := hel i hi
          rw [List.getElem?_eq_getElem (by omega)] at this
          obtain ⟨cs', h1, h2⟩ := Option.bind_eq_some_iff.1 this
          obtain ⟨ms, k1, k3, k4, k5⟩ := ih e cs' _ he h2
          exact ⟨(ms, cs'), h1, k1, (World.cells?_some h1).2.1, k3, k4, k5⟩
        have hxs : ∀ (i : Nat) (x : List MV), ((List.range len).map fun i => (f i).1)[i]? = some x → i < len ∧ x = (f i).1 := fun i x hx => by
          rw [List.getElem?_map] at hx
          obtain ⟨j, hj, rfl⟩ := Option.map_eq_some_iff.1 hx
          obtain ⟨hi, e'⟩ := List.getElem?_eq_some_iff.1 hj
          simp at hi e'
          subst e'
          exact ⟨hi, rfl⟩
        have hmem : ∀ x ∈ (List.range len).map fun i => (f i).1, ∃ i, i < len ∧ x = (f i).1 := fun x hx => by
          obtain ⟨i, hi, rfl⟩ := List.mem_map.1 hx
          exact ⟨i, by simpa using hi, rfl⟩
        have hcell0 : ∀ i j, i < len → j < P.cellsOf e → W.cell? ((a.add (i * P.cellsOf e)).add j) = some ((f i).2[j]?.getD Go.undef) := fun i j hi hj => by
          obtain ⟨h1, _, h3, _⟩ := hf i hi
          rw [(World.cells?_some h1).2.2 j hj, List.getElem?_eq_getElem (by omega)]
          rfl
        have hcell : ∀ i j, i < len → j < P.cellsOf e → W.cell? ⟨a.block, a.off + i * P.cellsOf e + j, none⟩ = some ((f i).2[j]?.getD Go.undef) := fun i j hi hj => by
          have h := hcell0 i j hi hj
          have hs := cell_spot h
          rw [← h, ← hs, ← add_off, ← add_off, ← add_block a (i * P.cellsOf e), ← add_block (a.add (i * P.cellsOf e)) j]
        have hspot : 0 < len → a.spot = none := fun h0 => by
          have := cell_spot (hcell0 0 0 h0 hz)
          simpa [Addr.add] using this
        refine ⟨[.sl .no ((List.range len).map fun i => (f i).1)], ⟨_, rfl, fun x hx => by obtain ⟨i, hi, rfl⟩ := hmem x hx; exact (hf i hi).2.1⟩, rfl, by simp [MV.pur], fun i c hc => ?_⟩
        cases i <;> simp only [List.getElem?_cons_zero, List.getElem?_cons_succ, List.getElem?_nil, Option.some.injEq, reduceCtorEq] at hc
        subst hc
        have key := VR.sl (w := W) (g := gOf W) (s := s0) .no ((List.range len).map fun i => (f i).1) (some a) cap a.block a.off (P.cellsOf e) (fun i j => (f i).2[j]?.getD Go.undef) (by simpa using hlc) trivial
          (fun h => ?_) (fun x hx => ?_) (fun i j hi hj => ?_) (fun i x hx j c hc => ?_) (fun i x hx j c hc => ?_)
        · simpa using key
        · have h0 : 0 < len := by
            rcases Nat.eq_zero_or_pos len with rfl | h0
            · exact absurd rfl h
            · exact h0
          rw [← hspot h0]
        · obtain ⟨i, hi, rfl⟩ := hmem x hx
          rw [(hf i hi).2.2.2.1, (hf i hi).2.2.1]
        · have hi' : i < len := by simpa using hi
          have h1 := hcell i j hi' hj
          exact ⟨⟨_, h1⟩, h1⟩
        · obtain ⟨hi, rfl⟩ := hxs i x hx
          exact (hf i hi).2.2.2.2.1 c (List.mem_of_getElem? hc)
        · obtain ⟨hi, rfl⟩ := hxs i x hx
          exact (hf i hi).2.2.2.2.2 j c hc
    · rename_i fs hu
      simp only [Bool.and_eq_true, beq_iff_eq] at hk
      obtain ⟨hk1, hcum⟩ := hk
      obtain ⟨xs, m, hm, _, hl, hlen, hf⟩ := DataW.trod_struct hu h
      cases hm
      obtain ⟨g, hg⟩ := choose_lt (α := List MV) (n := fs.size) (p := fun i y => ∀ f, fs[i]? = some f → Ty P n f.type y ∧ y.length = ((cs.drop f.offset).take (P.cellsOf f.type)).length ∧ (∀ c ∈ y, c.pur = true) ∧ ∀ (j : Nat) (c : MV), y[j]? = some c → VR W (gOf W) s0 c (((cs.drop f.offset).take (P.cellsOf f.type))[j]?.getD Go.undef)) fun i hi => by
        have hfi : fs[i]? = some fs[i] := by simp [hi]
        have := hf i _ hfi
        rw [List.getElem?_eq_getElem (by omega)] at this
        have hm : fs[i].type ∈ S := by
          have := List.all_eq_true.1 hk1 fs[i] (by simp)
          simpa using this
        obtain ⟨ms, k1, k3, k4, k5⟩ := ih _ _ _ hm this
        exact ⟨ms, fun f hf' => by rw [hfi] at hf'; cases hf'; exact ⟨k1, k3, k4, k5⟩⟩
      have hget : ∀ (i : Nat) (m : List MV), ((List.range fs.size).map g)[i]? = some m → i < fs.size ∧ m = g i := fun i x hx => by
        rw [List.getElem?_map] at hx
        obtain ⟨j, hj, rfl⟩ := Option.map_eq_some_iff.1 hx
        obtain ⟨hi, e'⟩ := List.getElem?_eq_some_iff.1 hj
        simp at hi e'
        subst e'
        exact ⟨hi, rfl⟩
      obtain ⟨_, q2, q3⟩ := cat (R := VR W (gOf W) s0) cs (fs.toList.map fun f => (f.offset, P.cellsOf f.type)) ((List.range fs.size).map g) 0 _ hcum (by omega) (by simp) fun i p m hp hm => by
        obtain ⟨hi, rfl⟩ := hget i m hm
        rw [List.getElem?_map] at hp
        obtain ⟨f, hf', rfl⟩ := Option.map_eq_some_iff.1 hp
        have := hg i hi f (by simpa using hf')
        exact ⟨this.2.1, this.2.2.2⟩
      refine ⟨((List.range fs.size).map g).flatten, ⟨_, by simp, rfl, fun i f m hf' hm => ?_⟩, by omega, fun c hc => ?_, fun i c hc => by simpa using q3 i c hc⟩
      · obtain ⟨hi, rfl⟩ := hget i m hm
        exact (hg i hi f hf').1
      · obtain ⟨m, hm, hcm⟩ := List.mem_flatten.1 hc
        obtain ⟨i, hi, rfl⟩ := List.mem_map.1 hm
        have hi' : i < fs.size := by simpa using hi
        exact (hg i hi' fs[i] (by simp [hi'])).2.2.1 c hcm
    · rename_i k e hu
      simp only [Bool.and_eq_true, beq_iff_eq] at hk
      obtain ⟨hk1, hcum⟩ := hk
      have he : e ∈ S := by simpa using hk1
      obtain ⟨xs, m, hm, _, hl, hlen, hf⟩ := DataW.trod_array hu h
      cases hm
      obtain ⟨g, hg⟩ := choose_lt (α := List MV) (n := k) (p := fun i y => Ty P n e y ∧ y.length = ((cs.drop (i * P.cellsOf e)).take (P.cellsOf e)).length ∧ (∀ c ∈ y, c.pur = true) ∧ ∀ (j : Nat) (c : MV), y[j]? = some c → VR W (gOf W) s0 c (((cs.drop (i * P.cellsOf e)).take (P.cellsOf e))[j]?.getD Go.undef)) fun i hi => by
        have := hf i hi
        rw [List.getElem?_eq_getElem (by omega)] at this
        obtain ⟨ms, k1, k3, k4, k5⟩ := ih _ _ _ he this
        exact ⟨ms, k1, k3, k4, k5⟩
      have hget : ∀ (i : Nat) (m : List MV), ((List.range k).map g)[i]? = some m → i < k ∧ m = g i := fun i x hx => by
        rw [List.getElem?_map] at hx
        obtain ⟨j, hj, rfl⟩ := Option.map_eq_some_iff.1 hx
        obtain ⟨hi, e'⟩ := List.getElem?_eq_some_iff.1 hj
        simp at hi e'
        subst e'
        exact ⟨hi, rfl⟩
      have hc0 := cum_range (P.cellsOf e) k 0
      rw [Nat.zero_mul, Nat.zero_add, ← List.range_eq_range'] at hc0
      obtain ⟨_, q2, q3⟩ := cat (R := VR W (gOf W) s0) cs ((List.range k).map fun i => (i * P.cellsOf e, P.cellsOf e)) ((List.range k).map g) 0 _ hc0 (by omega) (by simp) fun i p m hp hm => by
        obtain ⟨hi, rfl⟩ := hget i m hm
        rw [List.getElem?_map] at hp
        obtain ⟨f, hf', rfl⟩ := Option.map_eq_some_iff.1 hp
        obtain ⟨hi', e'⟩ := List.getElem?_eq_some_iff.1 hf'
        simp at e'
        subst e'
        exact ⟨(hg i hi).2.1, (hg i hi).2.2.2⟩
      refine ⟨((List.range k).map g).flatten, ⟨_, by simp, rfl, fun m hm => ?_⟩, by omega, fun c hc => ?_, fun i c hc => by simpa using q3 i c hc⟩
      · obtain ⟨i, hi, rfl⟩ := List.mem_map.1 hm
        exact (hg i (by simpa using hi)).1
      · obtain ⟨m, hm, hcm⟩ := List.mem_flatten.1 hc
        obtain ⟨i, hi, rfl⟩ := List.mem_map.1 hm
        exact (hg i (by simpa using hi)).2.2.1 c hcm
    · cases hk
end Go.Proofs.Tryz.E
