/- Walks: what the functions compute. -/
import Derived.Test.YtcgjdgmmnmmifaaGreatDoorA0
set_option linter.unusedVariables false
set_option linter.unusedSimpArgs false
/- Addresses that are arguments: as values without memory. -/
namespace Go.Proofs.Tryz.E
open Go.Mv
set_option maxHeartbeats 4000000
set_option maxRecDepth 20000
open Go.ChangeShapes Go.WideShapes Go.RowKit Go.Deep
def tys (P : Program) (t : TypeId) : Option (List TypeId) := match P.underlying t with
  | some (.struct fs) => some (fs.toList.map (·.type))
  | _ => none
theorem ty_int {P : Program} {n : Nat} {t : TypeId} {ms : List MV} {k : IntKind} (hu : P.underlying t = some (.int k)) (h : Ty P n t ms) : ∃ x, ms = [.int k x] ∧ (Lit.int k x).wf = true := by
  cases n with
  | zero => exact h.elim
  | succ n => simp only [Ty, hu] at h; exact h
theorem ty_bool {P : Program} {n : Nat} {t : TypeId} {ms : List MV} (hu : P.underlying t = some .bool) (h : Ty P n t ms) : ∃ x, ms = [.bool x] := by
  cases n with
  | zero => exact h.elim
  | succ n => simp only [Ty, hu] at h; exact h
theorem ty_str {P : Program} {n : Nat} {t : TypeId} {ms : List MV} (hu : P.underlying t = some .string) (h : Ty P n t ms) : ∃ s : List UInt8, ms = [.str s] ∧ s.length ≤ maxLen := by
  cases n with
  | zero => exact h.elim
  | succ n => simp only [Ty, hu] at h; exact h
theorem ty_slice {P : Program} {n : Nat} {t e : TypeId} {ms : List MV} (hu : P.underlying t = some (.slice e)) (h : Ty P n t ms) : ∃ (m : Nat) (xs : List (List MV)), n = m + 1 ∧ ms = [.sl .no xs] ∧ ∀ x ∈ xs, Ty P m e x := by
  cases n with
  | zero => exact h.elim
  | succ n => simp only [Ty, hu] at h; obtain ⟨xs, h1, h2⟩ := h; exact ⟨n, xs, rfl, h1, h2⟩
theorem ty_array {P : Program} {n k : Nat} {t e : TypeId} {ms : List MV} (hu : P.underlying t = some (.array k e)) (h : Ty P n t ms) : ∃ (m : Nat) (xs : List (List MV)), n = m + 1 ∧ xs.length = k ∧ ms = xs.flatten ∧ ∀ x ∈ xs, Ty P m e x := by
  cases n with
  | zero => exact h.elim
  | succ n => simp only [Ty, hu] at h; obtain ⟨xs, h1, h2, h3⟩ := h; exact ⟨n, xs, rfl, h1, h2, h3⟩
theorem ty_struct {P : Program} {n : Nat} {t : TypeId} {ms : List MV} {l : List TypeId} (hu : tys P t = some l) (h : Ty P n t ms) : ∃ (m : Nat) (xs : List (List MV)), n = m + 1 ∧ xs.length = l.length ∧ ms = xs.flatten ∧ ∀ (i : Nat) (u : TypeId) (x : List MV), l[i]? = some u → xs[i]? = some x → Ty P m u x := by
  cases n with
  | zero => exact h.elim
  | succ n =>
    unfold tys at hu
    simp only [Ty] at h
    split at hu
    · rename_i fs hf
      cases hu
      rw [hf] at h
      obtain ⟨xs, h1, h2, h3⟩ := h
      refine ⟨n, xs, rfl, by simp [h1], h2, fun i u x hu hx => ?_⟩
      rw [List.getElem?_map] at hu
      obtain ⟨f, hf', rfl⟩ := Option.map_eq_some_iff.1 hu
      exact h3 i f x (by simpa using hf') hx
    · cases hu
theorem und_node : tys X.P 63 = some [3, 5, 60, 3, 3, 3, 61] := by kernel_rfl
theorem und_adr : tys X.P 65 = some [3, 3, 63] := by kernel_rfl
theorem und_rng : tys X.P 67 = some [65, 65, 4] := by kernel_rfl
theorem und_set4 : X.P.underlying 60 = some (.array 4 31) := by kernel_rfl
theorem und_kids : X.P.underlying 61 = some (.slice 63) := by kernel_rfl
theorem und_i : X.P.underlying 3 = some (.int .i64) := by kernel_rfl
theorem und_b8 : X.P.underlying 5 = some (.int .u8) := by kernel_rfl
theorem und_u64 : X.P.underlying 31 = some (.int .u64) := by kernel_rfl
theorem und_b : X.P.underlying 4 = some .bool := by kernel_rfl
theorem lst3 {α : Type} {l : List α} (h : l.length = 3) : ∃ a b c, l = [a, b, c] := by
  match l, h with
  | [a, b, c], _ => exact ⟨a, b, c, rfl⟩
theorem lst4 {α : Type} {l : List α} (h : l.length = 4) : ∃ a b c d, l = [a, b, c, d] := by
  match l, h with
  | [a, b, c, d], _ => exact ⟨a, b, c, d, rfl⟩
theorem lst7 {α : Type} {l : List α} (h : l.length = 7) : ∃ a b c d e f g, l = [a, b, c, d, e, f, g] := by
  match l, h with
  | [a, b, c, d, e, f, g], _ => exact ⟨a, b, c, d, e, f, g, rfl⟩
theorem encs_of : ∀ (xs : List (List MV)), (∀ x ∈ xs, ∃ y : Nd, x = enc y) → ∃ l, xs = encs l
  | [], _ => ⟨[], rfl⟩
  | x :: xs, h => by
    obtain ⟨y, rfl⟩ := h x (List.mem_cons_self ..)
    obtain ⟨l, rfl⟩ := encs_of xs fun z hz => h z (List.mem_cons_of_mem _ hz)
    exact ⟨y :: l, rfl⟩
theorem ty_node : ∀ (n : Nat) (ms : List MV), Ty X.P n 63 ms → ∃ x : Nd, ms = enc x := by
  intro n
  induction n using Nat.strongRecOn with
  | _ n ih =>
    intro ms h
    obtain ⟨m, xs, rfl, hl, rfl, hx⟩ := ty_struct und_node h
    obtain ⟨a, b, c, d, e, f, g, rfl⟩ := lst7 hl
    obtain ⟨kd, rfl, _⟩ := ty_int und_i (hx 0 _ _ rfl rfl)
    obtain ⟨ch, rfl, _⟩ := ty_int und_b8 (hx 1 _ _ rfl rfl)
    obtain ⟨m2, zs, rfl, hz, rfl, hz2⟩ := ty_array und_set4 (hx 2 _ _ rfl rfl)
    obtain ⟨z0, z1, z2, z3, rfl⟩ := lst4 hz
    obtain ⟨s0, rfl, _⟩ := ty_int und_u64 (hz2 z0 (by simp))
    obtain ⟨s1, rfl, _⟩ := ty_int und_u64 (hz2 z1 (by simp))
    obtain ⟨s2, rfl, _⟩ := ty_int und_u64 (hz2 z2 (by simp))
    obtain ⟨s3, rfl, _⟩ := ty_int und_u64 (hz2 z3 (by simp))
    obtain ⟨nn, rfl, _⟩ := ty_int und_i (hx 3 _ _ rfl rfl)
    obtain ⟨mn, rfl, _⟩ := ty_int und_i (hx 4 _ _ rfl rfl)
    obtain ⟨mx, rfl, _⟩ := ty_int und_i (hx 5 _ _ rfl rfl)
    obtain ⟨m3, ws, hm3, rfl, hw⟩ := ty_slice und_kids (hx 6 _ _ rfl rfl)
    obtain ⟨l, rfl⟩ := encs_of ws fun w hw' => ih m3 (by omega) w (hw w hw')
    exact ⟨.mk kd ch s0 s1 s2 s3 nn mn mx l, rfl⟩
/-- An address's cells; those of two, with a sign. -/
def encA (k n : Int) (x : Nd) : List MV := .int .i64 k :: .int .i64 n :: enc x
def encG (k n : Int) (x : Nd) (k2 n2 : Int) (y : Nd) (b : Bool) : List MV := encA k n x ++ encA k2 n2 y ++ [.bool b]
theorem ty_adr {n : Nat} {ms : List MV} (h : Ty X.P n 65 ms) : ∃ k m x, ms = encA k m x := by
  obtain ⟨m, xs, rfl, hl, rfl, hx⟩ := ty_struct und_adr h
  obtain ⟨a, b, c, rfl⟩ := lst3 hl
  obtain ⟨k, rfl, _⟩ := ty_int und_i (hx 0 _ _ rfl rfl)
  obtain ⟨v, rfl, _⟩ := ty_int und_i (hx 1 _ _ rfl rfl)
  obtain ⟨x, rfl⟩ := ty_node _ _ (hx 2 _ _ rfl rfl)
  exact ⟨k, v, x, by simp [encA]⟩
theorem ty_rng {n : Nat} {ms : List MV} (h : Ty X.P n 67 ms) : ∃ k m x k2 m2 y b, ms = encG k m x k2 m2 y b := by
  obtain ⟨m, xs, rfl, hl, rfl, hx⟩ := ty_struct und_rng h
  obtain ⟨a, b, c, rfl⟩ := lst3 hl
  obtain ⟨k, v, x, rfl⟩ := ty_adr (hx 0 _ _ rfl rfl)
  obtain ⟨k2, v2, y, rfl⟩ := ty_adr (hx 1 _ _ rfl rfl)
  obtain ⟨c, rfl⟩ := ty_bool und_b (hx 2 _ _ rfl rfl)
  exact ⟨k, v, x, k2, v2, y, c, by simp [encG]⟩
theorem okS_rng : okS X.P [67, 65, 63, 61, 60, 31, 3, 4, 5] = true := by kernel_rfl
theorem vr_agg {W : World} {g : Gh} {s : Sto} {ms : List MV} {v : Value} (hv : ∃ cs, v = .agg cs) (hl : ms.length = v.cells.toList.length) (hp : ∀ c ∈ ms, c.pur = true) (h : ∀ (i : Nat) (c : MV), ms[i]? = some c → VR W g s c (v.cells.toList[i]?.getD Go.undef)) : VR W g s (.agg ms) v := by
  obtain ⟨cs, rfl⟩ := hv
  simp only [Value.cells] at hl h
  exact .agg ms cs (by simpa using hl) (fun c hc => flat_of_pur (hp c hc)) fun i c hc => by simpa using h i c hc
theorem arg_rng {H : Type} {tok : TypeId × Value → H} {W : World} {r : Reach} {b0 : Nat} {v : Value} {d : DataW H} {ps : List MemPlace} (hval : Value.okWide X.P W r b0 67 v) (h : DataW.Trod tok X.P W 0 (fun _ => true) true 67 v d ps) :
    ∃ k m x k2 m2 y b, VR W (gOf W) s0 (.agg (encG k m x k2 m2 y b)) v := by
  obtain ⟨n, hn⟩ := h
  obtain ⟨ms, h1, h2, h3, h4⟩ := vr_of_trod okS_rng n _ _ _ (by simp) hn
  obtain ⟨k, m, x, k2, m2, y, b, rfl⟩ := ty_rng h1
  refine ⟨k, m, x, k2, m2, y, b, vr_agg ?_ h2 h3 h4⟩
  have hu := und_rng
  unfold tys at hu
  split at hu
  · rename_i fs hf
    simp only [Value.okWide, hf] at hval
    obtain ⟨cs, hcs, _⟩ := hval
    exact ⟨cs, hcs⟩
  · cases hu
end Go.Proofs.Tryz.E
