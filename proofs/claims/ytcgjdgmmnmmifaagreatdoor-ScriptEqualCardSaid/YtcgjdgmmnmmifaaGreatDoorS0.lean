/- Walks: what the functions compute. -/
import Derived.Test.YtcgjdgmmnmmifaaGreatDoorT2
set_option linter.unusedVariables false
set_option linter.unusedSimpArgs false
/- Scripts that are arguments: as values without memory. -/
namespace Go.Proofs.Tryz.E
open Go.Mv
set_option maxHeartbeats 4000000
set_option maxRecDepth 20000
open Go.ChangeShapes Go.WideShapes Go.RowKit Go.Deep
/-- An item. -/
structure It where
  c : Cm
  cl : Bool
  to : Int
def encI (x : It) : List MV := encM x.c ++ [.bool x.cl, .int .i64 x.to]
def encIs (l : List It) : List (List MV) := l.map encI
def encSc (q : Bool) (l : List It) : List MV := [.bool q, .sl .no (encIs l)]
theorem encI_len (x : It) : (encI x).length = 50 := by simp [encI, encM_len]
theorem encI_take (x : It) : (encI x).take 48 = encM x.c := by
  rw [encI, List.take_append_of_le_length (by rw [encM_len]; exact Nat.le_refl _), encM_take]
theorem encI_48 (x : It) : (encI x)[48]? = some (.bool x.cl) := by
  rw [encI, List.getElem?_append_right (by rw [encM_len]; exact Nat.le_refl _), encM_len]; rfl
theorem encI_49 (x : It) : (encI x)[49]? = some (.int .i64 x.to) := by
  rw [encI, List.getElem?_append_right (by rw [encM_len]; decide), encM_len]; rfl
theorem encI_data (x : It) : (encI x).all MV.data = true := by simp [encI, encM_data, MV.data]
theorem encI_era (x : It) : (encI x).map MV.era = encI x := by simp [encI, encM_era, MV.era]
theorem encI_datas (x : It) : datas (encI x) = some (encI x) := by unfold datas; rw [if_pos (encI_data x), encI_era]
theorem encI_take50 (x : It) : (encI x).take 50 = encI x := by rw [← encI_len x, List.take_length]
theorem encIs_len (l : List It) : (encIs l).length = l.length := by simp [encIs]
theorem encIs_okz (l : List It) : okz 50 (encIs l) = true := by
  simp only [okz, encIs, List.all_map, List.all_eq_true]
  intro x _
  simp [encI_len]
theorem encIs_at {l : List It} {i : Nat} (h : i < l.length) : (encIs l)[i]? = some (encI l[i]) := by
  rw [encIs, List.getElem?_map, List.getElem?_eq_getElem h]; rfl
theorem encIs_app (l l' : List It) : encIs (l ++ l') = encIs l ++ encIs l' := by simp [encIs]
theorem und_item : tys X.P 72 = some [70, 4, 3] := by kernel_rfl
theorem und_items : X.P.underlying 48 = some (.slice 72) := by kernel_rfl
theorem und_scr : tys X.P 50 = some [4, 48] := by kernel_rfl
theorem ty_item {n : Nat} {ms : List MV} (h : Ty X.P n 72 ms) : ∃ x : It, ms = encI x := by
  obtain ⟨m, xs, rfl, hl, rfl, hx⟩ := ty_struct und_item h
  obtain ⟨a, b, c, rfl⟩ := lst3 hl
  obtain ⟨c, rfl⟩ := ty_cmd (hx 0 _ _ rfl rfl)
  obtain ⟨cl, rfl⟩ := ty_bool und_b (hx 1 _ _ rfl rfl)
  obtain ⟨to, rfl, _⟩ := ty_int und_i (hx 2 _ _ rfl rfl)
  exact ⟨⟨c, cl, to⟩, by simp [encI]⟩
theorem encIs_of : ∀ (xs : List (List MV)), (∀ x ∈ xs, ∃ p : It, x = encI p) → ∃ l, xs = encIs l
  | [], _ => ⟨[], rfl⟩
  | x :: xs, h => by
    obtain ⟨y, rfl⟩ := h x (List.mem_cons_self ..)
    obtain ⟨l, rfl⟩ := encIs_of xs fun z hz => h z (List.mem_cons_of_mem _ hz)
    exact ⟨y :: l, rfl⟩
theorem ty_scr {n : Nat} {ms : List MV} (h : Ty X.P n 50 ms) : ∃ (q : Bool) (l : List It), ms = encSc q l := by
  obtain ⟨m, xs, rfl, hl, rfl, hx⟩ := ty_struct und_scr h
  obtain ⟨a, b, rfl⟩ := lst2 hl
  obtain ⟨q, rfl⟩ := ty_bool und_b (hx 0 _ _ rfl rfl)
  obtain ⟨m3, ws, _, rfl, hw⟩ := ty_slice und_items (hx 1 _ _ rfl rfl)
  obtain ⟨l, rfl⟩ := encIs_of ws fun w hw' => ty_item (hw w hw')
  exact ⟨q, l, rfl⟩
theorem okS_scr : okS X.P [50, 48, 72, 70, 93, 68, 67, 65, 63, 61, 60, 31, 3, 4, 5, 9] = true := by kernel_rfl
theorem arg_scr {H : Type} {tok : TypeId × Value → H} {W : World} {r : Reach} {b0 : Nat} {v : Value} {d : DataW H} {ps : List MemPlace} (hval : Value.okWide X.P W r b0 50 v) (h : DataW.Trod tok X.P W 0 (fun _ => true) true 50 v d ps) :
    ∃ (q : Bool) (l : List It), VR W (gOf W) s0 (.agg (encSc q l)) v := by
  obtain ⟨n, hn⟩ := h
  obtain ⟨ms, h1, h2, h3, h4⟩ := vr_of_trod okS_scr n _ _ _ (by simp) hn
  obtain ⟨q, l, rfl⟩ := ty_scr h1
  refine ⟨q, l, vr_agg ?_ h2 h3 h4⟩
  have hu := und_scr
  unfold tys at hu
  split at hu
  · rename_i fs hf
    simp only [Value.okWide, hf] at hval
    obtain ⟨cs, hcs, _⟩ := hval
    exact ⟨cs, hcs⟩
  · cases hu
end Go.Proofs.Tryz.E
