/- Walks: what the functions compute. -/
import Derived.Test.YtcgjdgmmnmmifaaGreatDoorA1
set_option linter.unusedVariables false
set_option linter.unusedSimpArgs false
/- Commands that are arguments: as values without memory. -/
namespace Go.Proofs.Tryz.E
open Go.Mv
set_option maxHeartbeats 4000000
set_option maxRecDepth 20000
open Go.ChangeShapes Go.WideShapes Go.RowKit Go.Deep
abbrev Pt := Int × List UInt8
def encPt (p : Pt) : List MV := [.int .i64 p.1, .str p.2]
def encPs (l : List Pt) : List (List MV) := l.map encPt
/-- A command. -/
structure Cm where
  nm : Int
  k : Int
  v : Int
  x : Nd
  k2 : Int
  v2 : Int
  y : Nd
  b : Bool
  lab : List UInt8
  txt : List UInt8
  fil : List UInt8
  pk : Int
  pv : Int
  px : Nd
  ps : List Pt
  nth : Int
  all : Bool
  prt : Bool
  frm : List UInt8
  tto : List UInt8
  pos : Int
def encM (c : Cm) : List MV := .int .u8 c.nm :: (encG c.k c.v c.x c.k2 c.v2 c.y c.b ++ (.str c.lab :: .str c.txt :: .str c.fil :: (encA c.pk c.pv c.px ++ [.sl .no (encPs c.ps), .int .i64 c.nth, .bool c.all, .bool c.prt, .str c.frm, .str c.tto, .int .i64 c.pos])))
theorem encM_len (c : Cm) : (encM c).length = 48 := by simp [encM, encG, encA, enc_len]
theorem encM_data (c : Cm) : (encM c).all MV.data = true := by simp [encM, encG, encA, enc_data, MV.data]
theorem encM_era (c : Cm) : (encM c).map MV.era = encM c := by simp [encM, encG, encA, enc_era, MV.era]
theorem encM_take (c : Cm) : (encM c).take 48 = encM c := by rw [← encM_len c, List.take_length]
theorem und_part : tys X.P 93 = some [3, 9] := by kernel_rfl
theorem und_parts : X.P.underlying 68 = some (.slice 93) := by kernel_rfl
theorem und_cmd : tys X.P 70 = some [5, 67, 9, 9, 9, 65, 68, 3, 4, 4, 9, 9, 3] := by kernel_rfl
theorem und_s : X.P.underlying 9 = some .string := by kernel_rfl
theorem lst2 {α : Type} {l : List α} (h : l.length = 2) : ∃ a b, l = [a, b] := by
  match l, h with
  | [a, b], _ => exact ⟨a, b, rfl⟩
theorem lst13 {α : Type} {l : List α} (h : l.length = 13) : ∃ a b c d e f g i j k m n o, l = [a, b, c, d, e, f, g, i, j, k, m, n, o] := by
  match l, h with
  | [a, b, c, d, e, f, g, i, j, k, m, n, o], _ => exact ⟨a, b, c, d, e, f, g, i, j, k, m, n, o, rfl⟩
theorem ty_part {n : Nat} {ms : List MV} (h : Ty X.P n 93 ms) : ∃ p : Pt, ms = encPt p := by
  obtain ⟨m, xs, rfl, hl, rfl, hx⟩ := ty_struct und_part h
  obtain ⟨a, b, rfl⟩ := lst2 hl
  obtain ⟨k, rfl, _⟩ := ty_int und_i (hx 0 _ _ rfl rfl)
  obtain ⟨s, rfl, _⟩ := ty_str und_s (hx 1 _ _ rfl rfl)
  exact ⟨(k, s), rfl⟩
theorem encPs_of : ∀ (xs : List (List MV)), (∀ x ∈ xs, ∃ p : Pt, x = encPt p) → ∃ l, xs = encPs l
  | [], _ => ⟨[], rfl⟩
  | x :: xs, h => by
    obtain ⟨y, rfl⟩ := h x (List.mem_cons_self ..)
    obtain ⟨l, rfl⟩ := encPs_of xs fun z hz => h z (List.mem_cons_of_mem _ hz)
    exact ⟨y :: l, rfl⟩
theorem ty_cmd {n : Nat} {ms : List MV} (h : Ty X.P n 70 ms) : ∃ c : Cm, ms = encM c := by
  obtain ⟨m, xs, rfl, hl, rfl, hx⟩ := ty_struct und_cmd h
  obtain ⟨a0, a1, a2, a3, a4, a5, a6, a7, a8, a9, a10, a11, a12, rfl⟩ := lst13 hl
  obtain ⟨nm, rfl, _⟩ := ty_int und_b8 (hx 0 _ _ rfl rfl)
  obtain ⟨k, v, x, k2, v2, y, b, rfl⟩ := ty_rng (hx 1 _ _ rfl rfl)
  obtain ⟨lab, rfl, _⟩ := ty_str und_s (hx 2 _ _ rfl rfl)
  obtain ⟨txt, rfl, _⟩ := ty_str und_s (hx 3 _ _ rfl rfl)
  obtain ⟨fil, rfl, _⟩ := ty_str und_s (hx 4 _ _ rfl rfl)
  obtain ⟨pk, pv, px, rfl⟩ := ty_adr (hx 5 _ _ rfl rfl)
  obtain ⟨m3, ws, _, rfl, hw⟩ := ty_slice und_parts (hx 6 _ _ rfl rfl)
  obtain ⟨ps, rfl⟩ := encPs_of ws fun w hw' => ty_part (hw w hw')
  obtain ⟨nth, rfl, _⟩ := ty_int und_i (hx 7 _ _ rfl rfl)
  obtain ⟨all, rfl⟩ := ty_bool und_b (hx 8 _ _ rfl rfl)
  obtain ⟨prt, rfl⟩ := ty_bool und_b (hx 9 _ _ rfl rfl)
  obtain ⟨frm, rfl, _⟩ := ty_str und_s (hx 10 _ _ rfl rfl)
  obtain ⟨tto, rfl, _⟩ := ty_str und_s (hx 11 _ _ rfl rfl)
  obtain ⟨pos, rfl, _⟩ := ty_int und_i (hx 12 _ _ rfl rfl)
  exact ⟨⟨nm, k, v, x, k2, v2, y, b, lab, txt, fil, pk, pv, px, ps, nth, all, prt, frm, tto, pos⟩, by simp [encM]⟩
theorem okS_cmd : okS X.P [70, 93, 68, 67, 65, 63, 61, 60, 31, 3, 4, 5, 9] = true := by kernel_rfl
theorem arg_cmd {H : Type} {tok : TypeId × Value → H} {W : World} {r : Reach} {b0 : Nat} {v : Value} {d : DataW H} {ps : List MemPlace} (hval : Value.okWide X.P W r b0 70 v) (h : DataW.Trod tok X.P W 0 (fun _ => true) true 70 v d ps) :
    ∃ c : Cm, VR W (gOf W) s0 (.agg (encM c)) v := by
  obtain ⟨n, hn⟩ := h
  obtain ⟨ms, h1, h2, h3, h4⟩ := vr_of_trod okS_cmd n _ _ _ (by simp) hn
  obtain ⟨c, rfl⟩ := ty_cmd h1
  refine ⟨c, vr_agg ?_ h2 h3 h4⟩
  have hu := und_cmd
  unfold tys at hu
  split at hu
  · rename_i fs hf
    simp only [Value.okWide, hf] at hval
    obtain ⟨cs, hcs, _⟩ := hval
    exact ⟨cs, hcs⟩
  · cases hu
end Go.Proofs.Tryz.E
