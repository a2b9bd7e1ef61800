/- Walks: what the functions compute. Walks: what the functions compute. Walks: what the functions compute. Walks: what the functions compute. Walks: what the functions compute. -/
import Derived.Test.YthmgjkngkhdjjaaGreatDoorE21
import Derived.Test.YthmgjkngkhdjjaaGreatDoorG0
import Derived.Test.YthmgjkngkhdjjaaGreatDoorWV4
import Derived.Test.YthmgjkngkhdjjaaGreatDoorWA5
import Derived.Test.YthmgjkngkhdjjaaGreatDoorWA3
import Derived.Test.YthmgjkngkhdjjaaGreatDoorWN9c
import Derived.Test.YthmgjkngkhdjjaaGreatDoorWV0
import Derived.Test.YthmgjkngkhdjjaaGreatDoorN10
set_option linter.unusedVariables false
set_option linter.unusedSimpArgs false
/- How many groups; whether two are alike, where they are one. -/
namespace Go.Proofs.Tryz.E
open Go.Mv
set_option maxHeartbeats 4000000
set_option maxRecDepth 20000
mutual
def grp : Nd → Int
 | .mk kd _ _ _ _ _ _ _ _ l => if kd = 6 then IntKind.i64.wrap (grps 0 l + 1) else grps 0 l
def grps : Int → List Nd → Int
 | k, [] => k
 | k, x :: l => grps (IntKind.i64.wrap (k + grp x)) l
end
@[go_sem] theorem bin_66e (xs ys : List MV) : binO X.P X.eqT .eql 104 (.agg xs) (.agg ys) = (eqC ([.i .i64, .i .u8] ++ u4 ++ [.i .i64, .i .i64, .i .i64]) xs ys).map fun r => .bool r := rfl
mutual
def grN : Nd → Nat
 | .mk kd _ _ _ _ _ _ _ _ l => (if kd = 6 then 1 else 0) + grsN l
def grsN : List Nd → Nat
 | [] => 0
 | x :: l => grN x + grsN l
end
/-! ### How many, how deep -/
mutual
def depN : Nd → Nat
 | .mk _ _ _ _ _ _ _ _ _ l => depsN l + 1
def depsN : List Nd → Nat
 | [] => 0
 | x :: l => max (depN x) (depsN l)
end
theorem cnts_sz : ∀ (l : List Nd), (∀ x ∈ l, cnt x = sz x) → ∀ k : Int, 0 ≤ k → k + szs l ≤ 1000000 → cnts k l = k + szs l
 | [], _, k, _, _ => by simp [cnts, szs]
 | x :: l, h, k, h0, h1 => by
  simp only [szs] at h1
  rw [cnts, h x (List.mem_cons_self ..), wr64 _ (by omega) (by omega), cnts_sz l (fun y hy => h y (List.mem_cons_of_mem _ hy)) _ (by omega) (by omega)]
  simp only [szs]
  omega
theorem cnt_sz : ∀ x : Nd, sz x ≤ 1000000 → cnt x = sz x := by
 refine Nd.ind fun kd c s0 s1 s2 s3 n mn mx l ih h => ?_
 simp only [sz] at h
 rw [cnt, cnts_sz l (fun y hy => ih y hy (by have := sz_le l y hy; omega)) 1 (by omega) (by omega), sz]
 omega
open Go.ChangeShapes Go.WideShapes Go.RowKit Go.Deep
def printV (t : List UInt8) (e : Int) : MV := .tup [.str t, .int .i64 e]
theorem w516 (y : Sty) (hy : OkY y) (x : Nd) (hx : wfN x) (hsz : sz x ≤ 300) (lim d : Nat) (σ : Sto) (hlim : lim ≤ d) (hu : σ.Und d) : RetP lim d 40 [.agg (encY y), .agg (enc x)] σ (300 * sz x) := by
 have hun := und_succ hu
 have hW := w517 y hy lim (BL d (σ.ct d + 1 + 1)) (by simp only [BL]; exact hlim) (by simp [isB, BL]) x hx
 obtain ⟨kd, c, s0, s1, s2, s3, n, mn, mx, l⟩ := x
 unfold RetP
 rw [WF_body (C := X) rfl func40 rfl (by kernel_rfl)]; simp only [results40]
 simp -implicitDefEqProofs -dsimp only [go_sem, enc]
 refine WF.whm (hW (d + 1) _ [] (by simp only [BL]; omega) (by simp only [u_tick, u_mine]; exact hun) ⟨.nilp, .nil, ?_, rfl, .inl ⟨rfl, rfl⟩⟩ (by simp only [List.length_nil]; omega)) fun v p h => ?_
 ·simp [Sto.set, Sto.tick, BL, bytesM]
 obtain ⟨t, m, h1, h2, h3', h3, h4, h5⟩ := h
 rw [List.nil_append] at h3
 simp -implicitDefEqProofs -dsimp only [go_sem, enc]
 refine w503 h3 (by simp only [BL]; exact hlim) (by simp only [BL]; omega) (by omega) fun q hq => ?_
 simp -implicitDefEqProofs -dsimp only [go_sem, enc]
 have hs : SB d (BL d (σ.ct d + 1 + 1)) σ p := ((((SB.refl d _ σ).set _).set _).set _).tick.tick.tick.trans (h4.le (Nat.le_succ d))
 exact ⟨⟨t, m, rfl, h1, by omega⟩, (hs.trans hq).back hu (Nat.le_refl _)⟩
theorem encs_ofC : ∀ (xs : List (List MV)), (∀ x ∈ xs, ∃ y : Nd, x = enc y ∧ okc y) → ∃ l, xs = encs l ∧ okcs l
 | [], _ => ⟨[], rfl, trivial⟩
 | x :: xs, h => by
  obtain ⟨y, rfl, hy⟩ := h x (List.mem_cons_self ..)
  obtain ⟨l, rfl, hl⟩ := encs_ofC xs fun z hz => h z (List.mem_cons_of_mem _ hz)
  exact ⟨y :: l, rfl, hy, hl⟩
theorem byte_of {ch : Int} (h : (Lit.int .u8 ch).wf = true) : ∃ b : UInt8, ch = b.toNat := by
 simp only [Lit.wf, decide_eq_true_eq, Bool.and_eq_true] at h
 refine ⟨UInt8.ofNat ch.toNat, ?_⟩
 simp [IntKind.min, IntKind.max, IntKind.bits, IntKind.signed] at h
 simp
 omega
theorem word_of {x : Int} (h : (Lit.int .u64 x).wf = true) : 0 ≤ x ∧ x < 18446744073709551616 := by
 simp only [Lit.wf, decide_eq_true_eq, Bool.and_eq_true] at h
 simp [IntKind.min, IntKind.max, IntKind.bits, IntKind.signed] at h
 omega
theorem words_of {a b c d : Int} (h1 : (Lit.int .u64 a).wf = true) (h2 : (Lit.int .u64 b).wf = true) (h3 : (Lit.int .u64 c).wf = true) (h4 : (Lit.int .u64 d).wf = true) : okW [a, b, c, d] := by
 refine ⟨rfl, fun x hx => ?_⟩
 simp only [List.mem_cons, List.not_mem_nil, or_false] at hx
 rcases hx with rfl | rfl | rfl | rfl
 ·exact word_of h1
 ·exact word_of h2
 ·exact word_of h3
 ·exact word_of h4
theorem ty_nodeC : ∀ (n : Nat) (ms : List MV), Ty X.P n 27 ms → ∃ x : Nd, ms = enc x ∧ okc x := by
 intro n
 induction n using Nat.strongRecOn with
 | _ n ih =>
  intro ms h
  obtain ⟨m, xs, rfl, hl, rfl, hx⟩ := ty_struct und_node h
  obtain ⟨a, b, c, d, e, f, g, rfl⟩ := lst7 hl
  obtain ⟨kd, rfl, _⟩ := ty_int und_i (hx 0 _ _ rfl rfl)
  obtain ⟨ch, rfl, hch⟩ := ty_int und_b8 (hx 1 _ _ rfl rfl)
  obtain ⟨m2, zs, rfl, hz, rfl, hz2⟩ := ty_array und_set4 (hx 2 _ _ rfl rfl)
  obtain ⟨z0, z1, z2, z3, rfl⟩ := lst4 hz
  obtain ⟨s0, rfl, g0⟩ := ty_int und_u64 (hz2 z0 (by simp))
  obtain ⟨s1, rfl, g1⟩ := ty_int und_u64 (hz2 z1 (by simp))
  obtain ⟨s2, rfl, g2⟩ := ty_int und_u64 (hz2 z2 (by simp))
  obtain ⟨s3, rfl, g3⟩ := ty_int und_u64 (hz2 z3 (by simp))
  obtain ⟨nn, rfl, _⟩ := ty_int und_i (hx 3 _ _ rfl rfl)
  obtain ⟨mn, rfl, _⟩ := ty_int und_i (hx 4 _ _ rfl rfl)
  obtain ⟨mx, rfl, _⟩ := ty_int und_i (hx 5 _ _ rfl rfl)
  obtain ⟨m3, ws, hm3, rfl, hw⟩ := ty_slice und_kids (hx 6 _ _ rfl rfl)
  obtain ⟨l, rfl, ho⟩ := encs_ofC ws fun w hw' => ih m3 (by omega) w (hw w hw')
  exact ⟨.mk kd ch s0 s1 s2 s3 nn mn mx l, rfl, ⟨byte_of hch, words_of g0 g1 g2 g3⟩, ho⟩
theorem ty_adrC {n : Nat} {ms : List MV} (h : Ty X.P n 29 ms) : ∃ k m x, ms = encA k m x ∧ okc x := by
 obtain ⟨m, xs, rfl, hl, rfl, hx⟩ := ty_struct und_adr h
 obtain ⟨a, b, c, rfl⟩ := lst3 hl
 obtain ⟨k, rfl, _⟩ := ty_int und_i (hx 0 _ _ rfl rfl)
 obtain ⟨v, rfl, _⟩ := ty_int und_i (hx 1 _ _ rfl rfl)
 obtain ⟨x, rfl, hc⟩ := ty_nodeC _ _ (hx 2 _ _ rfl rfl)
 exact ⟨k, v, x, by simp [encA], hc⟩
theorem okS_adr : okS X.P [29, 27, 25, 24, 22, 3, 5] = true := by kernel_rfl
theorem arg_adr {H : Type} {tok : TypeId × Value → H} {W : World} {r : Reach} {b0 : Nat} {v : Value} {d : DataW H} {ps : List MemPlace} (hval : Value.okWide X.P W r b0 29 v) (h : DataW.Trod tok X.P W 0 (fun _ => true) true 29 v d ps) :
  ∃ k m x, okc x ∧ VR W (gOf W) s0 (.agg (encA k m x)) v := by
 obtain ⟨n, hn⟩ := h
 obtain ⟨ms, h1, h2, h3, h4⟩ := vr_of_trod okS_adr n _ _ _ (by simp) hn
 obtain ⟨k, m, x, rfl, hx⟩ := ty_adrC h1
 refine ⟨k, m, x, hx, vr_agg ?_ h2 h3 h4⟩
 have hu := und_adr
 unfold tys at hu
 split at hu
 ·rename_i fs hf
  simp only [Value.okWide, hf] at hval
  obtain ⟨cs, hcs, _⟩ := hval
  exact ⟨cs, hcs⟩
 ·cases hu
def basY : Sty := ⟨[92, 40], [92, 41], [92, 123], [92, 125], [46, 91, 93, 42, 94, 36, 92]⟩
theorem basY_ok : OkY basY := ⟨Pc.two (by decide) (by decide), Pc.two (by decide) (by decide), Pc.two (by decide) (by decide), Pc.two (by decide) (by decide), by decide, by decide, by decide⟩
def extY : Sty := ⟨[40], [41], [123], [125], [46, 91, 93, 40, 41, 42, 43, 63, 123, 125, 124, 94, 36, 92]⟩
theorem extY_ok : OkY extY := ⟨pc_one (by decide), pc_one (by decide), pc_one (by decide), pc_one (by decide), by decide, by decide, by decide⟩
theorem w531 (lim d : Nat) (σ : Sto) (hu : σ.Und d) : Ret lim d 39 [] σ (.agg (encY basY)) σ := by
 unfold Ret
 rw [WF_body (C := X) rfl func39 rfl (by kernel_rfl)]; simp only [results39]
 simp -implicitDefEqProofs -dsimp only [go_sem, basY, cut_und _ _ hu]
theorem w515 (lim d : Nat) (σ : Sto) (hu : σ.Und d) : Ret lim d 42 [] σ (.agg (encY extY)) σ := by
 unfold Ret
 rw [WF_body (C := X) rfl func42 rfl (by kernel_rfl)]; simp only [results42]
 simp -implicitDefEqProofs -dsimp only [go_sem, extY, cut_und _ _ hu]
def PrtV (ext : Bool) (x : Nd) (v : MV) : Prop :=
 (formedB x = false ∧ v = printV [] 1) ∨ (formedB x = true ∧ v = printV [] 10) ∨
 ∃ t m, formedB x = true ∧ v = printV t 0 ∧ Pc t m ∧ m ≤ 300 * sz x ∧ (rdP ext t).2.2 = 0 ∧ sameB (rdP ext t).1 x = true
theorem w532 (x : Nd) (hx : okc x) (hsz : sz x ≤ 1000000) (lim d : Nat) (σ : Sto) (hlim : lim ≤ d) (hu : σ.Und d) : WF X lim d 27 [.agg (enc x)] σ fun v s => PrtV false x v ∧ s = σ := by
 have hun := und_succ hu
 obtain ⟨kd, c, s0, s1, s2, s3, n, mn, mx, l⟩ := x
 have h12 := w12 (.mk kd c s0 s1 s2 s3 n mn mx l) hsz lim (d + 1)
 rw [WF_body (C := X) rfl func27 rfl (by kernel_rfl)]; simp only [results27]
 simp -implicitDefEqProofs -dsimp only [go_sem, enc]
 refine (h12 _ (by omega) (by simp only [u_tick, u_mine]; exact hun)).wh ?_
 cases hf : formedB (.mk kd c s0 s1 s2 s3 n mn mx l)
 ·simp -implicitDefEqProofs -dsimp only [go_sem, enc, cut_und _ _ hu]
  exact .inl ⟨hf, rfl⟩
 ·have hf' := hf
  simp only [formedB, Bool.and_eq_true, decide_eq_true_eq] at hf'
  have hc := cnt_sz _ hsz
  have hwf := wf_of _ _ _ hx hf'.2
  have hs2 : sz (.mk kd c s0 s1 s2 s3 n mn mx l) ≤ 200 := by omega
  simp -implicitDefEqProofs -dsimp only [go_sem, enc]
  rw [D_dr (by kernel_rfl) rfl]
  simp -implicitDefEqProofs -dsimp only [go_sem]
  have hu1 : ∀ cs, ((σ.set ⟨d, 1, σ.ct d⟩ cs).tick d).Und (d + 1) := fun cs => by simp only [u_tick, u_mine]; exact hun
  refine (w531 (d + 1) (d + 1) _ (hu1 _)).wh ?_
  simp -implicitDefEqProofs -dsimp only [go_sem]
  refine (w516 basY basY_ok _ hwf (by omega) (d + 1) (d + 1) _ (Nat.le_refl _) (hu1 _)).wh fun t tm h1 h2 h3 => ?_
  simp -implicitDefEqProofs -dsimp only [go_sem]
  refine (w204 t (by omega) lim (d + 1) (by omega) _ (hu1 _)).wh ?_
  rw [parseB_e (joinN []) z0]
  unfold parseBV
  have hz := parseB_sz z0 (by simp [sz_z0]) t (by omega)
  generalize hP : parseB z0 t = P at hz
  obtain ⟨m, at', e⟩ := P
  simp only at hz ⊢
  have h16 := w16g m hz (.mk kd c s0 s1 s2 s3 n mn mx l) lim (d + 1)
  cases he : e != 0
  ·simp -implicitDefEqProofs -dsimp only [go_sem, he]
   refine (h16 _ (by omega) (by simp only [u_tick, u_mine]; exact hun)).wh ?_
   have he' : e = 0 := by simpa using he
   subst he'
   cases hs : sameB m (.mk kd c s0 s1 s2 s3 n mn mx l)
   ·simp -implicitDefEqProofs -dsimp only [go_sem, cut_und _ _ hu]
    exact .inr (.inl ⟨hf, rfl⟩)
   ·simp -implicitDefEqProofs -dsimp only [go_sem, cut_und _ _ hu]
    exact .inr (.inr ⟨t, tm, hf, rfl, h1, h2, by unfold rdP; rw [if_neg Bool.false_ne_true, hP], by unfold rdP; rw [if_neg Bool.false_ne_true, hP]; exact hs⟩)
  ·simp -implicitDefEqProofs -dsimp only [go_sem, he, cut_und _ _ hu]
   exact .inr (.inl ⟨hf, rfl⟩)
theorem w514 (x : Nd) (hx : okc x) (hsz : sz x ≤ 1000000) (lim d : Nat) (σ : Sto) (hlim : lim ≤ d) (hu : σ.Und d) : WF X lim d 28 [.agg (enc x)] σ fun v s => PrtV true x v ∧ s = σ := by
 have hun := und_succ hu
 obtain ⟨kd, c, s0, s1, s2, s3, n, mn, mx, l⟩ := x
 have h12 := w12 (.mk kd c s0 s1 s2 s3 n mn mx l) hsz lim (d + 1)
 rw [WF_body (C := X) rfl func28 rfl (by kernel_rfl)]; simp only [results28]
 simp -implicitDefEqProofs -dsimp only [go_sem, enc]
 refine (h12 _ (by omega) (by simp only [u_tick, u_mine]; exact hun)).wh ?_
 cases hf : formedB (.mk kd c s0 s1 s2 s3 n mn mx l)
 ·simp -implicitDefEqProofs -dsimp only [go_sem, enc, cut_und _ _ hu]
  exact .inl ⟨hf, rfl⟩
 ·have hf' := hf
  simp only [formedB, Bool.and_eq_true, decide_eq_true_eq] at hf'
  have hc := cnt_sz _ hsz
  have hwf := wf_of _ _ _ hx hf'.2
  have hs2 : sz (.mk kd c s0 s1 s2 s3 n mn mx l) ≤ 200 := by omega
  simp -implicitDefEqProofs -dsimp only [go_sem, enc]
  rw [D_dr (by kernel_rfl) rfl]
  simp -implicitDefEqProofs -dsimp only [go_sem]
  have hu1 : ∀ cs, ((σ.set ⟨d, 1, σ.ct d⟩ cs).tick d).Und (d + 1) := fun cs => by simp only [u_tick, u_mine]; exact hun
  refine (w515 (d + 1) (d + 1) _ (hu1 _)).wh ?_
  simp -implicitDefEqProofs -dsimp only [go_sem]
  refine (w516 extY extY_ok _ hwf (by omega) (d + 1) (d + 1) _ (Nat.le_refl _) (hu1 _)).wh fun t tm h1 h2 h3 => ?_
  simp -implicitDefEqProofs -dsimp only [go_sem]
  refine (w8 t (by omega) lim (d + 1) (by omega) _ (hu1 _)).wh ?_
  unfold parseV
  have hz := parse_sz t (by omega)
  generalize hP : parseS t = P at hz
  obtain ⟨m, at', e⟩ := P
  simp only at hz ⊢
  have h16 := w16g m hz (.mk kd c s0 s1 s2 s3 n mn mx l) lim (d + 1)
  cases he : e != 0
  ·simp -implicitDefEqProofs -dsimp only [go_sem, he]
   refine (h16 _ (by omega) (by simp only [u_tick, u_mine]; exact hun)).wh ?_
   have he' : e = 0 := by simpa using he
   subst he'
   cases hs : sameB m (.mk kd c s0 s1 s2 s3 n mn mx l)
   ·simp -implicitDefEqProofs -dsimp only [go_sem, cut_und _ _ hu]
    exact .inr (.inl ⟨hf, rfl⟩)
   ·simp -implicitDefEqProofs -dsimp only [go_sem, cut_und _ _ hu]
    exact .inr (.inr ⟨t, tm, hf, rfl, h1, h2, by unfold rdP; rw [if_pos rfl, hP], by unfold rdP; rw [if_pos rfl, hP]; exact hs⟩)
  ·simp -implicitDefEqProofs -dsimp only [go_sem, he, cut_und _ _ hu]
   exact .inr (.inl ⟨hf, rfl⟩)
theorem dec_itoa (n : Nat) : Lib.decDigits n = decS n := by
 induction n using Nat.strongRecOn with
 | _ n ih =>
  rw [Lib.decDigits, decS]
  split
  ·rfl
  ·rw [ih (n / 10) (by omega)]
theorem itoa_dec (n : Nat) : Lib.itoa (n : Int) = decS n := by
 unfold Lib.itoa
 rw [if_neg (by omega), Int.toNat_natCast, dec_itoa]
mutual
theorem same_eq : ∀ {x y : Nd}, sameB x y = true → x = y
 | .mk _ _ _ _ _ _ _ _ _ l, .mk _ _ _ _ _ _ _ _ _ l', h => by
  simp only [sameB, Bool.and_eq_true, beq_iff_eq] at h
  obtain ⟨⟨rfl, rfl, rfl, rfl, rfl, rfl, rfl, rfl, rfl⟩, h⟩ := h
  rw [sames_eq h]
theorem sames_eq : ∀ {l l' : List Nd}, samesB l l' = true → l = l'
 | [], [], _ => rfl
 | x :: l, y :: l', h => by
  simp only [samesB, Bool.and_eq_true] at h
  rw [same_eq h.1, sames_eq h.2]
 | [], _ :: _, h => by simp [samesB] at h
 | _ :: _, [], h => by simp [samesB] at h
end
inductive AdT (ext : Bool) : Int → Int → Nd → List UInt8 → Prop
 | no : AdT ext 0 0 zn []
 | ln (n : Nat) : n ≤ 1000000000 → AdT ext 1 n zn (decS n)
 | la : AdT ext 2 0 zn [36]
 | sa : AdT ext 4 0 zn [47, 47]
 | pt (x : Nd) (s u : List UInt8) : Sl s u → s ≠ [] → u.length ≤ 90000 → (rdP ext s).2.2 = 0 → (rdP ext s).1 = x → AdT ext 3 0 x (47 :: (u ++ [47]))
theorem pk_end (t : List UInt8) : pkL t t.length = 0 := by simp [pkL]
theorem bl_end (t : List UInt8) : blL t t.length = 0 := blL_no fun b h => by simp at h
theorem rng_end {ext : Bool} {t : List UInt8} {a : Ad} (h : oneR ext t 0 = ((a, 0), t.length)) : rangeR ext t 0 = (((a, zAd, false), 0), t.length) := by
 rw [rangeR_1 (by rw [h]) (by rw [h]; intro q; rw [pk_end] at q; exact absurd q.2 (by decide)), h]
 simp only
 unfold endR
 rw [bl_end, Nat.add_zero, pk_end]
 rfl
theorem ad_len {ext : Bool} {k v : Int} {x : Nd} {t : List UInt8} (h : AdT ext k v x t) : t.length ≤ 100000 := by
 cases h with
 | no => decide
 | ln n hn => have := dec_len10 n 9 (by omega); omega
 | la => decide
 | sa => decide
 | pt x s u _ _ hu => simp only [List.length_cons, List.length_append, List.length_nil]; omega
theorem ad_rd {ext : Bool} {k v : Int} {x : Nd} {t : List UInt8} (h : AdT ext k v x t) : rangeR ext t 0 = ((((k, v, x), zAd, false), 0), t.length) := by
 cases h with
 | no => cases ext <;> rfl
 | ln n hn =>
  refine rng_end ?_
  obtain ⟨b, r, hb⟩ : ∃ b r, decS n = b :: r := by
   have := dec_ne n
   cases h : decS n with
   | nil => exact absurd h this
   | cons b r => exact ⟨b, r, rfl⟩
  have hd := dec_dig n
  have h1 : dig (pkL (decS n) 0) = true := by
   have := hd b (by rw [hb]; exact List.mem_cons_self ..)
   rw [hb]
   simp [pkL, dig, this.1, this.2]
  have hg : dgL (decS n) 0 = (decS n).length := by
   unfold dgL
   have := dw_app (p := digB) (l := decS n) (t := []) (fun b hb => digB_eq b (hd b hb)) (fun c hc => by simp at hc)
   rw [List.append_nil] at this
   rw [List.drop_zero, this]
   rfl
  have hw : numW (decS n) 0 = n := by
   unfold numW
   rw [hg, List.drop_zero, List.take_length, dec_val]
  rw [oneR_dig h1, hg, hw, if_neg, Nat.zero_add]
  rw [hb, List.length_cons]
  omega
 | la => cases ext <;> rfl
 | sa => cases ext <;> rfl
 | pt x s u hs hne hu he hx =>
  refine rng_end ?_
  have h47 : pkL (47 :: (u ++ [47])) 0 = 47 := rfl
  rw [oneR_47 h47]
  have hd : delA 47 (47 :: (u ++ [47])) (0 + 1) = (some s, (47 :: (u ++ [47])).length) := by
   unfold delA
   rw [Nat.zero_add, List.drop_succ_cons, List.drop_zero, del_sl hs _ [] (by simp only [List.length_cons, List.length_append, List.length_nil]; omega)]
   simp only [app, Option.map_some, List.nil_append, List.length_cons, List.length_append, List.length_nil, Prod.mk.injEq, true_and]
   omega
  unfold delR
  rw [hd]
  simp only
  unfold patR
  rw [if_neg hne, if_neg (fun q => q he), hx]
end Go.Proofs.Tryz.E
