/- Walks: what the functions compute. -/
import Derived.Test.YtklnfgmfcpcfcaaGreatDoorT1
set_option linter.unusedVariables false
set_option linter.unusedSimpArgs false
/- What gathers parts: a row of parts and a Builder; flush, group. -/
namespace Go.Proofs.Tryz.E
open Go.Mv
set_option maxHeartbeats 4000000
set_option maxRecDepth 20000
/-! ### Regions whose operations may do something -/
@[congr] theorem WV_cg {C : Cfg} {lim d : Nat} {ops : Array Oper} {l : List Oper} {i : Nat} {sf : List Nat} {a : Nat → MV} {σ : Sto} {Q : (Nat → MV) → Sto → Prop} : WV C lim d ops l i sf a σ Q = WV C lim d ops l i sf a σ Q := rfl
section
variable {C : Cfg} {lim d : Nat} {ops : Array Oper} {l : List Oper} {i : Nat} {sf : List Nat} {a : Nat → MV} {σ : Sto} {Q : (Nat → MV) → Sto → Prop} {dst : Option Tmp} {ty : TypeId} {pos : String} {aft : Array Edge} {t : TypeId} {x y : Operand} {f : Nat}
theorem D_hx {id : Nat} {Q : Mv.Ex → (Nat → MV) → Sto → Prop} (hh : hotB C l.toArray = true) (hk : okHot C l.toArray = true) : WDh C lim d id l.toArray a σ (TagK Q) ↔ WV C lim d l.toArray l 0 [] a σ (Q .nrm) := W_hx hh hk
theorem V_op {o : Oper} {r : Option MV} (he : effB C o = false) (hg : o.guard = none) (h : ∀ call : Mv.Call, evFree C call d a o σ = r) : WV C lim d ops (o :: l) i sf a σ Q ↔ Opt r fun v => WV C lim d ops l (i + 1) (if seesB o = true then i :: sf else sf) (putD a o.dst v) σ Q := by
  rw [WV_free he (by unfold want; rw [hg]), WF1_of h]
theorem V_nil : WV C lim d ops [] i sf a σ Q ↔ Str (ev a) fun a => Str (ev σ) fun s => Q a s := WV_nil
theorem V_move : WV C lim d ops (⟨dst, .move x, ty, pos, aft, none⟩ :: l) i sf a σ Q ↔ Str (ev (valO a x)) fun v => WV C lim d ops l (i + 1) sf (putD a dst v) σ Q := (V_op rfl rfl (r := some (valO a x)) fun _ => rfl).trans (Opt_some _ _)
theorem V_nilCheck : WV C lim d ops (⟨dst, .nilCheck x, ty, pos, aft, none⟩ :: l) i sf a σ Q ↔ Opt (nilO (valO a x)) fun v => WV C lim d ops l (i + 1) sf (putD a dst v) σ Q := V_op rfl rfl fun _ => by simp only [evFree, evOp, nilO]; cases valO a x <;> rfl
theorem V_fieldAddr : WV C lim d ops (⟨dst, .fieldAddr t x f, ty, pos, aft, none⟩ :: l) i sf a σ Q ↔ Opt (faO C.P t f (valO a x)) fun v => WV C lim d ops l (i + 1) sf (putD a dst v) σ Q := V_op rfl rfl fun _ => map_fst _
theorem V_load : WV C lim d ops (⟨dst, .load t x, ty, pos, aft, none⟩ :: l) i sf a σ Q ↔ Opt (ldO C.P σ t (valO a x)) fun v => WV C lim d ops l (i + 1) (i :: sf) (putD a dst v) σ Q := V_op rfl rfl fun _ => map_fst _
theorem V_build {ps : Array (Nat × Operand)} : WV C lim d ops (⟨dst, .build t ps, ty, pos, aft, none⟩ :: l) i sf a σ Q ↔ Opt (buildO C.P t (ps.toList.map fun p => (p.1, valO a p.2))) fun v => WV C lim d ops l (i + 1) sf (putD a dst v) σ Q := V_op rfl rfl fun _ => map_fst _
theorem V_buildSlice {n : Nat} {ps : Array (Nat × Operand)} : WV C lim d ops (⟨dst, .buildSlice t n ps, ty, pos, aft, none⟩ :: l) i sf a σ Q ↔ Opt (bslF C.P t n (ps.toList.map fun p => (p.1, valO a p.2))) fun v => WV C lim d ops l (i + 1) sf (putD a dst v) σ Q := V_op rfl rfl fun _ => by
  simp only [evFree, bslF, List.length_map, Array.length_toList]
  rfl
theorem V_callH {g : FuncId} {args : List Operand} {ts : Array TypeId} (sf' : List Nat) (hg : C.hotF g = true) (hs : (sf.filter fun j => !waitsOn ⟨dst, .call ⟨.value (.func g), args.toArray, ts⟩, ty, pos, aft, none⟩ j) = sf') :
    WV C lim d ops (⟨dst, .call ⟨.value (.func g), args.toArray, ts⟩, ty, pos, aft, none⟩ :: l) i sf a σ Q ↔ WFh C lim (d + 1) g (args.map fun x => (valO a x).arg) σ (TagF fun v s => CK C d ops s (putD a dst v) sf' ∧ WV C lim d ops l (i + 1) sf' (putD a dst v) s Q) := by
  rw [WV_eff (by simp [effB, isHot, hg]) rfl, hs]
  exact S1_callf
theorem V_append {ts : TypeId} (sf' : List Nat) (hs : (sf.filter fun j => !waitsOn ⟨dst, .call ⟨.builtin .append, #[x, y], #[ts, ts]⟩, ty, pos, aft, none⟩ j) = sf') :
    WV C lim d ops (⟨dst, .call ⟨.builtin .append, #[x, y], #[ts, ts]⟩, ty, pos, aft, none⟩ :: l) i sf a σ Q ↔ Opt (appO C.P lim d ts σ (valO a x) (valO a y)) fun z => CK C d ops z.2 (putD a dst z.1) sf' ∧ WV C lim d ops l (i + 1) sf' (putD a dst z.1) z.2 Q := by
  rw [WV_eff rfl rfl, hs]
  exact W1_append
theorem V_store (sf' : List Nat) (hs : (sf.filter fun j => !waitsOn ⟨dst, .store t x y, ty, pos, aft, none⟩ j) = sf') :
    WV C lim d ops (⟨dst, .store t x y, ty, pos, aft, none⟩ :: l) i sf a σ Q ↔ Opt (if C.kt t = true then stK C.P lim d t σ (valO a x) (valO a y) else stO C.P lim d t σ (valO a x) (valO a y)) fun s => CK C d ops s (putD a dst .undef) sf' ∧ WV C lim d ops l (i + 1) sf' (putD a dst .undef) s Q := by
  rw [WV_eff rfl rfl, hs]
  exact W1_store
theorem CK1_load {gd : Option (Nat × Bool)} : CK1 C d σ a ⟨dst, .load t x, ty, pos, aft, gd⟩ ↔ Opt (ldO C.P σ t (valO a x)) fun v => ∀ u, dst = some u → v = a u := WF1_of fun _ => map_fst _
end
/-! ### What gathers parts -/
def OwnB (s : Sto) (d : Nat) (v : MV) (t : List UInt8) : Prop := (v = .sl .nil [] ∧ t = []) ∨ ∃ c, v = .sl (.byt d c 5) (bytesM t) ∧ t ≠ [] ∧ s.ow d c = some (t.length, 1) ∧ c < s.ct d
structure CB (s : Sto) (l : Mv.Loc) (acc : List Pt) (t : List UInt8) : Prop where
  ex : ∃ q p v, s.ob l = some [q, p, v] ∧ okA1 l p = true ∧ OwnP s l.d q acc ∧ OwnB s l.d v t
theorem ownB_mono {s s' : Sto} {d : Nat} {v : MV} {t : List UInt8} (h : OwnB s d v t) (e : ∀ c, c < s.ct d → s.ow d c = some (t.length, 1) → s'.ow d c = some (t.length, 1)) (k : s.ct d ≤ s'.ct d) : OwnB s' d v t := by
  rcases h with h | ⟨c, h1, h2, h3, h4⟩
  · exact .inl h
  · exact .inr ⟨c, h1, h2, e c h4 h3, Nat.lt_of_lt_of_le h4 k⟩
theorem ownP_monoE {s s' : Sto} {d : Nat} {v : MV} {acc : List Pt} (h : OwnP s d v acc) (e : ∀ c, c < s.ct d → s.ow d c = some (acc.length, 2) → s'.ow d c = some (acc.length, 2)) (k : s.ct d ≤ s'.ct d) : OwnP s' d v acc := by
  rcases h with h | ⟨c, h1, h2, h3⟩
  · exact .inl h
  · exact .inr ⟨c, h1, e c h3 h2, Nat.lt_of_lt_of_le h3 k⟩
theorem CB.cut {s : Sto} {l : Mv.Loc} {acc : List Pt} {t : List UInt8} {d : Nat} (h : CB s l acc t) (hl : l.d < d) : CB (s.cut d) l acc t := by
  obtain ⟨q, p, v, h1, h2, h3, h4⟩ := h
  refine ⟨q, p, v, by simp only [Sto.cut, if_pos hl]; exact h1, h2, ownP_monoE h3 (fun c _ e => by simp only [Sto.cut, if_pos hl]; exact e) (by simp only [Sto.cut, if_pos hl]; exact Nat.le_refl _), ownB_mono h4 (fun c _ e => by simp only [Sto.cut, if_pos hl]; exact e) (by simp only [Sto.cut, if_pos hl]; exact Nat.le_refl _)⟩
/-- Tokens of another depth don't matter. -/
theorem CB.tok {s : Sto} {l : Mv.Loc} {acc : List Pt} {t : List UInt8} {d c : Nat} {x : Option (Nat × Nat)} (h : CB s l acc t) (hl : l.d ≠ d) : CB ((s.own d c x).tick d) l acc t := by
  obtain ⟨q, p, v, h1, h2, h3, h4⟩ := h
  have e1 : ∀ c', ((s.own d c x).tick d).ow l.d c' = s.ow l.d c' := fun c' => by simp only [Sto.tick, Sto.own]; rw [if_neg (fun e => hl e.1)]
  have e2 : ((s.own d c x).tick d).ct l.d = s.ct l.d := by simp only [Sto.tick, Sto.own, upd]; rw [if_neg hl]
  exact ⟨q, p, v, h1, h2, ownP_monoE h3 (fun c' _ e => by rw [e1]; exact e) (by rw [e2]; exact Nat.le_refl _), ownB_mono h4 (fun c' _ e => by rw [e1]; exact e) (by rw [e2]; exact Nat.le_refl _)⟩
/-- Below a depth all but one object, and the tokens of its depth, is as it was. -/
structure SB (d : Nat) (l : Mv.Loc) (σ s : Sto) : Prop where
  ob : ∀ l', l'.d < d → l' ≠ l → s.ob l' = σ.ob l'
  ow : ∀ k c, k < d → k ≠ l.d → s.ow k c = σ.ow k c
  ct : ∀ k, k < d → k ≠ l.d → s.ct k = σ.ct k
theorem SB.refl (d : Nat) (l : Mv.Loc) (σ : Sto) : SB d l σ σ := ⟨fun _ _ _ => rfl, fun _ _ _ _ => rfl, fun _ _ _ => rfl⟩
theorem SB.trans {d : Nat} {l : Mv.Loc} {a b c : Sto} (h : SB d l a b) (k : SB d l b c) : SB d l a c := ⟨fun l' h1 h2 => (k.ob l' h1 h2).trans (h.ob l' h1 h2), fun q c h1 h2 => (k.ow q c h1 h2).trans (h.ow q c h1 h2), fun q h1 h2 => (k.ct q h1 h2).trans (h.ct q h1 h2)⟩
theorem SB.le {d d' : Nat} {l : Mv.Loc} {a b : Sto} (h : SB d l a b) (hd : d' ≤ d) : SB d' l a b := ⟨fun l' h1 h2 => h.ob l' (by omega) h2, fun q c h1 h2 => h.ow q c (by omega) h2, fun q h1 h2 => h.ct q (by omega) h2⟩
theorem SB.set {d : Nat} {l : Mv.Loc} {a b : Sto} (h : SB d l a b) (cs : List MV) : SB d l a (b.set l cs) :=
  ⟨fun l' h1 h2 => by simp only [Sto.set]; rw [if_neg h2]; exact h.ob l' h1 h2, h.ow, h.ct⟩
theorem SB.own {d c : Nat} {l : Mv.Loc} {a b : Sto} (h : SB d l a b) {e : Nat} (he : e = l.d ∨ d ≤ e) (v : Option (Nat × Nat)) : SB d l a (b.own e c v) :=
  ⟨h.ob, fun k c' h1 h2 => by simp only [Sto.own]; rw [if_neg (by omega)]; exact h.ow k c' h1 h2, h.ct⟩
theorem SB.tick {d : Nat} {l : Mv.Loc} {a b : Sto} (h : SB d l a b) {e : Nat} (he : e = l.d ∨ d ≤ e) : SB d l a (b.tick e) :=
  ⟨h.ob, h.ow, fun k h1 h2 => by simp only [Sto.tick, upd]; rw [if_neg (by omega)]; exact h.ct k h1 h2⟩
theorem SB.cut {d : Nat} {l : Mv.Loc} {a b : Sto} (h : SB d l a b) : SB d l a (b.cut d) :=
  ⟨fun l' h1 h2 => by simp only [Sto.cut, if_pos h1]; exact h.ob l' h1 h2, fun k c h1 h2 => by simp only [Sto.cut, if_pos h1]; exact h.ow k c h1 h2, fun k h1 h2 => by simp only [Sto.cut, if_pos h1]; exact h.ct k h1 h2⟩
theorem SB.cutE {d e : Nat} {l : Mv.Loc} {a b : Sto} (h : SB e l a b) (hd : d ≤ e) (hl : d ≤ l.d) : b.cut d = a.cut d := by
  refine Sto.ext' (fun l' => ?_) (fun k c => ?_) fun k => ?_
  · simp only [Sto.cut]
    split
    · rename_i h1; exact h.ob l' (by omega) (by rintro rfl; omega)
    · rfl
  · simp only [Sto.cut]
    split
    · rename_i h1; exact h.ow k c (by omega) (by omega)
    · rfl
  · simp only [Sto.cut]
    split
    · rename_i h1; exact h.ct k (by omega) (by omega)
    · rfl
theorem und_cut (s : Sto) (d : Nat) : (s.cut d).Und d := Und.cut s d
theorem okz_bytesM (t : List UInt8) : okz 1 (bytesM t) = true := by
  simp [okz, bytesM]
theorem bytesM_app (a b : List UInt8) : bytesM (a ++ b) = bytesM a ++ bytesM b := by simp [bytesM]
theorem bytesOf_M : ∀ t : List UInt8, bytesOf (bytesM t) = some t
  | [] => rfl
  | b :: t => by
    have := bytesOf_M t
    simp only [bytesM, List.map_cons] at this ⊢
    simp only [bytesOf, this, Option.map_some, Int.toNat_natCast]
    simp
theorem inB_M : ∀ t : List UInt8, inB (bytesM t) = true
  | [] => rfl
  | b :: t => by
    have := inB_M t
    have hb := b.toNat_lt
    simp only [bytesM, List.map_cons] at this ⊢
    simp only [inB, this, Bool.and_true, decide_eq_true_eq]
    omega
/-- WriteByte. -/
theorem wB1 {lim d : Nat} {σ : Sto} {l : Mv.Loc} {acc : List Pt} {t : List UInt8} {c : Int} (hc : 0 ≤ c ∧ c < 256) (h : CB σ l acc t) (hlim : lim ≤ l.d) (hl : l.d ≤ d) (hB : isB1 l = true) (hu : σ.Und (d + 1)) (hb : t.length + 1 ≤ 140737488355328) {P : MV → Sto → Prop}
    (hq : ∀ s v, CB s l acc (t ++ [UInt8.ofNat c.toNat]) → SB (d + 1) l σ s → s.Und (d + 1) → P v s) : WFh X lim (d + 1) 20 [.ptr l 1, .int .u8 c] σ (TagF P) := by
  obtain ⟨q, p, v, h1, h2, h3, h4⟩ := h
  have hoA : okA1 l (.ptr l 1) = true := by simp [okA1]
  rcases h4 with ⟨rfl, rfl⟩ | ⟨k, rfl, h4, h5, h6⟩
  · refine ⟨1, (.junk, ((σ.own l.d (σ.ct l.d) (some (1, 1))).tick l.d).set l [q, .ptr l 1, .sl (.byt l.d (σ.ct l.d) 5) (bytesM [UInt8.ofNat c.toNat])]), ?_, hq _ _ ⟨q, .ptr l 1, _, by simp [Sto.set], hoA, ?_, .inr ⟨σ.ct l.d, rfl, by simp, by simp [Sto.set, Sto.tick, Sto.own], by simp [Sto.set, Sto.tick, Sto.own, upd]⟩⟩ ((((SB.refl ..).own (.inl rfl) _).tick (.inl rfl)).set _) (und_set (und_tick (und_own hu (by omega) _ _) (by omega)) (by omega) _)⟩
    · show wbyteP1 lim (d + 1) [.ptr l 1, .int .u8 c] σ = _
      have e : bapp lim l.d 5 σ .nil [] [UInt8.ofNat c.toNat] = some (.sl (.byt l.d (σ.ct l.d) 5) (bytesM [UInt8.ofNat c.toNat]), (σ.own l.d (σ.ct l.d) (some (1, 1))).tick l.d) := rfl
      simp only [wbyteP1, hlim, hl, hB, hc.1, hc.2, and_self, if_true, h1, h2, e, Option.map_some]
    · exact ownP_monoE h3 (fun c' hc' e => by simp only [Sto.set, Sto.tick, Sto.own]; rw [if_neg (by omega)]; exact e) (by simp [Sto.set, Sto.tick, Sto.own, upd])
  · refine ⟨1, (.junk, (σ.own l.d k (some (t.length + 1, 1))).set l [q, .ptr l 1, .sl (.byt l.d k 5) (bytesM (t ++ [UInt8.ofNat c.toNat]))]), ?_, hq _ _ ⟨q, .ptr l 1, _, by simp [Sto.set], hoA, ?_, .inr ⟨k, rfl, by simp, by simp [Sto.set, Sto.own], h6⟩⟩ (((SB.refl ..).own (.inl rfl) _).set _) (und_set (und_own hu (by omega) _ _) (by omega) _)⟩
    · show wbyteP1 lim (d + 1) [.ptr l 1, .int .u8 c] σ = _
      have e : bapp lim l.d 5 σ (.byt l.d k 5) (bytesM t) [UInt8.ofNat c.toNat] = some (.sl (.byt l.d k 5) (bytesM (t ++ [UInt8.ofNat c.toNat])), σ.own l.d k (some (t.length + 1, 1))) := by
        unfold bapp
        rw [if_neg (by simp), if_pos ⟨okz_bytesM t, by rw [bytesM_len]; exact hb⟩]
        simp only
        rw [if_pos ⟨hlim, trivial, by rw [bytesM_len]; exact h5⟩, bytesM_app, bytesM_len]
        rfl
      simp only [wbyteP1, hlim, hl, hB, hc.1, hc.2, and_self, if_true, h1, h2, e, Option.map_some]
    · exact ownP_monoE h3 (fun c' hc' e => by
        simp only [Sto.set, Sto.own]
        rw [if_neg (fun q => ?_)]
        · exact e
        · rw [q.2, h5] at e
          simp at e) (Nat.le_refl _)
/-- String, of some bytes. -/
theorem wS1 {lim d : Nat} {σ : Sto} {l : Mv.Loc} {acc : List Pt} {t : List UInt8} {q p v : MV} (h1 : σ.ob l = some [q, p, v]) (hq : OwnP σ l.d q acc) (hv : OwnB σ l.d v t) (ht : t ≠ []) (hlim : lim ≤ l.d) (hl : l.d ≤ d) (hu : σ.Und (d + 1)) (hb : t.length ≤ 140737488355328) {P : MV → Sto → Prop}
    (hk : ∀ s, s.ob l = some [q, p, .sl .no (bytesM t)] → OwnP s l.d q acc → SB (d + 1) l σ s → s.Und (d + 1) → s.ct = σ.ct → P (.str t) s) : WFh X lim (d + 1) 57 [.ptr l 1] σ (TagF P) := by
  rcases hv with ⟨rfl, rfl⟩ | ⟨k, rfl, h4, h5, h6⟩
  · exact absurd rfl ht
  · refine ⟨1, (.str t, (σ.own l.d k none).set l [q, p, .sl .no (bytesM t)]), ?_, hk _ (by simp [Sto.set]) ?_ (((SB.refl ..).own (.inl rfl) _).set _) (und_set (und_own hu (by omega) _ _) (by omega) _) rfl⟩
    · show bstrP1 lim (d + 1) [.ptr l 1] σ = _
      simp only [bstrP1, hlim, hl, and_self, if_true, h1, bytesOf_M, Nat.le_refl, ne_eq, h4, not_false_eq_true, okz_bytesM, inB_M, bytesM_len, hb, h5, true_and]
    · exact ownP_monoE hq (fun c' hc' e => by
        simp only [Sto.set, Sto.own]
        rw [if_neg (fun q => ?_)]
        · exact e
        · rw [q.2, h5] at e
          simp at e) (Nat.le_refl _)
/-- A part more, at a greater depth, kept in the object. -/
theorem app_keep {lim d : Nat} {σ : Sto} {l : Mv.Loc} {acc : List Pt} {q p v : MV} {pt : Pt} {tk : Tok} (h1 : σ.ob l = some [q, p, v]) (hq : OwnP σ l.d q acc) (hlim : lim ≤ l.d) (hl : l.d < d) (hb : acc.length ≤ 100000) (hu : σ.Und (d + 1)) :
    ∃ z s1 s2 q', appO X.P lim d 23 σ q (.sl tk [[.int .i64 pt.1, .str pt.2]]) = some (z, s1) ∧ stK X.P lim d 23 s1 (.ptr l 0) z = some s2 ∧ s2.ob l = some [q', p, v] ∧ OwnP s2 l.d q' (acc ++ [pt]) ∧ SB d l σ s2 ∧ s2.Und (d + 1) ∧ (∀ v t, OwnB σ l.d v t → OwnB s2 l.d v t) := by
  have hd : [[MV.int .i64 pt.1, MV.str pt.2]].mapM datas = some [[MV.int .i64 pt.1, MV.str pt.2]] := rfl
  have hsh : shp X.P 23 = some (false, 1) := by kernel_rfl
  rcases hq with ⟨rfl, rfl⟩ | ⟨c, rfl, ho, hlt⟩
  · have e1 : appO X.P lim d 23 σ (.sl .nil []) (.sl tk [[.int .i64 pt.1, .str pt.2]]) = some (.sl (.own d (σ.ct d)) [[.int .i64 pt.1, .str pt.2]], (σ.own d (σ.ct d) (some (1, 2))).tick d) := by
      simp only [appO, slc_parts]
      rw [if_neg (by simp), if_pos (by refine ⟨rfl, rfl, by decide, by decide, by simp⟩), hd]
      simp only [if_true]
      rfl
    have hne : ¬ (l.d = d) := by omega
    let s1 := (σ.own d (σ.ct d) (some (1, 2))).tick d
    have hc1 : s1.ct l.d = σ.ct l.d := by simp only [s1, Sto.tick, Sto.own, upd]; rw [if_neg hne]
    have e2 : stK X.P lim d 23 s1 (.ptr l 0) (.sl (.own d (σ.ct d)) [[.int .i64 pt.1, .str pt.2]]) = some ((s1.retok d (σ.ct d) l.d (1, 2)).set l [.sl (.own l.d (σ.ct l.d)) [[.int .i64 pt.1, .str pt.2]], p, v]) := by
      have ho1 : s1.ob l = some [.sl .nil [], p, v] := h1
      have how : s1.ow d (σ.ct d) = some (1, 2) := by simp [s1, Sto.tick, Sto.own]
      simp only [stK, hsh, ho1]
      rw [if_pos ⟨trivial, by simp, hl, hlim⟩]
      rw [if_neg (by omega), if_pos (Nat.le_refl d), how, hc1]
      rfl
    refine ⟨_, s1, _, .sl (.own l.d (σ.ct l.d)) [[.int .i64 pt.1, .str pt.2]], e1, e2, by simp [Sto.set], .inr ⟨σ.ct l.d, rfl, ?_, ?_⟩, ?_, ?_, fun v t hv => ownB_mono hv (fun c hc e => ?_) ?_⟩
    · simp [Sto.set, Sto.retok, Sto.tick, Sto.own, hc1]
    · simp [Sto.set, Sto.retok, Sto.tick, Sto.own, upd, s1, hne]
    · refine SB.set ?_ _
      unfold Sto.retok
      exact SB.tick (SB.own (SB.own (SB.tick (SB.own (SB.refl ..) (.inr (Nat.le_refl d)) _) (.inr (Nat.le_refl d))) (.inr (Nat.le_refl d)) _) (.inl rfl) _) (.inl rfl)
    · refine und_set ?_ (by omega) _
      unfold Sto.retok
      exact und_tick (und_own (und_own (und_tick (und_own hu (by omega) _ _) (by omega)) (by omega) _ _) (by omega) _ _) (by omega)
    · simp only [Sto.set, Sto.retok, Sto.tick, Sto.own]
      rw [if_neg (fun q => ?_), if_neg (fun q => hne q.1)]
      · simp only [s1, Sto.tick, Sto.own]
        rw [if_neg (fun q => hne q.1)]
        exact e
      · have := q.2
        rw [hc1] at this
        omega
    · simp [Sto.set, Sto.retok, Sto.tick, Sto.own, upd, s1, hne]
  · have e1 : appO X.P lim d 23 σ (.sl (.own l.d c) (encPs acc)) (.sl tk [[.int .i64 pt.1, .str pt.2]]) = some (.sl (.own l.d c) (encPs (acc ++ [pt])), σ.own l.d c (some (acc.length + 1, 2))) := by
      simp only [appO, slc_parts]
      rw [if_neg (by simp), if_pos (by refine ⟨encPs_okz acc, rfl, by decide, by decide, by rw [encPs_len]; simp; omega⟩), hd]
      simp only [encPs_len]
      rw [if_pos ⟨hlim, ho⟩, encPs_app]
      rfl
    have e2 : stK X.P lim d 23 (σ.own l.d c (some (acc.length + 1, 2))) (.ptr l 0) (.sl (.own l.d c) (encPs (acc ++ [pt]))) = some ((σ.own l.d c (some (acc.length + 1, 2))).set l [.sl (.own l.d c) (encPs (acc ++ [pt])), p, v]) := by
      have ho1 : (σ.own l.d c (some (acc.length + 1, 2))).ob l = some [.sl (.own l.d c) (encPs acc), p, v] := h1
      simp only [stK, hsh, ho1]
      rw [if_pos ⟨trivial, by simp, hl, hlim⟩]
      rw [if_pos (Nat.le_refl _)]
      rfl
    refine ⟨_, _, _, _, e1, e2, by simp [Sto.set], .inr ⟨c, rfl, by simp [Sto.set, Sto.own], hlt⟩, SB.set (SB.own (SB.refl ..) (.inl rfl) _) _, und_set (und_own hu (by omega) _ _) (by omega) _, fun v t hv => ownB_mono hv (fun c' hc e => ?_) (Nat.le_refl _)⟩
    simp only [Sto.set, Sto.own]
    rw [if_neg (fun q => ?_)]
    · exact e
    · rw [q.2, ho] at e
      simp at e
end Go.Proofs.Tryz.E
