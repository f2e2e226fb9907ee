/-
  wfa.grow: in place.
-/
import Derived.Test.YtfpljljjjgicaaaGreatDoorWno
import Derived.Test.YtfpljljjjgicaaaGreatDoorZ2
set_option maxHeartbeats 4000000
set_option linter.unusedSimpArgs false
set_option linter.unusedVariables false
namespace Go.Proofs.YtfpljljjjgicaaaGreatDoor
open Go.RowKit
attribute [local irreducible] Wk Tr
def newW (a : Aut) (back : Bool) (l : List Wt) (t : Trn) : Wt := eitherW a.sp (l.getD t.frm.toNat wt0) (Ext a.sp back t.w (l.getD t.to.toNat wt0))
def stepG (a : Aut) (back : Bool) (cnt : Trn → Bool) (x : List Wt × Bool) (t : Trn) : List Wt × Bool :=
  if cnt t = true then if sameW (newW a back x.1 t) (x.1.getD t.frm.toNat wt0) = true then x else (x.1.set t.frm.toNat (newW a back x.1 t), true) else x
def roundG (a : Aut) (back : Bool) (cnt : Trn → Bool) (l : List Wt) : List Wt × Bool := a.trs.foldl (stepG a back cnt) (l, false)
def growT (a : Aut) (back : Bool) (cnt : Trn → Bool) : Nat → List Wt → Option (List Wt)
  | 0, _ => none
  | k + 1, l => if (roundG a back cnt l).2 = true then growT a back cnt k (roundG a back cnt l).1 else some (roundG a back cnt l).1
/-- A value for each state. -/
structure Vals (a : Aut) (l : List Wt) : Prop where
  len : l.length = a.states.toNat
  ok : ∀ w ∈ l, isB a.sp w = true
theorem Vals.set {a : Aut} {l : List Wt} (h : Vals a l) {w : Wt} (hw : isB a.sp w = true) (i : Nat) : Vals a (l.set i w) :=
  ⟨by rw [List.length_set]; exact h.len, fun x hx => by
    rcases List.mem_or_eq_of_mem_set hx with h1 | rfl
    · exact h.ok x h1
    · exact hw⟩
theorem Vals.new {a : Aut} {back : Bool} {l : List Wt} (ha : a.Ok) (h : Vals a l) {t : Trn} (ht : t ∈ a.trs) : isB a.sp (newW a back l t) = true ∧ ∃ (h1 : t.frm.toNat < l.length) (h2 : t.to.toNat < l.length), isB a.sp l[t.frm.toNat] = true ∧ isB a.sp l[t.to.toNat] = true ∧ newW a back l t = eitherW a.sp l[t.frm.toNat] (Ext a.sp back t.w l[t.to.toNat]) := by
  obtain ⟨k1, k2, _⟩ := ha.trs t ht
  have hl := h.len
  have h1 : t.frm.toNat < l.length := by omega
  have h2 : t.to.toNat < l.length := by omega
  have e1 : isB a.sp l[t.frm.toNat] = true := h.ok _ (List.getElem_mem h1)
  have e2 : isB a.sp l[t.to.toNat] = true := h.ok _ (List.getElem_mem h2)
  have e3 : newW a back l t = eitherW a.sp l[t.frm.toNat] (Ext a.sp back t.w l[t.to.toNat]) := by rw [newW, getD_at h1, getD_at h2]
  exact ⟨by rw [e3]; exact eitherW_ok ha.sp e1 (Ext_ok ha.sp (ha.w t ht) e2), h1, h2, e1, e2, e3⟩
theorem grow10 (a : Aut) (ha : a.Ok) (back : Bool) (cnt : Trn → Bool) (cf : FuncId) (cfn : Func) (ccode : Code) (hcf : HasBody Tryz.prog cf cfn ccode) (hcnt : ∀ t, FnC Tryz.prog cf [trV t] (fun r => r = .bool (cnt t))) (L0 L1 : List Wt) (k0 : Nat) (hv : Vals a L0) (hg : growT a back cnt k0 L0 = some L1) (q : Nat) : FnE Tryz.prog 31 [autV a, .bool back, .row q 900 a.states.toNat, .fn cf []] q 900 (.row 37 (L0.map wtV)) (.row 37 (L1.map wtV)) (.row q 900 a.states.toNat) := by
  refine FnE.of (fn := Tryz.f31) ⟨Tryz.func31, by kernel_rfl, rfl⟩ Tryz.ntmps31 (by simp) fun w0 S0 l ob0 g0 K hrow hgl hK0 => ?_
  have hmany := ha.many
  refine p_go ?_
  refine p_loopN [1, 2, 3, 4] [(g0 + 1, 4)] (fun n st => ∃ (L : List Wt) (more : Bool), Vals a L ∧ (more = true → growT a back cnt n L = some L1) ∧ (more = false → L = L1) ∧ Low g0 q 900 ob0 st.obj ∧ g0 ≤ st.gen ∧ st.env 9 = .bool more ∧ st.obj q 900 = .row 37 (L.map wtV)) k0 ?_ fun n e ob g1 hK hO hI => ?_
  · exact ⟨L0, true, hv, fun _ => hg, fun h => (by cases h), (by (try dsimp only); repeat (first | exact hlow | exact Low.refl | refine Low.up ?_ (by omega) | refine Low.row ?_)), by first | (dsimp only; omega) | omega, eV_, by exact Eq.trans oB_ hrow⟩
  · obtain ⟨L, more, hV0, hT, hF, hlow, hgen, e9, o900⟩ := hI
    dsimp only at e9 o900 hlow hgen
    simp only [valsE, List.cons.injEq, and_true] at hK
    simp only [valsO, List.cons.injEq, and_true] at hO
    have hE := (⟨hK, hO, e9, o900⟩ : _ ∧ _ ∧ _ ∧ _)
    refine p_go ?_
    refine p_splitC (s := 13) (ht := fun hc13 => ?_) (hf := fun hc13 => ?_)
    · refine p_go ?_
      refine p_loopK [1, 2, 3, 4, 15, 16] [(g0 + 1, 4)] (fun st => ∃ (i : Nat) (M : List Wt) (more2 : Bool), (i ≤ a.trs.length) ∧ ((a.trs.take i).foldl (stepG a back cnt) (L, false) = (M, more2)) ∧ (Vals a M) ∧ (Low g0 q 900 ob0 st.obj) ∧ (g0 ≤ st.gen) ∧ st.env 9 = .bool more2 ∧ st.env 17 = iV i ∧ st.obj q 900 = .row 37 (M.map wtV)) (fun st => a.trs.length - (st.env 17).toN) ?_ fun e ob g2 hK hO hI => ?_
      · exact ⟨0, L, false, by omega, rfl, hV0, (by (try dsimp only); repeat (first | exact hlow | exact Low.refl | refine Low.up ?_ (by omega) | refine Low.row ?_)), by first | (dsimp only; omega) | omega, eV_, eV_, oB_⟩
      · obtain ⟨i, M, more2, hi, hfd, hV, hlow, hgen2, e9, e17, o900⟩ := hI
        dsimp only at e9 e17 o900
        simp only [valsE, List.cons.injEq, and_true] at hK
        simp only [valsO, List.cons.injEq, and_true] at hO
        have hE := (⟨hK, hO, e9, e17, o900⟩ : _ ∧ _ ∧ _ ∧ _ ∧ _)
        dsimp only at hlow hgen2
        refine p_go ?_
        refine p_splitC (s := 18) (ht := fun hc18 => ?_) (hf := fun hc18 => ?_)
        · have hlt : i < a.trs.length := by simpa using hc18
          have hm := List.getElem_mem hlt
          obtain ⟨hvn, hf1, ht1, hv1, hv2, hnw⟩ := hV.new (back := back) ha hm
          obtain ⟨b1, b2, _⟩ := ha.trs _ hm
          have hlen := hV.len
          rw [hnw] at hvn
          refine p_go fun hf => ?_
          refine p_idxMap (j := i) (ht := Tryz.underlying27) (hi := F.ti39.h) (hij := rfl) (hj := hlt) (h := ?_)
          refine p_go fun hf => ?_
          refine p_call (hb := hcf) (hf := hcnt a.trs[i]) (h := ?_)
          refine p_go ?_
          refine p_splitC (s := 24) (ht := fun hc24 => ?_) (hf := fun hc24 => ?_)
          · refine p_go fun hf => ?_
            refine p_add (r := ((i + 1 : Nat) : Int)) (hr := (by first | omega | (simp only [decide_eq_true_eq, decide_eq_false_iff_not, Bool.or_eq_false_iff, Bool.and_eq_true, Bool.not_eq_true', Bool.not_eq_false'] at *; omega))) (hb := (by first | omega | (simp only [decide_eq_true_eq, decide_eq_false_iff_not, Bool.or_eq_false_iff, Bool.and_eq_true, Bool.not_eq_true', Bool.not_eq_false'] at *; omega))) (h := ?_)
            refine p_go ?_
            refine p_some ?_
            refine ⟨⟨(by simp (decide := true) only [valsE, evE, upd, cv, args0, argsFrom, List.length_map, ↓reduceIte, hE] <;> rfl), (by simp (decide := true) only [valsO, updO, upd, true_and, and_true, false_and, and_false, ↓reduceIte, hE] <;> rfl)⟩, ⟨i + 1, M, more2, hlt, by rw [fold_snoc _ _ hlt, hfd, stepG, if_neg (by simpa using hc24)], hV, (by (try dsimp only); repeat (first | exact hlow | exact Low.refl | refine Low.up ?_ (by omega) | refine Low.row ?_)), by first | (dsimp only; omega) | omega, eV_, eV_, oB_⟩, ?_⟩
            simp (decide := true) only [upd, e17, V.toN, ↓reduceIte]; omega
          · refine p_go fun hf => ?_
            refine p_idxRowN (a.trs[i].frm.toNat) (ht := Tryz.underlying35) (hi := F.ti37.h) (hij := by omega) (hlt := by omega) (h := ?_)
            refine p_loadRowAM (ht := F.agg37.h) (hi := F.ti37.h) (hj := by omega) (hl := wtV_cells _) (h := ?_)
            refine p_go fun hf => ?_
            refine p_idxRowN (a.trs[i].to.toNat) (ht := Tryz.underlying35) (hi := F.ti37.h) (hij := by omega) (hlt := by omega) (h := ?_)
            refine p_loadRowAM (ht := F.agg37.h) (hi := F.ti37.h) (hj := by omega) (hl := wtV_cells _) (h := ?_)
            refine p_call (hx := rfl) (hb := ⟨Tryz.func37, by kernel_rfl, rfl⟩) (hf := wthen back ha.sp (ha.w _ hm) hv2) (h := ?_)
            refine p_call (hx := rfl) (hb := ⟨Tryz.func36, by kernel_rfl, rfl⟩) (hf := wboth ha.sp hv1 (Ext_ok ha.sp (ha.w _ hm) hv2)) (h := ?_)
            refine p_go fun hf => ?_
            refine p_idxRowN (a.trs[i].frm.toNat) (ht := Tryz.underlying35) (hi := F.ti37.h) (hij := by omega) (hlt := by omega) (h := ?_)
            refine p_loadRowAM (ht := F.agg37.h) (hi := F.ti37.h) (hj := by omega) (hl := wtV_cells _) (h := ?_)
            refine p_call (hx := rfl) (hb := ⟨Tryz.func67, by kernel_rfl, rfl⟩) (hf := sameB ha.sp hvn hv1) (h := ?_)
            refine p_go ?_
            refine p_splitC (s := 51) (ht := fun hc51 => ?_) (hf := fun hc51 => ?_)
            · refine p_go fun hf => ?_
              refine p_idxRowN (a.trs[i].frm.toNat) (ht := Tryz.underlying35) (hi := F.ti37.h) (hij := by omega) (hlt := by omega) (h := ?_)
              refine p_storeRow (hi := F.ti37.h) (hc := TI.cells F.ti37.h) (hlt := by simpa using hf1) (hl := .inr ⟨_, rfl⟩) (hro := rfl) (hsz := rfl) (h := ?_)
              rw [set_wtx, ← hnw]
              refine p_go fun hf => ?_
              refine p_add (r := ((i + 1 : Nat) : Int)) (hr := (by first | omega | (simp only [decide_eq_true_eq, decide_eq_false_iff_not, Bool.or_eq_false_iff, Bool.and_eq_true, Bool.not_eq_true', Bool.not_eq_false'] at *; omega))) (hb := (by first | omega | (simp only [decide_eq_true_eq, decide_eq_false_iff_not, Bool.or_eq_false_iff, Bool.and_eq_true, Bool.not_eq_true', Bool.not_eq_false'] at *; omega))) (h := ?_)
              refine p_go ?_
              refine p_some ?_
              have hns : sameW (newW a back M a.trs[i]) (M.getD a.trs[i].frm.toNat wt0) = false := by rw [hnw, getD_at hf1]; simpa using hc51
              refine ⟨⟨(by simp (decide := true) only [valsE, evE, upd, cv, args0, argsFrom, List.length_map, ↓reduceIte, hE] <;> rfl), (by simp (decide := true) only [valsO, updO, upd, true_and, and_true, false_and, and_false, ↓reduceIte, hE] <;> rfl)⟩, ⟨i + 1, M.set a.trs[i].frm.toNat (newW a back M a.trs[i]), true, hlt, by rw [fold_snoc _ _ hlt, hfd, stepG, if_pos (by simpa using hc24), if_neg (by rw [hns]; decide)], hV.set (by rw [hnw]; exact hvn) _, (by (try dsimp only); repeat (first | exact hlow | exact Low.refl | refine Low.up ?_ (by omega) | refine Low.row ?_)), by first | (dsimp only; omega) | omega, eV_, eV_, oB_⟩, ?_⟩
              simp (decide := true) only [upd, e17, V.toN, ↓reduceIte]; omega
            · refine p_go fun hf => ?_
              refine p_add (r := ((i + 1 : Nat) : Int)) (hr := (by first | omega | (simp only [decide_eq_true_eq, decide_eq_false_iff_not, Bool.or_eq_false_iff, Bool.and_eq_true, Bool.not_eq_true', Bool.not_eq_false'] at *; omega))) (hb := (by first | omega | (simp only [decide_eq_true_eq, decide_eq_false_iff_not, Bool.or_eq_false_iff, Bool.and_eq_true, Bool.not_eq_true', Bool.not_eq_false'] at *; omega))) (h := ?_)
              refine p_go ?_
              refine p_some ?_
              have hns : sameW (newW a back M a.trs[i]) (M.getD a.trs[i].frm.toNat wt0) = true := by rw [hnw, getD_at hf1]; simpa using hc51
              refine ⟨⟨(by simp (decide := true) only [valsE, evE, upd, cv, args0, argsFrom, List.length_map, ↓reduceIte, hE] <;> rfl), (by simp (decide := true) only [valsO, updO, upd, true_and, and_true, false_and, and_false, ↓reduceIte, hE] <;> rfl)⟩, ⟨i + 1, M, more2, hlt, by rw [fold_snoc _ _ hlt, hfd, stepG, if_pos (by simpa using hc24), if_pos hns], hV, (by (try dsimp only); repeat (first | exact hlow | exact Low.refl | refine Low.up ?_ (by omega) | refine Low.row ?_)), by first | (dsimp only; omega) | omega, eV_, eV_, oB_⟩, ?_⟩
              simp (decide := true) only [upd, e17, V.toN, ↓reduceIte]; omega
        · have hge : a.trs.length ≤ i := by simpa using hc18
          have hrd : roundG a back cnt L = (M, more2) := by rw [← hfd, List.take_of_length_le hge]; rfl
          refine p_go ?_
          refine p_some ?_
          refine ⟨⟨(by simp (decide := true) only [valsE, evE, upd, cv, args0, argsFrom, List.length_map, ↓reduceIte, hE] <;> rfl), (by simp (decide := true) only [valsO, updO, upd, true_and, and_true, false_and, and_false, ↓reduceIte, hE] <;> rfl)⟩, ?_⟩
          have hT' := hT hc13
          cases n with
          | zero => cases hT'
          | succ n =>
            refine loopN_next (I := fun n st => ∃ (L : List Wt) (more : Bool), Vals a L ∧ (more = true → growT a back cnt n L = some L1) ∧ (more = false → L = L1) ∧ Low g0 q 900 ob0 st.obj ∧ g0 ≤ st.gen ∧ st.env 9 = .bool more ∧ st.obj q 900 = .row 37 (L.map wtV)) (m := n) ?_ (Nat.lt_succ_self n)
            refine ⟨M, more2, hV, fun h => ?_, fun h => ?_, (by (try dsimp only); repeat (first | exact hlow | exact Low.refl | refine Low.up ?_ (by omega) | refine Low.row ?_)), by first | (dsimp only; omega) | omega, eV_, oB_⟩
            · rw [growT, hrd, if_pos h] at hT'; exact hT'
            · rw [growT, hrd, if_neg (fun e => by rw [show more2 = true from e] at h; cases h)] at hT'; exact Option.some.inj hT'
    · refine p_go ?_
      have hLL := hF hc13
      subst hLL
      refine p_retE1 (v := .row q 900 a.states.toNat) rfl eV_ (hK0 _ _ (by first | (dsimp only; omega) | omega) (by (try dsimp only); repeat (first | exact hlow | exact Low.refl | refine Low.up ?_ (by omega) | refine Low.row ?_)) oB_)
end Go.Proofs.YtfpljljjjgicaaaGreatDoor
