/-
  wfa.Value.
-/
import Derived.Test.YtfpljljjjgicaaaGreatDoorWqt
set_option maxHeartbeats 4000000
set_option linter.unusedSimpArgs false
set_option linter.unusedVariables false
namespace Go.Proofs.YtfpljljjjgicaaaGreatDoor
open Go.RowKit
attribute [local irreducible] Wk Tr
def growV (a : Aut) (back : Bool) (cnt : Trn → Bool) (l : List Wt) : List Wt := (growT a back cnt (rankV a l + 1) l).getD []
theorem growV_is {a : Aut} {back : Bool} {cnt : Trn → Bool} {l : List Wt} (ha : a.Ok) (hv : Vals a l) : growT a back cnt (rankV a l + 1) l = some (growV a back cnt l) ∧ Vals a (growV a back cnt l) := by
  obtain ⟨L1, h1, h2⟩ := grow_ends (back := back) (cnt := cnt) ha (rankV a l) l hv (Nat.le_refl _)
  rw [growV, h1]
  exact ⟨rfl, h2⟩
def stepR (a : Aut) (back : Bool) (sym : Int) (l : List Wt) (out : List Wt) (t : Trn) : List Wt :=
  if t.sym = sym then out.set t.frm.toNat (eitherW a.sp (out.getD t.frm.toNat wt0) (Ext a.sp back t.w (l.getD t.to.toNat wt0))) else out
def restW (a : Aut) (back : Bool) (sym : Int) (l : List Wt) : List Wt := a.trs.foldl (stepR a back sym l) (List.replicate a.states.toNat (zeroW a.sp))
def sil (t : Trn) : Bool := decide (t.sym < 0)
def valV (a : Aut) (back : Bool) : List Int → List Wt
  | [] => growV a back sil (endsW a)
  | s :: w => growV a back sil (restW a back s (valV a back w))
theorem zeros_vals {a : Aut} (ha : a.Ok) : Vals a (List.replicate a.states.toNat (zeroW a.sp)) := ⟨by simp, fun w hw => by rw [(List.mem_replicate.1 hw).2]; exact zeroW_ok ha.sp⟩
theorem stepR_vals {a : Aut} {back : Bool} {sym : Int} {l out : List Wt} {t : Trn} (ha : a.Ok) (hl : Vals a l) (ho : Vals a out) (ht : t ∈ a.trs) : Vals a (stepR a back sym l out t) := by
  unfold stepR
  split
  · obtain ⟨k1, k2, _⟩ := ha.trs t ht
    have h1 := ho.len
    have h2 := hl.len
    have h3 : t.frm.toNat < out.length := by omega
    have h4 : t.to.toNat < l.length := by omega
    refine ho.set ?_ _
    rw [getD_at h3, getD_at h4]
    exact eitherW_ok ha.sp (ho.ok _ (List.getElem_mem h3)) (Ext_ok ha.sp (ha.w t ht) (hl.ok _ (List.getElem_mem h4)))
  · exact ho
theorem restW_fold {a : Aut} {back : Bool} {sym : Int} {l : List Wt} (ha : a.Ok) (hl : Vals a l) : ∀ (ts : List Trn) (out : List Wt), (∀ t ∈ ts, t ∈ a.trs) → Vals a out → Vals a (ts.foldl (stepR a back sym l) out)
  | [], _, _, h => h
  | t :: ts, out, ht, h => restW_fold ha hl ts _ (fun x hx => ht x (List.mem_cons_of_mem _ hx)) (stepR_vals ha hl h (ht t (List.mem_cons_self ..)))
theorem restW_vals {a : Aut} {back : Bool} {sym : Int} {l : List Wt} (ha : a.Ok) (hl : Vals a l) : Vals a (restW a back sym l) := restW_fold ha hl _ _ (fun _ h => h) (zeros_vals ha)
def left1 : V → Nat
  | .int _ i => (i + 1).toNat
  | _ => 0
theorem valV_vals {a : Aut} {back : Bool} (ha : a.Ok) : ∀ w : List Int, Vals a (valV a back w)
  | [] => (growV_is ha (ends_vals ha)).2
  | s :: w => (growV_is ha (restW_vals ha (valV_vals ha w))).2
theorem value_bad (a : Aut) (back : Bool) (frm : Int) (w : List Int) (ha : a.Sm) (hw : w.length ≤ 17592186044416) (hb : askedE a [frm] w ≠ 0) : FnC Tryz.prog 10 [autV a, .bool back, iV frm, .sl 3 (w.map iV)] (fun r => r = .tup [wtA wt0, iV (askedE a [frm] w)]) := by
  refine FnC.of (fn := Tryz.f10) ⟨Tryz.func10, by kernel_rfl, rfl⟩ Tryz.ntmps10 (by simp) fun w0 S0 => ?_
  refine p_go fun hf => ?_
  refine p_buildSlice (ht := Tryz.underlying26) (hi := F.ti3.h) (h := ?_)
  refine p_go fun hf => ?_
  refine p_callRow (vs := [autV a, .sl 3 ([frm].map iV), .sl 3 (w.map iV)]) (0 + 1 + 1) 20 (hb := ⟨Tryz.func30, by kernel_rfl, rfl⟩) (hvs := by simp [V.frz]) (hf := asked10 a [frm] w ha (by simp) hw) (h := ?_)
  refine p_go ?_
  refine p_isC (s := 24) (b := true) (hc := by simpa using hb) (h := ?_)
  refine p_go fun hf => ?_
  refine p_build (hi := F.ti37.h) (hpl := F.pl37.h) (h := ?_)
  refine p_go ?_
  refine p_cellNil (g1 := 0 + 1) (d1 := 8) (i := 3) (el := 30) (h := ?_)
  refine p_cellNil (g1 := 0 + 1) (d1 := 8) (i := 4) (el := 90) (h := ?_)
  refine p_cellNil (g1 := 0 + 1) (d1 := 8) (i := 5) (el := 37) (h := ?_)
  refine p_r2 (hp := by rfl)
theorem value_ok (a : Aut) (back : Bool) (frm : Int) (w : List Int) (ha : a.Sm) (hw : w.length ≤ 17592186044416) (hb : askedE a [frm] w = 0) : FnC Tryz.prog 10 [autV a, .bool back, iV frm, .sl 3 (w.map iV)] (fun r => r = .tup [wtA (eitherW a.sp ((valV a back w).getD frm.toNat wt0) ((valV a back w).getD frm.toNat wt0)), iV 0]) := by
  refine FnC.of (fn := Tryz.f10) ⟨Tryz.func10, by kernel_rfl, rfl⟩ Tryz.ntmps10 (by simp) fun w0 S0 => ?_
  obtain ⟨hok, hfr, _⟩ := askedE_ok hb
  have hf0 := hfr frm (by simp)
  have hst := hok.st
  have hmany := hok.many
  refine p_goJ ?_
  refine p_seq ?_
  refine p_goJ fun hf => ?_
  refine p_buildSlice (ht := Tryz.underlying26) (hi := F.ti3.h) (h := ?_)
  refine p_goJ fun hf => ?_
  refine p_callRow (vs := [autV a, .sl 3 ([frm].map iV), .sl 3 (w.map iV)]) (0 + 1 + 1) 20 (hb := ⟨Tryz.func30, by kernel_rfl, rfl⟩) (hvs := by simp [V.frz]) (hf := asked10 a [frm] w ha (by simp) hw) (h := ?_)
  refine p_goJ ?_
  refine p_isC (s := 24) (b := false) (hc := by simpa using hb) (h := ?_)
  refine (p_condF (h := ?_))
  refine (TrC.skip ?_)
  (repeat (first | with_reducible refine Tr.then_normal ?_ | with_reducible refine Tr.block_normal ?_ | with_reducible refine Tr.then_exit ?_ | with_reducible refine Tr.block_exit_same ?_ | with_reducible refine Tr.block_exit_other (by decide) ?_ | with_reducible refine Tr.then_ret ?_ | with_reducible refine Tr.block_ret ?_))
  refine p_joinK [2, 3, 4, 5, 8] [(0 + 1, 4), (0 + 1, 5), (0 + 1, 8)] (fun st => ∃ G : Nat, G ≤ st.gen ∧ 0 + 1 + 1 + 1 + 1 ≤ st.gen ∧ st.env 11 = .ptr G 11 0 ∧ st.obj G 11 = .cells 35 [.row (0 + 1 + 1 + 1 + 1) 900 a.states.toNat] ∧ st.obj (0 + 1 + 1 + 1 + 1) 900 = .row 37 ((valV a back []).map wtV)) ?_ fun e ob g4 hK hO hI => ?_
  · obtain ⟨hgr, _⟩ := growV_is (back := back) (cnt := sil) hok (ends_vals hok)
    refine p_drawFlo 4 (h := fun hf => ?_)
    refine p_go fun hf => ?_
    refine p_callOD 30 (hb := ⟨Tryz.func32, by kernel_rfl, rfl⟩) (hf := ends10 a hok ha.fin) (h := ?_)
    refine p_flo ?_ ?_
    · refine p_go fun hf => ?_
      refine p_floEnd (h := ?_)
      refine p_renSlot (s := 30) 900 (h := ?_)
      refine p_lastOp (h := ?_)
      refine p_callE [(0 + 1, 4), (0 + 1, 5), (0 + 1, 8), (0 + 1 + 1 + 1 + 1, 11)] (hf := grow10 a hok back sil _ _ _ ⟨Tryz.func33, by kernel_rfl, rfl⟩ silentC (endsW a) _ _ (ends_vals hok) hgr _) (hg := Nat.le_refl _) (hos := by simp) (h := fun ob g1 hgl hO o900 => ?_)
      simp only [valsO, List.cons.injEq, and_true] at hO
      have hE := (⟨hO, o900⟩ : _ ∧ _)
      refine p_go ?_
      refine p_some ?_
      refine ⟨⟨(by simp (decide := true) only [valsE, evE, upd, cv, args0, argsFrom, List.length_map, ↓reduceIte, hE] <;> rfl), (by simp (decide := true) only [valsO, updO, upd, true_and, and_true, false_and, and_false, ↓reduceIte, hE] <;> rfl)⟩, _, ?_, ?_, eV_, oB_, oB_⟩
      · dsimp only; omega
      · dsimp only; omega
    · refine p_renSlot (s := 30) 900 (h := ?_)
      refine p_lastOp (h := ?_)
      refine p_callE [(0 + 1, 4), (0 + 1, 5), (0 + 1, 8)] (hf := grow10 a hok back sil _ _ _ ⟨Tryz.func33, by kernel_rfl, rfl⟩ silentC (endsW a) _ _ (ends_vals hok) hgr _) (hg := Nat.le_refl _) (hos := by simp) (h := fun ob g1 hgl hO o900 => ?_)
      simp only [valsO, List.cons.injEq, and_true] at hO
      have hE := (⟨hO, o900⟩ : _ ∧ _)
      refine p_bump fun hf => ?_
      refine p_go ?_
      refine p_some ?_
      refine ⟨⟨(by simp (decide := true) only [valsE, evE, upd, cv, args0, argsFrom, List.length_map, ↓reduceIte, hE] <;> rfl), (by simp (decide := true) only [valsO, updO, upd, true_and, and_true, false_and, and_false, ↓reduceIte, hE] <;> rfl)⟩, _, ?_, ?_, eV_, oB_, oB_⟩
      · dsimp only; omega
      · dsimp only; omega
  · obtain ⟨G, hG, hg4, e11, oG, oR⟩ := hI
    dsimp only at hG hg4 e11 oG oR
    simp only [valsE, List.cons.injEq, and_true] at hK
    simp only [valsO, List.cons.injEq, and_true] at hO
    have hne : ¬ (g4 + 1 + 1 = g4 + 1 + 1 + 1 + 1) := by omega
    have hE := (⟨hK, hO, e11, oG, oR, hne⟩ : _ ∧ _ ∧ _ ∧ _ ∧ _ ∧ _)
    refine p_go fun hf => ?_
    refine p_enter (hb := ⟨Tryz.func34, by kernel_rfl, rfl⟩) (hnt := Tryz.ntmps34) (h := fun a0 => ?_)
    refine p_go ?_
    refine p_retE1 (v := .fn 75 [.ptr (g4 + 1 + 1) 1 0]) rfl eV_ ?_
    refine p_go ?_
    refine p_range (hb := ⟨Tryz.func75, by kernel_rfl, rfl⟩) (hnt := Tryz.ntmps75) (hle := by exact (by decide : 1 + 1 ≤ 19)) (h := fun a1 a2 => ?_)
    refine p_go fun hf => ?_
    refine p_sub (r := ((w.length : Int) - 1)) (hr := by simp) (hb := by omega) (h := ?_)
    refine p_go ?_
    refine p_loopK [0, 1] [(0 + 1, 4), (0 + 1, 5), (0 + 1, 8), (g4 + 1 + 1, 1), (g4 + 1 + 1 + 1 + 1, 0)] (fun st => ∃ (m q : Nat), m ≤ w.length ∧ q ≤ st.gen ∧ g4 + 1 + 1 + 1 + 1 ≤ st.gen ∧ st.env 3 = iV ((m : Int) - 1) ∧ st.obj q 900 = .row 37 ((valV a back (w.drop m)).map wtV) ∧ st.obj G 11 = .cells 35 [.row q 900 a.states.toNat]) (fun st => left1 (st.env 3)) ?_ fun eI obI gI hK1 hO1 hI => ?_
    · exact ⟨w.length, 0 + 1 + 1 + 1 + 1, Nat.le_refl _, by dsimp only; omega, by dsimp only; omega, eV_, by rw [List.drop_length]; exact oB_, oB_⟩
    · obtain ⟨m, q, hm, hq, hgI, e3, oR, oG⟩ := hI
      dsimp only at hq hgI e3 oR oG
      simp only [valsE, List.cons.injEq, and_true] at hK1
      simp only [valsO, List.cons.injEq, and_true] at hO1
      have hE := (⟨hK, e11, hK1, hO1, e3, oR, oG, hne⟩ : _ ∧ _ ∧ _ ∧ _ ∧ _ ∧ _ ∧ _ ∧ _)
      have hvl := valV_vals (back := back) hok (w.drop m)
      refine p_go ?_
      refine p_cond (ht := fun hc => ?_) (hf := fun hc => ?_)
      · obtain ⟨m, rfl⟩ : ∃ k, m = k + 1 := ⟨m - 1, by have : 0 ≤ (m : Int) - 1 := (by simpa using hc); omega⟩
        have hmw : m < w.length := by omega
        refine p_go fun hf => ?_
        refine p_idxMap (j := m) (ht := Tryz.underlying26) (hi := F.ti3.h) (hij := by omega) (hj := hmw) (h := ?_)
        refine p_go fun hf => ?_
        refine p_yield (h := fun a3 b3 => ?_)
        refine p_go ?_
        refine p_beg (h := ?_)
        refine p_go fun hf => ?_
        refine p_makeA (n := a.states.toNat) (by decide) (by repeat (first | exact hf _ | with_reducible rfl | rw [updO_off (by decide)])) Tryz.underlying35 F.ti37.h rfl (by decide) (by simp [Value.cells, cv] <;> rfl) rfl (by rw [show ((a.states.toNat : Nat) : Int) = a.states by omega]; exact eV_) (by omega) (by omega) ?_
        refine p_go ?_
        refine p_loopK [4, 5, 11, 13, 14, 40] [(0 + 1, 4), (0 + 1, 5), (0 + 1, 8), (g4 + 1 + 1, 1), (g4 + 1 + 1 + 1 + 1, 0), (q, 900), (G, 11)] (fun st => ∃ i : Nat, i ≤ a.states.toNat ∧ gI + 1 + 1 + 1 + 1 ≤ st.gen ∧ st.env 41 = iV i ∧ st.obj (gI + 1 + 1 + 1 + 1) 38 = .row 37 ((List.range a.states.toNat).map fun j => if j < i then V.agg (wtL (zeroW a.sp)) else (V.agg [.bool false, .int .i64 0, .int .u64 0, .nil, .nil, .nil]))) (fun st => a.states.toNat - (st.env 41).toN) ?_ fun eA obA gA hKA hOA hIA => ?_
        · exact ⟨0, by omega, by dsimp only; omega, eV_, by refine Eq.trans oB_ ?_; exact congrArg _ (fill_start id (fun _ => V.agg (wtL (zeroW a.sp))) _ _)⟩
        · obtain ⟨i, hi, hgA, e41, o38⟩ := hIA
          dsimp only at hgA e41 o38
          simp only [valsE, List.cons.injEq, and_true] at hKA
          simp only [valsO, List.cons.injEq, and_true] at hOA
          have hE := (⟨hKA, hOA, e41, o38, hne⟩ : _ ∧ _ ∧ _ ∧ _ ∧ _)
          refine p_go ?_
          refine p_cond (ht := fun hc => ?_) (hf := fun hc => ?_)
          · have hlt : i < a.states.toNat := by simp at hc; omega
            refine p_go fun hf => ?_
            refine p_call (hx := rfl) (hb := ⟨Tryz.func35, by kernel_rfl, rfl⟩) (hf := wzero a.sp hok.sp) (h := ?_)
            refine p_idxRowN (i) (ht := Tryz.underlying35) (hi := F.ti37.h) (hij := rfl) (hlt := hlt) (h := ?_)
            refine p_storeRowAF (f' := fun j => if j < i + 1 then V.agg (wtL (zeroW a.sp)) else (V.agg [.bool false, .int .i64 0, .int .u64 0, .nil, .nil, .nil])) F.ti37.h (TI.cells F.ti37.h) eV_ oB_ (hlt) eV_ rfl rfl (fun j _ => fill_next id (fun _ => V.agg (wtL (zeroW a.sp))) (V.agg [.bool false, .int .i64 0, .int .u64 0, .nil, .nil, .nil]) i j rfl) ?_
            refine p_go fun hf => ?_
            refine p_add (r := ((i + 1 : Nat) : Int)) (hr := (by first | omega | (simp only [decide_eq_true_eq, decide_eq_false_iff_not, Bool.or_eq_false_iff, Bool.and_eq_true, Bool.not_eq_true', Bool.not_eq_false'] at *; omega))) (hb := (by first | omega | (simp only [decide_eq_true_eq, decide_eq_false_iff_not, Bool.or_eq_false_iff, Bool.and_eq_true, Bool.not_eq_true', Bool.not_eq_false'] at *; omega))) (h := ?_)
            refine p_go ?_
            refine p_some ?_
            refine ⟨⟨(by simp (decide := true) only [valsE, evE, upd, cv, args0, argsFrom, List.length_map, ↓reduceIte, hE] <;> rfl), (by simp (decide := true) only [valsO, updO, upd, true_and, and_true, false_and, and_false, ↓reduceIte, hE] <;> rfl)⟩, ⟨i + 1, hlt, by dsimp only; omega, eV_, oB_⟩, ?_⟩
            simp (decide := true) only [upd, e41, V.toN, ↓reduceIte]; omega
          · have hge : a.states.toNat ≤ i := by simp at hc; omega
            refine p_go ?_
            refine p_loopK [4, 5, 11, 13, 14, 52, 53] [(0 + 1, 4), (0 + 1, 5), (0 + 1, 8), (g4 + 1 + 1, 1), (g4 + 1 + 1 + 1 + 1, 0), (q, 900), (G, 11)] (fun st => ∃ i : Nat, i ≤ a.trs.length ∧ gI + 1 + 1 + 1 + 1 ≤ st.gen ∧ st.env 54 = iV i ∧ st.obj (gI + 1 + 1 + 1 + 1) 38 = .row 37 (((a.trs.take i).foldl (stepR a back w[m] (valV a back (w.drop (m + 1)))) (List.replicate a.states.toNat (zeroW a.sp))).map wtV)) (fun st => a.trs.length - (st.env 54).toN) ?_ fun eB obB gB hKB hOB hIB => ?_
            · exact ⟨0, by omega, by dsimp only; omega, eV_, by refine Eq.trans oB_ ?_; rw [List.take_zero, List.foldl_nil, ← rep_wt]; exact congrArg _ (List.map_congr_left fun j hj => if_pos (by rw [List.mem_range] at hj; omega))⟩
            · obtain ⟨i, hi2, hgB, e54, o38⟩ := hIB
              dsimp only at hgB e54 o38
              simp only [valsE, List.cons.injEq, and_true] at hKB
              simp only [valsO, List.cons.injEq, and_true] at hOB
              have hE := (⟨hKB, hOB, e54, o38, hne⟩ : _ ∧ _ ∧ _ ∧ _ ∧ _)
              refine p_go ?_
              refine p_cond (ht := fun hc => ?_) (hf := fun hc => ?_)
              · have hlt : i < a.trs.length := by simpa using hc
                refine p_go fun hf => ?_
                refine p_idxMap (j := i) (ht := Tryz.underlying27) (hi := F.ti39.h) (hij := rfl) (hj := hlt) (h := ?_)
                refine p_go ?_
                have hm' := List.getElem_mem hlt
                obtain ⟨b1, b2, _⟩ := hok.trs _ hm'
                have hVM := restW_fold (back := back) (sym := w[m]) hok hvl (a.trs.take i) (List.replicate a.states.toNat (zeroW a.sp)) (fun t ht => List.mem_of_mem_take ht) (zeros_vals hok)
                have hl1 := hVM.len
                have hl2 := hvl.len
                have hf1 : a.trs[i].frm.toNat < ((a.trs.take i).foldl (stepR a back w[m] (valV a back (w.drop (m + 1)))) (List.replicate a.states.toNat (zeroW a.sp))).length := by omega
                have ht1 : a.trs[i].to.toNat < (valV a back (w.drop (m + 1))).length := by omega
                refine p_cond (ht := fun hc2 => ?_) (hf := fun hc2 => ?_)
                · refine p_go fun hf => ?_
                  refine p_idxRowN (a.trs[i].frm.toNat) (ht := Tryz.underlying35) (hi := F.ti37.h) (hij := by omega) (hlt := by omega) (h := ?_)
                  refine p_loadRowAM (ht := F.agg37.h) (hi := F.ti37.h) (hj := hf1) (hl := wtV_cells _) (h := ?_)
                  refine p_go fun hf => ?_
                  refine p_idxRowN (a.trs[i].to.toNat) (ht := Tryz.underlying35) (hi := F.ti37.h) (hij := by omega) (hlt := by omega) (h := ?_)
                  refine p_loadRowAM (ht := F.agg37.h) (hi := F.ti37.h) (hj := ht1) (hl := wtV_cells _) (h := ?_)
                  refine p_call (hx := rfl) (hb := ⟨Tryz.func37, by kernel_rfl, rfl⟩) (hf := wthen back hok.sp (hok.w _ hm') (hvl.ok _ (List.getElem_mem ht1))) (h := ?_)
                  refine p_call (hx := rfl) (hb := ⟨Tryz.func36, by kernel_rfl, rfl⟩) (hf := wboth hok.sp (hVM.ok _ (List.getElem_mem hf1)) (Ext_ok hok.sp (hok.w _ hm') (hvl.ok _ (List.getElem_mem ht1)))) (h := ?_)
                  refine p_idxRowN (a.trs[i].frm.toNat) (ht := Tryz.underlying35) (hi := F.ti37.h) (hij := by omega) (hlt := by omega) (h := ?_)
                  refine p_storeRow (hi := F.ti37.h) (hc := TI.cells F.ti37.h) (hlt := by simpa using hf1) (hl := .inr ⟨_, rfl⟩) (hro := rfl) (hsz := rfl) (h := ?_)
                  rw [set_wtx]
                  refine p_go fun hf => ?_
                  refine p_add (r := ((i + 1 : Nat) : Int)) (hr := (by first | omega | (simp only [decide_eq_true_eq, decide_eq_false_iff_not, Bool.or_eq_false_iff, Bool.and_eq_true, Bool.not_eq_true', Bool.not_eq_false'] at *; omega))) (hb := (by first | omega | (simp only [decide_eq_true_eq, decide_eq_false_iff_not, Bool.or_eq_false_iff, Bool.and_eq_true, Bool.not_eq_true', Bool.not_eq_false'] at *; omega))) (h := ?_)
                  refine p_go ?_
                  refine p_some ?_
                  refine ⟨⟨(by simp (decide := true) only [valsE, evE, upd, cv, args0, argsFrom, List.length_map, ↓reduceIte, hE] <;> rfl), (by simp (decide := true) only [valsO, updO, upd, true_and, and_true, false_and, and_false, ↓reduceIte, hE] <;> rfl)⟩, ⟨i + 1, hlt, by dsimp only; omega, eV_, by rw [fold_snoc _ _ hlt, stepR, if_pos (by simpa using hc2), getD_at hf1, getD_at ht1]; exact oB_⟩, ?_⟩
                  simp (decide := true) only [upd, e54, V.toN, ↓reduceIte]; omega
                · refine p_go fun hf => ?_
                  refine p_add (r := ((i + 1 : Nat) : Int)) (hr := (by first | omega | (simp only [decide_eq_true_eq, decide_eq_false_iff_not, Bool.or_eq_false_iff, Bool.and_eq_true, Bool.not_eq_true', Bool.not_eq_false'] at *; omega))) (hb := (by first | omega | (simp only [decide_eq_true_eq, decide_eq_false_iff_not, Bool.or_eq_false_iff, Bool.and_eq_true, Bool.not_eq_true', Bool.not_eq_false'] at *; omega))) (h := ?_)
                  refine p_go ?_
                  refine p_some ?_
                  refine ⟨⟨(by simp (decide := true) only [valsE, evE, upd, cv, args0, argsFrom, List.length_map, ↓reduceIte, hE] <;> rfl), (by simp (decide := true) only [valsO, updO, upd, true_and, and_true, false_and, and_false, ↓reduceIte, hE] <;> rfl)⟩, ⟨i + 1, hlt, by dsimp only; omega, eV_, by rw [fold_snoc _ _ hlt, stepR, if_neg (by simpa using hc2)]; exact oB_⟩, ?_⟩
                  simp (decide := true) only [upd, e54, V.toN, ↓reduceIte]; omega
              · have hge2 : a.trs.length ≤ i := by simpa using hc
                rw [List.take_of_length_le hge2] at o38
                have hE := (⟨hKB, hOB, e54, o38, hne⟩ : _ ∧ _ ∧ _ ∧ _ ∧ _)
                have hVR := restW_vals (back := back) (sym := w[m]) hok hvl
                obtain ⟨hgr, _⟩ := growV_is (back := back) (cnt := sil) hok hVR
                refine p_go fun hf => ?_
                refine p_bare ?_
                refine p_renSlot (s := 88) 900 (h := ?_)
                refine p_lastOp (h := ?_)
                refine p_callE [(0 + 1, 4), (0 + 1, 5), (0 + 1, 8), (g4 + 1 + 1, 1), (g4 + 1 + 1 + 1 + 1, 0), (G, 11)] (hf := grow10 a hok back sil _ _ _ ⟨Tryz.func33, by kernel_rfl, rfl⟩ silentC (restW a back w[m] (valV a back (w.drop (m + 1)))) _ _ hVR hgr _) (hg := Nat.le_refl _) (hos := by simp; omega) (h := fun obC gC hglC hOC o900 => ?_)
                simp only [valsO, List.cons.injEq, and_true] at hOC
                have hE := (⟨hKB, hOC, o900, hne⟩ : _ ∧ _ ∧ _ ∧ _)
                refine p_go ?_
                refine p_rndN ?_
                refine p_yldK (h := ?_)
                have hE := (⟨hK, e11, hK1, hOC, e3, o900, hne⟩ : _ ∧ _ ∧ _ ∧ _ ∧ _ ∧ _ ∧ _)
                refine p_go fun hf => ?_
                refine p_sub (r := ((m : Int) - 1)) (hr := by omega) (hb := by omega) (h := ?_)
                refine p_go ?_
                refine p_some ?_
                refine ⟨⟨(by simp (decide := true) only [valsE, evE, upd, cv, args0, argsFrom, List.length_map, ↓reduceIte, hE] <;> rfl), (by simp (decide := true) only [valsO, updO, upd, true_and, and_true, false_and, and_false, ↓reduceIte, hE] <;> rfl)⟩, ⟨m, gB + 1 + 1, by omega, by dsimp only; omega, by dsimp only; omega, eV_, by rw [List.drop_eq_getElem_cons hmw, valV]; exact oB_, oB_⟩, ?_⟩
                simp (decide := true) only [upd, e3, left1, ↓reduceIte]; omega
      · obtain rfl : m = 0 := by simp at hc; omega
        refine p_go ?_
        refine p_retE0 rfl ?_
        refine p_rngN (h := ?_)
        refine p_go fun hf => ?_
        have hlen := hvl.len
        have hft : frm.toNat < (valV a back (w.drop 0)).length := by omega
        refine p_idxRowN (frm.toNat) (ht := Tryz.underlying35) (hi := F.ti37.h) (hij := by omega) (hlt := by omega) (h := ?_)
        refine p_loadRowAM (ht := F.agg37.h) (hi := F.ti37.h) (hj := hft) (hl := wtV_cells _) (h := ?_)
        refine p_call (hb := ⟨Tryz.func38, by kernel_rfl, rfl⟩) (hf := wcopied hok.sp (hvl.ok _ (List.getElem_mem hft))) (h := ?_)
        refine p_go ?_
        refine p_r2 (hp := by rw [← getD_at hft]; rfl)
end Go.Proofs.YtfpljljjjgicaaaGreatDoor
