/-
  The reference's constants' weights, Space, asked, worth and Weight, walked: they answer as package encode.
-/
import Derived.Test.YtfjciangbmjlmaaHe
set_option linter.unusedSimpArgs false
set_option linter.unusedVariables false
namespace Go.Proofs.Ytfjciangbmjlmaa
open Go.RowKit
theorem worth01z (y : Int) (h : 0 ≤ y ∧ y < 64) : FnC Try.prog 81 [iV y] (fun r => r = uV (bitI y.toNat)) := by
  have := worth01 y.toNat (by omega)
  rwa [show ((y.toNat : Nat) : Int) = y by omega] at this

theorem consts23 (n : Nat) (s : Step) (h : n ≤ 64) (hs : StepIn n s) : FnC Try.prog 60 [iV n, stepV s] (fun r => r = .agg (wL 0 0 [] (valuesR n s) [])) := by
  refine FnC.of (fn := Try.f60) ⟨Try.func60, by kernel_rfl, rfl⟩ Try.ntmps60 (by simp) fun w0 S0 => ?_
  refine p_seq (p_region fun hf => ?_)
  refine p_box (h := ?_)
  refine p_alloc (hi := F.ti81) (h := ?_)
  refine p_end ?_
  refine p_seq (p_region fun hf => ?_)
  refine p_build (hi := F.ti81) (hpl := F.pl81) (h := ?_)
  refine p_alloc (hi := F.ti81) (h := ?_)
  refine p_storeAll F.ti81 (h := ?_)
  refine p_end ?_
  refine p_seq ?_
  refine p_seq (p_region fun hf => ?_)
  refine p_assign (h := ?_)
  refine p_end ?_
  refine p_nilCell (g1 := 0 + 1 + 1) (d1 := 5) (i := 4) (el := 110) 19 (h := ?_)
  refine TrC.block ?_
  refine p_loop (fun st => ∃ i r : Nat, i ≤ n ∧ st.env 0 = iV n ∧ st.env 3 = .ptr (0 + 1) 3 0 ∧ st.env 4 = .ptr (0 + 1) 4 0 ∧ st.env 5 = .ptr (0 + 1 + 1) 5 0 ∧ st.env 6 = iV i ∧ st.obj (0 + 1) 3 = .cells 50 (stepV s).cells ∧ st.obj (0 + 1) 4 = .cells 81 [.bool false, iV 0, uV 0, .nil, .nil, .nil] ∧ st.obj (0 + 1 + 1) 5 = .cells 81 [.bool false, iV 0, uV 0, .nil, .row r 19 i, .nil] ∧ st.obj r 19 = .row 110 (cells1 i)) (fun st => n - (st.env 6).toN) ?_ fun e ob g1 hI => ?_
  · exact ⟨0, _, by omega, eV_, eV_, eV_, eV_, eV_, oB_, oB_, oB_, oB_⟩
  · obtain ⟨i, r, hi, e0, e3, e4, e5, e6, o3, o4, o5, o19⟩ := hI
    dsimp only at e0 e3 e4 e5 e6 o3 o4 o5 o19
    have hE := (⟨e0, e3, e4, e5, e6, o3, o4, o5, o19⟩ : _ ∧ _ ∧ _ ∧ _ ∧ _ ∧ _ ∧ _ ∧ _ ∧ _)
    refine p_seq ?_
    refine p_seq (p_region fun hf => ?_)
    refine p_move (h := ?_)
    refine p_move (h := ?_)
    refine p_num (h := ?_)
    refine p_end ?_
    refine p_splitC (s := 10) (ht := fun hc10 => ?_) (hf := fun hc10 => ?_)
    · refine p_condT (h := ?_)
      have hlt : i < n := by simpa using hc10
      refine p_skip ?_
      refine p_seq ?_
      refine TrC.block ?_
      refine p_draw F.mixed fun hf => ?_
      (first | refine p_fieldPtr (hf := F.fld81_3) (h := ?_) | refine p_fieldRef (hf := F.fld81_3) (h := ?_) | refine p_fieldRow (hf := F.fld81_3) (h := ?_))
      (first | refine p_load (ht := F.leaf78) (h := ?_) | refine p_loadRef (ht := F.leaf78) (h := ?_))
      refine p_move (h := ?_)
      refine p_call (hx := rfl) (hb := ⟨Try.func81, by kernel_rfl, rfl⟩) (hf := worth01 i (by omega)) (h := ?_)
      refine p_build (hi := F.ti110) (hpl := F.pl110) (h := ?_)
      refine p_buildSlice (ht := Try.underlying78) (hi := F.ti110) (h := ?_)
      refine p_append (k := i + 1) (ht := Try.underlying78) (hi := F.ti110) (hnl := by simp [cells1]) (hy := by exact ⟨.inl oB_, rfl⟩) (hm := by simp [cells1]) (hlim := by omega) (h := ?_)
      (first | refine p_fieldPtr (hf := F.fld81_3) (h := ?_) | refine p_fieldRef (hf := F.fld81_3) (h := ?_) | refine p_fieldRow (hf := F.fld81_3) (h := ?_))
      refine p_store1 F.ti78 (h := ?_)
      refine p_endD ?_
      refine p_region fun hf => ?_
      refine p_move (h := ?_)
      refine p_add (r := ((i + 1 : Nat) : Int)) (hr := by omega) (hb := by omega) (h := ?_)
      refine p_assign (h := ?_)
      refine p_end ?_
      refine p_some ?_
      refine ⟨⟨i + 1, _, by omega, eV_, eV_, eV_, eV_, eV_, oB_, oB_, oB_, by refine Eq.trans oB_ ?_; rw [cells1, cells1, List.range_succ, List.map_append]; rfl⟩, ?_⟩
      simp (decide := true) only [upd, e6, V.toN, ↓reduceIte]; omega
    · refine p_condF (h := ?_)
      have hie : n = i := by simp at hc10; omega
      subst hie
      refine p_exit ?_
      refine p_seq ?_
      refine p_seq (p_region fun hf => ?_)
      (first | refine p_fieldPtr (hf := F.fld50_2) (h := ?_) | refine p_fieldRef (hf := F.fld50_2) (h := ?_) | refine p_fieldRow (hf := F.fld50_2) (h := ?_))
      (first | refine p_load (ht := F.leaf48) (h := ?_) | refine p_loadRef (ht := F.leaf48) (h := ?_))
      refine p_end ?_
      refine TrC.block ?_
      refine p_seq (p_region fun hf => ?_)
      refine p_num (h := ?_)
      refine p_assign (h := ?_)
      refine p_end ?_
      refine p_splitC (s := 23) (ht := fun hc23 => ?_) (hf := fun hc23 => ?_)
      · refine p_condT (h := ?_)
        have hx := hs.x (by simp at hc23; omega)
        refine p_region fun hf => ?_
        (first | refine p_fieldPtr (hf := F.fld81_3) (h := ?_) | refine p_fieldRef (hf := F.fld81_3) (h := ?_) | refine p_fieldRow (hf := F.fld81_3) (h := ?_))
        (first | refine p_load (ht := F.leaf78) (h := ?_) | refine p_loadRef (ht := F.leaf78) (h := ?_))
        (first | refine p_fieldPtr (hf := F.fld50_3) (h := ?_) | refine p_fieldRef (hf := F.fld50_3) (h := ?_) | refine p_fieldRow (hf := F.fld50_3) (h := ?_))
        (first | refine p_load (ht := F.leaf3) (h := ?_) | refine p_loadRef (ht := F.leaf3) (h := ?_))
        (first | refine p_fieldPtr (hf := F.fld50_5) (h := ?_) | refine p_fieldRef (hf := F.fld50_5) (h := ?_) | refine p_fieldRow (hf := F.fld50_5) (h := ?_))
        (first | refine p_load (ht := F.leaf2) (h := ?_) | refine p_loadRef (ht := F.leaf2) (h := ?_))
        refine p_build (hi := F.ti110) (hpl := F.pl110) (h := ?_)
        refine p_idxRowN (s.x.toNat) (ht := Try.underlying78) (hi := F.ti110) (hij := by omega) (hlt := by omega) (h := ?_)
        refine p_storeRowAF (f' := cellX s.x.toNat (celV 0 1 s.k)) F.ti110 (TI.cells F.ti110) eV_ oB_ (by omega) eV_ rfl rfl (fun j _ => cell_put s.x.toNat [uV 0, iV 1, iV s.k] j) ?_
        refine p_end ?_
        refine p_seq (p_region fun hf => ?_)
        (first | refine p_loadA (ht := F.agg81) (hi := F.ti81) (h := ?_) | refine p_loadRefA (ht := F.agg81) (hi := F.ti81) (h := ?_))
        refine p_storeAll F.ti81 (h := ?_)
        refine p_end ?_
        refine TrC.ret ?_
        refine p_freeze (g1 := r) (d1 := 19) (h := ?_)
        refine p_cellSl (g1 := 0 + 1) (d1 := 4) (i := 4) (hn := by simp [cells1]) (h := ?_)
        refine p_cellNil (g1 := 0 + 1) (d1 := 4) (i := 3) (el := 74) (h := ?_)
        refine p_cellNil (g1 := 0 + 1) (d1 := 4) (i := 5) (el := 81) (h := ?_)
        refine Tr.ret1 rfl (res_cell eV_ oB_ F.agg81 F.ti81 rfl rfl) (by have hk : s.kind = 2 := (by simpa using hc23); simp only [valuesR, hk, Int.reduceEq, decide_true, decide_false, Bool.false_eq_true, ↓reduceIte, cellsX]; rfl) (by intro l h; cases h)
      · refine p_condF (h := ?_)
        refine p_seq (p_region fun hf => ?_)
        refine p_num (h := ?_)
        refine p_assign (h := ?_)
        refine p_end ?_
        refine p_splitC (s := 33) (ht := fun hc33 => ?_) (hf := fun hc33 => ?_)
        · refine p_condT (h := ?_)
          have hx := hs.x (by simp at hc33; omega)
          refine p_draw F.mixed fun hf => ?_
          (first | refine p_fieldPtr (hf := F.fld81_3) (h := ?_) | refine p_fieldRef (hf := F.fld81_3) (h := ?_) | refine p_fieldRow (hf := F.fld81_3) (h := ?_))
          (first | refine p_load (ht := F.leaf78) (h := ?_) | refine p_loadRef (ht := F.leaf78) (h := ?_))
          (first | refine p_fieldPtr (hf := F.fld50_3) (h := ?_) | refine p_fieldRef (hf := F.fld50_3) (h := ?_) | refine p_fieldRow (hf := F.fld50_3) (h := ?_))
          (first | refine p_load (ht := F.leaf3) (h := ?_) | refine p_loadRef (ht := F.leaf3) (h := ?_))
          (first | refine p_fieldPtr (hf := F.fld50_4) (h := ?_) | refine p_fieldRef (hf := F.fld50_4) (h := ?_) | refine p_fieldRow (hf := F.fld50_4) (h := ?_))
          (first | refine p_load (ht := F.leaf3) (h := ?_) | refine p_loadRef (ht := F.leaf3) (h := ?_))
          refine p_call (hx := rfl) (hb := ⟨Try.func81, by kernel_rfl, rfl⟩) (hf := worth01z s.y (by have := hs.y (by simpa using hc33); omega)) (h := ?_)
          refine p_build (hi := F.ti110) (hpl := F.pl110) (h := ?_)
          refine p_idxRowN (s.x.toNat) (ht := Try.underlying78) (hi := F.ti110) (hij := by omega) (hlt := by omega) (h := ?_)
          refine p_storeRowAF (f' := cellX s.x.toNat (celV (bitI s.y.toNat) 0 0)) F.ti110 (TI.cells F.ti110) eV_ oB_ (by omega) eV_ rfl rfl (fun j _ => cell_put s.x.toNat [uV (bitI s.y.toNat), iV 0, iV 0] j) ?_
          refine p_endD ?_
          refine p_seq (p_region fun hf => ?_)
          (first | refine p_loadA (ht := F.agg81) (hi := F.ti81) (h := ?_) | refine p_loadRefA (ht := F.agg81) (hi := F.ti81) (h := ?_))
          refine p_storeAll F.ti81 (h := ?_)
          refine p_end ?_
          refine TrC.ret ?_
          refine p_freeze (g1 := r) (d1 := 19) (h := ?_)
          refine p_cellSl (g1 := 0 + 1) (d1 := 4) (i := 4) (hn := by simp [cells1]) (h := ?_)
          refine p_cellNil (g1 := 0 + 1) (d1 := 4) (i := 3) (el := 74) (h := ?_)
          refine p_cellNil (g1 := 0 + 1) (d1 := 4) (i := 5) (el := 81) (h := ?_)
          refine Tr.ret1 rfl (res_cell eV_ oB_ F.agg81 F.ti81 rfl rfl) (by have hk : s.kind = 3 := (by simpa using hc33); simp only [valuesR, hk, Int.reduceEq, decide_true, decide_false, Bool.false_eq_true, ↓reduceIte, cellsX]; rfl) (by intro l h; cases h)
        · refine p_condF (h := ?_)
          refine p_seq (p_region fun hf => ?_)
          refine p_num (h := ?_)
          refine p_assign (h := ?_)
          refine p_end ?_
          refine p_splitC (s := 44) (ht := fun hc44 => ?_) (hf := fun hc44 => ?_)
          · refine p_condT (h := ?_)
            have hx := hs.x (by simp at hc44; omega)
            refine p_region fun hf => ?_
            (first | refine p_fieldPtr (hf := F.fld81_3) (h := ?_) | refine p_fieldRef (hf := F.fld81_3) (h := ?_) | refine p_fieldRow (hf := F.fld81_3) (h := ?_))
            (first | refine p_load (ht := F.leaf78) (h := ?_) | refine p_loadRef (ht := F.leaf78) (h := ?_))
            (first | refine p_fieldPtr (hf := F.fld50_3) (h := ?_) | refine p_fieldRef (hf := F.fld50_3) (h := ?_) | refine p_fieldRow (hf := F.fld50_3) (h := ?_))
            (first | refine p_load (ht := F.leaf3) (h := ?_) | refine p_loadRef (ht := F.leaf3) (h := ?_))
            refine p_build (hi := F.ti110) (hpl := F.pl110) (h := ?_)
            refine p_idxRowN (s.x.toNat) (ht := Try.underlying78) (hi := F.ti110) (hij := by omega) (hlt := by omega) (h := ?_)
            refine p_storeRowAF (f' := cellX s.x.toNat (celV 0 2 0)) F.ti110 (TI.cells F.ti110) eV_ oB_ (by omega) eV_ rfl rfl (fun j _ => cell_put s.x.toNat [uV 0, iV 2, iV 0] j) ?_
            refine p_end ?_
            refine p_seq (p_region fun hf => ?_)
            (first | refine p_loadA (ht := F.agg81) (hi := F.ti81) (h := ?_) | refine p_loadRefA (ht := F.agg81) (hi := F.ti81) (h := ?_))
            refine p_storeAll F.ti81 (h := ?_)
            refine p_end ?_
            refine TrC.ret ?_
            refine p_freeze (g1 := r) (d1 := 19) (h := ?_)
            refine p_cellSl (g1 := 0 + 1) (d1 := 4) (i := 4) (hn := by simp [cells1]) (h := ?_)
            refine p_cellNil (g1 := 0 + 1) (d1 := 4) (i := 3) (el := 74) (h := ?_)
            refine p_cellNil (g1 := 0 + 1) (d1 := 4) (i := 5) (el := 81) (h := ?_)
            refine Tr.ret1 rfl (res_cell eV_ oB_ F.agg81 F.ti81 rfl rfl) (by have hk : s.kind = 4 := (by simpa using hc44); simp only [valuesR, hk, Int.reduceEq, decide_true, decide_false, Bool.false_eq_true, ↓reduceIte, cellsX]; rfl) (by intro l h; cases h)
          · refine p_condF (h := ?_)
            refine p_skip ?_
            refine p_seq (p_region fun hf => ?_)
            (first | refine p_loadA (ht := F.agg81) (hi := F.ti81) (h := ?_) | refine p_loadRefA (ht := F.agg81) (hi := F.ti81) (h := ?_))
            refine p_storeAll F.ti81 (h := ?_)
            refine p_end ?_
            refine TrC.ret ?_
            refine p_freeze (g1 := r) (d1 := 19) (h := ?_)
            refine p_cellSl (g1 := 0 + 1) (d1 := 4) (i := 4) (hn := by simp [cells1]) (h := ?_)
            refine p_cellNil (g1 := 0 + 1) (d1 := 4) (i := 3) (el := 74) (h := ?_)
            refine p_cellNil (g1 := 0 + 1) (d1 := 4) (i := 5) (el := 81) (h := ?_)
            refine Tr.ret1 rfl (res_cell eV_ oB_ F.agg81 F.ti81 rfl rfl) (by simp only [valuesR, hc23, hc33, hc44, Bool.false_eq_true, ↓reduceIte]; rfl) (by intro l h; cases h)

theorem space23 (G : Graph) (m : Int) : FnC Try.prog 38 [graphV G, iV m] (fun r => r = .agg (sL (spT m) (spD G.vars.length m) (spP G.vars.length m))) := by
  refine FnC.of (fn := Try.f38) ⟨Try.func38, by kernel_rfl, rfl⟩ Try.ntmps38 (by simp) fun w0 S0 => ?_
  refine p_seq (p_region fun hf => ?_)
  refine p_box (h := ?_)
  refine p_alloc (hi := F.ti35) (h := ?_)
  refine p_end ?_
  refine p_seq ?_
  refine p_seq (p_region fun hf => ?_)
  refine p_move (h := ?_)
  refine p_end ?_
  refine TrC.block ?_
  refine p_seq (p_region fun hf => ?_)
  refine p_num (h := ?_)
  refine p_assign (h := ?_)
  refine p_end ?_
  refine p_splitC (s := 6) (ht := fun hc6 => ?_) (hf := fun hc6 => ?_)
  · refine p_condT (h := ?_)
    refine p_seq (p_region fun hf => ?_)
    refine p_build (hi := F.ti35) (hpl := F.pl35) (h := ?_)
    refine p_aggNilW (s := 8) (i := 2) (el := 35) (h := ?_)
    (first | refine p_fieldPtr (hf := F.fld29_0) (h := ?_) | refine p_fieldRef (hf := F.fld29_0) (h := ?_) | refine p_fieldRow (hf := F.fld29_0) (h := ?_))
    (first | refine p_load (ht := F.leaf22) (h := ?_) | refine p_loadRef (ht := F.leaf22) (h := ?_))
    refine p_len (ht := Try.underlying22) (h := ?_)
    refine p_build (hi := F.ti35) (hpl := F.pl35) (h := ?_)
    refine p_aggNilW (s := 12) (i := 2) (el := 35) (h := ?_)
    refine p_buildSlice (ht := Try.underlying33) (hi := F.ti35) (h := ?_)
    refine p_build (hi := F.ti35) (hpl := F.pl35) (h := ?_)
    refine p_storeAll F.ti35 (h := ?_)
    refine p_end ?_
    refine TrC.ret ?_
    refine p_freeze (g1 := 0 + 1 + 1 + 1 + 1) (d1 := 13) (h := ?_)
    refine p_cellSl (g1 := 0 + 1) (d1 := 4) (i := 2) (hn := by rfl) (h := ?_)
    refine Tr.ret1 rfl (res_cell eV_ oB_ F.agg35 F.ti35 rfl rfl) (by simp only [spT, spD, spP, hc6, Bool.false_eq_true, ↓reduceIte]; rfl) (by intro l h; cases h)
  · refine p_condF (h := ?_)
    refine p_seq (p_region fun hf => ?_)
    refine p_num (h := ?_)
    refine p_assign (h := ?_)
    refine p_end ?_
    refine p_splitC (s := 15) (ht := fun hc15 => ?_) (hf := fun hc15 => ?_)
    · refine p_condT (h := ?_)
      refine p_seq (p_region fun hf => ?_)
      (first | refine p_fieldPtr (hf := F.fld29_0) (h := ?_) | refine p_fieldRef (hf := F.fld29_0) (h := ?_) | refine p_fieldRow (hf := F.fld29_0) (h := ?_))
      (first | refine p_load (ht := F.leaf22) (h := ?_) | refine p_loadRef (ht := F.leaf22) (h := ?_))
      refine p_len (ht := Try.underlying22) (h := ?_)
      refine p_build (hi := F.ti35) (hpl := F.pl35) (h := ?_)
      refine p_storeAll F.ti35 (h := ?_)
      refine p_end ?_
      refine TrC.ret ?_
      refine p_cellNil (g1 := 0 + 1) (d1 := 4) (i := 2) (el := 35) (h := ?_)
      refine Tr.ret1 rfl (res_cell eV_ oB_ F.agg35 F.ti35 rfl rfl) (by simp only [spT, spD, spP, hc6, hc15, Bool.false_eq_true, ↓reduceIte]; rfl) (by intro l h; cases h)
    · refine p_condF (h := ?_)
      refine p_skip ?_
      refine p_seq (p_region fun hf => ?_)
      refine p_build (hi := F.ti35) (hpl := F.pl35) (h := ?_)
      refine p_storeAll F.ti35 (h := ?_)
      refine p_end ?_
      refine TrC.ret ?_
      refine p_cellNil (g1 := 0 + 1) (d1 := 4) (i := 2) (el := 35) (h := ?_)
      refine Tr.ret1 rfl (res_cell eV_ oB_ F.agg35 F.ti35 rfl rfl) (by simp only [spT, spD, spP, hc6, hc15, Bool.false_eq_true, ↓reduceIte]; rfl) (by intro l h; cases h)

theorem asked23 (G : Graph) (m : Int) (h1 : G.steps.length ≤ 1000000000) (h2 : G.points.length ≤ 1000000000) (h3 : G.sinks.length ≤ 1000000000) (h5 : G.sites.length ≤ 1000000000) : FnC Try.prog 37 [graphV G, iV m] (fun r => r = iV (askedR G m)) := by
  refine FnC.of (fn := Try.f37) ⟨Try.func37, by kernel_rfl, rfl⟩ Try.ntmps37 (by simp) fun w0 S0 => ?_
  refine p_seq (p_region fun hf => ?_)
  refine p_box (h := ?_)
  refine p_assign (h := ?_)
  refine p_end ?_
  refine p_seq (p_region fun hf => ?_)
  (first | refine p_loadA (ht := F.agg29) (hi := F.ti29) (h := ?_) | refine p_loadRefA (ht := F.agg29) (hi := F.ti29) (h := ?_))
  refine p_call (hx := rfl) (hb := ⟨Try.func30, by kernel_rfl, rfl⟩) (hf := check21 G h1 h2 h3 h5) (h := ?_)
  refine p_assign (h := ?_)
  refine p_end ?_
  refine p_seq ?_
  refine p_seq (p_region fun hf => ?_)
  refine p_move (h := ?_)
  refine p_num (h := ?_)
  refine p_end ?_
  refine p_splitC (s := 9) (ht := fun hc9 => ?_) (hf := fun hc9 => ?_)
  · refine p_condT (h := ?_)
    refine p_seq (p_region fun hf => ?_)
    refine p_move (h := ?_)
    refine p_assign (h := ?_)
    refine p_end ?_
    refine TrC.ret ?_
    refine p_ret1 (hp := by simp only [askedR, hc9, ↓reduceIte])
  · refine p_condF (h := ?_)
    refine p_skip ?_
    refine p_seq ?_
    refine p_seq (p_region fun hf => ?_)
    refine p_move (h := ?_)
    refine p_num (h := ?_)
    refine p_move (h := ?_)
    refine p_split (s := 13) (ht := fun hb13 => ?_) (hf := fun hb13 => ?_)
    · -- slot 13 is true
      refine p_guardYes (h := ?_)
      refine p_move (h := ?_)
      refine p_guardYes (h := ?_)
      refine p_num (h := ?_)
      refine p_pick (h := ?_)
      refine p_move (h := ?_)
      refine p_split (s := 17) (ht := fun hb17 => ?_) (hf := fun hb17 => ?_)
      · -- slot 17 is true
        refine p_guardYes (h := ?_)
        refine p_move (h := ?_)
        refine p_guardYes (h := ?_)
        refine p_num (h := ?_)
        refine p_pick (h := ?_)
        refine p_end ?_
        refine p_splitC (s := 20) (ht := fun hc20 => ?_) (hf := fun hc20 => ?_)
        · refine p_condT (h := ?_)
          refine p_seq (p_region fun hf => ?_)
          refine p_assign (h := ?_)
          refine p_end ?_
          refine TrC.ret ?_
          refine p_ret1 (hp := by simp only [decide_eq_true_eq] at hb13 hb17 hc20; simp [askedR, hc9, hb13, hb17, hc20])
        · refine p_condF (h := ?_)
          refine p_skip ?_
          refine p_seq (p_region fun hf => ?_)
          refine p_assign (h := ?_)
          refine p_end ?_
          refine TrC.ret ?_
          refine p_ret1 (hp := by simp only [decide_eq_true_eq] at hb13 hb17; have h3' : m = 3 := (by simpa using hc20); simp [askedR, hc9, h3'])
      · -- slot 17 is false
        iterate 2 (refine p_guardNo (h := ?_))
        refine p_pick (h := ?_)
        refine p_end ?_
        refine p_condF (h := ?_)
        refine p_skip ?_
        refine p_seq (p_region fun hf => ?_)
        refine p_assign (h := ?_)
        refine p_end ?_
        refine TrC.ret ?_
        refine p_ret1 (hp := by simp only [decide_eq_true_eq] at hb13; have h2' : m = 2 := (by simpa using hb17); simp [askedR, hc9, h2'])
    · -- slot 13 is false
      iterate 2 (refine p_guardNo (h := ?_))
      refine p_pick (h := ?_)
      refine p_move (h := ?_)
      iterate 2 (refine p_guardNo (h := ?_))
      refine p_pick (h := ?_)
      refine p_end ?_
      refine p_condF (h := ?_)
      refine p_skip ?_
      refine p_seq (p_region fun hf => ?_)
      refine p_assign (h := ?_)
      refine p_end ?_
      refine TrC.ret ?_
      refine p_ret1 (hp := by have h1' : m = 1 := (by simpa using hb13); simp [askedR, hc9, h1'])

theorem worth23 (G : Graph) (m : Int) (s : Step) (h : G.vars.length ≤ 64) (hs : StepIn G.vars.length s) : FnC Try.prog 39 [graphV G, iV m, stepV s] (fun r => r = .agg (wL 0 0 [] (wC G.vars.length m s) (wP G.vars.length m s))) := by
  refine FnC.of (fn := Try.f39) ⟨Try.func39, by kernel_rfl, rfl⟩ Try.ntmps39 (by simp) fun w0 S0 => ?_
  refine p_seq (p_region fun hf => ?_)
  refine p_box (h := ?_)
  refine p_box (h := ?_)
  refine p_alloc (hi := F.ti81) (h := ?_)
  refine p_end ?_
  refine p_seq ?_
  refine p_seq (p_region fun hf => ?_)
  refine p_move (h := ?_)
  refine p_end ?_
  refine TrC.block ?_
  refine p_seq (p_region fun hf => ?_)
  refine p_num (h := ?_)
  refine p_assign (h := ?_)
  refine p_end ?_
  refine p_splitC (s := 8) (ht := fun hc8 => ?_) (hf := fun hc8 => ?_)
  · refine p_condT (h := ?_)
    refine p_seq (p_region fun hf => ?_)
    (first | refine p_fieldPtr (hf := F.fld29_0) (h := ?_) | refine p_fieldRef (hf := F.fld29_0) (h := ?_) | refine p_fieldRow (hf := F.fld29_0) (h := ?_))
    (first | refine p_load (ht := F.leaf22) (h := ?_) | refine p_loadRef (ht := F.leaf22) (h := ?_))
    refine p_len (ht := Try.underlying22) (h := ?_)
    (first | refine p_loadA (ht := F.agg50) (hi := F.ti50) (h := ?_) | refine p_loadRefA (ht := F.agg50) (hi := F.ti50) (h := ?_))
    refine p_call (hx := rfl) (hb := ⟨Try.func59, by kernel_rfl, rfl⟩) (hf := taint23 _ s h hs) (h := ?_)
    refine p_storeAll F.ti81 (h := ?_)
    refine p_end ?_
    refine TrC.ret ?_
    refine Tr.ret1 rfl (res_cell eV_ oB_ F.agg81 F.ti81 rfl rfl) (by have hk : m = 2 := (by simpa using hc8); rw [hk]; rfl) (by intro l h; cases h)
  · refine p_condF (h := ?_)
    refine p_seq (p_region fun hf => ?_)
    refine p_num (h := ?_)
    refine p_assign (h := ?_)
    refine p_end ?_
    refine p_splitC (s := 15) (ht := fun hc15 => ?_) (hf := fun hc15 => ?_)
    · refine p_condT (h := ?_)
      refine p_seq (p_region fun hf => ?_)
      (first | refine p_fieldPtr (hf := F.fld29_0) (h := ?_) | refine p_fieldRef (hf := F.fld29_0) (h := ?_) | refine p_fieldRow (hf := F.fld29_0) (h := ?_))
      (first | refine p_load (ht := F.leaf22) (h := ?_) | refine p_loadRef (ht := F.leaf22) (h := ?_))
      refine p_len (ht := Try.underlying22) (h := ?_)
      (first | refine p_loadA (ht := F.agg50) (hi := F.ti50) (h := ?_) | refine p_loadRefA (ht := F.agg50) (hi := F.ti50) (h := ?_))
      refine p_call (hx := rfl) (hb := ⟨Try.func60, by kernel_rfl, rfl⟩) (hf := consts23 _ s h hs) (h := ?_)
      refine p_storeAll F.ti81 (h := ?_)
      refine p_end ?_
      refine TrC.ret ?_
      refine Tr.ret1 rfl (res_cell eV_ oB_ F.agg81 F.ti81 rfl rfl) (by simp only [wC, wP, hc8, hc15, Bool.false_eq_true, ↓reduceIte]; first | done | rfl) (by intro l h; cases h)
    · refine p_condF (h := ?_)
      refine p_skip ?_
      refine p_seq (p_region fun hf => ?_)
      refine p_build (hi := F.ti81) (hpl := F.pl81) (h := ?_)
      refine p_storeAll F.ti81 (h := ?_)
      refine p_end ?_
      refine TrC.ret ?_
      refine p_cellNil (g1 := 0 + 1) (d1 := 6) (i := 3) (el := 74) (h := ?_)
      refine p_cellNil (g1 := 0 + 1) (d1 := 6) (i := 4) (el := 110) (h := ?_)
      refine p_cellNil (g1 := 0 + 1) (d1 := 6) (i := 5) (el := 81) (h := ?_)
      refine Tr.ret1 rfl (res_cell eV_ oB_ F.agg81 F.ti81 rfl rfl) (by simp only [wC, wP, hc8, hc15, Bool.false_eq_true, ↓reduceIte]; first | done | rfl) (by intro l h; cases h)

theorem weight23 (G : Graph) (m step : Int) (h1 : G.steps.length ≤ 1000000000) (h2 : G.points.length ≤ 1000000000) (h3 : G.sinks.length ≤ 1000000000) (h5 : G.sites.length ≤ 1000000000) (h4 : G.exit.length ≤ 1000000000) (h : G.vars.length ≤ 64) : FnC Try.prog 21 [graphV G, iV m, iV step] (fun r => r = .tup [(weightE G m step).1, iV (weightE G m step).2]) := by
  refine FnC.of (fn := Try.f21) ⟨Try.func21, by kernel_rfl, rfl⟩ Try.ntmps21 (by simp) fun w0 S0 => ?_
  refine p_seq (p_region fun hf => ?_)
  refine p_box (h := ?_)
  refine p_alloc (hi := F.ti81) (h := ?_)
  refine p_assign (h := ?_)
  refine p_end ?_
  refine p_seq (p_region fun hf => ?_)
  (first | refine p_loadA (ht := F.agg29) (hi := F.ti29) (h := ?_) | refine p_loadRefA (ht := F.agg29) (hi := F.ti29) (h := ?_))
  refine p_move (h := ?_)
  refine p_call (hx := rfl) (hb := ⟨Try.func37, by kernel_rfl, rfl⟩) (hf := asked23 G m h1 h2 h3 h5) (h := ?_)
  refine p_assign (h := ?_)
  refine p_end ?_
  refine p_seq ?_
  refine p_seq (p_region fun hf => ?_)
  refine p_move (h := ?_)
  refine p_num (h := ?_)
  refine p_end ?_
  refine p_splitC (s := 13) (ht := fun hc13 => ?_) (hf := fun hc13 => ?_)
  · refine p_condT (h := ?_)
    refine p_seq (p_region fun hf => ?_)
    refine p_build (hi := F.ti81) (hpl := F.pl81) (h := ?_)
    refine p_move (h := ?_)
    refine p_storeAll F.ti81 (h := ?_)
    refine p_assign (h := ?_)
    refine p_end ?_
    refine TrC.ret ?_
    refine p_cellNil (g1 := 0 + 1) (d1 := 6) (i := 3) (el := 74) (h := ?_)
    refine p_cellNil (g1 := 0 + 1) (d1 := 6) (i := 4) (el := 110) (h := ?_)
    refine p_cellNil (g1 := 0 + 1) (d1 := 6) (i := 5) (el := 81) (h := ?_)
    refine p_rets2 rfl (res_cell eV_ oB_ F.agg81 F.ti81 rfl rfl) ⟨eV_, rfl⟩ (by simp only [weightE, hc13, Bool.true_or, Bool.false_or, Bool.false_eq_true, ↓reduceIte]; rfl)
  · refine p_condF (h := ?_)
    refine p_skip ?_
    refine p_seq ?_
    refine p_seq (p_region fun hf => ?_)
    refine p_move (h := ?_)
    refine p_num (h := ?_)
    refine p_move (h := ?_)
    refine p_split (s := 18) (ht := fun hb18 => ?_) (hf := fun hb18 => ?_)
    · -- slot 18 is true
      iterate 5 (refine p_guardNo (h := ?_))
      refine p_pick (h := ?_)
      refine p_end ?_
      refine p_condT (h := ?_)
      refine p_seq (p_region fun hf => ?_)
      refine p_build (hi := F.ti81) (hpl := F.pl81) (h := ?_)
      refine p_storeAll F.ti81 (h := ?_)
      refine p_assign (h := ?_)
      refine p_end ?_
      refine TrC.ret ?_
      refine p_cellNil (g1 := 0 + 1) (d1 := 6) (i := 3) (el := 74) (h := ?_)
      refine p_cellNil (g1 := 0 + 1) (d1 := 6) (i := 4) (el := 110) (h := ?_)
      refine p_cellNil (g1 := 0 + 1) (d1 := 6) (i := 5) (el := 81) (h := ?_)
      refine p_rets2 rfl (res_cell eV_ oB_ F.agg81 F.ti81 rfl rfl) ⟨eV_, rfl⟩ (by simp only [weightE, hc13, hb18, Bool.true_or, Bool.false_or, Bool.false_eq_true, ↓reduceIte]; rfl)
    · -- slot 18 is false
      refine p_guardYes (h := ?_)
      refine p_move (h := ?_)
      refine p_guardYes (h := ?_)
      (first | refine p_fieldPtr (hf := F.fld29_6) (h := ?_) | refine p_fieldRef (hf := F.fld29_6) (h := ?_) | refine p_fieldRow (hf := F.fld29_6) (h := ?_))
      refine p_guardYes (h := ?_)
      (first | refine p_load (ht := F.leaf24) (h := ?_) | refine p_loadRef (ht := F.leaf24) (h := ?_))
      refine p_guardYes (h := ?_)
      refine p_len (ht := Try.underlying24) (h := ?_)
      refine p_guardYes (h := ?_)
      refine p_num (h := ?_)
      refine p_pick (h := ?_)
      refine p_end ?_
      refine p_splitC (s := 24) (ht := fun hc24 => ?_) (hf := fun hc24 => ?_)
      · refine p_condT (h := ?_)
        refine p_seq (p_region fun hf => ?_)
        refine p_build (hi := F.ti81) (hpl := F.pl81) (h := ?_)
        refine p_storeAll F.ti81 (h := ?_)
        refine p_assign (h := ?_)
        refine p_end ?_
        refine TrC.ret ?_
        refine p_cellNil (g1 := 0 + 1) (d1 := 6) (i := 3) (el := 74) (h := ?_)
        refine p_cellNil (g1 := 0 + 1) (d1 := 6) (i := 4) (el := 110) (h := ?_)
        refine p_cellNil (g1 := 0 + 1) (d1 := 6) (i := 5) (el := 81) (h := ?_)
        refine p_rets2 rfl (res_cell eV_ oB_ F.agg81 F.ti81 rfl rfl) ⟨eV_, rfl⟩ (by simp only [weightE, hc13, hb18, hc24, Bool.true_or, Bool.false_or, Bool.false_eq_true, ↓reduceIte]; rfl)
      · refine p_condF (h := ?_)
        have hst : 0 ≤ step ∧ step < G.steps.length := by simp at hb18 hc24; omega
        have hlt : step.toNat < G.steps.length := by omega
        refine p_skip ?_
        refine p_seq (p_draw F.mixed fun hf => ?_)
        (first | refine p_loadA (ht := F.agg29) (hi := F.ti29) (h := ?_) | refine p_loadRefA (ht := F.agg29) (hi := F.ti29) (h := ?_))
        refine p_move (h := ?_)
        (first | refine p_fieldPtr (hf := F.fld29_6) (h := ?_) | refine p_fieldRef (hf := F.fld29_6) (h := ?_) | refine p_fieldRow (hf := F.fld29_6) (h := ?_))
        (first | refine p_load (ht := F.leaf24) (h := ?_) | refine p_loadRef (ht := F.leaf24) (h := ?_))
        refine p_move (h := ?_)
        refine p_idxMap (j := step.toNat) (ht := Try.underlying24) (hi := F.ti50) (hij := by omega) (hj := hlt) (h := ?_)
        (first | refine p_loadA (ht := F.agg50) (hi := F.ti50) (h := ?_) | refine p_loadRefA (ht := F.agg50) (hi := F.ti50) (h := ?_))
        refine p_call (hx := rfl) (hb := ⟨Try.func39, by kernel_rfl, rfl⟩) (hf := worth23 G m G.steps[step.toNat] h (step_in (asked_checkM hc13) hlt)) (h := ?_)
        refine p_storeAll F.ti81 (h := ?_)
        refine p_assign (h := ?_)
        refine p_endD ?_
        refine TrC.ret ?_
        refine p_rets2 rfl (res_cell eV_ oB_ F.agg81 F.ti81 rfl rfl) ⟨eV_, rfl⟩ (by simp only [weightE, hc13, hb18, hc24, Bool.or_self, Bool.false_eq_true, ↓reduceIte, List.getD, List.getElem?_eq_getElem hlt, Option.getD_some])

end Go.Proofs.Ytfjciangbmjlmaa
