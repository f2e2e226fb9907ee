/-
  The reference's Start in all modes, walked: it answers as encode's.
-/
import Derived.Test.YtfjciangbmjlmaaHh
set_option linter.unusedSimpArgs false
set_option linter.unusedVariables false
namespace Go.Proofs.Ytfjciangbmjlmaa
open Go.RowKit
theorem space23_1 (G : Graph) : FnC Try.prog 38 [graphV G, iV 1] (fun r => r = .agg (sL 1 0 [])) := space23 G 1
theorem space23_2 (G : Graph) : FnC Try.prog 38 [graphV G, iV 2] (fun r => r = .agg (sL 5 0 [.agg (sL 2 1048576 []), .agg (sL 3 G.vars.length [])])) := space23 G 2
theorem space23_3 (G : Graph) : FnC Try.prog 38 [graphV G, iV 3] (fun r => r = .agg (sL 4 G.vars.length [])) := space23 G 3

theorem start23Err (G : Graph) (m : Int) (h1 : G.steps.length ≤ 1000000000) (h2 : G.points.length ≤ 1000000000) (h3 : G.sinks.length ≤ 1000000000) (h5 : G.sites.length ≤ 1000000000) (ha : decide (askedR G m ≠ 0) = true) : FnC Try.prog 19 [graphV G, iV m] (fun r => r = .tup [.agg (autoL 0 0 [] 0 0 [] []), iV (askedR G m)]) := by
  refine FnC.of (fn := Try.f19) ⟨Try.func19, by kernel_rfl, rfl⟩ Try.ntmps19 (by simp) fun w0 S0 => ?_
  refine p_seq (p_region fun hf => ?_)
  refine p_box (h := ?_)
  refine p_alloc (hi := F.ti69) (h := ?_)
  refine p_assign (h := ?_)
  refine p_end ?_
  refine p_seq (p_region fun hf => ?_)
  (first | refine p_loadA (ht := F.agg29) (hi := F.ti29) (h := ?_) | refine p_loadRefA (ht := F.agg29) (hi := F.ti29) (h := ?_))
  refine p_move (h := ?_)
  refine p_call (hx := rfl) (hb := ⟨Try.func37, by kernel_rfl, rfl⟩) (hf := asked23 G m h1 h2 h3 h5) (h := ?_)
  refine p_assign (h := ?_)
  refine p_end ?_
  refine p_seq ?_
  refine p_seq (p_region fun hf => ?_)
  refine p_move (h := ?_)
  refine p_num (h := ?_)
  refine p_end ?_
  refine p_isC (s := 15) (b := true) (hc := by exact ha) (h := ?_)
  refine p_condT (h := ?_)
  refine p_seq (p_region fun hf => ?_)
  refine p_build (hi := F.ti69) (hpl := F.pl69) (h := ?_)
  refine p_move (h := ?_)
  refine p_storeAll F.ti69 (h := ?_)
  refine p_assign (h := ?_)
  refine p_end ?_
  refine TrC.ret ?_
  refine p_cellNil (g1 := 0 + 1) (d1 := 4) (i := 2) (el := 35) (h := ?_)
  refine p_cellNil (g1 := 0 + 1) (d1 := 4) (i := 5) (el := 3) (h := ?_)
  refine p_cellNil (g1 := 0 + 1) (d1 := 4) (i := 6) (el := 112) (h := ?_)
  refine p_rets2 rfl (res_cell eV_ oB_ F.agg69 F.ti69 rfl rfl) ⟨eV_, rfl⟩ rfl

theorem start23_1 (G : Graph) (h1 : G.steps.length ≤ 1000000000) (h2 : G.points.length ≤ 1000000000) (h3 : G.sinks.length ≤ 1000000000) (h5 : G.sites.length ≤ 1000000000) (ha : decide (askedR G 1 ≠ 0) = false) : FnC Try.prog 19 [graphV G, iV 1] (fun r => r = .tup [.agg (autoL 1 0 [] 2 G.of.length [iV 1] [transV 0 (entryZ G G.main) 1 [] [] []]), iV 0]) := by
  refine FnC.of (fn := Try.f19) ⟨Try.func19, by kernel_rfl, rfl⟩ Try.ntmps19 (by simp) fun w0 S0 => ?_
  have hm := main_in (asked_checkM ha)
  have hlm : G.main.toNat < G.entry.length := by omega
  refine p_seq (p_region fun hf => ?_)
  refine p_box (h := ?_)
  refine p_alloc (hi := F.ti69) (h := ?_)
  refine p_assign (h := ?_)
  refine p_end ?_
  refine p_seq (p_region fun hf => ?_)
  (first | refine p_loadA (ht := F.agg29) (hi := F.ti29) (h := ?_) | refine p_loadRefA (ht := F.agg29) (hi := F.ti29) (h := ?_))
  refine p_move (h := ?_)
  refine p_call (hx := rfl) (hb := ⟨Try.func37, by kernel_rfl, rfl⟩) (hf := asked23 G 1 h1 h2 h3 h5) (h := ?_)
  refine p_assign (h := ?_)
  refine p_end ?_
  refine p_seq ?_
  refine p_seq (p_region fun hf => ?_)
  refine p_move (h := ?_)
  refine p_num (h := ?_)
  refine p_end ?_
  refine p_isC (s := 15) (b := false) (hc := by exact ha) (h := ?_)
  refine p_condF (h := ?_)
  refine p_skip ?_
  refine p_seq (p_region fun hf => ?_)
  (first | refine p_loadA (ht := F.agg29) (hi := F.ti29) (h := ?_) | refine p_loadRefA (ht := F.agg29) (hi := F.ti29) (h := ?_))
  refine p_move (h := ?_)
  refine p_call (hx := rfl) (hb := ⟨Try.func38, by kernel_rfl, rfl⟩) (hf := space23_1 G) (h := ?_)
  refine p_alloc (hi := F.ti35) (h := ?_)
  refine p_storeAll F.ti35 (h := ?_)
  refine p_end ?_
  refine p_seq (p_region fun hf => ?_)
  (first | refine p_loadA (ht := F.agg35) (hi := F.ti35) (h := ?_) | refine p_loadRefA (ht := F.agg35) (hi := F.ti35) (h := ?_))
  refine p_call (hx := rfl) (hb := ⟨Try.func41, by kernel_rfl, rfl⟩) (hf := rOne1) (h := ?_)
  refine p_move (h := ?_)
  refine p_extract (h := ?_)
  refine p_extract (h := ?_)
  refine p_alloc (hi := F.ti81) (h := ?_)
  refine p_storeAll F.ti81 (h := ?_)
  refine p_assign (h := ?_)
  refine p_end ?_
  refine p_seq ?_
  refine p_seq (p_region fun hf => ?_)
  refine p_assign (h := ?_)
  refine p_end ?_
  refine TrC.block ?_
  refine p_loop (fun st => st.env 2 = .ptr (0 + 1) 2 0 ∧ st.env 4 = .ptr (0 + 1) 4 0 ∧ st.env 7 = .ptr (0 + 1 + 1 + 1 + 1) 7 0 ∧ st.env 8 = .ptr (0 + 1 + 1 + 1 + 1 + 1) 8 0 ∧ st.env 10 = iV 0 ∧ st.obj (0 + 1) 2 = .cells 29 (graphL G) ∧ st.obj (0 + 1) 4 = .cells 69 [iV 0, iV 0, .nil, iV 0, iV 0, .nil, .nil] ∧ st.obj (0 + 1 + 1 + 1 + 1) 7 = .cells 35 (sL 1 0 []) ∧ st.obj (0 + 1 + 1 + 1 + 1 + 1) 8 = .cells 81 (wL 0 0 [] [] [])) (fun st => 0) ?_ fun e ob g1 hI => ?_
  · exact ⟨eV_, eV_, eV_, eV_, eV_, oB_, oB_, oB_, oB_⟩
  · obtain ⟨e2, e4, e7, e8, e10, o2, o4, o7, o8⟩ := hI
    dsimp only at e2 e4 e7 e8 e10 o2 o4 o7 o8
    have hE := (⟨e2, e4, e7, e8, e10, o2, o4, o7, o8⟩ : _ ∧ _ ∧ _ ∧ _ ∧ _ ∧ _ ∧ _ ∧ _ ∧ _)
    refine p_seq ?_
    refine p_seq (p_region fun hf => ?_)
    refine p_move (h := ?_)
    (first | refine p_fieldPtr (hf := F.fld81_3) (h := ?_) | refine p_fieldRef (hf := F.fld81_3) (h := ?_) | refine p_fieldRow (hf := F.fld81_3) (h := ?_))
    (first | refine p_load (ht := F.leaf78) (h := ?_) | refine p_loadRef (ht := F.leaf78) (h := ?_))
    refine p_len (ht := Try.underlying78) (h := ?_)
    refine p_num (h := ?_)
    refine p_end ?_
    refine p_isC (s := 30) (b := false) (hc := by first | rfl | decide | (simp; done) | (simp; omega)) (h := ?_)
    refine p_condF (h := ?_)
    refine p_exit ?_
    refine p_seq (p_draw F.mixed fun hf => ?_)
    (first | refine p_loadA (ht := F.agg35) (hi := F.ti35) (h := ?_) | refine p_loadRefA (ht := F.agg35) (hi := F.ti35) (h := ?_))
    (first | refine p_fieldPtr (hf := F.fld29_5) (h := ?_) | refine p_fieldRef (hf := F.fld29_5) (h := ?_) | refine p_fieldRow (hf := F.fld29_5) (h := ?_))
    (first | refine p_load (ht := F.leaf23) (h := ?_) | refine p_loadRef (ht := F.leaf23) (h := ?_))
    refine p_len (ht := Try.underlying23) (h := ?_)
    refine p_buildSlice (ht := Try.underlying23) (hi := F.ti3) (h := ?_)
    (first | refine p_fieldPtr (hf := F.fld29_2) (h := ?_) | refine p_fieldRef (hf := F.fld29_2) (h := ?_) | refine p_fieldRow (hf := F.fld29_2) (h := ?_))
    (first | refine p_load (ht := F.leaf23) (h := ?_) | refine p_loadRef (ht := F.leaf23) (h := ?_))
    (first | refine p_fieldPtr (hf := F.fld29_4) (h := ?_) | refine p_fieldRef (hf := F.fld29_4) (h := ?_) | refine p_fieldRow (hf := F.fld29_4) (h := ?_))
    (first | refine p_load (ht := F.leaf3) (h := ?_) | refine p_loadRef (ht := F.leaf3) (h := ?_))
    refine p_idxMap (j := G.main.toNat) (ht := Try.underlying23) (hi := F.ti3) (hij := by omega) (hj := hlm) (h := ?_)
    rw [entryZ_eq hlm]
    (first | refine p_load (ht := F.leaf3) (h := ?_) | refine p_loadRef (ht := F.leaf3) (h := ?_))
    (first | refine p_loadA (ht := F.agg81) (hi := F.ti81) (h := ?_) | refine p_loadRefA (ht := F.agg81) (hi := F.ti81) (h := ?_))
    refine p_build (hi := F.ti112) (hpl := F.pl112) (h := ?_)
    refine p_buildSlice (ht := Try.underlying67) (hi := F.ti112) (h := ?_)
    refine p_build (hi := F.ti69) (hpl := F.pl69) (h := ?_)
    refine p_storeAll F.ti69 (h := ?_)
    refine p_assign (h := ?_)
    refine p_endD ?_
    refine TrC.ret ?_
    refine p_freeze (g1 := (g1 + 1 + 1)) (d1 := 42) (h := ?_)
    refine p_freeze (g1 := (g1 + 1 + 1)) (d1 := 51) (h := ?_)
    refine p_cellSl (g1 := 0 + 1) (d1 := 4) (i := 5) (hn := by rfl) (h := ?_)
    refine p_cellSl (g1 := 0 + 1) (d1 := 4) (i := 6) (hn := by rfl) (h := ?_)
    refine p_rets2 rfl (res_cell eV_ oB_ F.agg69 F.ti69 rfl rfl) ⟨eV_, rfl⟩ rfl

theorem start23_2 (G : Graph) (h1 : G.steps.length ≤ 1000000000) (h2 : G.points.length ≤ 1000000000) (h3 : G.sinks.length ≤ 1000000000) (h5 : G.sites.length ≤ 1000000000) (h : G.vars.length ≤ 64) (ha : decide (askedR G 2 ≠ 0) = false) : FnC Try.prog 19 [graphV G, iV 2] (fun r => r = .tup [.agg (autoL 5 0 [.agg (sL 2 1048576 []), .agg (sL 3 G.vars.length [])] 2 G.of.length [iV 1] [transV 0 (entryZ G G.main) 1 [] [] [.agg (wL 0 0 [] [] []), .agg (wL 0 0 (rows1 G.vars.length) [] [])]]), iV 0]) := by
  refine FnC.of (fn := Try.f19) ⟨Try.func19, by kernel_rfl, rfl⟩ Try.ntmps19 (by simp) fun w0 S0 => ?_
  have hm := main_in (asked_checkM ha)
  have hlm : G.main.toNat < G.entry.length := by omega
  refine p_seq (p_region fun hf => ?_)
  refine p_box (h := ?_)
  refine p_alloc (hi := F.ti69) (h := ?_)
  refine p_assign (h := ?_)
  refine p_end ?_
  refine p_seq (p_region fun hf => ?_)
  (first | refine p_loadA (ht := F.agg29) (hi := F.ti29) (h := ?_) | refine p_loadRefA (ht := F.agg29) (hi := F.ti29) (h := ?_))
  refine p_move (h := ?_)
  refine p_call (hx := rfl) (hb := ⟨Try.func37, by kernel_rfl, rfl⟩) (hf := asked23 G 2 h1 h2 h3 h5) (h := ?_)
  refine p_assign (h := ?_)
  refine p_end ?_
  refine p_seq ?_
  refine p_seq (p_region fun hf => ?_)
  refine p_move (h := ?_)
  refine p_num (h := ?_)
  refine p_end ?_
  refine p_isC (s := 15) (b := false) (hc := by exact ha) (h := ?_)
  refine p_condF (h := ?_)
  refine p_skip ?_
  refine p_seq (p_region fun hf => ?_)
  (first | refine p_loadA (ht := F.agg29) (hi := F.ti29) (h := ?_) | refine p_loadRefA (ht := F.agg29) (hi := F.ti29) (h := ?_))
  refine p_move (h := ?_)
  refine p_call (hx := rfl) (hb := ⟨Try.func38, by kernel_rfl, rfl⟩) (hf := space23_2 G) (h := ?_)
  refine p_alloc (hi := F.ti35) (h := ?_)
  refine p_storeAll F.ti35 (h := ?_)
  refine p_end ?_
  refine p_seq (p_region fun hf => ?_)
  (first | refine p_loadA (ht := F.agg35) (hi := F.ti35) (h := ?_) | refine p_loadRefA (ht := F.agg35) (hi := F.ti35) (h := ?_))
  refine p_call (hx := rfl) (hb := ⟨Try.func41, by kernel_rfl, rfl⟩) (hf := rOne5 _ h) (h := ?_)
  refine p_move (h := ?_)
  refine p_extract (h := ?_)
  refine p_extract (h := ?_)
  refine p_alloc (hi := F.ti81) (h := ?_)
  refine p_storeAll F.ti81 (h := ?_)
  refine p_assign (h := ?_)
  refine p_end ?_
  refine p_seq ?_
  refine p_seq (p_region fun hf => ?_)
  refine p_assign (h := ?_)
  refine p_end ?_
  refine TrC.block ?_
  refine p_loop (fun st => st.env 2 = .ptr (0 + 1) 2 0 ∧ st.env 4 = .ptr (0 + 1) 4 0 ∧ st.env 7 = .ptr (0 + 1 + 1 + 1 + 1) 7 0 ∧ st.env 8 = .ptr (0 + 1 + 1 + 1 + 1 + 1) 8 0 ∧ st.env 10 = iV 0 ∧ st.obj (0 + 1) 2 = .cells 29 (graphL G) ∧ st.obj (0 + 1) 4 = .cells 69 [iV 0, iV 0, .nil, iV 0, iV 0, .nil, .nil] ∧ st.obj (0 + 1 + 1 + 1 + 1) 7 = .cells 35 (sL 5 0 [.agg (sL 2 1048576 []), .agg (sL 3 G.vars.length [])]) ∧ st.obj (0 + 1 + 1 + 1 + 1 + 1) 8 = .cells 81 (wL 0 0 [] [] [.agg (wL 0 0 [] [] []), .agg (wL 0 0 (rows1 G.vars.length) [] [])])) (fun st => 0) ?_ fun e ob g1 hI => ?_
  · exact ⟨eV_, eV_, eV_, eV_, eV_, oB_, oB_, oB_, oB_⟩
  · obtain ⟨e2, e4, e7, e8, e10, o2, o4, o7, o8⟩ := hI
    dsimp only at e2 e4 e7 e8 e10 o2 o4 o7 o8
    have hE := (⟨e2, e4, e7, e8, e10, o2, o4, o7, o8⟩ : _ ∧ _ ∧ _ ∧ _ ∧ _ ∧ _ ∧ _ ∧ _ ∧ _)
    refine p_seq ?_
    refine p_seq (p_region fun hf => ?_)
    refine p_move (h := ?_)
    (first | refine p_fieldPtr (hf := F.fld81_3) (h := ?_) | refine p_fieldRef (hf := F.fld81_3) (h := ?_) | refine p_fieldRow (hf := F.fld81_3) (h := ?_))
    (first | refine p_load (ht := F.leaf78) (h := ?_) | refine p_loadRef (ht := F.leaf78) (h := ?_))
    refine p_len (ht := Try.underlying78) (h := ?_)
    refine p_num (h := ?_)
    refine p_end ?_
    refine p_isC (s := 30) (b := false) (hc := by first | rfl | decide | (simp; done) | (simp; omega)) (h := ?_)
    refine p_condF (h := ?_)
    refine p_exit ?_
    refine p_seq (p_draw F.mixed fun hf => ?_)
    (first | refine p_loadA (ht := F.agg35) (hi := F.ti35) (h := ?_) | refine p_loadRefA (ht := F.agg35) (hi := F.ti35) (h := ?_))
    (first | refine p_fieldPtr (hf := F.fld29_5) (h := ?_) | refine p_fieldRef (hf := F.fld29_5) (h := ?_) | refine p_fieldRow (hf := F.fld29_5) (h := ?_))
    (first | refine p_load (ht := F.leaf23) (h := ?_) | refine p_loadRef (ht := F.leaf23) (h := ?_))
    refine p_len (ht := Try.underlying23) (h := ?_)
    refine p_buildSlice (ht := Try.underlying23) (hi := F.ti3) (h := ?_)
    (first | refine p_fieldPtr (hf := F.fld29_2) (h := ?_) | refine p_fieldRef (hf := F.fld29_2) (h := ?_) | refine p_fieldRow (hf := F.fld29_2) (h := ?_))
    (first | refine p_load (ht := F.leaf23) (h := ?_) | refine p_loadRef (ht := F.leaf23) (h := ?_))
    (first | refine p_fieldPtr (hf := F.fld29_4) (h := ?_) | refine p_fieldRef (hf := F.fld29_4) (h := ?_) | refine p_fieldRow (hf := F.fld29_4) (h := ?_))
    (first | refine p_load (ht := F.leaf3) (h := ?_) | refine p_loadRef (ht := F.leaf3) (h := ?_))
    refine p_idxMap (j := G.main.toNat) (ht := Try.underlying23) (hi := F.ti3) (hij := by omega) (hj := hlm) (h := ?_)
    rw [entryZ_eq hlm]
    (first | refine p_load (ht := F.leaf3) (h := ?_) | refine p_loadRef (ht := F.leaf3) (h := ?_))
    (first | refine p_loadA (ht := F.agg81) (hi := F.ti81) (h := ?_) | refine p_loadRefA (ht := F.agg81) (hi := F.ti81) (h := ?_))
    refine p_build (hi := F.ti112) (hpl := F.pl112) (h := ?_)
    refine p_buildSlice (ht := Try.underlying67) (hi := F.ti112) (h := ?_)
    refine p_build (hi := F.ti69) (hpl := F.pl69) (h := ?_)
    refine p_storeAll F.ti69 (h := ?_)
    refine p_assign (h := ?_)
    refine p_endD ?_
    refine TrC.ret ?_
    refine p_freeze (g1 := (g1 + 1 + 1)) (d1 := 42) (h := ?_)
    refine p_freeze (g1 := (g1 + 1 + 1)) (d1 := 51) (h := ?_)
    refine p_cellSl (g1 := 0 + 1) (d1 := 4) (i := 5) (hn := by rfl) (h := ?_)
    refine p_cellSl (g1 := 0 + 1) (d1 := 4) (i := 6) (hn := by rfl) (h := ?_)
    refine p_rets2 rfl (res_cell eV_ oB_ F.agg69 F.ti69 rfl rfl) ⟨eV_, rfl⟩ rfl

theorem start23_3 (G : Graph) (h1 : G.steps.length ≤ 1000000000) (h2 : G.points.length ≤ 1000000000) (h3 : G.sinks.length ≤ 1000000000) (h5 : G.sites.length ≤ 1000000000) (h : G.vars.length ≤ 64) (ha : decide (askedR G 3 ≠ 0) = false) : FnC Try.prog 19 [graphV G, iV 3] (fun r => r = .tup [.agg (autoL 4 G.vars.length [] 2 G.of.length [iV 1] [transV 0 (entryZ G G.main) 1 [] (startC G.vars.length) []]), iV 0]) := by
  refine FnC.of (fn := Try.f19) ⟨Try.func19, by kernel_rfl, rfl⟩ Try.ntmps19 (by simp) fun w0 S0 => ?_
  have hm := main_in (asked_checkM ha)
  have hlm : G.main.toNat < G.entry.length := by omega
  refine p_seq (p_region fun hf => ?_)
  refine p_box (h := ?_)
  refine p_alloc (hi := F.ti69) (h := ?_)
  refine p_assign (h := ?_)
  refine p_end ?_
  refine p_seq (p_region fun hf => ?_)
  (first | refine p_loadA (ht := F.agg29) (hi := F.ti29) (h := ?_) | refine p_loadRefA (ht := F.agg29) (hi := F.ti29) (h := ?_))
  refine p_move (h := ?_)
  refine p_call (hx := rfl) (hb := ⟨Try.func37, by kernel_rfl, rfl⟩) (hf := asked23 G 3 h1 h2 h3 h5) (h := ?_)
  refine p_assign (h := ?_)
  refine p_end ?_
  refine p_seq ?_
  refine p_seq (p_region fun hf => ?_)
  refine p_move (h := ?_)
  refine p_num (h := ?_)
  refine p_end ?_
  refine p_isC (s := 15) (b := false) (hc := by exact ha) (h := ?_)
  refine p_condF (h := ?_)
  refine p_skip ?_
  refine p_seq (p_region fun hf => ?_)
  (first | refine p_loadA (ht := F.agg29) (hi := F.ti29) (h := ?_) | refine p_loadRefA (ht := F.agg29) (hi := F.ti29) (h := ?_))
  refine p_move (h := ?_)
  refine p_call (hx := rfl) (hb := ⟨Try.func38, by kernel_rfl, rfl⟩) (hf := space23_3 G) (h := ?_)
  refine p_alloc (hi := F.ti35) (h := ?_)
  refine p_storeAll F.ti35 (h := ?_)
  refine p_end ?_
  refine p_seq (p_region fun hf => ?_)
  (first | refine p_loadA (ht := F.agg35) (hi := F.ti35) (h := ?_) | refine p_loadRefA (ht := F.agg35) (hi := F.ti35) (h := ?_))
  refine p_callO 23 (hb := ⟨Try.func41, by kernel_rfl, rfl⟩) (hf := rOne4o G.vars.length h) (h := ?_)
  refine p_move (h := ?_)
  refine p_extract (h := ?_)
  refine p_extract (h := ?_)
  refine p_alloc (hi := F.ti81) (h := ?_)
  refine p_storeAll F.ti81 (h := ?_)
  refine p_assign (h := ?_)
  refine p_end ?_
  refine p_seq ?_
  refine p_seq (p_region fun hf => ?_)
  refine p_assign (h := ?_)
  refine p_end ?_
  refine TrC.block ?_
  refine p_loop (fun st => ∃ i : Nat, i ≤ G.vars.length ∧ st.env 2 = .ptr (0 + 1) 2 0 ∧ st.env 4 = .ptr (0 + 1) 4 0 ∧ st.env 7 = .ptr (0 + 1 + 1 + 1 + 1) 7 0 ∧ st.env 8 = .ptr (0 + 1 + 1 + 1 + 1 + 1) 8 0 ∧ st.env 10 = iV i ∧ st.obj (0 + 1) 2 = .cells 29 (graphL G) ∧ st.obj (0 + 1) 4 = .cells 69 [iV 0, iV 0, .nil, iV 0, iV 0, .nil, .nil] ∧ st.obj (0 + 1 + 1 + 1 + 1) 7 = .cells 35 (sL 4 G.vars.length []) ∧ st.obj (0 + 1 + 1 + 1 + 1 + 1) 8 = .cells 81 [.bool false, iV 0, uV 0, .sl 74 [], .row (0 + 1 + 1 + 1 + 1 + 1) 23 G.vars.length, .sl 81 []] ∧ st.obj (0 + 1 + 1 + 1 + 1 + 1) 23 = .row 110 ((List.range G.vars.length).map (fun j => if j < i then celV 0 1 0 else celV (bitI j) 0 0))) (fun st => G.vars.length - (st.env 10).toN) ?_ fun e ob g1 hI => ?_
  · exact ⟨0, by omega, eV_, eV_, eV_, eV_, eV_, oB_, oB_, oB_, oB_, by refine Eq.trans oB_ ?_; rfl⟩
  · obtain ⟨i, hi, e2, e4, e7, e8, e10, o2, o4, o7, o8, o23⟩ := hI
    dsimp only at e2 e4 e7 e8 e10 o2 o4 o7 o8 o23
    have hE := (⟨e2, e4, e7, e8, e10, o2, o4, o7, o8, o23⟩ : _ ∧ _ ∧ _ ∧ _ ∧ _ ∧ _ ∧ _ ∧ _ ∧ _ ∧ _)
    refine p_seq ?_
    refine p_seq (p_region fun hf => ?_)
    refine p_move (h := ?_)
    (first | refine p_fieldPtr (hf := F.fld81_3) (h := ?_) | refine p_fieldRef (hf := F.fld81_3) (h := ?_) | refine p_fieldRow (hf := F.fld81_3) (h := ?_))
    (first | refine p_load (ht := F.leaf78) (h := ?_) | refine p_loadRef (ht := F.leaf78) (h := ?_))
    refine p_len (ht := Try.underlying78) (h := ?_)
    refine p_num (h := ?_)
    refine p_end ?_
    refine p_splitC (s := 30) (ht := fun hc30 => ?_) (hf := fun hc30 => ?_)
    · refine p_condT (h := ?_)
      have hlt : i < G.vars.length := by simpa using hc30
      refine p_skip ?_
      refine p_seq ?_
      refine TrC.block ?_
      refine p_region fun hf => ?_
      (first | refine p_fieldPtr (hf := F.fld81_3) (h := ?_) | refine p_fieldRef (hf := F.fld81_3) (h := ?_) | refine p_fieldRow (hf := F.fld81_3) (h := ?_))
      (first | refine p_load (ht := F.leaf78) (h := ?_) | refine p_loadRef (ht := F.leaf78) (h := ?_))
      refine p_move (h := ?_)
      refine p_build (hi := F.ti110) (hpl := F.pl110) (h := ?_)
      refine p_idxRowN (i) (ht := Try.underlying78) (hi := F.ti110) (hij := rfl) (hlt := hlt) (h := ?_)
      refine p_storeRowAF (f' := fun j => if j < i + 1 then celV 0 1 0 else celV (bitI j) 0 0) F.ti110 (TI.cells F.ti110) eV_ oB_ (hlt) eV_ rfl rfl (fun j _ => fillS i j) ?_
      refine p_end ?_
      refine p_region fun hf => ?_
      refine p_move (h := ?_)
      refine p_add (r := ((i + 1 : Nat) : Int)) (hr := by omega) (hb := by omega) (h := ?_)
      refine p_assign (h := ?_)
      refine p_end ?_
      refine p_some ?_
      refine ⟨⟨i + 1, by omega, eV_, eV_, eV_, eV_, eV_, oB_, oB_, oB_, oB_, oB_⟩, ?_⟩
      simp (decide := true) only [upd, e10, V.toN, ↓reduceIte]; omega
    · refine p_condF (h := ?_)
      have hie : i = G.vars.length := by simp at hc30; omega
      have hrow : ((List.range G.vars.length).map (fun j => if j < i then celV 0 1 0 else celV (bitI j) 0 0)) = startC G.vars.length := List.map_congr_left fun j hj => by rw [if_pos (by rw [hie]; simpa using hj)]
      refine p_exit ?_
      refine p_freeze (g1 := (0 + 1 + 1 + 1 + 1 + 1)) (d1 := 23) (h := ?_)
      refine p_cellSl (g1 := (0 + 1 + 1 + 1 + 1 + 1)) (d1 := 8) (i := 4) (hn := by simp) (h := ?_)
      refine p_seq (p_draw F.mixed fun hf => ?_)
      (first | refine p_loadA (ht := F.agg35) (hi := F.ti35) (h := ?_) | refine p_loadRefA (ht := F.agg35) (hi := F.ti35) (h := ?_))
      (first | refine p_fieldPtr (hf := F.fld29_5) (h := ?_) | refine p_fieldRef (hf := F.fld29_5) (h := ?_) | refine p_fieldRow (hf := F.fld29_5) (h := ?_))
      (first | refine p_load (ht := F.leaf23) (h := ?_) | refine p_loadRef (ht := F.leaf23) (h := ?_))
      refine p_len (ht := Try.underlying23) (h := ?_)
      refine p_buildSlice (ht := Try.underlying23) (hi := F.ti3) (h := ?_)
      (first | refine p_fieldPtr (hf := F.fld29_2) (h := ?_) | refine p_fieldRef (hf := F.fld29_2) (h := ?_) | refine p_fieldRow (hf := F.fld29_2) (h := ?_))
      (first | refine p_load (ht := F.leaf23) (h := ?_) | refine p_loadRef (ht := F.leaf23) (h := ?_))
      (first | refine p_fieldPtr (hf := F.fld29_4) (h := ?_) | refine p_fieldRef (hf := F.fld29_4) (h := ?_) | refine p_fieldRow (hf := F.fld29_4) (h := ?_))
      (first | refine p_load (ht := F.leaf3) (h := ?_) | refine p_loadRef (ht := F.leaf3) (h := ?_))
      refine p_idxMap (j := G.main.toNat) (ht := Try.underlying23) (hi := F.ti3) (hij := by omega) (hj := hlm) (h := ?_)
      rw [entryZ_eq hlm]
      (first | refine p_load (ht := F.leaf3) (h := ?_) | refine p_loadRef (ht := F.leaf3) (h := ?_))
      (first | refine p_loadA (ht := F.agg81) (hi := F.ti81) (h := ?_) | refine p_loadRefA (ht := F.agg81) (hi := F.ti81) (h := ?_))
      refine p_build (hi := F.ti112) (hpl := F.pl112) (h := ?_)
      refine p_buildSlice (ht := Try.underlying67) (hi := F.ti112) (h := ?_)
      refine p_build (hi := F.ti69) (hpl := F.pl69) (h := ?_)
      refine p_storeAll F.ti69 (h := ?_)
      refine p_assign (h := ?_)
      refine p_endD ?_
      refine TrC.ret ?_
      refine p_freeze (g1 := (g1 + 1 + 1)) (d1 := 42) (h := ?_)
      refine p_freeze (g1 := (g1 + 1 + 1)) (d1 := 51) (h := ?_)
      refine p_cellSl (g1 := 0 + 1) (d1 := 4) (i := 5) (hn := by rfl) (h := ?_)
      refine p_cellSl (g1 := 0 + 1) (d1 := 4) (i := 6) (hn := by rfl) (h := ?_)
      refine p_rets2 rfl (res_cell eV_ oB_ F.agg69 F.ti69 rfl rfl) ⟨eV_, rfl⟩ (by rw [hrow]; rfl)

end Go.Proofs.Ytfjciangbmjlmaa
