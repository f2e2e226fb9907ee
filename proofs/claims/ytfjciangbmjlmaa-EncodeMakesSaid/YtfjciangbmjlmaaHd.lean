/-
  weight.One and encode.Start in all modes, walked.
-/
import Derived.Test.YtfjciangbmjlmaaHc
set_option linter.unusedSimpArgs false
set_option linter.unusedVariables false
namespace Go.Proofs.Ytfjciangbmjlmaa
open Go.RowKit
theorem space_1 (G : Graph) : FnC Try.prog 27 [graphV G, iV 1] (fun r => r = .agg (sL 1 0 [])) := spaceM G 1
theorem space_2 (G : Graph) : FnC Try.prog 27 [graphV G, iV 2] (fun r => r = .agg (sL 5 0 [.agg (sL 2 1048576 []), .agg (sL 3 G.vars.length [])])) := spaceM G 2
theorem space_3 (G : Graph) : FnC Try.prog 27 [graphV G, iV 3] (fun r => r = .agg (sL 4 G.vars.length [])) := spaceM G 3

theorem wone5 (n : Nat) (h : n ≤ 64) : FnC Try.prog 62 [.agg (sL 5 0 [.agg (sL 2 1048576 []), .agg (sL 3 n [])])] (fun r => r = .agg (wL 0 0 [] [] [.agg (wL 0 0 [] [] []), .agg (wL 0 0 (rows1 n) [] [])])) := by
  refine FnC.of (fn := Try.f62) ⟨Try.func62, by kernel_rfl, rfl⟩ Try.ntmps62 (by simp) fun w0 S0 => ?_
  refine p_seq (p_region fun hf => ?_)
  refine p_box (h := ?_)
  refine p_alloc (hi := F.ti81) (h := ?_)
  refine p_end ?_
  refine p_seq (p_region fun hf => ?_)
  refine p_alloc (hi := F.ti81) (h := ?_)
  refine p_end ?_
  refine p_seq ?_
  refine p_seq (p_region fun hf => ?_)
  (first | refine p_fieldPtr (hf := F.fld35_0) (h := ?_) | refine p_fieldRef (hf := F.fld35_0) (h := ?_) | refine p_fieldRow (hf := F.fld35_0) (h := ?_))
  (first | refine p_load (ht := F.leaf32) (h := ?_) | refine p_loadRef (ht := F.leaf32) (h := ?_))
  refine p_end ?_
  refine TrC.block ?_
  refine p_seq (p_region fun hf => ?_)
  refine p_num (h := ?_)
  refine p_assign (h := ?_)
  refine p_end ?_
  refine p_isC (s := 6) (b := false) (hc := by first | rfl | decide | (simp; done) | (simp; omega)) (h := ?_)
  refine p_condF (h := ?_)
  refine p_seq (p_region fun hf => ?_)
  refine p_num (h := ?_)
  refine p_assign (h := ?_)
  refine p_end ?_
  refine p_isC (s := 15) (b := false) (hc := by first | rfl | decide | (simp; done) | (simp; omega)) (h := ?_)
  refine p_condF (h := ?_)
  refine p_seq (p_region fun hf => ?_)
  refine p_num (h := ?_)
  refine p_assign (h := ?_)
  refine p_end ?_
  refine p_isC (s := 24) (b := true) (hc := by first | rfl | decide | (simp; done) | (simp; omega)) (h := ?_)
  refine p_condT (h := ?_)
  refine p_draw F.mixed fun hf => ?_
  (first | refine p_fieldPtr (hf := F.fld35_2) (h := ?_) | refine p_fieldRef (hf := F.fld35_2) (h := ?_) | refine p_fieldRow (hf := F.fld35_2) (h := ?_))
  (first | refine p_load (ht := F.leaf33) (h := ?_) | refine p_loadRef (ht := F.leaf33) (h := ?_))
  refine p_idxSl (ht := Try.underlying33) (hi := F.ti35) (h0 := by decide) (hv := by rfl) (h := ?_)
  (first | refine p_loadA (ht := F.agg35) (hi := F.ti35) (h := ?_) | refine p_loadRefA (ht := F.agg35) (hi := F.ti35) (h := ?_))
  refine p_call (hx := rfl) (hb := ⟨Try.func62, by kernel_rfl, rfl⟩) (hf := wone2 1048576) (h := ?_)
  (first | refine p_fieldPtr (hf := F.fld35_2) (h := ?_) | refine p_fieldRef (hf := F.fld35_2) (h := ?_) | refine p_fieldRow (hf := F.fld35_2) (h := ?_))
  (first | refine p_load (ht := F.leaf33) (h := ?_) | refine p_loadRef (ht := F.leaf33) (h := ?_))
  refine p_idxSl (ht := Try.underlying33) (hi := F.ti35) (h0 := by decide) (hv := by rfl) (h := ?_)
  (first | refine p_loadA (ht := F.agg35) (hi := F.ti35) (h := ?_) | refine p_loadRefA (ht := F.agg35) (hi := F.ti35) (h := ?_))
  refine p_call (hx := rfl) (hb := ⟨Try.func62, by kernel_rfl, rfl⟩) (hf := wone3 n h) (h := ?_)
  refine p_buildSlice (ht := Try.underlying79) (hi := F.ti81) (h := ?_)
  (first | refine p_fieldPtr (hf := F.fld81_4) (h := ?_) | refine p_fieldRef (hf := F.fld81_4) (h := ?_) | refine p_fieldRow (hf := F.fld81_4) (h := ?_))
  refine p_store1 F.ti79 (h := ?_)
  refine p_endD ?_
  refine p_seq (p_region fun hf => ?_)
  (first | refine p_loadA (ht := F.agg81) (hi := F.ti81) (h := ?_) | refine p_loadRefA (ht := F.agg81) (hi := F.ti81) (h := ?_))
  refine p_storeAll F.ti81 (h := ?_)
  refine p_end ?_
  refine TrC.ret ?_
  refine p_freeze (g1 := 0 + 1 + 1 + 1 + 1 + 1 + 1 + 1) (d1 := 36) (h := ?_)
  refine p_cellSl (g1 := 0 + 1) (d1 := 2) (i := 5) (hn := by rfl) (h := ?_)
  refine p_cellNil (g1 := 0 + 1) (d1 := 2) (i := 3) (el := 74) (h := ?_)
  refine p_cellNil (g1 := 0 + 1) (d1 := 2) (i := 4) (el := 110) (h := ?_)
  refine Tr.ret1 rfl (res_cell eV_ oB_ F.agg81 F.ti81 rfl rfl) rfl (by intro l h; cases h)

theorem wOne1  : FnC Try.prog 40 [spcV ⟨1, 0⟩] (fun r => r = .tup [.agg (wL 0 0 [] [] []), iV 0]) := by
  refine FnC.of (fn := Try.f40) ⟨Try.func40, by kernel_rfl, rfl⟩ Try.ntmps40 (by simp) fun w0 S0 => ?_
  refine p_seq (p_region fun hf => ?_)
  refine p_box (h := ?_)
  refine p_alloc (hi := F.ti81) (h := ?_)
  refine p_assign (h := ?_)
  refine p_end ?_
  refine p_seq ?_
  refine p_seq (p_region fun hf => ?_)
  (first | refine p_loadA (ht := F.agg35) (hi := F.ti35) (h := ?_) | refine p_loadRefA (ht := F.agg35) (hi := F.ti35) (h := ?_))
  refine p_call (hx := rfl) (hb := ⟨Try.func61, by kernel_rfl, rfl⟩) (hf := spc1) (h := ?_)
  refine p_assign (h := ?_)
  refine p_end ?_
  refine p_seq (p_region fun hf => ?_)
  refine p_move (h := ?_)
  refine p_num (h := ?_)
  refine p_end ?_
  refine p_isC (s := 8) (b := false) (hc := by first | rfl | decide | (simp; done) | (simp; omega)) (h := ?_)
  refine p_condF (h := ?_)
  refine p_skip ?_
  refine p_seq (p_region fun hf => ?_)
  (first | refine p_loadA (ht := F.agg35) (hi := F.ti35) (h := ?_) | refine p_loadRefA (ht := F.agg35) (hi := F.ti35) (h := ?_))
  refine p_call (hx := rfl) (hb := ⟨Try.func62, by kernel_rfl, rfl⟩) (hf := wone1) (h := ?_)
  refine p_storeAll F.ti81 (h := ?_)
  refine p_assign (h := ?_)
  refine p_end ?_
  refine TrC.ret ?_
  refine p_rets2 rfl (res_cell eV_ oB_ F.agg81 F.ti81 rfl rfl) ⟨eV_, rfl⟩ rfl

theorem wOne5 (n : Nat) (h : n ≤ 64) : FnC Try.prog 40 [.agg (sL 5 0 [.agg (sL 2 1048576 []), .agg (sL 3 n [])])] (fun r => r = .tup [.agg (wL 0 0 [] [] [.agg (wL 0 0 [] [] []), .agg (wL 0 0 (rows1 n) [] [])]), iV 0]) := by
  refine FnC.of (fn := Try.f40) ⟨Try.func40, by kernel_rfl, rfl⟩ Try.ntmps40 (by simp) fun w0 S0 => ?_
  refine p_seq (p_region fun hf => ?_)
  refine p_box (h := ?_)
  refine p_alloc (hi := F.ti81) (h := ?_)
  refine p_assign (h := ?_)
  refine p_end ?_
  refine p_seq ?_
  refine p_seq (p_region fun hf => ?_)
  (first | refine p_loadA (ht := F.agg35) (hi := F.ti35) (h := ?_) | refine p_loadRefA (ht := F.agg35) (hi := F.ti35) (h := ?_))
  refine p_call (hx := rfl) (hb := ⟨Try.func61, by kernel_rfl, rfl⟩) (hf := spc5 n h) (h := ?_)
  refine p_assign (h := ?_)
  refine p_end ?_
  refine p_seq (p_region fun hf => ?_)
  refine p_move (h := ?_)
  refine p_num (h := ?_)
  refine p_end ?_
  refine p_isC (s := 8) (b := false) (hc := by first | rfl | decide | (simp; done) | (simp; omega)) (h := ?_)
  refine p_condF (h := ?_)
  refine p_skip ?_
  refine p_seq (p_region fun hf => ?_)
  (first | refine p_loadA (ht := F.agg35) (hi := F.ti35) (h := ?_) | refine p_loadRefA (ht := F.agg35) (hi := F.ti35) (h := ?_))
  refine p_call (hx := rfl) (hb := ⟨Try.func62, by kernel_rfl, rfl⟩) (hf := wone5 n h) (h := ?_)
  refine p_storeAll F.ti81 (h := ?_)
  refine p_assign (h := ?_)
  refine p_end ?_
  refine TrC.ret ?_
  refine p_rets2 rfl (res_cell eV_ oB_ F.agg81 F.ti81 rfl rfl) ⟨eV_, rfl⟩ rfl

theorem wOne4o (n : Nat) (h : n ≤ 64) : FnO Try.prog 40 [spcV ⟨4, n⟩] 110 (cells1 n) (fun g d => .tup [.agg [.bool false, iV 0, uV 0, .sl 74 [], .row g d n, .sl 81 []], iV 0]) := by
  refine FnO.of (fn := Try.f40) ⟨Try.func40, by kernel_rfl, rfl⟩ Try.ntmps40 (by simp) fun w0 S0 => ?_
  refine p_seq (p_region fun hf => ?_)
  refine p_box (h := ?_)
  refine p_alloc (hi := F.ti81) (h := ?_)
  refine p_assign (h := ?_)
  refine p_end ?_
  refine p_seq ?_
  refine p_seq (p_region fun hf => ?_)
  (first | refine p_loadA (ht := F.agg35) (hi := F.ti35) (h := ?_) | refine p_loadRefA (ht := F.agg35) (hi := F.ti35) (h := ?_))
  refine p_call (hx := rfl) (hb := ⟨Try.func61, by kernel_rfl, rfl⟩) (hf := spc4 n (by omega)) (h := ?_)
  refine p_assign (h := ?_)
  refine p_end ?_
  refine p_seq (p_region fun hf => ?_)
  refine p_move (h := ?_)
  refine p_num (h := ?_)
  refine p_end ?_
  refine p_isC (s := 8) (b := false) (hc := by first | rfl | decide | (simp; done) | (simp; omega)) (h := ?_)
  refine p_condF (h := ?_)
  refine p_skip ?_
  refine p_seq (p_region fun hf => ?_)
  (first | refine p_loadA (ht := F.agg35) (hi := F.ti35) (h := ?_) | refine p_loadRefA (ht := F.agg35) (hi := F.ti35) (h := ?_))
  refine p_callO 12 (hb := ⟨Try.func62, by kernel_rfl, rfl⟩) (hf := wone4o n h) (h := ?_)
  refine p_storeAll F.ti81 (h := ?_)
  refine p_assign (h := ?_)
  refine p_end ?_
  refine TrC.ret ?_
  refine p_retO2 (0 + 1 + 1 + 1 + 1) 12 (v1 := fun g d => .agg [.bool false, iV 0, uV 0, .sl 74 [], .row g d n, .sl 81 []]) (v2 := fun _ _ => iV 0) rfl oB_ ⟨_, _, _, _, eV_, oB_, F.agg81, _, _, _, F.ti81, rfl, rfl⟩ eV_ rfl (Ren.tup (.cons (.agg (.cons (.out rfl) (.cons (.out rfl) (.cons (.out rfl) (.cons (.out rfl) (.cons (.row n) (.cons (.out rfl) .nil))))))) (.cons (.out rfl) .nil)))

abbrev autoL (t d : Int) (sp : List V) (n k : Int) (fin tr : List V) : List V := [iV t, iV d, .sl 35 sp, iV n, iV k, .sl 3 fin, .sl 112 tr]
abbrev transV (a s b : Int) (rows cells parts : List V) : V := .agg [iV a, iV s, iV b, .bool false, iV 0, uV 0, .sl 74 rows, .sl 110 cells, .sl 81 parts]
def startC (n : Nat) : List V := (List.range n).map fun _ => celV 0 1 0
theorem fillS (i j : Nat) : (if j < i + 1 then celV 0 1 0 else celV (bitI j) 0 0) = if j = i then .agg [uV 0, iV 1, iV 0] else (if j < i then celV 0 1 0 else celV (bitI j) 0 0) := by
  by_cases h1 : j = i
  · subst h1; simp
  · rw [if_neg h1]
    by_cases h2 : j < i
    · rw [if_pos h2, if_pos (by omega)]
    · rw [if_neg h2, if_neg (by omega)]
theorem main_in {G : Graph} (h : checkB G = true) : 0 ≤ G.main ∧ G.main < G.entry.length := by
  simp only [checkB, Bool.and_eq_true] at h
  have h1 := h.1.1.1.1
  simp only [procsRightB, Bool.and_eq_true] at h1
  have h2 := h1.1.1.1
  simp only [headB, Bool.not_eq_true', Bool.or_eq_false_iff] at h2
  have hl : (G.entry.length : Int) = G.procs.length := by simpa using h2.1.1.1.2
  have h3 := h2.2
  have h4 := inB_lt h3
  have h5 := inB_nat h3
  omega

theorem startErr (G : Graph) (m : Int) (h1 : G.steps.length ≤ 1000000000) (h2 : G.points.length ≤ 1000000000) (h3 : G.sinks.length ≤ 1000000000) (ha : decide (askedR G m ≠ 0) = true) : FnC Try.prog 18 [graphV G, iV m] (fun r => r = .tup [.agg (autoL 0 0 [] 0 0 [] []), iV (askedR G m)]) := by
  refine FnC.of (fn := Try.f18) ⟨Try.func18, by kernel_rfl, rfl⟩ Try.ntmps18 (by simp) fun w0 S0 => ?_
  refine p_seq (p_region fun hf => ?_)
  refine p_box (h := ?_)
  refine p_alloc (hi := F.ti69) (h := ?_)
  refine p_assign (h := ?_)
  refine p_end ?_
  refine p_seq ?_
  refine p_seq (p_region fun hf => ?_)
  (first | refine p_loadA (ht := F.agg29) (hi := F.ti29) (h := ?_) | refine p_loadRefA (ht := F.agg29) (hi := F.ti29) (h := ?_))
  refine p_move (h := ?_)
  refine p_call (hx := rfl) (hb := ⟨Try.func26, by kernel_rfl, rfl⟩) (hf := asked G m h1 h2 h3) (h := ?_)
  refine p_assign (h := ?_)
  refine p_end ?_
  refine p_seq (p_region fun hf => ?_)
  refine p_move (h := ?_)
  refine p_num (h := ?_)
  refine p_end ?_
  refine p_isC (s := 15) (b := true) (hc := by exact ha) (h := ?_)
  refine p_condT (h := ?_)
  refine p_seq (p_region fun hf => ?_)
  refine p_build (hi := F.ti69) (hpl := F.pl69) (h := ?_)
  refine p_move (h := ?_)
  refine p_storeAll F.ti69 (h := ?_)
  refine p_assign (h := ?_)
  refine p_end ?_
  refine TrC.ret ?_
  refine p_cellNil (g1 := 0 + 1) (d1 := 4) (i := 2) (el := 35) (h := ?_)
  refine p_cellNil (g1 := 0 + 1) (d1 := 4) (i := 5) (el := 3) (h := ?_)
  refine p_cellNil (g1 := 0 + 1) (d1 := 4) (i := 6) (el := 112) (h := ?_)
  refine p_rets2 rfl (res_cell eV_ oB_ F.agg69 F.ti69 rfl rfl) ⟨eV_, rfl⟩ rfl

theorem start1 (G : Graph) (h1 : G.steps.length ≤ 1000000000) (h2 : G.points.length ≤ 1000000000) (h3 : G.sinks.length ≤ 1000000000) (ha : decide (askedR G 1 ≠ 0) = false) : FnC Try.prog 18 [graphV G, iV 1] (fun r => r = .tup [.agg (autoL 1 0 [] 2 G.of.length [iV 1] [transV 0 (entryZ G G.main) 1 [] [] []]), iV 0]) := by
  refine FnC.of (fn := Try.f18) ⟨Try.func18, by kernel_rfl, rfl⟩ Try.ntmps18 (by simp) fun w0 S0 => ?_
  have hm := main_in (asked_checkM ha)
  have hlm : G.main.toNat < G.entry.length := by omega
  refine p_seq (p_region fun hf => ?_)
  refine p_box (h := ?_)
  refine p_alloc (hi := F.ti69) (h := ?_)
  refine p_assign (h := ?_)
  refine p_end ?_
  refine p_seq ?_
  refine p_seq (p_region fun hf => ?_)
  (first | refine p_loadA (ht := F.agg29) (hi := F.ti29) (h := ?_) | refine p_loadRefA (ht := F.agg29) (hi := F.ti29) (h := ?_))
  refine p_move (h := ?_)
  refine p_call (hx := rfl) (hb := ⟨Try.func26, by kernel_rfl, rfl⟩) (hf := asked G 1 h1 h2 h3) (h := ?_)
  refine p_assign (h := ?_)
  refine p_end ?_
  refine p_seq (p_region fun hf => ?_)
  refine p_move (h := ?_)
  refine p_num (h := ?_)
  refine p_end ?_
  refine p_isC (s := 15) (b := false) (hc := by exact ha) (h := ?_)
  refine p_condF (h := ?_)
  refine p_skip ?_
  refine p_seq (p_region fun hf => ?_)
  (first | refine p_loadA (ht := F.agg29) (hi := F.ti29) (h := ?_) | refine p_loadRefA (ht := F.agg29) (hi := F.ti29) (h := ?_))
  refine p_move (h := ?_)
  refine p_call (hx := rfl) (hb := ⟨Try.func27, by kernel_rfl, rfl⟩) (hf := space_1 G) (h := ?_)
  refine p_alloc (hi := F.ti35) (h := ?_)
  refine p_storeAll F.ti35 (h := ?_)
  refine p_end ?_
  refine p_seq (p_region fun hf => ?_)
  (first | refine p_loadA (ht := F.agg35) (hi := F.ti35) (h := ?_) | refine p_loadRefA (ht := F.agg35) (hi := F.ti35) (h := ?_))
  refine p_call (hx := rfl) (hb := ⟨Try.func40, by kernel_rfl, rfl⟩) (hf := wOne1) (h := ?_)
  refine p_move (h := ?_)
  refine p_extract (h := ?_)
  refine p_extract (h := ?_)
  refine p_alloc (hi := F.ti81) (h := ?_)
  refine p_storeAll F.ti81 (h := ?_)
  refine p_assign (h := ?_)
  refine p_end ?_
  refine p_seq ?_
  refine p_seq (p_region fun hf => ?_)
  (first | refine p_fieldPtr (hf := F.fld81_3) (h := ?_) | refine p_fieldRef (hf := F.fld81_3) (h := ?_) | refine p_fieldRow (hf := F.fld81_3) (h := ?_))
  (first | refine p_load (ht := F.leaf78) (h := ?_) | refine p_loadRef (ht := F.leaf78) (h := ?_))
  refine p_len (ht := Try.underlying78) (h := ?_)
  refine p_move (h := ?_)
  refine p_end ?_
  refine TrC.block ?_
  refine p_loop (fun st => st.env 2 = .ptr (0 + 1) 2 0 ∧ st.env 4 = .ptr (0 + 1) 4 0 ∧ st.env 7 = .ptr (0 + 1 + 1 + 1 + 1) 7 0 ∧ st.env 8 = .ptr (0 + 1 + 1 + 1 + 1 + 1) 8 0 ∧ st.env 28 = iV 0 ∧ st.env 29 = iV 0 ∧ st.obj (0 + 1) 2 = .cells 29 (graphL G) ∧ st.obj (0 + 1) 4 = .cells 69 [iV 0, iV 0, .nil, iV 0, iV 0, .nil, .nil] ∧ st.obj (0 + 1 + 1 + 1 + 1) 7 = .cells 35 (sL 1 0 []) ∧ st.obj (0 + 1 + 1 + 1 + 1 + 1) 8 = .cells 81 (wL 0 0 [] [] [])) (fun st => 0) ?_ fun e ob g1 hI => ?_
  · exact ⟨eV_, eV_, eV_, eV_, eV_, eV_, oB_, oB_, oB_, oB_⟩
  · obtain ⟨e2, e4, e7, e8, e28, e29, o2, o4, o7, o8⟩ := hI
    dsimp only at e2 e4 e7 e8 e28 e29 o2 o4 o7 o8
    have hE := (⟨e2, e4, e7, e8, e28, e29, o2, o4, o7, o8⟩ : _ ∧ _ ∧ _ ∧ _ ∧ _ ∧ _ ∧ _ ∧ _ ∧ _ ∧ _)
    refine p_seq (p_region fun hf => ?_)
    refine p_num (h := ?_)
    refine p_end ?_
    refine p_seq ?_
    refine p_isC (s := 30) (b := false) (hc := by first | rfl | decide | (simp; done) | (simp; omega)) (h := ?_)
    refine p_condF (h := ?_)
    refine p_exit ?_
    refine p_seq (p_draw F.mixed fun hf => ?_)
    (first | refine p_loadA (ht := F.agg35) (hi := F.ti35) (h := ?_) | refine p_loadRefA (ht := F.agg35) (hi := F.ti35) (h := ?_))
    (first | refine p_fieldPtr (hf := F.fld29_5) (h := ?_) | refine p_fieldRef (hf := F.fld29_5) (h := ?_) | refine p_fieldRow (hf := F.fld29_5) (h := ?_))
    (first | refine p_load (ht := F.leaf23) (h := ?_) | refine p_loadRef (ht := F.leaf23) (h := ?_))
    refine p_len (ht := Try.underlying23) (h := ?_)
    refine p_buildSlice (ht := Try.underlying23) (hi := F.ti3) (h := ?_)
    (first | refine p_fieldPtr (hf := F.fld29_2) (h := ?_) | refine p_fieldRef (hf := F.fld29_2) (h := ?_) | refine p_fieldRow (hf := F.fld29_2) (h := ?_))
    (first | refine p_load (ht := F.leaf23) (h := ?_) | refine p_loadRef (ht := F.leaf23) (h := ?_))
    (first | refine p_fieldPtr (hf := F.fld29_4) (h := ?_) | refine p_fieldRef (hf := F.fld29_4) (h := ?_) | refine p_fieldRow (hf := F.fld29_4) (h := ?_))
    (first | refine p_load (ht := F.leaf3) (h := ?_) | refine p_loadRef (ht := F.leaf3) (h := ?_))
    refine p_idxMap (j := G.main.toNat) (ht := Try.underlying23) (hi := F.ti3) (hij := by omega) (hj := hlm) (h := ?_)
    rw [entryZ_eq hlm]
    (first | refine p_load (ht := F.leaf3) (h := ?_) | refine p_loadRef (ht := F.leaf3) (h := ?_))
    (first | refine p_loadA (ht := F.agg81) (hi := F.ti81) (h := ?_) | refine p_loadRefA (ht := F.agg81) (hi := F.ti81) (h := ?_))
    refine p_build (hi := F.ti112) (hpl := F.pl112) (h := ?_)
    refine p_buildSlice (ht := Try.underlying67) (hi := F.ti112) (h := ?_)
    refine p_build (hi := F.ti69) (hpl := F.pl69) (h := ?_)
    refine p_storeAll F.ti69 (h := ?_)
    refine p_assign (h := ?_)
    refine p_endD ?_
    refine TrC.ret ?_
    refine p_freeze (g1 := (g1 + 1 + 1)) (d1 := 42) (h := ?_)
    refine p_freeze (g1 := (g1 + 1 + 1)) (d1 := 51) (h := ?_)
    refine p_cellSl (g1 := 0 + 1) (d1 := 4) (i := 5) (hn := by rfl) (h := ?_)
    refine p_cellSl (g1 := 0 + 1) (d1 := 4) (i := 6) (hn := by rfl) (h := ?_)
    refine p_rets2 rfl (res_cell eV_ oB_ F.agg69 F.ti69 rfl rfl) ⟨eV_, rfl⟩ rfl

theorem start2 (G : Graph) (h1 : G.steps.length ≤ 1000000000) (h2 : G.points.length ≤ 1000000000) (h3 : G.sinks.length ≤ 1000000000) (h : G.vars.length ≤ 64) (ha : decide (askedR G 2 ≠ 0) = false) : FnC Try.prog 18 [graphV G, iV 2] (fun r => r = .tup [.agg (autoL 5 0 [.agg (sL 2 1048576 []), .agg (sL 3 G.vars.length [])] 2 G.of.length [iV 1] [transV 0 (entryZ G G.main) 1 [] [] [.agg (wL 0 0 [] [] []), .agg (wL 0 0 (rows1 G.vars.length) [] [])]]), iV 0]) := by
  refine FnC.of (fn := Try.f18) ⟨Try.func18, by kernel_rfl, rfl⟩ Try.ntmps18 (by simp) fun w0 S0 => ?_
  have hm := main_in (asked_checkM ha)
  have hlm : G.main.toNat < G.entry.length := by omega
  refine p_seq (p_region fun hf => ?_)
  refine p_box (h := ?_)
  refine p_alloc (hi := F.ti69) (h := ?_)
  refine p_assign (h := ?_)
  refine p_end ?_
  refine p_seq ?_
  refine p_seq (p_region fun hf => ?_)
  (first | refine p_loadA (ht := F.agg29) (hi := F.ti29) (h := ?_) | refine p_loadRefA (ht := F.agg29) (hi := F.ti29) (h := ?_))
  refine p_move (h := ?_)
  refine p_call (hx := rfl) (hb := ⟨Try.func26, by kernel_rfl, rfl⟩) (hf := asked G 2 h1 h2 h3) (h := ?_)
  refine p_assign (h := ?_)
  refine p_end ?_
  refine p_seq (p_region fun hf => ?_)
  refine p_move (h := ?_)
  refine p_num (h := ?_)
  refine p_end ?_
  refine p_isC (s := 15) (b := false) (hc := by exact ha) (h := ?_)
  refine p_condF (h := ?_)
  refine p_skip ?_
  refine p_seq (p_region fun hf => ?_)
  (first | refine p_loadA (ht := F.agg29) (hi := F.ti29) (h := ?_) | refine p_loadRefA (ht := F.agg29) (hi := F.ti29) (h := ?_))
  refine p_move (h := ?_)
  refine p_call (hx := rfl) (hb := ⟨Try.func27, by kernel_rfl, rfl⟩) (hf := space_2 G) (h := ?_)
  refine p_alloc (hi := F.ti35) (h := ?_)
  refine p_storeAll F.ti35 (h := ?_)
  refine p_end ?_
  refine p_seq (p_region fun hf => ?_)
  (first | refine p_loadA (ht := F.agg35) (hi := F.ti35) (h := ?_) | refine p_loadRefA (ht := F.agg35) (hi := F.ti35) (h := ?_))
  refine p_call (hx := rfl) (hb := ⟨Try.func40, by kernel_rfl, rfl⟩) (hf := wOne5 _ h) (h := ?_)
  refine p_move (h := ?_)
  refine p_extract (h := ?_)
  refine p_extract (h := ?_)
  refine p_alloc (hi := F.ti81) (h := ?_)
  refine p_storeAll F.ti81 (h := ?_)
  refine p_assign (h := ?_)
  refine p_end ?_
  refine p_seq ?_
  refine p_seq (p_region fun hf => ?_)
  (first | refine p_fieldPtr (hf := F.fld81_3) (h := ?_) | refine p_fieldRef (hf := F.fld81_3) (h := ?_) | refine p_fieldRow (hf := F.fld81_3) (h := ?_))
  (first | refine p_load (ht := F.leaf78) (h := ?_) | refine p_loadRef (ht := F.leaf78) (h := ?_))
  refine p_len (ht := Try.underlying78) (h := ?_)
  refine p_move (h := ?_)
  refine p_end ?_
  refine TrC.block ?_
  refine p_loop (fun st => st.env 2 = .ptr (0 + 1) 2 0 ∧ st.env 4 = .ptr (0 + 1) 4 0 ∧ st.env 7 = .ptr (0 + 1 + 1 + 1 + 1) 7 0 ∧ st.env 8 = .ptr (0 + 1 + 1 + 1 + 1 + 1) 8 0 ∧ st.env 28 = iV 0 ∧ st.env 29 = iV 0 ∧ st.obj (0 + 1) 2 = .cells 29 (graphL G) ∧ st.obj (0 + 1) 4 = .cells 69 [iV 0, iV 0, .nil, iV 0, iV 0, .nil, .nil] ∧ st.obj (0 + 1 + 1 + 1 + 1) 7 = .cells 35 (sL 5 0 [.agg (sL 2 1048576 []), .agg (sL 3 G.vars.length [])]) ∧ st.obj (0 + 1 + 1 + 1 + 1 + 1) 8 = .cells 81 (wL 0 0 [] [] [.agg (wL 0 0 [] [] []), .agg (wL 0 0 (rows1 G.vars.length) [] [])])) (fun st => 0) ?_ fun e ob g1 hI => ?_
  · exact ⟨eV_, eV_, eV_, eV_, eV_, eV_, oB_, oB_, oB_, oB_⟩
  · obtain ⟨e2, e4, e7, e8, e28, e29, o2, o4, o7, o8⟩ := hI
    dsimp only at e2 e4 e7 e8 e28 e29 o2 o4 o7 o8
    have hE := (⟨e2, e4, e7, e8, e28, e29, o2, o4, o7, o8⟩ : _ ∧ _ ∧ _ ∧ _ ∧ _ ∧ _ ∧ _ ∧ _ ∧ _ ∧ _)
    refine p_seq (p_region fun hf => ?_)
    refine p_num (h := ?_)
    refine p_end ?_
    refine p_seq ?_
    refine p_isC (s := 30) (b := false) (hc := by first | rfl | decide | (simp; done) | (simp; omega)) (h := ?_)
    refine p_condF (h := ?_)
    refine p_exit ?_
    refine p_seq (p_draw F.mixed fun hf => ?_)
    (first | refine p_loadA (ht := F.agg35) (hi := F.ti35) (h := ?_) | refine p_loadRefA (ht := F.agg35) (hi := F.ti35) (h := ?_))
    (first | refine p_fieldPtr (hf := F.fld29_5) (h := ?_) | refine p_fieldRef (hf := F.fld29_5) (h := ?_) | refine p_fieldRow (hf := F.fld29_5) (h := ?_))
    (first | refine p_load (ht := F.leaf23) (h := ?_) | refine p_loadRef (ht := F.leaf23) (h := ?_))
    refine p_len (ht := Try.underlying23) (h := ?_)
    refine p_buildSlice (ht := Try.underlying23) (hi := F.ti3) (h := ?_)
    (first | refine p_fieldPtr (hf := F.fld29_2) (h := ?_) | refine p_fieldRef (hf := F.fld29_2) (h := ?_) | refine p_fieldRow (hf := F.fld29_2) (h := ?_))
    (first | refine p_load (ht := F.leaf23) (h := ?_) | refine p_loadRef (ht := F.leaf23) (h := ?_))
    (first | refine p_fieldPtr (hf := F.fld29_4) (h := ?_) | refine p_fieldRef (hf := F.fld29_4) (h := ?_) | refine p_fieldRow (hf := F.fld29_4) (h := ?_))
    (first | refine p_load (ht := F.leaf3) (h := ?_) | refine p_loadRef (ht := F.leaf3) (h := ?_))
    refine p_idxMap (j := G.main.toNat) (ht := Try.underlying23) (hi := F.ti3) (hij := by omega) (hj := hlm) (h := ?_)
    rw [entryZ_eq hlm]
    (first | refine p_load (ht := F.leaf3) (h := ?_) | refine p_loadRef (ht := F.leaf3) (h := ?_))
    (first | refine p_loadA (ht := F.agg81) (hi := F.ti81) (h := ?_) | refine p_loadRefA (ht := F.agg81) (hi := F.ti81) (h := ?_))
    refine p_build (hi := F.ti112) (hpl := F.pl112) (h := ?_)
    refine p_buildSlice (ht := Try.underlying67) (hi := F.ti112) (h := ?_)
    refine p_build (hi := F.ti69) (hpl := F.pl69) (h := ?_)
    refine p_storeAll F.ti69 (h := ?_)
    refine p_assign (h := ?_)
    refine p_endD ?_
    refine TrC.ret ?_
    refine p_freeze (g1 := (g1 + 1 + 1)) (d1 := 42) (h := ?_)
    refine p_freeze (g1 := (g1 + 1 + 1)) (d1 := 51) (h := ?_)
    refine p_cellSl (g1 := 0 + 1) (d1 := 4) (i := 5) (hn := by rfl) (h := ?_)
    refine p_cellSl (g1 := 0 + 1) (d1 := 4) (i := 6) (hn := by rfl) (h := ?_)
    refine p_rets2 rfl (res_cell eV_ oB_ F.agg69 F.ti69 rfl rfl) ⟨eV_, rfl⟩ rfl

theorem start3 (G : Graph) (h1 : G.steps.length ≤ 1000000000) (h2 : G.points.length ≤ 1000000000) (h3 : G.sinks.length ≤ 1000000000) (h : G.vars.length ≤ 64) (ha : decide (askedR G 3 ≠ 0) = false) : FnC Try.prog 18 [graphV G, iV 3] (fun r => r = .tup [.agg (autoL 4 G.vars.length [] 2 G.of.length [iV 1] [transV 0 (entryZ G G.main) 1 [] (startC G.vars.length) []]), iV 0]) := by
  refine FnC.of (fn := Try.f18) ⟨Try.func18, by kernel_rfl, rfl⟩ Try.ntmps18 (by simp) fun w0 S0 => ?_
  have hm := main_in (asked_checkM ha)
  have hlm : G.main.toNat < G.entry.length := by omega
  refine p_seq (p_region fun hf => ?_)
  refine p_box (h := ?_)
  refine p_alloc (hi := F.ti69) (h := ?_)
  refine p_assign (h := ?_)
  refine p_end ?_
  refine p_seq ?_
  refine p_seq (p_region fun hf => ?_)
  (first | refine p_loadA (ht := F.agg29) (hi := F.ti29) (h := ?_) | refine p_loadRefA (ht := F.agg29) (hi := F.ti29) (h := ?_))
  refine p_move (h := ?_)
  refine p_call (hx := rfl) (hb := ⟨Try.func26, by kernel_rfl, rfl⟩) (hf := asked G 3 h1 h2 h3) (h := ?_)
  refine p_assign (h := ?_)
  refine p_end ?_
  refine p_seq (p_region fun hf => ?_)
  refine p_move (h := ?_)
  refine p_num (h := ?_)
  refine p_end ?_
  refine p_isC (s := 15) (b := false) (hc := by exact ha) (h := ?_)
  refine p_condF (h := ?_)
  refine p_skip ?_
  refine p_seq (p_region fun hf => ?_)
  (first | refine p_loadA (ht := F.agg29) (hi := F.ti29) (h := ?_) | refine p_loadRefA (ht := F.agg29) (hi := F.ti29) (h := ?_))
  refine p_move (h := ?_)
  refine p_call (hx := rfl) (hb := ⟨Try.func27, by kernel_rfl, rfl⟩) (hf := space_3 G) (h := ?_)
  refine p_alloc (hi := F.ti35) (h := ?_)
  refine p_storeAll F.ti35 (h := ?_)
  refine p_end ?_
  refine p_seq (p_region fun hf => ?_)
  (first | refine p_loadA (ht := F.agg35) (hi := F.ti35) (h := ?_) | refine p_loadRefA (ht := F.agg35) (hi := F.ti35) (h := ?_))
  refine p_callO 23 (hb := ⟨Try.func40, by kernel_rfl, rfl⟩) (hf := wOne4o G.vars.length h) (h := ?_)
  refine p_move (h := ?_)
  refine p_extract (h := ?_)
  refine p_extract (h := ?_)
  refine p_alloc (hi := F.ti81) (h := ?_)
  refine p_storeAll F.ti81 (h := ?_)
  refine p_assign (h := ?_)
  refine p_end ?_
  refine p_seq ?_
  refine p_seq (p_region fun hf => ?_)
  (first | refine p_fieldPtr (hf := F.fld81_3) (h := ?_) | refine p_fieldRef (hf := F.fld81_3) (h := ?_) | refine p_fieldRow (hf := F.fld81_3) (h := ?_))
  (first | refine p_load (ht := F.leaf78) (h := ?_) | refine p_loadRef (ht := F.leaf78) (h := ?_))
  refine p_len (ht := Try.underlying78) (h := ?_)
  refine p_move (h := ?_)
  refine p_end ?_
  refine TrC.block ?_
  refine p_loop (fun st => ∃ i : Nat, i ≤ G.vars.length ∧ st.env 2 = .ptr (0 + 1) 2 0 ∧ st.env 4 = .ptr (0 + 1) 4 0 ∧ st.env 7 = .ptr (0 + 1 + 1 + 1 + 1) 7 0 ∧ st.env 8 = .ptr (0 + 1 + 1 + 1 + 1 + 1) 8 0 ∧ st.env 28 = iV G.vars.length ∧ st.env 29 = iV i ∧ st.obj (0 + 1) 2 = .cells 29 (graphL G) ∧ st.obj (0 + 1) 4 = .cells 69 [iV 0, iV 0, .nil, iV 0, iV 0, .nil, .nil] ∧ st.obj (0 + 1 + 1 + 1 + 1) 7 = .cells 35 (sL 4 G.vars.length []) ∧ st.obj (0 + 1 + 1 + 1 + 1 + 1) 8 = .cells 81 [.bool false, iV 0, uV 0, .sl 74 [], .row (0 + 1 + 1 + 1 + 1 + 1) 23 G.vars.length, .sl 81 []] ∧ st.obj (0 + 1 + 1 + 1 + 1 + 1) 23 = .row 110 ((List.range G.vars.length).map (fun j => if j < i then celV 0 1 0 else celV (bitI j) 0 0))) (fun st => G.vars.length - (st.env 29).toN) ?_ fun e ob g1 hI => ?_
  · exact ⟨0, by omega, eV_, eV_, eV_, eV_, eV_, eV_, oB_, oB_, oB_, oB_, by refine Eq.trans oB_ ?_; rfl⟩
  · obtain ⟨i, hi, e2, e4, e7, e8, e28, e29, o2, o4, o7, o8, o23⟩ := hI
    dsimp only at e2 e4 e7 e8 e28 e29 o2 o4 o7 o8 o23
    have hE := (⟨e2, e4, e7, e8, e28, e29, o2, o4, o7, o8, o23⟩ : _ ∧ _ ∧ _ ∧ _ ∧ _ ∧ _ ∧ _ ∧ _ ∧ _ ∧ _ ∧ _)
    refine p_seq (p_region fun hf => ?_)
    refine p_num (h := ?_)
    refine p_end ?_
    refine p_seq ?_
    refine p_splitC (s := 30) (ht := fun hc30 => ?_) (hf := fun hc30 => ?_)
    · refine p_condT (h := ?_)
      have hlt : i < G.vars.length := by simpa using hc30
      refine p_skip ?_
      refine p_seq ?_
      refine TrC.block ?_
      refine p_seq (p_region fun hf => ?_)
      refine p_move (h := ?_)
      refine p_assign (h := ?_)
      refine p_end ?_
      refine p_region fun hf => ?_
      (first | refine p_fieldPtr (hf := F.fld81_3) (h := ?_) | refine p_fieldRef (hf := F.fld81_3) (h := ?_) | refine p_fieldRow (hf := F.fld81_3) (h := ?_))
      (first | refine p_load (ht := F.leaf78) (h := ?_) | refine p_loadRef (ht := F.leaf78) (h := ?_))
      refine p_move (h := ?_)
      refine p_build (hi := F.ti110) (hpl := F.pl110) (h := ?_)
      refine p_idxRowN (i) (ht := Try.underlying78) (hi := F.ti110) (hij := rfl) (hlt := hlt) (h := ?_)
      refine p_storeRowAF (f' := fun j => if j < i + 1 then celV 0 1 0 else celV (bitI j) 0 0) F.ti110 (TI.cells F.ti110) eV_ oB_ (hlt) eV_ rfl rfl (fun j _ => fillS i j) ?_
      refine p_end ?_
      refine p_region fun hf => ?_
      refine p_add (r := ((i + 1 : Nat) : Int)) (hr := by omega) (hb := by omega) (h := ?_)
      refine p_move (h := ?_)
      refine p_end ?_
      refine p_some ?_
      refine ⟨⟨i + 1, by omega, eV_, eV_, eV_, eV_, eV_, eV_, oB_, oB_, oB_, oB_, oB_⟩, ?_⟩
      simp (decide := true) only [upd, e29, V.toN, ↓reduceIte]; omega
    · refine p_condF (h := ?_)
      have hie : i = G.vars.length := by simp at hc30; omega
      have hrow : ((List.range G.vars.length).map (fun j => if j < i then celV 0 1 0 else celV (bitI j) 0 0)) = startC G.vars.length := List.map_congr_left fun j hj => by rw [if_pos (by rw [hie]; simpa using hj)]
      refine p_exit ?_
      refine p_freeze (g1 := (0 + 1 + 1 + 1 + 1 + 1)) (d1 := 23) (h := ?_)
      refine p_cellSl (g1 := (0 + 1 + 1 + 1 + 1 + 1)) (d1 := 8) (i := 4) (hn := by simp) (h := ?_)
      refine p_seq (p_draw F.mixed fun hf => ?_)
      (first | refine p_loadA (ht := F.agg35) (hi := F.ti35) (h := ?_) | refine p_loadRefA (ht := F.agg35) (hi := F.ti35) (h := ?_))
      (first | refine p_fieldPtr (hf := F.fld29_5) (h := ?_) | refine p_fieldRef (hf := F.fld29_5) (h := ?_) | refine p_fieldRow (hf := F.fld29_5) (h := ?_))
      (first | refine p_load (ht := F.leaf23) (h := ?_) | refine p_loadRef (ht := F.leaf23) (h := ?_))
      refine p_len (ht := Try.underlying23) (h := ?_)
      refine p_buildSlice (ht := Try.underlying23) (hi := F.ti3) (h := ?_)
      (first | refine p_fieldPtr (hf := F.fld29_2) (h := ?_) | refine p_fieldRef (hf := F.fld29_2) (h := ?_) | refine p_fieldRow (hf := F.fld29_2) (h := ?_))
      (first | refine p_load (ht := F.leaf23) (h := ?_) | refine p_loadRef (ht := F.leaf23) (h := ?_))
      (first | refine p_fieldPtr (hf := F.fld29_4) (h := ?_) | refine p_fieldRef (hf := F.fld29_4) (h := ?_) | refine p_fieldRow (hf := F.fld29_4) (h := ?_))
      (first | refine p_load (ht := F.leaf3) (h := ?_) | refine p_loadRef (ht := F.leaf3) (h := ?_))
      refine p_idxMap (j := G.main.toNat) (ht := Try.underlying23) (hi := F.ti3) (hij := by omega) (hj := hlm) (h := ?_)
      rw [entryZ_eq hlm]
      (first | refine p_load (ht := F.leaf3) (h := ?_) | refine p_loadRef (ht := F.leaf3) (h := ?_))
      (first | refine p_loadA (ht := F.agg81) (hi := F.ti81) (h := ?_) | refine p_loadRefA (ht := F.agg81) (hi := F.ti81) (h := ?_))
      refine p_build (hi := F.ti112) (hpl := F.pl112) (h := ?_)
      refine p_buildSlice (ht := Try.underlying67) (hi := F.ti112) (h := ?_)
      refine p_build (hi := F.ti69) (hpl := F.pl69) (h := ?_)
      refine p_storeAll F.ti69 (h := ?_)
      refine p_assign (h := ?_)
      refine p_endD ?_
      refine TrC.ret ?_
      refine p_freeze (g1 := (g1 + 1 + 1)) (d1 := 42) (h := ?_)
      refine p_freeze (g1 := (g1 + 1 + 1)) (d1 := 51) (h := ?_)
      refine p_cellSl (g1 := 0 + 1) (d1 := 4) (i := 5) (hn := by rfl) (h := ?_)
      refine p_cellSl (g1 := 0 + 1) (d1 := 4) (i := 6) (hn := by rfl) (h := ?_)
      refine p_rets2 rfl (res_cell eV_ oB_ F.agg69 F.ti69 rfl rfl) ⟨eV_, rfl⟩ (by rw [hrow]; rfl)

end Go.Proofs.Ytfjciangbmjlmaa
