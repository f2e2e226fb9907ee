/-
  The reference's Pds in all modes, walked: it answers as encode's.
-/
import Derived.Test.YtfjciangbmjlmaaHf
set_option linter.unusedSimpArgs false
set_option linter.unusedVariables false
namespace Go.Proofs.Ytfjciangbmjlmaa
open Go.RowKit

theorem pds23 (G : Graph) (m : Int) (h1 : G.steps.length ≤ 1000000000) (h2 : G.points.length ≤ 1000000000) (h3 : G.sinks.length ≤ 1000000000) (h5 : G.sites.length ≤ 1000000000) (h4 : G.exit.length ≤ 1000000000) (h : G.vars.length ≤ 64) : FnC Try.prog 17 [graphV G, iV m] (fun r => r = pdsE G m) := by
  refine FnC.of (fn := Try.f17) ⟨Try.func17, by kernel_rfl, rfl⟩ Try.ntmps17 (by simp) fun w0 S0 => ?_
  refine p_seq (p_region fun hf => ?_)
  refine p_box (h := ?_)
  refine p_alloc (hi := F.ti38) (h := ?_)
  refine p_assign (h := ?_)
  refine p_end ?_
  refine p_seq (p_region fun hf => ?_)
  (first | refine p_loadA (ht := F.agg29) (hi := F.ti29) (h := ?_) | refine p_loadRefA (ht := F.agg29) (hi := F.ti29) (h := ?_))
  refine p_move (h := ?_)
  refine p_call (hx := rfl) (hb := ⟨Try.func37, by kernel_rfl, rfl⟩) (hf := asked23 G m h1 h2 h3 h5) (h := ?_)
  refine p_assign (h := ?_)
  refine p_end ?_
  refine p_seq ?_
  refine p_seq (p_region fun hf => ?_)
  refine p_move (h := ?_)
  refine p_num (h := ?_)
  refine p_end ?_
  refine p_splitC (s := 16) (ht := fun hc16 => ?_) (hf := fun hc16 => ?_)
  · refine p_condT (h := ?_)
    refine p_seq (p_region fun hf => ?_)
    refine p_build (hi := F.ti38) (hpl := F.pl38) (h := ?_)
    refine p_move (h := ?_)
    refine p_storeAll F.ti38 (h := ?_)
    refine p_assign (h := ?_)
    refine p_end ?_
    refine TrC.ret ?_
    refine p_cellNil (g1 := 0 + 1) (d1 := 4) (i := 2) (el := 35) (h := ?_)
    refine p_cellNil (g1 := 0 + 1) (d1 := 4) (i := 5) (el := 92) (h := ?_)
    refine p_rets2 rfl (res_cell eV_ oB_ F.agg38 F.ti38 rfl rfl) ⟨eV_, rfl⟩ (by simp only [pdsE, hc16, ↓reduceIte]; rfl)
  · refine p_condF (h := ?_)
    have hck := asked_checkM hc16
    refine p_skip ?_
    refine p_seq (p_draw F.mixed fun hf => ?_)
    (first | refine p_loadA (ht := F.agg29) (hi := F.ti29) (h := ?_) | refine p_loadRefA (ht := F.agg29) (hi := F.ti29) (h := ?_))
    refine p_move (h := ?_)
    refine p_call (hx := rfl) (hb := ⟨Try.func38, by kernel_rfl, rfl⟩) (hf := space23 G m) (h := ?_)
    (first | refine p_fieldPtr (hf := F.fld29_5) (h := ?_) | refine p_fieldRef (hf := F.fld29_5) (h := ?_) | refine p_fieldRow (hf := F.fld29_5) (h := ?_))
    (first | refine p_load (ht := F.leaf23) (h := ?_) | refine p_loadRef (ht := F.leaf23) (h := ?_))
    refine p_len (ht := Try.underlying23) (h := ?_)
    refine p_build (hi := F.ti38) (hpl := F.pl38) (h := ?_)
    refine p_alloc (hi := F.ti38) (h := ?_)
    refine p_storeAll F.ti38 (h := ?_)
    refine p_endD ?_
    refine p_seq ?_
    refine p_seq (p_region fun hf => ?_)
    refine p_assign (h := ?_)
    refine p_end ?_
    refine p_nilCell (g1 := 0 + 1 + 1 + 1 + 1) (d1 := 7) (i := 5) (el := 92) 70 (h := ?_)
    refine TrC.block ?_
    refine p_loop (fun st => ∃ (i r : Nat), i ≤ G.steps.length ∧ st.env 1 = iV m ∧ st.env 2 = .ptr (0 + 1) 2 0 ∧ st.env 4 = .ptr (0 + 1) 4 0 ∧ st.env 7 = .ptr (0 + 1 + 1 + 1 + 1) 7 0 ∧ st.env 8 = iV i ∧ st.obj (0 + 1) 2 = .cells 29 (graphL G) ∧ st.obj (0 + 1) 4 = .cells 38 [iV 0, iV 0, .nil, iV 0, iV 0, .nil] ∧ st.obj (0 + 1 + 1 + 1 + 1) 7 = .cells 38 [iV (spT m), iV (spD G.vars.length m), .sl 35 (spP G.vars.length m), iV 1, iV G.of.length, .row r 70 (i + 0)] ∧ st.obj r 70 = .row 92 (rulesM G m i 0)) (fun st => G.steps.length - (st.env 8).toN) ?_ fun e ob g1 hI => ?_
    · exact ⟨0, _, by omega, eV_, eV_, eV_, eV_, eV_, oB_, oB_, oB_, oB_⟩
    · obtain ⟨i, r, hi, e1, e2, e4, e7, e8, o2, o4, o7, o70⟩ := hI
      dsimp only at e1 e2 e4 e7 e8 o2 o4 o7 o70
      have hE := (⟨e1, e2, e4, e7, e8, o2, o4, o7, o70⟩ : _ ∧ _ ∧ _ ∧ _ ∧ _ ∧ _ ∧ _ ∧ _ ∧ _)
      refine p_seq ?_
      refine p_seq (p_region fun hf => ?_)
      refine p_move (h := ?_)
      (first | refine p_fieldPtr (hf := F.fld29_6) (h := ?_) | refine p_fieldRef (hf := F.fld29_6) (h := ?_) | refine p_fieldRow (hf := F.fld29_6) (h := ?_))
      (first | refine p_load (ht := F.leaf24) (h := ?_) | refine p_loadRef (ht := F.leaf24) (h := ?_))
      refine p_len (ht := Try.underlying24) (h := ?_)
      refine p_num (h := ?_)
      refine p_end ?_
      refine p_splitC (s := 30) (ht := fun hc30 => ?_) (hf := fun hc30 => ?_)
      · refine p_condT (h := ?_)
        have hlt : i < G.steps.length := by simpa using hc30
        refine p_skip ?_
        refine p_seq ?_
        refine TrC.block ?_
        refine p_seq (p_region fun hf => ?_)
        (first | refine p_fieldPtr (hf := F.fld29_6) (h := ?_) | refine p_fieldRef (hf := F.fld29_6) (h := ?_) | refine p_fieldRow (hf := F.fld29_6) (h := ?_))
        (first | refine p_load (ht := F.leaf24) (h := ?_) | refine p_loadRef (ht := F.leaf24) (h := ?_))
        refine p_move (h := ?_)
        refine p_idxMap (j := i) (ht := Try.underlying24) (hi := F.ti50) (hij := rfl) (hj := hlt) (h := ?_)
        (first | refine p_loadA (ht := F.agg50) (hi := F.ti50) (h := ?_) | refine p_loadRefA (ht := F.agg50) (hi := F.ti50) (h := ?_))
        refine p_alloc (hi := F.ti50) (h := ?_)
        refine p_storeAll F.ti50 (h := ?_)
        refine p_end ?_
        refine p_seq (p_draw F.mixed fun hf => ?_)
        (first | refine p_fieldPtr (hf := F.fld50_0) (h := ?_) | refine p_fieldRef (hf := F.fld50_0) (h := ?_) | refine p_fieldRow (hf := F.fld50_0) (h := ?_))
        (first | refine p_load (ht := F.leaf3) (h := ?_) | refine p_loadRef (ht := F.leaf3) (h := ?_))
        (first | refine p_fieldPtr (hf := F.fld50_1) (h := ?_) | refine p_fieldRef (hf := F.fld50_1) (h := ?_) | refine p_fieldRow (hf := F.fld50_1) (h := ?_))
        (first | refine p_load (ht := F.leaf3) (h := ?_) | refine p_loadRef (ht := F.leaf3) (h := ?_))
        refine p_buildSlice (ht := Try.underlying23) (hi := F.ti3) (h := ?_)
        (first | refine p_loadA (ht := F.agg29) (hi := F.ti29) (h := ?_) | refine p_loadRefA (ht := F.agg29) (hi := F.ti29) (h := ?_))
        refine p_move (h := ?_)
        (first | refine p_loadA (ht := F.agg50) (hi := F.ti50) (h := ?_) | refine p_loadRefA (ht := F.agg50) (hi := F.ti50) (h := ?_))
        refine p_call (hx := rfl) (hb := ⟨Try.func39, by kernel_rfl, rfl⟩) (hf := worth23 G m G.steps[i] h (step_in hck hlt)) (h := ?_)
        refine p_build (hi := F.ti92) (hpl := F.pl92) (h := ?_)
        refine p_alloc (hi := F.ti92) (h := ?_)
        refine p_storeAll F.ti92 (h := ?_)
        refine p_endD ?_
        refine p_seq ?_
        refine p_seq (p_region fun hf => ?_)
        (first | refine p_fieldPtr (hf := F.fld50_2) (h := ?_) | refine p_fieldRef (hf := F.fld50_2) (h := ?_) | refine p_fieldRow (hf := F.fld50_2) (h := ?_))
        (first | refine p_load (ht := F.leaf48) (h := ?_) | refine p_loadRef (ht := F.leaf48) (h := ?_))
        refine p_num (h := ?_)
        refine p_end ?_
        refine p_splitC (s := 50) (ht := fun hc50 => ?_) (hf := fun hc50 => ?_)
        · refine p_condT (h := ?_)
          have hin := step_site hck hlt hc50
          have hpr := site_proc hck hin
          refine p_draw F.mixed fun hf => ?_
          (first | refine p_fieldPtr (hf := F.fld29_2) (h := ?_) | refine p_fieldRef (hf := F.fld29_2) (h := ?_) | refine p_fieldRow (hf := F.fld29_2) (h := ?_))
          (first | refine p_load (ht := F.leaf23) (h := ?_) | refine p_loadRef (ht := F.leaf23) (h := ?_))
          (first | refine p_fieldPtr (hf := F.fld29_7) (h := ?_) | refine p_fieldRef (hf := F.fld29_7) (h := ?_) | refine p_fieldRow (hf := F.fld29_7) (h := ?_))
          (first | refine p_load (ht := F.leaf25) (h := ?_) | refine p_loadRef (ht := F.leaf25) (h := ?_))
          (first | refine p_fieldPtr (hf := F.fld50_6) (h := ?_) | refine p_fieldRef (hf := F.fld50_6) (h := ?_) | refine p_fieldRow (hf := F.fld50_6) (h := ?_))
          (first | refine p_load (ht := F.leaf3) (h := ?_) | refine p_loadRef (ht := F.leaf3) (h := ?_))
          refine p_idxMap (j := G.steps[i].site.toNat) (ht := Try.underlying25) (hi := F.ti54) (hij := inB_nat hin) (hj := inB_lt hin) (h := ?_)
          rw [siteAt_eq (inB_lt hin)]
          (first | refine p_fieldPtr (hf := F.fld54_1) (h := ?_) | refine p_fieldRef (hf := F.fld54_1) (h := ?_) | refine p_fieldRow (hf := F.fld54_1) (h := ?_))
          (first | refine p_load (ht := F.leaf3) (h := ?_) | refine p_loadRef (ht := F.leaf3) (h := ?_))
          refine p_idxMap (j := (siteAt G G.steps[i].site).proc.toNat) (ht := Try.underlying23) (hi := F.ti3) (hij := inB_nat hpr) (hj := inB_lt hpr) (h := ?_)
          rw [entryZ_eq (inB_lt hpr)]
          (first | refine p_load (ht := F.leaf3) (h := ?_) | refine p_loadRef (ht := F.leaf3) (h := ?_))
          (first | refine p_fieldPtr (hf := F.fld50_1) (h := ?_) | refine p_fieldRef (hf := F.fld50_1) (h := ?_) | refine p_fieldRow (hf := F.fld50_1) (h := ?_))
          (first | refine p_load (ht := F.leaf3) (h := ?_) | refine p_loadRef (ht := F.leaf3) (h := ?_))
          refine p_buildSlice (ht := Try.underlying23) (hi := F.ti3) (h := ?_)
          (first | refine p_fieldPtr (hf := F.fld92_3) (h := ?_) | refine p_fieldRef (hf := F.fld92_3) (h := ?_) | refine p_fieldRow (hf := F.fld92_3) (h := ?_))
          refine p_store1 F.ti23 (h := ?_)
          refine p_endD ?_
          refine p_freeze (g1 := g1 + 1 + 1 + 1 + 1 + 1) (d1 := 64) (h := ?_)
          refine p_cellSl (g1 := g1 + 1 + 1 + 1) (d1 := 10) (i := 3) (hn := by rfl) (h := ?_)
          refine p_region fun hf => ?_
          (first | refine p_fieldPtr (hf := F.fld38_3) (h := ?_) | refine p_fieldRef (hf := F.fld38_3) (h := ?_) | refine p_fieldRow (hf := F.fld38_3) (h := ?_))
          (first | refine p_load (ht := F.leaf36) (h := ?_) | refine p_loadRef (ht := F.leaf36) (h := ?_))
          (first | refine p_loadA (ht := F.agg92) (hi := F.ti92) (h := ?_) | refine p_loadRefA (ht := F.agg92) (hi := F.ti92) (h := ?_))
          refine p_buildSlice (ht := Try.underlying36) (hi := F.ti92) (h := ?_)
          refine p_append (k := i + 0 + 1) (ht := Try.underlying36) (hi := F.ti92) (hnl := rulesM_len (j := 0) hi (Nat.zero_le _)) (hy := by exact ⟨.inl oB_, rfl⟩) (hm := by have := rulesM_len (m := m) (j := 0) hi (Nat.zero_le _); simp only [List.length_cons, List.length_nil]; omega) (hlim := by omega) (h := ?_)
          (first | refine p_fieldPtr (hf := F.fld38_3) (h := ?_) | refine p_fieldRef (hf := F.fld38_3) (h := ?_) | refine p_fieldRow (hf := F.fld38_3) (h := ?_))
          refine p_store1 F.ti36 (h := ?_)
          refine p_end ?_
          refine p_region fun hf => ?_
          refine p_move (h := ?_)
          refine p_add (r := ((i + 1 : Nat) : Int)) (hr := by omega) (hb := by omega) (h := ?_)
          refine p_assign (h := ?_)
          refine p_end ?_
          refine p_some ?_
          refine ⟨⟨i + 1, _, hlt, eV_, eV_, eV_, eV_, eV_, oB_, oB_, oB_, ?_⟩, ?_⟩
          · rw [rulesM_step hlt, stepRuleM_call hc50]; exact oB_
          · simp (decide := true) only [upd, e8, V.toN, ↓reduceIte]; omega
        · refine p_condF (h := ?_)
          refine p_skip ?_
          refine p_freeze (g1 := g1 + 1 + 1 + 1) (d1 := 42) (h := ?_)
          refine p_cellSl (g1 := g1 + 1 + 1 + 1) (d1 := 10) (i := 3) (hn := by rfl) (h := ?_)
          refine p_region fun hf => ?_
          (first | refine p_fieldPtr (hf := F.fld38_3) (h := ?_) | refine p_fieldRef (hf := F.fld38_3) (h := ?_) | refine p_fieldRow (hf := F.fld38_3) (h := ?_))
          (first | refine p_load (ht := F.leaf36) (h := ?_) | refine p_loadRef (ht := F.leaf36) (h := ?_))
          (first | refine p_loadA (ht := F.agg92) (hi := F.ti92) (h := ?_) | refine p_loadRefA (ht := F.agg92) (hi := F.ti92) (h := ?_))
          refine p_buildSlice (ht := Try.underlying36) (hi := F.ti92) (h := ?_)
          refine p_append (k := i + 0 + 1) (ht := Try.underlying36) (hi := F.ti92) (hnl := rulesM_len (j := 0) hi (Nat.zero_le _)) (hy := by exact ⟨.inl oB_, rfl⟩) (hm := by have := rulesM_len (m := m) (j := 0) hi (Nat.zero_le _); simp only [List.length_cons, List.length_nil]; omega) (hlim := by omega) (h := ?_)
          (first | refine p_fieldPtr (hf := F.fld38_3) (h := ?_) | refine p_fieldRef (hf := F.fld38_3) (h := ?_) | refine p_fieldRow (hf := F.fld38_3) (h := ?_))
          refine p_store1 F.ti36 (h := ?_)
          refine p_end ?_
          refine p_region fun hf => ?_
          refine p_move (h := ?_)
          refine p_add (r := ((i + 1 : Nat) : Int)) (hr := by omega) (hb := by omega) (h := ?_)
          refine p_assign (h := ?_)
          refine p_end ?_
          refine p_some ?_
          refine ⟨⟨i + 1, _, hlt, eV_, eV_, eV_, eV_, eV_, oB_, oB_, oB_, ?_⟩, ?_⟩
          · rw [rulesM_step hlt, stepRuleM_not hc50]; exact oB_
          · simp (decide := true) only [upd, e8, V.toN, ↓reduceIte]; omega
      · refine p_condF (h := ?_)
        have hie : i = G.steps.length := by simp at hc30; omega
        refine p_exit ?_
        refine p_seq ?_
        refine p_seq (p_region fun hf => ?_)
        refine p_assign (h := ?_)
        refine p_end ?_
        refine p_renCell (g1 := 0 + 1 + 1 + 1 + 1) (d1 := 7) (i := 5) 92 (h := ?_)
        refine TrC.block ?_
        refine p_loop (fun st => ∃ (j r : Nat), j ≤ G.exit.length ∧ st.env 1 = iV m ∧ st.env 2 = .ptr (0 + 1) 2 0 ∧ st.env 4 = .ptr (0 + 1) 4 0 ∧ st.env 7 = .ptr (0 + 1 + 1 + 1 + 1) 7 0 ∧ st.env 11 = iV j ∧ st.obj (0 + 1) 2 = .cells 29 (graphL G) ∧ st.obj (0 + 1) 4 = .cells 38 [iV 0, iV 0, .nil, iV 0, iV 0, .nil] ∧ st.obj (0 + 1 + 1 + 1 + 1) 7 = .cells 38 [iV (spT m), iV (spD G.vars.length m), .sl 35 (spP G.vars.length m), iV 1, iV G.of.length, .row r 92 (G.steps.length + j)] ∧ st.obj r 92 = .row 92 (rulesM G m G.steps.length j)) (fun st => G.exit.length - (st.env 11).toN) ?_ fun e ob g2 hI => ?_
        · exact ⟨0, _, by omega, eV_, eV_, eV_, eV_, eV_, oB_, oB_, by rw [← hie]; exact oB_, by rw [← hie]; exact oB_⟩
        · obtain ⟨j, r, hj, f1, f2, f4, f7, f11, q2, q4, q7, q92⟩ := hI
          dsimp only at f1 f2 f4 f7 f11 q2 q4 q7 q92
          have hE := (⟨f1, f2, f4, f7, f11, q2, q4, q7, q92⟩ : _ ∧ _ ∧ _ ∧ _ ∧ _ ∧ _ ∧ _ ∧ _ ∧ _)
          refine p_seq ?_
          refine p_seq (p_region fun hf => ?_)
          refine p_move (h := ?_)
          (first | refine p_fieldPtr (hf := F.fld29_3) (h := ?_) | refine p_fieldRef (hf := F.fld29_3) (h := ?_) | refine p_fieldRow (hf := F.fld29_3) (h := ?_))
          (first | refine p_load (ht := F.leaf23) (h := ?_) | refine p_loadRef (ht := F.leaf23) (h := ?_))
          refine p_len (ht := Try.underlying23) (h := ?_)
          refine p_num (h := ?_)
          refine p_end ?_
          refine p_splitC (s := 76) (ht := fun hc76 => ?_) (hf := fun hc76 => ?_)
          · refine p_condT (h := ?_)
            have hlt2 : j < G.exit.length := by simpa using hc76
            refine p_skip ?_
            refine p_seq ?_
            refine TrC.block ?_
            refine p_draw F.mixed fun hf => ?_
            (first | refine p_fieldPtr (hf := F.fld38_3) (h := ?_) | refine p_fieldRef (hf := F.fld38_3) (h := ?_) | refine p_fieldRow (hf := F.fld38_3) (h := ?_))
            (first | refine p_load (ht := F.leaf36) (h := ?_) | refine p_loadRef (ht := F.leaf36) (h := ?_))
            (first | refine p_fieldPtr (hf := F.fld29_3) (h := ?_) | refine p_fieldRef (hf := F.fld29_3) (h := ?_) | refine p_fieldRow (hf := F.fld29_3) (h := ?_))
            (first | refine p_load (ht := F.leaf23) (h := ?_) | refine p_loadRef (ht := F.leaf23) (h := ?_))
            refine p_move (h := ?_)
            refine p_idxMap (j := j) (ht := Try.underlying23) (hi := F.ti3) (hij := rfl) (hj := hlt2) (h := ?_)
            (first | refine p_load (ht := F.leaf3) (h := ?_) | refine p_loadRef (ht := F.leaf3) (h := ?_))
            (first | refine p_loadA (ht := F.agg29) (hi := F.ti29) (h := ?_) | refine p_loadRefA (ht := F.agg29) (hi := F.ti29) (h := ?_))
            refine p_move (h := ?_)
            refine p_build (hi := F.ti50) (hpl := F.pl50) (h := ?_)
            refine p_call (hx := rfl) (hb := ⟨Try.func39, by kernel_rfl, rfl⟩) (hf := worth23 G m ⟨0, 0, 1, 0, 0, 0, 0⟩ h (skipIn _)) (h := ?_)
            refine p_build (hi := F.ti92) (hpl := F.pl92) (h := ?_)
            refine p_buildSlice (ht := Try.underlying36) (hi := F.ti92) (h := ?_)
            refine p_append (k := G.steps.length + j + 1) (ht := Try.underlying36) (hi := F.ti92) (hnl := rulesM_len (Nat.le_refl _) hj) (hy := by exact ⟨.inl oB_, rfl⟩) (hm := by have := rulesM_len (m := m) (Nat.le_refl G.steps.length) hj; simp only [List.length_cons, List.length_nil]; omega) (hlim := by omega) (h := ?_)
            (first | refine p_fieldPtr (hf := F.fld38_3) (h := ?_) | refine p_fieldRef (hf := F.fld38_3) (h := ?_) | refine p_fieldRow (hf := F.fld38_3) (h := ?_))
            refine p_store1 F.ti36 (h := ?_)
            refine p_endD ?_
            refine p_lastNil (g1 := g2 + 1 + 1) (d1 := 92) (i := 3) (el := 3) (h := ?_)
            refine p_region fun hf => ?_
            refine p_move (h := ?_)
            refine p_add (r := ((j + 1 : Nat) : Int)) (hr := by omega) (hb := by omega) (h := ?_)
            refine p_assign (h := ?_)
            refine p_end ?_
            refine p_some ?_
            refine ⟨⟨j + 1, _, hlt2, eV_, eV_, eV_, eV_, eV_, oB_, oB_, oB_, ?_⟩, ?_⟩
            · rw [rulesM_exit hlt2]; exact oB_
            · simp (decide := true) only [upd, f11, V.toN, ↓reduceIte]; omega
          · refine p_condF (h := ?_)
            have hje : j = G.exit.length := by simp at hc76; omega
            refine p_exit ?_
            refine p_seq (p_region fun hf => ?_)
            (first | refine p_loadA (ht := F.agg38) (hi := F.ti38) (h := ?_) | refine p_loadRefA (ht := F.agg38) (hi := F.ti38) (h := ?_))
            refine p_storeAll F.ti38 (h := ?_)
            refine p_assign (h := ?_)
            refine p_end ?_
            refine TrC.ret ?_
            refine p_freeze (g1 := r) (d1 := 92) (h := ?_)
            refine p_cellSl (g1 := 0 + 1) (d1 := 4) (i := 5) (hn := rulesM_len (Nat.le_refl _) hj) (h := ?_)
            refine p_rets2 rfl (res_cell eV_ oB_ F.agg38 F.ti38 rfl rfl) ⟨eV_, rfl⟩ (by simp only [pdsE, hc16, Bool.false_eq_true, ↓reduceIte, hje]; rfl)

end Go.Proofs.Ytfjciangbmjlmaa
