/-
  The reference's step, walked: it answers as stepRight.
-/
import Derived.Test.YtfjciangbmjlmaaGn
set_option linter.unusedSimpArgs false
set_option linter.unusedVariables false
namespace Go.Proofs.Ytfjciangbmjlmaa
open Go.RowKit
theorem inBt {i n : Int} (h : inB i n = true) : (!inB i n) = false := by rw [h]; rfl

theorem step21 (G : Graph) (s : Step) : FnC Try.prog 55 [graphV G, stepV s] (fun r => r = .bool (stepRightB G s)) := by
  refine FnC.of (fn := Try.f55) ⟨Try.func55, by kernel_rfl, rfl⟩ Try.ntmps55 (by simp) fun w0 S0 => ?_
  refine p_seq (p_region fun hf => ?_)
  refine p_box (h := ?_)
  refine p_box (h := ?_)
  refine p_assign (h := ?_)
  refine p_end ?_
  refine p_seq (p_draw F.mixed fun hf => ?_)
  (first | refine p_fieldPtr (hf := F.fld29_5) (h := ?_) | refine p_fieldRef (hf := F.fld29_5) (h := ?_) | refine p_fieldRow (hf := F.fld29_5) (h := ?_))
  (first | refine p_load (ht := F.leaf23) (h := ?_) | refine p_loadRef (ht := F.leaf23) (h := ?_))
  refine p_len (ht := Try.underlying23) (h := ?_)
  (first | refine p_fieldPtr (hf := F.fld29_0) (h := ?_) | refine p_fieldRef (hf := F.fld29_0) (h := ?_) | refine p_fieldRow (hf := F.fld29_0) (h := ?_))
  (first | refine p_load (ht := F.leaf22) (h := ?_) | refine p_loadRef (ht := F.leaf22) (h := ?_))
  refine p_len (ht := Try.underlying22) (h := ?_)
  refine p_assign (h := ?_)
  refine p_assign (h := ?_)
  refine p_endD ?_
  refine p_join (fun st => (!inB s.frm G.of.length) = false ∧ (!inB s.to G.of.length) = false ∧ decide (ofAt G s.frm ≠ ofAt G s.to) = false ∧ (s.k ≠ 0 → s.kind = 2) ∧ (s.site ≠ 0 → s.kind = 8) ∧ st.env 2 = .ptr (0 + 1) 2 0 ∧ st.env 3 = .ptr (0 + 1) 3 0 ∧ st.env 6 = iV G.vars.length ∧ st.obj (0 + 1) 2 = .cells 29 (graphL G) ∧ st.obj (0 + 1) 3 = .cells 50 [iV s.frm, iV s.to, iV s.kind, iV s.x, iV s.y, iV s.k, iV s.site]) ?_ fun e ob gJ1 hJ => ?_
  ·
    refine p_seq (p_draw F.mixed fun hf => ?_)
    (first | refine p_fieldPtr (hf := F.fld50_0) (h := ?_) | refine p_fieldRef (hf := F.fld50_0) (h := ?_) | refine p_fieldRow (hf := F.fld50_0) (h := ?_))
    (first | refine p_load (ht := F.leaf3) (h := ?_) | refine p_loadRef (ht := F.leaf3) (h := ?_))
    refine p_move (h := ?_)
    refine p_call (hx := rfl) (hb := ⟨Try.func56, by kernel_rfl, rfl⟩) (hf := in21 _ _) (h := ?_)
    refine p_not (h := ?_)
    refine p_move (h := ?_)
    refine p_split (s := 18) (ht := fun hb18 => ?_) (hf := fun hb18 => ?_)
    · -- slot 18 is true
      iterate 5 (refine p_guardNo (h := ?_))
      refine p_pick (h := ?_)
      refine p_move (h := ?_)
      iterate 13 (refine p_guardNo (h := ?_))
      refine p_pick (h := ?_)
      refine p_move (h := ?_)
      iterate 4 (refine p_guardNo (h := ?_))
      refine p_guardUn (h := ?_)
      refine p_guardUn (h := ?_)
      refine p_guardUn (h := ?_)
      refine p_guardNo (h := ?_)
      refine p_pick (h := ?_)
      refine p_move (h := ?_)
      iterate 4 (refine p_guardNo (h := ?_))
      refine p_guardUn (h := ?_)
      refine p_guardUn (h := ?_)
      refine p_guardUn (h := ?_)
      refine p_guardNo (h := ?_)
      refine p_pick (h := ?_)
      refine p_endD ?_
      refine p_condT (h := ?_)
      refine p_seq (p_region fun hf => ?_)
      refine p_assign (h := ?_)
      refine p_end ?_
      refine TrC.ret ?_
      refine p_ret1 (hp := by first | (simp [stepRightB, hb18]; done) | (simp [stepRightB, j1, j2, j3, hb18]; done) | (simp_all [stepRightB]; done))
    · -- slot 18 is false
      refine p_guardYes (h := ?_)
      (first | refine p_fieldPtr (hf := F.fld50_1) (h := ?_) | refine p_fieldRef (hf := F.fld50_1) (h := ?_) | refine p_fieldRow (hf := F.fld50_1) (h := ?_))
      refine p_guardYes (h := ?_)
      (first | refine p_load (ht := F.leaf3) (h := ?_) | refine p_loadRef (ht := F.leaf3) (h := ?_))
      refine p_guardYes (h := ?_)
      refine p_move (h := ?_)
      refine p_guardYes (h := ?_)
      refine p_call (hx := rfl) (hb := ⟨Try.func56, by kernel_rfl, rfl⟩) (hf := in21 _ _) (h := ?_)
      refine p_guardYes (h := ?_)
      refine p_not (h := ?_)
      refine p_pick (h := ?_)
      refine p_move (h := ?_)
      refine p_split (s := 25) (ht := fun hb25 => ?_) (hf := fun hb25 => ?_)
      · -- slot 25 is true
        iterate 13 (refine p_guardNo (h := ?_))
        refine p_pick (h := ?_)
        refine p_move (h := ?_)
        iterate 4 (refine p_guardNo (h := ?_))
        refine p_guardUn (h := ?_)
        refine p_guardUn (h := ?_)
        refine p_guardUn (h := ?_)
        refine p_guardNo (h := ?_)
        refine p_pick (h := ?_)
        refine p_move (h := ?_)
        iterate 4 (refine p_guardNo (h := ?_))
        refine p_guardUn (h := ?_)
        refine p_guardUn (h := ?_)
        refine p_guardUn (h := ?_)
        refine p_guardNo (h := ?_)
        refine p_pick (h := ?_)
        refine p_endD ?_
        refine p_condT (h := ?_)
        refine p_seq (p_region fun hf => ?_)
        refine p_assign (h := ?_)
        refine p_end ?_
        refine TrC.ret ?_
        refine p_ret1 (hp := by first | (simp [stepRightB, hb18, hb25]; done) | (simp [stepRightB, j1, j2, j3, hb18, hb25]; done) | (simp_all [stepRightB]; done))
      · -- slot 25 is false
        refine p_guardYes (h := ?_)
        (first | refine p_fieldPtr (hf := F.fld29_5) (h := ?_) | refine p_fieldRef (hf := F.fld29_5) (h := ?_) | refine p_fieldRow (hf := F.fld29_5) (h := ?_))
        refine p_guardYes (h := ?_)
        (first | refine p_load (ht := F.leaf23) (h := ?_) | refine p_loadRef (ht := F.leaf23) (h := ?_))
        refine p_guardYes (h := ?_)
        (first | refine p_fieldPtr (hf := F.fld50_0) (h := ?_) | refine p_fieldRef (hf := F.fld50_0) (h := ?_) | refine p_fieldRow (hf := F.fld50_0) (h := ?_))
        refine p_guardYes (h := ?_)
        (first | refine p_load (ht := F.leaf3) (h := ?_) | refine p_loadRef (ht := F.leaf3) (h := ?_))
        refine p_guardYes (h := ?_)
        refine p_idxMap (j := s.frm.toNat) (ht := Try.underlying23) (hi := F.ti3) (hij := inB_nat hb18) (hj := inB_lt hb18) (h := ?_)
        rw [ofAt_eq (inB_lt hb18)]
        refine p_guardYes (h := ?_)
        (first | refine p_load (ht := F.leaf3) (h := ?_) | refine p_loadRef (ht := F.leaf3) (h := ?_))
        refine p_guardYes (h := ?_)
        (first | refine p_fieldPtr (hf := F.fld29_5) (h := ?_) | refine p_fieldRef (hf := F.fld29_5) (h := ?_) | refine p_fieldRow (hf := F.fld29_5) (h := ?_))
        refine p_guardYes (h := ?_)
        (first | refine p_load (ht := F.leaf23) (h := ?_) | refine p_loadRef (ht := F.leaf23) (h := ?_))
        refine p_guardYes (h := ?_)
        (first | refine p_fieldPtr (hf := F.fld50_1) (h := ?_) | refine p_fieldRef (hf := F.fld50_1) (h := ?_) | refine p_fieldRow (hf := F.fld50_1) (h := ?_))
        refine p_guardYes (h := ?_)
        (first | refine p_load (ht := F.leaf3) (h := ?_) | refine p_loadRef (ht := F.leaf3) (h := ?_))
        refine p_guardYes (h := ?_)
        refine p_idxMap (j := s.to.toNat) (ht := Try.underlying23) (hi := F.ti3) (hij := inB_nat hb25) (hj := inB_lt hb25) (h := ?_)
        rw [ofAt_eq (inB_lt hb25)]
        refine p_guardYes (h := ?_)
        (first | refine p_load (ht := F.leaf3) (h := ?_) | refine p_loadRef (ht := F.leaf3) (h := ?_))
        refine p_guardYes (h := ?_)
        refine p_num (h := ?_)
        refine p_pick (h := ?_)
        refine p_move (h := ?_)
        refine p_split (s := 40) (ht := fun hb40 => ?_) (hf := fun hb40 => ?_)
        · -- slot 40 is true
          iterate 4 (refine p_guardNo (h := ?_))
          refine p_guardUn (h := ?_)
          refine p_guardUn (h := ?_)
          refine p_guardUn (h := ?_)
          refine p_guardNo (h := ?_)
          refine p_pick (h := ?_)
          refine p_move (h := ?_)
          iterate 4 (refine p_guardNo (h := ?_))
          refine p_guardUn (h := ?_)
          refine p_guardUn (h := ?_)
          refine p_guardUn (h := ?_)
          refine p_guardNo (h := ?_)
          refine p_pick (h := ?_)
          refine p_endD ?_
          refine p_condT (h := ?_)
          refine p_seq (p_region fun hf => ?_)
          refine p_assign (h := ?_)
          refine p_end ?_
          refine TrC.ret ?_
          refine p_ret1 (hp := by first | (simp [stepRightB, hb18, hb25, hb40]; done) | (simp [stepRightB, j1, j2, j3, hb18, hb25, hb40]; done) | (simp_all [stepRightB]; done))
        · -- slot 40 is false
          refine p_guardYes (h := ?_)
          (first | refine p_fieldPtr (hf := F.fld50_5) (h := ?_) | refine p_fieldRef (hf := F.fld50_5) (h := ?_) | refine p_fieldRow (hf := F.fld50_5) (h := ?_))
          refine p_guardYes (h := ?_)
          (first | refine p_load (ht := F.leaf2) (h := ?_) | refine p_loadRef (ht := F.leaf2) (h := ?_))
          refine p_guardYes (h := ?_)
          refine p_num (h := ?_)
          refine p_guardYes (h := ?_)
          refine p_move (h := ?_)
          refine p_split (s := 44) (ht := fun hb44 => ?_) (hf := fun hb44 => ?_)
          · -- slot 44 is true
            refine p_guardYes (h := ?_)
            (first | refine p_fieldPtr (hf := F.fld50_2) (h := ?_) | refine p_fieldRef (hf := F.fld50_2) (h := ?_) | refine p_fieldRow (hf := F.fld50_2) (h := ?_))
            refine p_guardYes (h := ?_)
            (first | refine p_load (ht := F.leaf48) (h := ?_) | refine p_loadRef (ht := F.leaf48) (h := ?_))
            refine p_guardYes (h := ?_)
            refine p_num (h := ?_)
            refine p_guardYes (h := ?_)
            refine p_pick (h := ?_)
            refine p_pick (h := ?_)
            refine p_move (h := ?_)
            refine p_split (s := 50) (ht := fun hb50 => ?_) (hf := fun hb50 => ?_)
            · -- slot 50 is true
              iterate 4 (refine p_guardNo (h := ?_))
              refine p_guardUn (h := ?_)
              refine p_guardUn (h := ?_)
              refine p_guardUn (h := ?_)
              refine p_guardNo (h := ?_)
              refine p_pick (h := ?_)
              refine p_endD ?_
              refine p_condT (h := ?_)
              refine p_seq (p_region fun hf => ?_)
              refine p_assign (h := ?_)
              refine p_end ?_
              refine TrC.ret ?_
              refine p_ret1 (hp := by first | (simp [stepRightB, hb18, hb25, hb40, hb44, hb50]; done) | (simp [stepRightB, j1, j2, j3, hb18, hb25, hb40, hb44, hb50]; done) | (simp_all [stepRightB]; done))
            · -- slot 50 is false
              refine p_guardYes (h := ?_)
              (first | refine p_fieldPtr (hf := F.fld50_6) (h := ?_) | refine p_fieldRef (hf := F.fld50_6) (h := ?_) | refine p_fieldRow (hf := F.fld50_6) (h := ?_))
              refine p_guardYes (h := ?_)
              (first | refine p_load (ht := F.leaf3) (h := ?_) | refine p_loadRef (ht := F.leaf3) (h := ?_))
              refine p_guardYes (h := ?_)
              refine p_num (h := ?_)
              refine p_guardYes (h := ?_)
              refine p_move (h := ?_)
              refine p_split (s := 54) (ht := fun hb54 => ?_) (hf := fun hb54 => ?_)
              · -- slot 54 is true
                refine p_guardYes (h := ?_)
                (first | refine p_fieldPtr (hf := F.fld50_2) (h := ?_) | refine p_fieldRef (hf := F.fld50_2) (h := ?_) | refine p_fieldRow (hf := F.fld50_2) (h := ?_))
                refine p_guardYes (h := ?_)
                (first | refine p_load (ht := F.leaf48) (h := ?_) | refine p_loadRef (ht := F.leaf48) (h := ?_))
                refine p_guardYes (h := ?_)
                refine p_num (h := ?_)
                refine p_guardYes (h := ?_)
                refine p_pick (h := ?_)
                refine p_pick (h := ?_)
                refine p_endD ?_
                refine p_splitC (s := 59) (ht := fun hc59 => ?_) (hf := fun hc59 => ?_)
                · refine p_condT (h := ?_)
                  refine p_seq (p_region fun hf => ?_)
                  refine p_assign (h := ?_)
                  refine p_end ?_
                  refine TrC.ret ?_
                  refine p_ret1 (hp := by first | (simp [stepRightB, hb18, hb25, hb40, hb44, hb50, hb54, hc59]; done) | (simp [stepRightB, j1, j2, j3, hb18, hb25, hb40, hb44, hb50, hb54, hc59]; done) | (simp_all [stepRightB]; done))
                · refine p_condF (h := ?_)
                  refine p_skip ?_
                  refine p_some ?_
                  refine ⟨hb18, hb25, hb40, ?_, ?_, eV_, eV_, eV_, oB_, oB_⟩
                  · intro hk; simp_all
                  · intro hk; simp_all
              · -- slot 54 is false
                iterate 3 (refine p_guardNo (h := ?_))
                refine p_guardYes (h := ?_)
                refine p_pick (h := ?_)
                refine p_pick (h := ?_)
                refine p_endD ?_
                refine p_condF (h := ?_)
                refine p_skip ?_
                refine p_some ?_
                refine ⟨hb18, hb25, hb40, ?_, ?_, eV_, eV_, eV_, oB_, oB_⟩
                · intro hk; simp_all
                · intro hk; simp_all
          · -- slot 44 is false
            iterate 3 (refine p_guardNo (h := ?_))
            refine p_guardYes (h := ?_)
            refine p_pick (h := ?_)
            refine p_pick (h := ?_)
            refine p_move (h := ?_)
            refine p_guardYes (h := ?_)
            (first | refine p_fieldPtr (hf := F.fld50_6) (h := ?_) | refine p_fieldRef (hf := F.fld50_6) (h := ?_) | refine p_fieldRow (hf := F.fld50_6) (h := ?_))
            refine p_guardYes (h := ?_)
            (first | refine p_load (ht := F.leaf3) (h := ?_) | refine p_loadRef (ht := F.leaf3) (h := ?_))
            refine p_guardYes (h := ?_)
            refine p_num (h := ?_)
            refine p_guardYes (h := ?_)
            refine p_move (h := ?_)
            refine p_split (s := 54) (ht := fun hb54 => ?_) (hf := fun hb54 => ?_)
            · -- slot 54 is true
              refine p_guardYes (h := ?_)
              (first | refine p_fieldPtr (hf := F.fld50_2) (h := ?_) | refine p_fieldRef (hf := F.fld50_2) (h := ?_) | refine p_fieldRow (hf := F.fld50_2) (h := ?_))
              refine p_guardYes (h := ?_)
              (first | refine p_load (ht := F.leaf48) (h := ?_) | refine p_loadRef (ht := F.leaf48) (h := ?_))
              refine p_guardYes (h := ?_)
              refine p_num (h := ?_)
              refine p_guardYes (h := ?_)
              refine p_pick (h := ?_)
              refine p_pick (h := ?_)
              refine p_endD ?_
              refine p_splitC (s := 59) (ht := fun hc59 => ?_) (hf := fun hc59 => ?_)
              · refine p_condT (h := ?_)
                refine p_seq (p_region fun hf => ?_)
                refine p_assign (h := ?_)
                refine p_end ?_
                refine TrC.ret ?_
                refine p_ret1 (hp := by first | (simp [stepRightB, hb18, hb25, hb40, hb44, hb54, hc59]; done) | (simp [stepRightB, j1, j2, j3, hb18, hb25, hb40, hb44, hb54, hc59]; done) | (simp_all [stepRightB]; done))
              · refine p_condF (h := ?_)
                refine p_skip ?_
                refine p_some ?_
                refine ⟨hb18, hb25, hb40, ?_, ?_, eV_, eV_, eV_, oB_, oB_⟩
                · intro hk; simp_all
                · intro hk; simp_all
            · -- slot 54 is false
              iterate 3 (refine p_guardNo (h := ?_))
              refine p_guardYes (h := ?_)
              refine p_pick (h := ?_)
              refine p_pick (h := ?_)
              refine p_endD ?_
              refine p_condF (h := ?_)
              refine p_skip ?_
              refine p_some ?_
              refine ⟨hb18, hb25, hb40, ?_, ?_, eV_, eV_, eV_, oB_, oB_⟩
              · intro hk; simp_all
              · intro hk; simp_all
  · obtain ⟨j1, j2, j3, j4, j5, e2, e3, e6, o2, o3⟩ := hJ
    dsimp only at e2 e3 e6 o2 o3
    have hE := (⟨e2, e3, e6, o2, o3⟩ : _ ∧ _ ∧ _ ∧ _ ∧ _)
    refine p_seq ?_
    refine p_seq (p_region fun hf => ?_)
    (first | refine p_fieldPtr (hf := F.fld50_2) (h := ?_) | refine p_fieldRef (hf := F.fld50_2) (h := ?_) | refine p_fieldRow (hf := F.fld50_2) (h := ?_))
    (first | refine p_load (ht := F.leaf48) (h := ?_) | refine p_loadRef (ht := F.leaf48) (h := ?_))
    refine p_end ?_
    refine TrC.block ?_
    refine p_seq (p_region fun hf => ?_)
    refine p_num (h := ?_)
    refine p_assign (h := ?_)
    refine p_end ?_
    refine p_splitC (s := 62) (ht := fun hc62 => ?_) (hf := fun hc62 => ?_)
    · refine p_condT (h := ?_)
      refine p_seq (p_region fun hf => ?_)
      (first | refine p_fieldPtr (hf := F.fld50_3) (h := ?_) | refine p_fieldRef (hf := F.fld50_3) (h := ?_) | refine p_fieldRow (hf := F.fld50_3) (h := ?_))
      (first | refine p_load (ht := F.leaf3) (h := ?_) | refine p_loadRef (ht := F.leaf3) (h := ?_))
      refine p_num (h := ?_)
      refine p_move (h := ?_)
      refine p_split (s := 67) (ht := fun hb67 => ?_) (hf := fun hb67 => ?_)
      · -- slot 67 is true
        refine p_guardYes (h := ?_)
        (first | refine p_fieldPtr (hf := F.fld50_4) (h := ?_) | refine p_fieldRef (hf := F.fld50_4) (h := ?_) | refine p_fieldRow (hf := F.fld50_4) (h := ?_))
        refine p_guardYes (h := ?_)
        (first | refine p_load (ht := F.leaf3) (h := ?_) | refine p_loadRef (ht := F.leaf3) (h := ?_))
        refine p_guardYes (h := ?_)
        refine p_num (h := ?_)
        refine p_pick (h := ?_)
        refine p_assign (h := ?_)
        refine p_end ?_
        refine TrC.ret ?_
        refine p_ret1 (hp := by first | (simp [stepRightB, hc62, hb67]; done) | (simp [stepRightB, j1, j2, j3, hc62, hb67]; done) | (simp_all [stepRightB]; done))
      · -- slot 67 is false
        iterate 3 (refine p_guardNo (h := ?_))
        refine p_pick (h := ?_)
        refine p_assign (h := ?_)
        refine p_end ?_
        refine TrC.ret ?_
        refine p_ret1 (hp := by first | (simp [stepRightB, hc62, hb67]; done) | (simp [stepRightB, j1, j2, j3, hc62, hb67]; done) | (simp_all [stepRightB]; done))
    · refine p_condF (h := ?_)
      refine p_seq ?_
      refine p_seq (p_region fun hf => ?_)
      refine p_num (h := ?_)
      refine p_assign (h := ?_)
      refine p_end ?_
      refine p_splitC (s := 72) (ht := fun hc72 => ?_) (hf := fun hc72 => ?_)
      · refine p_condT (h := ?_)
        refine p_skip ?_
        refine p_condT (h := ?_)
        refine p_seq (p_region fun hf => ?_)
        (first | refine p_fieldPtr (hf := F.fld50_3) (h := ?_) | refine p_fieldRef (hf := F.fld50_3) (h := ?_) | refine p_fieldRow (hf := F.fld50_3) (h := ?_))
        (first | refine p_load (ht := F.leaf3) (h := ?_) | refine p_loadRef (ht := F.leaf3) (h := ?_))
        refine p_move (h := ?_)
        refine p_call (hx := rfl) (hb := ⟨Try.func56, by kernel_rfl, rfl⟩) (hf := in21 _ _) (h := ?_)
        refine p_move (h := ?_)
        refine p_split (s := 81) (ht := fun hb81 => ?_) (hf := fun hb81 => ?_)
        · -- slot 81 is true
          refine p_guardYes (h := ?_)
          (first | refine p_fieldPtr (hf := F.fld50_4) (h := ?_) | refine p_fieldRef (hf := F.fld50_4) (h := ?_) | refine p_fieldRow (hf := F.fld50_4) (h := ?_))
          refine p_guardYes (h := ?_)
          (first | refine p_load (ht := F.leaf3) (h := ?_) | refine p_loadRef (ht := F.leaf3) (h := ?_))
          refine p_guardYes (h := ?_)
          refine p_num (h := ?_)
          refine p_pick (h := ?_)
          refine p_assign (h := ?_)
          refine p_end ?_
          refine TrC.ret ?_
          refine p_ret1 (hp := by first | (simp [stepRightB, hc62, hc72, hb81]; done) | (simp [stepRightB, j1, j2, j3, hc62, hc72, hb81]; done) | (simp_all [stepRightB]; done))
        · -- slot 81 is false
          iterate 3 (refine p_guardNo (h := ?_))
          refine p_pick (h := ?_)
          refine p_assign (h := ?_)
          refine p_end ?_
          refine TrC.ret ?_
          refine p_ret1 (hp := by first | (simp [stepRightB, hc62, hc72, hb81]; done) | (simp [stepRightB, j1, j2, j3, hc62, hc72, hb81]; done) | (simp_all [stepRightB]; done))
      · refine p_condF (h := ?_)
        refine p_seq (p_region fun hf => ?_)
        refine p_num (h := ?_)
        refine p_assign (h := ?_)
        refine p_end ?_
        refine p_splitC (s := 72) (ht := fun hc72x => ?_) (hf := fun hc72x => ?_)
        · refine p_condT (h := ?_)
          refine p_skip ?_
          refine p_condT (h := ?_)
          refine p_seq (p_region fun hf => ?_)
          (first | refine p_fieldPtr (hf := F.fld50_3) (h := ?_) | refine p_fieldRef (hf := F.fld50_3) (h := ?_) | refine p_fieldRow (hf := F.fld50_3) (h := ?_))
          (first | refine p_load (ht := F.leaf3) (h := ?_) | refine p_loadRef (ht := F.leaf3) (h := ?_))
          refine p_move (h := ?_)
          refine p_call (hx := rfl) (hb := ⟨Try.func56, by kernel_rfl, rfl⟩) (hf := in21 _ _) (h := ?_)
          refine p_move (h := ?_)
          refine p_split (s := 81) (ht := fun hb81 => ?_) (hf := fun hb81 => ?_)
          · -- slot 81 is true
            refine p_guardYes (h := ?_)
            (first | refine p_fieldPtr (hf := F.fld50_4) (h := ?_) | refine p_fieldRef (hf := F.fld50_4) (h := ?_) | refine p_fieldRow (hf := F.fld50_4) (h := ?_))
            refine p_guardYes (h := ?_)
            (first | refine p_load (ht := F.leaf3) (h := ?_) | refine p_loadRef (ht := F.leaf3) (h := ?_))
            refine p_guardYes (h := ?_)
            refine p_num (h := ?_)
            refine p_pick (h := ?_)
            refine p_assign (h := ?_)
            refine p_end ?_
            refine TrC.ret ?_
            refine p_ret1 (hp := by first | (simp [stepRightB, hc62, hc72, hc72x, hb81]; done) | (simp [stepRightB, j1, j2, j3, hc62, hc72, hc72x, hb81]; done) | (simp_all [stepRightB]; done))
          · -- slot 81 is false
            iterate 3 (refine p_guardNo (h := ?_))
            refine p_pick (h := ?_)
            refine p_assign (h := ?_)
            refine p_end ?_
            refine TrC.ret ?_
            refine p_ret1 (hp := by first | (simp [stepRightB, hc62, hc72, hc72x, hb81]; done) | (simp [stepRightB, j1, j2, j3, hc62, hc72, hc72x, hb81]; done) | (simp_all [stepRightB]; done))
        · refine p_condF (h := ?_)
          refine p_seq (p_region fun hf => ?_)
          refine p_num (h := ?_)
          refine p_assign (h := ?_)
          refine p_end ?_
          refine p_splitC (s := 72) (ht := fun hc72xx => ?_) (hf := fun hc72xx => ?_)
          · refine p_condT (h := ?_)
            refine p_skip ?_
            refine p_condT (h := ?_)
            refine p_seq (p_region fun hf => ?_)
            (first | refine p_fieldPtr (hf := F.fld50_3) (h := ?_) | refine p_fieldRef (hf := F.fld50_3) (h := ?_) | refine p_fieldRow (hf := F.fld50_3) (h := ?_))
            (first | refine p_load (ht := F.leaf3) (h := ?_) | refine p_loadRef (ht := F.leaf3) (h := ?_))
            refine p_move (h := ?_)
            refine p_call (hx := rfl) (hb := ⟨Try.func56, by kernel_rfl, rfl⟩) (hf := in21 _ _) (h := ?_)
            refine p_move (h := ?_)
            refine p_split (s := 81) (ht := fun hb81 => ?_) (hf := fun hb81 => ?_)
            · -- slot 81 is true
              refine p_guardYes (h := ?_)
              (first | refine p_fieldPtr (hf := F.fld50_4) (h := ?_) | refine p_fieldRef (hf := F.fld50_4) (h := ?_) | refine p_fieldRow (hf := F.fld50_4) (h := ?_))
              refine p_guardYes (h := ?_)
              (first | refine p_load (ht := F.leaf3) (h := ?_) | refine p_loadRef (ht := F.leaf3) (h := ?_))
              refine p_guardYes (h := ?_)
              refine p_num (h := ?_)
              refine p_pick (h := ?_)
              refine p_assign (h := ?_)
              refine p_end ?_
              refine TrC.ret ?_
              refine p_ret1 (hp := by first | (simp [stepRightB, hc62, hc72, hc72x, hc72xx, hb81]; done) | (simp [stepRightB, j1, j2, j3, hc62, hc72, hc72x, hc72xx, hb81]; done) | (simp_all [stepRightB]; done))
            · -- slot 81 is false
              iterate 3 (refine p_guardNo (h := ?_))
              refine p_pick (h := ?_)
              refine p_assign (h := ?_)
              refine p_end ?_
              refine TrC.ret ?_
              refine p_ret1 (hp := by first | (simp [stepRightB, hc62, hc72, hc72x, hc72xx, hb81]; done) | (simp [stepRightB, j1, j2, j3, hc62, hc72, hc72x, hc72xx, hb81]; done) | (simp_all [stepRightB]; done))
          · refine p_condF (h := ?_)
            refine p_region fun hf => ?_
            refine p_num (h := ?_)
            refine p_assign (h := ?_)
            refine p_end ?_
            refine p_splitC (s := 72) (ht := fun hc72xxx => ?_) (hf := fun hc72xxx => ?_)
            · refine p_condT (h := ?_)
              refine p_seq (p_region fun hf => ?_)
              (first | refine p_fieldPtr (hf := F.fld50_3) (h := ?_) | refine p_fieldRef (hf := F.fld50_3) (h := ?_) | refine p_fieldRow (hf := F.fld50_3) (h := ?_))
              (first | refine p_load (ht := F.leaf3) (h := ?_) | refine p_loadRef (ht := F.leaf3) (h := ?_))
              refine p_move (h := ?_)
              refine p_call (hx := rfl) (hb := ⟨Try.func56, by kernel_rfl, rfl⟩) (hf := in21 _ _) (h := ?_)
              refine p_move (h := ?_)
              refine p_split (s := 81) (ht := fun hb81 => ?_) (hf := fun hb81 => ?_)
              · -- slot 81 is true
                refine p_guardYes (h := ?_)
                (first | refine p_fieldPtr (hf := F.fld50_4) (h := ?_) | refine p_fieldRef (hf := F.fld50_4) (h := ?_) | refine p_fieldRow (hf := F.fld50_4) (h := ?_))
                refine p_guardYes (h := ?_)
                (first | refine p_load (ht := F.leaf3) (h := ?_) | refine p_loadRef (ht := F.leaf3) (h := ?_))
                refine p_guardYes (h := ?_)
                refine p_num (h := ?_)
                refine p_pick (h := ?_)
                refine p_assign (h := ?_)
                refine p_end ?_
                refine TrC.ret ?_
                refine p_ret1 (hp := by first | (simp [stepRightB, hc62, hc72, hc72x, hc72xx, hc72xxx, hb81]; done) | (simp [stepRightB, j1, j2, j3, hc62, hc72, hc72x, hc72xx, hc72xxx, hb81]; done) | (simp_all [stepRightB]; done))
              · -- slot 81 is false
                iterate 3 (refine p_guardNo (h := ?_))
                refine p_pick (h := ?_)
                refine p_assign (h := ?_)
                refine p_end ?_
                refine TrC.ret ?_
                refine p_ret1 (hp := by first | (simp [stepRightB, hc62, hc72, hc72x, hc72xx, hc72xxx, hb81]; done) | (simp [stepRightB, j1, j2, j3, hc62, hc72, hc72x, hc72xx, hc72xxx, hb81]; done) | (simp_all [stepRightB]; done))
            · refine p_condF (h := ?_)
              refine p_seq (p_region fun hf => ?_)
              refine p_num (h := ?_)
              refine p_assign (h := ?_)
              refine p_end ?_
              refine p_splitC (s := 86) (ht := fun hc86 => ?_) (hf := fun hc86 => ?_)
              · refine p_condT (h := ?_)
                refine p_seq (p_region fun hf => ?_)
                (first | refine p_fieldPtr (hf := F.fld50_3) (h := ?_) | refine p_fieldRef (hf := F.fld50_3) (h := ?_) | refine p_fieldRow (hf := F.fld50_3) (h := ?_))
                (first | refine p_load (ht := F.leaf3) (h := ?_) | refine p_loadRef (ht := F.leaf3) (h := ?_))
                refine p_move (h := ?_)
                refine p_call (hx := rfl) (hb := ⟨Try.func56, by kernel_rfl, rfl⟩) (hf := in21 _ _) (h := ?_)
                refine p_move (h := ?_)
                refine p_split (s := 92) (ht := fun hb92 => ?_) (hf := fun hb92 => ?_)
                · -- slot 92 is true
                  refine p_guardYes (h := ?_)
                  (first | refine p_fieldPtr (hf := F.fld50_4) (h := ?_) | refine p_fieldRef (hf := F.fld50_4) (h := ?_) | refine p_fieldRow (hf := F.fld50_4) (h := ?_))
                  refine p_guardYes (h := ?_)
                  (first | refine p_load (ht := F.leaf3) (h := ?_) | refine p_loadRef (ht := F.leaf3) (h := ?_))
                  refine p_guardYes (h := ?_)
                  refine p_move (h := ?_)
                  refine p_guardYes (h := ?_)
                  refine p_call (hx := rfl) (hb := ⟨Try.func56, by kernel_rfl, rfl⟩) (hf := in21 _ _) (h := ?_)
                  refine p_pick (h := ?_)
                  refine p_assign (h := ?_)
                  refine p_end ?_
                  refine TrC.ret ?_
                  refine p_ret1 (hp := by first | (simp [stepRightB, hc62, hc72, hc72x, hc72xx, hc72xxx, hc86, hb92]; done) | (simp [stepRightB, j1, j2, j3, hc62, hc72, hc72x, hc72xx, hc72xxx, hc86, hb92]; done) | (simp_all [stepRightB]; done))
                · -- slot 92 is false
                  iterate 4 (refine p_guardNo (h := ?_))
                  refine p_pick (h := ?_)
                  refine p_assign (h := ?_)
                  refine p_end ?_
                  refine TrC.ret ?_
                  refine p_ret1 (hp := by first | (simp [stepRightB, hc62, hc72, hc72x, hc72xx, hc72xxx, hc86, hb92]; done) | (simp [stepRightB, j1, j2, j3, hc62, hc72, hc72x, hc72xx, hc72xxx, hc86, hb92]; done) | (simp_all [stepRightB]; done))
              · refine p_condF (h := ?_)
                refine p_seq (p_region fun hf => ?_)
                refine p_num (h := ?_)
                refine p_assign (h := ?_)
                refine p_end ?_
                refine p_splitC (s := 98) (ht := fun hc98 => ?_) (hf := fun hc98 => ?_)
                · refine p_condT (h := ?_)
                  refine p_seq (p_draw F.mixed fun hf => ?_)
                  (first | refine p_fieldPtr (hf := F.fld50_3) (h := ?_) | refine p_fieldRef (hf := F.fld50_3) (h := ?_) | refine p_fieldRow (hf := F.fld50_3) (h := ?_))
                  (first | refine p_load (ht := F.leaf3) (h := ?_) | refine p_loadRef (ht := F.leaf3) (h := ?_))
                  refine p_num (h := ?_)
                  refine p_move (h := ?_)
                  refine p_split (s := 103) (ht := fun hb103 => ?_) (hf := fun hb103 => ?_)
                  · -- slot 103 is true
                    refine p_guardYes (h := ?_)
                    (first | refine p_fieldPtr (hf := F.fld50_4) (h := ?_) | refine p_fieldRef (hf := F.fld50_4) (h := ?_) | refine p_fieldRow (hf := F.fld50_4) (h := ?_))
                    refine p_guardYes (h := ?_)
                    (first | refine p_load (ht := F.leaf3) (h := ?_) | refine p_loadRef (ht := F.leaf3) (h := ?_))
                    refine p_guardYes (h := ?_)
                    refine p_num (h := ?_)
                    refine p_pick (h := ?_)
                    refine p_move (h := ?_)
                    refine p_split (s := 108) (ht := fun hb108 => ?_) (hf := fun hb108 => ?_)
                    · -- slot 108 is true
                      refine p_guardYes (h := ?_)
                      (first | refine p_fieldPtr (hf := F.fld50_6) (h := ?_) | refine p_fieldRef (hf := F.fld50_6) (h := ?_) | refine p_fieldRow (hf := F.fld50_6) (h := ?_))
                      refine p_guardYes (h := ?_)
                      (first | refine p_load (ht := F.leaf3) (h := ?_) | refine p_loadRef (ht := F.leaf3) (h := ?_))
                      refine p_guardYes (h := ?_)
                      (first | refine p_fieldPtr (hf := F.fld29_7) (h := ?_) | refine p_fieldRef (hf := F.fld29_7) (h := ?_) | refine p_fieldRow (hf := F.fld29_7) (h := ?_))
                      refine p_guardYes (h := ?_)
                      (first | refine p_load (ht := F.leaf25) (h := ?_) | refine p_loadRef (ht := F.leaf25) (h := ?_))
                      refine p_guardYes (h := ?_)
                      refine p_len (ht := Try.underlying25) (h := ?_)
                      refine p_guardYes (h := ?_)
                      refine p_call (hx := rfl) (hb := ⟨Try.func56, by kernel_rfl, rfl⟩) (hf := in21 _ _) (h := ?_)
                      refine p_pick (h := ?_)
                      refine p_move (h := ?_)
                      refine p_split (s := 116) (ht := fun hb116 => ?_) (hf := fun hb116 => ?_)
                      · -- slot 116 is true
                        refine p_guardYes (h := ?_)
                        (first | refine p_fieldPtr (hf := F.fld29_7) (h := ?_) | refine p_fieldRef (hf := F.fld29_7) (h := ?_) | refine p_fieldRow (hf := F.fld29_7) (h := ?_))
                        refine p_guardYes (h := ?_)
                        (first | refine p_load (ht := F.leaf25) (h := ?_) | refine p_loadRef (ht := F.leaf25) (h := ?_))
                        refine p_guardYes (h := ?_)
                        (first | refine p_fieldPtr (hf := F.fld50_6) (h := ?_) | refine p_fieldRef (hf := F.fld50_6) (h := ?_) | refine p_fieldRow (hf := F.fld50_6) (h := ?_))
                        refine p_guardYes (h := ?_)
                        (first | refine p_load (ht := F.leaf3) (h := ?_) | refine p_loadRef (ht := F.leaf3) (h := ?_))
                        refine p_guardYes (h := ?_)
                        refine p_idxMap (j := s.site.toNat) (ht := Try.underlying25) (hi := F.ti54) (hij := inB_nat (inBt hb116)) (hj := inB_lt (inBt hb116)) (h := ?_)
                        rw [siteAt_eq (inB_lt (inBt hb116))]
                        refine p_guardYes (h := ?_)
                        (first | refine p_fieldPtr (hf := F.fld54_2) (h := ?_) | refine p_fieldRef (hf := F.fld54_2) (h := ?_) | refine p_fieldRow (hf := F.fld54_2) (h := ?_))
                        refine p_guardYes (h := ?_)
                        (first | refine p_load (ht := F.leaf3) (h := ?_) | refine p_loadRef (ht := F.leaf3) (h := ?_))
                        refine p_guardYes (h := ?_)
                        (first | refine p_fieldPtr (hf := F.fld50_0) (h := ?_) | refine p_fieldRef (hf := F.fld50_0) (h := ?_) | refine p_fieldRow (hf := F.fld50_0) (h := ?_))
                        refine p_guardYes (h := ?_)
                        (first | refine p_load (ht := F.leaf3) (h := ?_) | refine p_loadRef (ht := F.leaf3) (h := ?_))
                        refine p_guardYes (h := ?_)
                        refine p_num (h := ?_)
                        refine p_pick (h := ?_)
                        refine p_move (h := ?_)
                        refine p_split (s := 128) (ht := fun hb128 => ?_) (hf := fun hb128 => ?_)
                        · -- slot 128 is true
                          refine p_guardYes (h := ?_)
                          (first | refine p_fieldPtr (hf := F.fld29_7) (h := ?_) | refine p_fieldRef (hf := F.fld29_7) (h := ?_) | refine p_fieldRow (hf := F.fld29_7) (h := ?_))
                          refine p_guardYes (h := ?_)
                          (first | refine p_load (ht := F.leaf25) (h := ?_) | refine p_loadRef (ht := F.leaf25) (h := ?_))
                          refine p_guardYes (h := ?_)
                          (first | refine p_fieldPtr (hf := F.fld50_6) (h := ?_) | refine p_fieldRef (hf := F.fld50_6) (h := ?_) | refine p_fieldRow (hf := F.fld50_6) (h := ?_))
                          refine p_guardYes (h := ?_)
                          (first | refine p_load (ht := F.leaf3) (h := ?_) | refine p_loadRef (ht := F.leaf3) (h := ?_))
                          refine p_guardYes (h := ?_)
                          refine p_idxMap (j := s.site.toNat) (ht := Try.underlying25) (hi := F.ti54) (hij := inB_nat (inBt hb116)) (hj := inB_lt (inBt hb116)) (h := ?_)
                          rw [siteAt_eq (inB_lt (inBt hb116))]
                          refine p_guardYes (h := ?_)
                          (first | refine p_fieldPtr (hf := F.fld54_3) (h := ?_) | refine p_fieldRef (hf := F.fld54_3) (h := ?_) | refine p_fieldRow (hf := F.fld54_3) (h := ?_))
                          refine p_guardYes (h := ?_)
                          (first | refine p_load (ht := F.leaf3) (h := ?_) | refine p_loadRef (ht := F.leaf3) (h := ?_))
                          refine p_guardYes (h := ?_)
                          (first | refine p_fieldPtr (hf := F.fld50_1) (h := ?_) | refine p_fieldRef (hf := F.fld50_1) (h := ?_) | refine p_fieldRow (hf := F.fld50_1) (h := ?_))
                          refine p_guardYes (h := ?_)
                          (first | refine p_load (ht := F.leaf3) (h := ?_) | refine p_loadRef (ht := F.leaf3) (h := ?_))
                          refine p_guardYes (h := ?_)
                          refine p_num (h := ?_)
                          refine p_pick (h := ?_)
                          refine p_assign (h := ?_)
                          refine p_endD ?_
                          refine TrC.ret ?_
                          refine p_ret1 (hp := by first | (simp [stepRightB, hc62, hc72, hc72x, hc72xx, hc72xxx, hc86, hc98, hb103, hb108, hb116, hb128]; done) | (simp [stepRightB, j1, j2, j3, hc62, hc72, hc72x, hc72xx, hc72xxx, hc86, hc98, hb103, hb108, hb116, hb128]; done) | (simp_all [stepRightB]; done))
                        · -- slot 128 is false
                          iterate 10 (refine p_guardNo (h := ?_))
                          refine p_pick (h := ?_)
                          refine p_assign (h := ?_)
                          refine p_endD ?_
                          refine TrC.ret ?_
                          refine p_ret1 (hp := by first | (simp [stepRightB, hc62, hc72, hc72x, hc72xx, hc72xxx, hc86, hc98, hb103, hb108, hb116, hb128]; done) | (simp [stepRightB, j1, j2, j3, hc62, hc72, hc72x, hc72xx, hc72xxx, hc86, hc98, hb103, hb108, hb116, hb128]; done) | (simp_all [stepRightB]; done))
                      · -- slot 116 is false
                        iterate 10 (refine p_guardNo (h := ?_))
                        refine p_pick (h := ?_)
                        refine p_move (h := ?_)
                        iterate 10 (refine p_guardNo (h := ?_))
                        refine p_pick (h := ?_)
                        refine p_assign (h := ?_)
                        refine p_endD ?_
                        refine TrC.ret ?_
                        refine p_ret1 (hp := by first | (simp [stepRightB, hc62, hc72, hc72x, hc72xx, hc72xxx, hc86, hc98, hb103, hb108, hb116]; done) | (simp [stepRightB, j1, j2, j3, hc62, hc72, hc72x, hc72xx, hc72xxx, hc86, hc98, hb103, hb108, hb116]; done) | (simp_all [stepRightB]; done))
                    · -- slot 108 is false
                      iterate 6 (refine p_guardNo (h := ?_))
                      refine p_pick (h := ?_)
                      refine p_move (h := ?_)
                      iterate 10 (refine p_guardNo (h := ?_))
                      refine p_pick (h := ?_)
                      refine p_move (h := ?_)
                      iterate 10 (refine p_guardNo (h := ?_))
                      refine p_pick (h := ?_)
                      refine p_assign (h := ?_)
                      refine p_endD ?_
                      refine TrC.ret ?_
                      refine p_ret1 (hp := by first | (simp [stepRightB, hc62, hc72, hc72x, hc72xx, hc72xxx, hc86, hc98, hb103, hb108]; done) | (simp [stepRightB, j1, j2, j3, hc62, hc72, hc72x, hc72xx, hc72xxx, hc86, hc98, hb103, hb108]; done) | (simp_all [stepRightB]; done))
                  · -- slot 103 is false
                    iterate 3 (refine p_guardNo (h := ?_))
                    refine p_pick (h := ?_)
                    refine p_move (h := ?_)
                    iterate 6 (refine p_guardNo (h := ?_))
                    refine p_pick (h := ?_)
                    refine p_move (h := ?_)
                    iterate 10 (refine p_guardNo (h := ?_))
                    refine p_pick (h := ?_)
                    refine p_move (h := ?_)
                    iterate 10 (refine p_guardNo (h := ?_))
                    refine p_pick (h := ?_)
                    refine p_assign (h := ?_)
                    refine p_endD ?_
                    refine TrC.ret ?_
                    refine p_ret1 (hp := by first | (simp [stepRightB, hc62, hc72, hc72x, hc72xx, hc72xxx, hc86, hc98, hb103]; done) | (simp [stepRightB, j1, j2, j3, hc62, hc72, hc72x, hc72xx, hc72xxx, hc86, hc98, hb103]; done) | (simp_all [stepRightB]; done))
                · refine p_condF (h := ?_)
                  refine p_skip ?_
                  refine p_seq (p_region fun hf => ?_)
                  refine p_assign (h := ?_)
                  refine p_end ?_
                  refine TrC.ret ?_
                  refine p_ret1 (hp := by first | (simp [stepRightB, hc62, hc72, hc72x, hc72xx, hc72xxx, hc86, hc98]; done) | (simp [stepRightB, j1, j2, j3, hc62, hc72, hc72x, hc72xx, hc72xxx, hc86, hc98]; done) | (simp_all [stepRightB]; done))

end Go.Proofs.Ytfjciangbmjlmaa
