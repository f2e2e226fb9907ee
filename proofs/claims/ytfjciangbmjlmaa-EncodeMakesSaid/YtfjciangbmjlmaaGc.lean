/-
  stepRight, walked.
-/
import Derived.Test.YtfjciangbmjlmaaGb
import Derived.Test.YtfjciangbmjlmaaH
set_option linter.unusedSimpArgs false
set_option linter.unusedVariables false
namespace Go.Proofs.Ytfjciangbmjlmaa
open Go.RowKit
theorem step_ints : IntStruct Try.prog 50 [.i64, .i64, .i64, .i64, .i64, .i64, .i64] :=
  ⟨_, Try.underlying50, by kernel_rfl, by kernel_rfl, rfl, rfl, Try.underlying3, rfl, rfl, Try.underlying3, rfl, rfl, Try.underlying48, rfl, rfl, Try.underlying3, rfl, rfl, Try.underlying3, rfl, rfl, Try.underlying2, rfl, rfl, Try.underlying3, trivial⟩
theorem inB_nat {i n : Int} (h : (!inB i n) = false) : i = (i.toNat : Int) := by simp [inB] at h; omega
theorem inB_lt {i : Int} {n : Nat} (h : (!inB i n) = false) : i.toNat < n := by simp [inB] at h; omega
def ofAt (g : Graph) (i : Int) : Int := (g.of[i.toNat]?).getD 0
def siteAt (g : Graph) (i : Int) : Site := (g.sites[i.toNat]?).getD ⟨ByteArray.empty, 0, 0, 0⟩
theorem ofAt_eq {g : Graph} {i : Int} (h : i.toNat < g.of.length) : g.of[i.toNat] = ofAt g i := by simp [ofAt, h]
theorem siteAt_eq {g : Graph} {i : Int} (h : i.toNat < g.sites.length) : g.sites[i.toNat] = siteAt g i := by simp [siteAt, h]
def stepRightB (g : Graph) (s : Step) : Bool :=
  if (!inB s.frm g.of.length) = true then false else if (!inB s.to g.of.length) = true then false else if decide (ofAt g s.frm ≠ ofAt g s.to) = true then false else
  if decide (s.kind = 1) = true then decide ([0, 0, 0, s.x, s.y, s.k, s.site] = [(0 : Int), 0, 0, 0, 0, 0, 0])
  else if decide (s.kind = 2) = true then inB s.x g.vars.length && decide ([0, 0, 0, 0, s.y, 0, s.site] = [(0 : Int), 0, 0, 0, 0, 0, 0])
  else if decide (s.kind = 4) || decide (s.kind = 5) || decide (s.kind = 6) then inB s.x g.vars.length && decide ([0, 0, 0, 0, s.y, s.k, s.site] = [(0 : Int), 0, 0, 0, 0, 0, 0])
  else if decide (s.kind = 3) = true then inB s.x g.vars.length && inB s.y g.vars.length && decide ([0, 0, 0, 0, 0, s.k, s.site] = [(0 : Int), 0, 0, 0, 0, 0, 0])
  else if decide (s.kind = 8) = true then
    if (!inB s.site g.sites.length) = true then false else if decide ((siteAt g s.site).frm ≠ s.frm) = true then false else if decide ((siteAt g s.site).back ≠ s.to) = true then false else decide ([0, 0, 0, s.x, s.y, s.k, 0] = [(0 : Int), 0, 0, 0, 0, 0, 0])
  else false

theorem stepRight (g : Graph) (s : Step) : FnC Try.prog 48 [graphV g, stepV s] (fun r => r = .bool (stepRightB g s)) := by
  refine FnC.of (fn := Try.f48) ⟨Try.func48, by kernel_rfl, rfl⟩ Try.ntmps48 (by simp) fun w0 S0 => ?_
  refine p_seq (p_region fun hf => ?_)
  refine p_box (h := ?_)
  refine p_box (h := ?_)
  refine p_assign (h := ?_)
  refine p_end ?_
  refine p_seq ?_
  refine p_seq (p_draw F.mixed fun hf => ?_)
  (first | refine p_fieldPtr (hf := F.fld50_0) (h := ?_) | refine p_fieldRef (hf := F.fld50_0) (h := ?_) | refine p_fieldRow (hf := F.fld50_0) (h := ?_))
  (first | refine p_load (ht := F.leaf3) (h := ?_) | refine p_loadRef (ht := F.leaf3) (h := ?_))
  (first | refine p_fieldPtr (hf := F.fld29_5) (h := ?_) | refine p_fieldRef (hf := F.fld29_5) (h := ?_) | refine p_fieldRow (hf := F.fld29_5) (h := ?_))
  (first | refine p_load (ht := F.leaf23) (h := ?_) | refine p_loadRef (ht := F.leaf23) (h := ?_))
  refine p_len (ht := Try.underlying23) (h := ?_)
  refine p_call (hx := rfl) (hb := ⟨Try.func51, by kernel_rfl, rfl⟩) (hf := in_ _ _) (h := ?_)
  refine p_not (h := ?_)
  refine p_move (h := ?_)
  refine p_split (s := 15) (ht := fun hb15 => ?_) (hf := fun hb15 => ?_)
  · -- slot 15 is true
    iterate 7 (refine p_guardNo (h := ?_))
    refine p_pick (h := ?_)
    refine p_move (h := ?_)
    iterate 13 (refine p_guardNo (h := ?_))
    refine p_pick (h := ?_)
    refine p_endD ?_
    refine p_condT (h := ?_)
    refine p_seq (p_region fun hf => ?_)
    refine p_assign (h := ?_)
    refine p_end ?_
    refine TrC.ret ?_
    refine p_ret1 (hp := by simp [stepRightB, hb15])
  · -- slot 15 is false
    refine p_guardYes (h := ?_)
    (first | refine p_fieldPtr (hf := F.fld50_1) (h := ?_) | refine p_fieldRef (hf := F.fld50_1) (h := ?_) | refine p_fieldRow (hf := F.fld50_1) (h := ?_))
    refine p_guardYes (h := ?_)
    (first | refine p_load (ht := F.leaf3) (h := ?_) | refine p_loadRef (ht := F.leaf3) (h := ?_))
    refine p_guardYes (h := ?_)
    (first | refine p_fieldPtr (hf := F.fld29_5) (h := ?_) | refine p_fieldRef (hf := F.fld29_5) (h := ?_) | refine p_fieldRow (hf := F.fld29_5) (h := ?_))
    refine p_guardYes (h := ?_)
    (first | refine p_load (ht := F.leaf23) (h := ?_) | refine p_loadRef (ht := F.leaf23) (h := ?_))
    refine p_guardYes (h := ?_)
    refine p_len (ht := Try.underlying23) (h := ?_)
    refine p_guardYes (h := ?_)
    refine p_call (hx := rfl) (hb := ⟨Try.func51, by kernel_rfl, rfl⟩) (hf := in_ _ _) (h := ?_)
    refine p_guardYes (h := ?_)
    refine p_not (h := ?_)
    refine p_pick (h := ?_)
    refine p_move (h := ?_)
    refine p_split (s := 24) (ht := fun hb24 => ?_) (hf := fun hb24 => ?_)
    · -- slot 24 is true
      iterate 13 (refine p_guardNo (h := ?_))
      refine p_pick (h := ?_)
      refine p_endD ?_
      refine p_condT (h := ?_)
      refine p_seq (p_region fun hf => ?_)
      refine p_assign (h := ?_)
      refine p_end ?_
      refine TrC.ret ?_
      refine p_ret1 (hp := by simp [stepRightB, hb15, hb24])
    · -- slot 24 is false
      refine p_guardYes (h := ?_)
      (first | refine p_fieldPtr (hf := F.fld29_5) (h := ?_) | refine p_fieldRef (hf := F.fld29_5) (h := ?_) | refine p_fieldRow (hf := F.fld29_5) (h := ?_))
      refine p_guardYes (h := ?_)
      (first | refine p_load (ht := F.leaf23) (h := ?_) | refine p_loadRef (ht := F.leaf23) (h := ?_))
      refine p_guardYes (h := ?_)
      (first | refine p_fieldPtr (hf := F.fld50_0) (h := ?_) | refine p_fieldRef (hf := F.fld50_0) (h := ?_) | refine p_fieldRow (hf := F.fld50_0) (h := ?_))
      refine p_guardYes (h := ?_)
      (first | refine p_load (ht := F.leaf3) (h := ?_) | refine p_loadRef (ht := F.leaf3) (h := ?_))
      refine p_guardYes (h := ?_)
      refine p_idxMap (j := s.frm.toNat) (ht := Try.underlying23) (hi := F.ti3) (hij := inB_nat hb15) (hj := inB_lt hb15) (h := ?_)
      rw [ofAt_eq (inB_lt hb15)]
      refine p_guardYes (h := ?_)
      (first | refine p_load (ht := F.leaf3) (h := ?_) | refine p_loadRef (ht := F.leaf3) (h := ?_))
      refine p_guardYes (h := ?_)
      (first | refine p_fieldPtr (hf := F.fld29_5) (h := ?_) | refine p_fieldRef (hf := F.fld29_5) (h := ?_) | refine p_fieldRow (hf := F.fld29_5) (h := ?_))
      refine p_guardYes (h := ?_)
      (first | refine p_load (ht := F.leaf23) (h := ?_) | refine p_loadRef (ht := F.leaf23) (h := ?_))
      refine p_guardYes (h := ?_)
      (first | refine p_fieldPtr (hf := F.fld50_1) (h := ?_) | refine p_fieldRef (hf := F.fld50_1) (h := ?_) | refine p_fieldRow (hf := F.fld50_1) (h := ?_))
      refine p_guardYes (h := ?_)
      (first | refine p_load (ht := F.leaf3) (h := ?_) | refine p_loadRef (ht := F.leaf3) (h := ?_))
      refine p_guardYes (h := ?_)
      refine p_idxMap (j := s.to.toNat) (ht := Try.underlying23) (hi := F.ti3) (hij := inB_nat hb24) (hj := inB_lt hb24) (h := ?_)
      rw [ofAt_eq (inB_lt hb24)]
      refine p_guardYes (h := ?_)
      (first | refine p_load (ht := F.leaf3) (h := ?_) | refine p_loadRef (ht := F.leaf3) (h := ?_))
      refine p_guardYes (h := ?_)
      refine p_num (h := ?_)
      refine p_pick (h := ?_)
      refine p_endD ?_
      refine p_splitC (s := 38) (ht := fun hc38 => ?_) (hf := fun hc38 => ?_)
      · refine p_condT (h := ?_)
        refine p_seq (p_region fun hf => ?_)
        refine p_assign (h := ?_)
        refine p_end ?_
        refine TrC.ret ?_
        refine p_ret1 (hp := by simp [stepRightB, hb15, hb24, hc38])
      · refine p_condF (h := ?_)
        refine p_skip ?_
        refine p_seq (p_draw F.mixed fun hf => ?_)
        (first | refine p_fieldPtr (hf := F.fld50_3) (h := ?_) | refine p_fieldRef (hf := F.fld50_3) (h := ?_) | refine p_fieldRow (hf := F.fld50_3) (h := ?_))
        (first | refine p_load (ht := F.leaf3) (h := ?_) | refine p_loadRef (ht := F.leaf3) (h := ?_))
        (first | refine p_fieldPtr (hf := F.fld29_0) (h := ?_) | refine p_fieldRef (hf := F.fld29_0) (h := ?_) | refine p_fieldRow (hf := F.fld29_0) (h := ?_))
        (first | refine p_load (ht := F.leaf22) (h := ?_) | refine p_loadRef (ht := F.leaf22) (h := ?_))
        refine p_len (ht := Try.underlying22) (h := ?_)
        refine p_call (hx := rfl) (hb := ⟨Try.func51, by kernel_rfl, rfl⟩) (hf := in_ _ _) (h := ?_)
        (first | refine p_fieldPtr (hf := F.fld50_4) (h := ?_) | refine p_fieldRef (hf := F.fld50_4) (h := ?_) | refine p_fieldRow (hf := F.fld50_4) (h := ?_))
        (first | refine p_load (ht := F.leaf3) (h := ?_) | refine p_loadRef (ht := F.leaf3) (h := ?_))
        (first | refine p_fieldPtr (hf := F.fld29_0) (h := ?_) | refine p_fieldRef (hf := F.fld29_0) (h := ?_) | refine p_fieldRow (hf := F.fld29_0) (h := ?_))
        (first | refine p_load (ht := F.leaf22) (h := ?_) | refine p_loadRef (ht := F.leaf22) (h := ?_))
        refine p_len (ht := Try.underlying22) (h := ?_)
        refine p_call (hx := rfl) (hb := ⟨Try.func51, by kernel_rfl, rfl⟩) (hf := in_ _ _) (h := ?_)
        refine p_assign (h := ?_)
        refine p_assign (h := ?_)
        refine p_endD ?_
        refine p_seq (p_region fun hf => ?_)
        (first | refine p_loadA (ht := F.agg50) (hi := F.ti50) (h := ?_) | refine p_loadRefA (ht := F.agg50) (hi := F.ti50) (h := ?_))
        refine p_alloc (hi := F.ti50) (hz := rfl) (h := ?_)
        refine p_storeAll F.ti50 (h := ?_)
        refine p_end ?_
        refine p_seq (p_region fun hf => ?_)
        (first | refine p_fieldPtr (hf := F.fld50_0) (h := ?_) | refine p_fieldRef (hf := F.fld50_0) (h := ?_) | refine p_fieldRow (hf := F.fld50_0) (h := ?_))
        refine p_store1 F.ti3 (h := ?_)
        (first | refine p_fieldPtr (hf := F.fld50_1) (h := ?_) | refine p_fieldRef (hf := F.fld50_1) (h := ?_) | refine p_fieldRow (hf := F.fld50_1) (h := ?_))
        refine p_store1 F.ti3 (h := ?_)
        (first | refine p_fieldPtr (hf := F.fld50_2) (h := ?_) | refine p_fieldRef (hf := F.fld50_2) (h := ?_) | refine p_fieldRow (hf := F.fld50_2) (h := ?_))
        refine p_store1 F.ti48 (h := ?_)
        refine p_end ?_
        refine p_seq ?_
        refine p_seq (p_region fun hf => ?_)
        (first | refine p_fieldPtr (hf := F.fld50_2) (h := ?_) | refine p_fieldRef (hf := F.fld50_2) (h := ?_) | refine p_fieldRow (hf := F.fld50_2) (h := ?_))
        (first | refine p_load (ht := F.leaf48) (h := ?_) | refine p_loadRef (ht := F.leaf48) (h := ?_))
        refine p_end ?_
        refine TrC.block ?_
        refine p_seq ?_
        refine TrC.block ?_
        refine p_seq ?_
        refine TrC.block ?_
        refine p_seq ?_
        refine TrC.block ?_
        refine p_seq ?_
        refine TrC.block ?_
        refine p_seq ?_
        refine TrC.block ?_
        refine p_seq ?_
        refine TrC.block ?_
        refine p_seq ?_
        refine p_seq ?_
        refine p_seq (p_region fun hf => ?_)
        refine p_num (h := ?_)
        refine p_assign (h := ?_)
        refine p_end ?_
        refine p_splitC (s := 57) (ht := fun hc57 => ?_) (hf := fun hc57 => ?_)
        · refine p_condT (h := ?_)
          refine p_exit ?_
          refine p_exit ?_
          refine p_seq (p_region fun hf => ?_)
          (first | refine p_loadA (ht := F.agg50) (hi := F.ti50) (h := ?_) | refine p_loadRefA (ht := F.agg50) (hi := F.ti50) (h := ?_))
          refine p_build (hi := F.ti50) (hpl := F.pl50) (hps := rfl) (hl := by intro p hp; cases hp) (hr := rfl) (h := ?_)
          refine p_eqIntsL (l' := [iV 0, iV 0, iV 0, iV 0, iV 0, iV 0, iV 0]) (ht := step_ints) (hb := by simp only [List.map_cons, List.map_nil, V.toI] <;> rfl) (h := ?_)
          refine p_assign (h := ?_)
          refine p_end ?_
          refine TrC.ret ?_
          refine p_ret1 (hp := by simp [stepRightB, hb15, hb24, hc38, hc57])
        · refine p_condF (h := ?_)
          refine p_skip ?_
          refine p_seq ?_
          refine p_seq (p_region fun hf => ?_)
          refine p_num (h := ?_)
          refine p_assign (h := ?_)
          refine p_end ?_
          refine p_splitC (s := 59) (ht := fun hc59 => ?_) (hf := fun hc59 => ?_)
          · refine p_condT (h := ?_)
            refine p_exit ?_
            refine p_region fun hf => ?_
            (first | refine p_fieldPtr (hf := F.fld50_5) (h := ?_) | refine p_fieldRef (hf := F.fld50_5) (h := ?_) | refine p_fieldRow (hf := F.fld50_5) (h := ?_))
            refine p_store1 F.ti2 (h := ?_)
            refine p_end ?_
            refine p_seq ?_
            refine p_seq (p_region fun hf => ?_)
            (first | refine p_fieldPtr (hf := F.fld50_3) (h := ?_) | refine p_fieldRef (hf := F.fld50_3) (h := ?_) | refine p_fieldRow (hf := F.fld50_3) (h := ?_))
            refine p_store1 F.ti3 (h := ?_)
            refine p_end ?_
            refine p_seq (p_region fun hf => ?_)
            refine p_move (h := ?_)
            refine p_move (h := ?_)
            refine p_split (s := 72) (ht := fun hb72 => ?_) (hf := fun hb72 => ?_)
            · -- slot 72 is true
              refine p_guardYes (h := ?_)
              (first | refine p_loadA (ht := F.agg50) (hi := F.ti50) (h := ?_) | refine p_loadRefA (ht := F.agg50) (hi := F.ti50) (h := ?_))
              refine p_guardYes (h := ?_)
              refine p_build (hi := F.ti50) (hpl := F.pl50) (hps := rfl) (hl := by intro p hp; cases hp) (hr := rfl) (h := ?_)
              refine p_guardYes (h := ?_)
              refine p_eqIntsL (l' := [iV 0, iV 0, iV 0, iV 0, iV 0, iV 0, iV 0]) (ht := step_ints) (hb := by simp only [List.map_cons, List.map_nil, V.toI] <;> rfl) (h := ?_)
              refine p_pick (h := ?_)
              refine p_assign (h := ?_)
              refine p_end ?_
              refine TrC.ret ?_
              refine p_ret1 (hp := by simp [stepRightB, hb15, hb24, hc38, hc57, hc59, hb72])
            · -- slot 72 is false
              iterate 3 (refine p_guardNo (h := ?_))
              refine p_pick (h := ?_)
              refine p_assign (h := ?_)
              refine p_end ?_
              refine TrC.ret ?_
              refine p_ret1 (hp := by simp [stepRightB, hb15, hb24, hc38, hc57, hc59, hb72])
          · refine p_condF (h := ?_)
            refine p_skip ?_
            refine p_seq ?_
            refine p_seq ?_
            refine p_seq (p_region fun hf => ?_)
            refine p_num (h := ?_)
            refine p_assign (h := ?_)
            refine p_end ?_
            refine p_splitC (s := 61) (ht := fun hc61 => ?_) (hf := fun hc61 => ?_)
            · refine p_condT (h := ?_)
              refine p_skip ?_
              refine p_condT (h := ?_)
              refine p_exit ?_
              refine p_seq ?_
              refine p_seq (p_region fun hf => ?_)
              (first | refine p_fieldPtr (hf := F.fld50_3) (h := ?_) | refine p_fieldRef (hf := F.fld50_3) (h := ?_) | refine p_fieldRow (hf := F.fld50_3) (h := ?_))
              refine p_store1 F.ti3 (h := ?_)
              refine p_end ?_
              refine p_seq (p_region fun hf => ?_)
              refine p_move (h := ?_)
              refine p_move (h := ?_)
              refine p_split (s := 72) (ht := fun hb72 => ?_) (hf := fun hb72 => ?_)
              · -- slot 72 is true
                refine p_guardYes (h := ?_)
                (first | refine p_loadA (ht := F.agg50) (hi := F.ti50) (h := ?_) | refine p_loadRefA (ht := F.agg50) (hi := F.ti50) (h := ?_))
                refine p_guardYes (h := ?_)
                refine p_build (hi := F.ti50) (hpl := F.pl50) (hps := rfl) (hl := by intro p hp; cases hp) (hr := rfl) (h := ?_)
                refine p_guardYes (h := ?_)
                refine p_eqIntsL (l' := [iV 0, iV 0, iV 0, iV 0, iV 0, iV 0, iV 0]) (ht := step_ints) (hb := by simp only [List.map_cons, List.map_nil, V.toI] <;> rfl) (h := ?_)
                refine p_pick (h := ?_)
                refine p_assign (h := ?_)
                refine p_end ?_
                refine TrC.ret ?_
                refine p_ret1 (hp := by simp [stepRightB, hb15, hb24, hc38, hc57, hc59, hc61, hb72])
              · -- slot 72 is false
                iterate 3 (refine p_guardNo (h := ?_))
                refine p_pick (h := ?_)
                refine p_assign (h := ?_)
                refine p_end ?_
                refine TrC.ret ?_
                refine p_ret1 (hp := by simp [stepRightB, hb15, hb24, hc38, hc57, hc59, hc61, hb72])
            · refine p_condF (h := ?_)
              refine p_seq (p_region fun hf => ?_)
              refine p_num (h := ?_)
              refine p_assign (h := ?_)
              refine p_end ?_
              refine p_splitC (s := 61) (ht := fun hc61x => ?_) (hf := fun hc61x => ?_)
              · refine p_condT (h := ?_)
                refine p_skip ?_
                refine p_condT (h := ?_)
                refine p_exit ?_
                refine p_seq ?_
                refine p_seq (p_region fun hf => ?_)
                (first | refine p_fieldPtr (hf := F.fld50_3) (h := ?_) | refine p_fieldRef (hf := F.fld50_3) (h := ?_) | refine p_fieldRow (hf := F.fld50_3) (h := ?_))
                refine p_store1 F.ti3 (h := ?_)
                refine p_end ?_
                refine p_seq (p_region fun hf => ?_)
                refine p_move (h := ?_)
                refine p_move (h := ?_)
                refine p_split (s := 72) (ht := fun hb72 => ?_) (hf := fun hb72 => ?_)
                · -- slot 72 is true
                  refine p_guardYes (h := ?_)
                  (first | refine p_loadA (ht := F.agg50) (hi := F.ti50) (h := ?_) | refine p_loadRefA (ht := F.agg50) (hi := F.ti50) (h := ?_))
                  refine p_guardYes (h := ?_)
                  refine p_build (hi := F.ti50) (hpl := F.pl50) (hps := rfl) (hl := by intro p hp; cases hp) (hr := rfl) (h := ?_)
                  refine p_guardYes (h := ?_)
                  refine p_eqIntsL (l' := [iV 0, iV 0, iV 0, iV 0, iV 0, iV 0, iV 0]) (ht := step_ints) (hb := by simp only [List.map_cons, List.map_nil, V.toI] <;> rfl) (h := ?_)
                  refine p_pick (h := ?_)
                  refine p_assign (h := ?_)
                  refine p_end ?_
                  refine TrC.ret ?_
                  refine p_ret1 (hp := by simp [stepRightB, hb15, hb24, hc38, hc57, hc59, hc61, hc61x, hb72])
                · -- slot 72 is false
                  iterate 3 (refine p_guardNo (h := ?_))
                  refine p_pick (h := ?_)
                  refine p_assign (h := ?_)
                  refine p_end ?_
                  refine TrC.ret ?_
                  refine p_ret1 (hp := by simp [stepRightB, hb15, hb24, hc38, hc57, hc59, hc61, hc61x, hb72])
              · refine p_condF (h := ?_)
                refine p_region fun hf => ?_
                refine p_num (h := ?_)
                refine p_assign (h := ?_)
                refine p_end ?_
                refine p_splitC (s := 61) (ht := fun hc61xx => ?_) (hf := fun hc61xx => ?_)
                · refine p_condT (h := ?_)
                  refine p_exit ?_
                  refine p_seq ?_
                  refine p_seq (p_region fun hf => ?_)
                  (first | refine p_fieldPtr (hf := F.fld50_3) (h := ?_) | refine p_fieldRef (hf := F.fld50_3) (h := ?_) | refine p_fieldRow (hf := F.fld50_3) (h := ?_))
                  refine p_store1 F.ti3 (h := ?_)
                  refine p_end ?_
                  refine p_seq (p_region fun hf => ?_)
                  refine p_move (h := ?_)
                  refine p_move (h := ?_)
                  refine p_split (s := 72) (ht := fun hb72 => ?_) (hf := fun hb72 => ?_)
                  · -- slot 72 is true
                    refine p_guardYes (h := ?_)
                    (first | refine p_loadA (ht := F.agg50) (hi := F.ti50) (h := ?_) | refine p_loadRefA (ht := F.agg50) (hi := F.ti50) (h := ?_))
                    refine p_guardYes (h := ?_)
                    refine p_build (hi := F.ti50) (hpl := F.pl50) (hps := rfl) (hl := by intro p hp; cases hp) (hr := rfl) (h := ?_)
                    refine p_guardYes (h := ?_)
                    refine p_eqIntsL (l' := [iV 0, iV 0, iV 0, iV 0, iV 0, iV 0, iV 0]) (ht := step_ints) (hb := by simp only [List.map_cons, List.map_nil, V.toI] <;> rfl) (h := ?_)
                    refine p_pick (h := ?_)
                    refine p_assign (h := ?_)
                    refine p_end ?_
                    refine TrC.ret ?_
                    refine p_ret1 (hp := by simp [stepRightB, hb15, hb24, hc38, hc57, hc59, hc61, hc61x, hc61xx, hb72])
                  · -- slot 72 is false
                    iterate 3 (refine p_guardNo (h := ?_))
                    refine p_pick (h := ?_)
                    refine p_assign (h := ?_)
                    refine p_end ?_
                    refine TrC.ret ?_
                    refine p_ret1 (hp := by simp [stepRightB, hb15, hb24, hc38, hc57, hc59, hc61, hc61x, hc61xx, hb72])
                · refine p_condF (h := ?_)
                  refine p_skip ?_
                  refine p_seq ?_
                  refine p_seq (p_region fun hf => ?_)
                  refine p_num (h := ?_)
                  refine p_assign (h := ?_)
                  refine p_end ?_
                  refine p_splitC (s := 65) (ht := fun hc65 => ?_) (hf := fun hc65 => ?_)
                  · refine p_condT (h := ?_)
                    refine p_exit ?_
                    refine p_seq ?_
                    refine p_seq (p_region fun hf => ?_)
                    (first | refine p_fieldPtr (hf := F.fld50_3) (h := ?_) | refine p_fieldRef (hf := F.fld50_3) (h := ?_) | refine p_fieldRow (hf := F.fld50_3) (h := ?_))
                    refine p_store1 F.ti3 (h := ?_)
                    (first | refine p_fieldPtr (hf := F.fld50_4) (h := ?_) | refine p_fieldRef (hf := F.fld50_4) (h := ?_) | refine p_fieldRow (hf := F.fld50_4) (h := ?_))
                    refine p_store1 F.ti3 (h := ?_)
                    refine p_end ?_
                    refine p_seq (p_region fun hf => ?_)
                    refine p_move (h := ?_)
                    refine p_move (h := ?_)
                    refine p_split (s := 80) (ht := fun hb80 => ?_) (hf := fun hb80 => ?_)
                    · -- slot 80 is true
                      refine p_guardYes (h := ?_)
                      refine p_move (h := ?_)
                      refine p_pick (h := ?_)
                      refine p_move (h := ?_)
                      refine p_split (s := 83) (ht := fun hb83 => ?_) (hf := fun hb83 => ?_)
                      · -- slot 83 is true
                        refine p_guardYes (h := ?_)
                        (first | refine p_loadA (ht := F.agg50) (hi := F.ti50) (h := ?_) | refine p_loadRefA (ht := F.agg50) (hi := F.ti50) (h := ?_))
                        refine p_guardYes (h := ?_)
                        refine p_build (hi := F.ti50) (hpl := F.pl50) (hps := rfl) (hl := by intro p hp; cases hp) (hr := rfl) (h := ?_)
                        refine p_guardYes (h := ?_)
                        refine p_eqIntsL (l' := [iV 0, iV 0, iV 0, iV 0, iV 0, iV 0, iV 0]) (ht := step_ints) (hb := by simp only [List.map_cons, List.map_nil, V.toI] <;> rfl) (h := ?_)
                        refine p_pick (h := ?_)
                        refine p_assign (h := ?_)
                        refine p_end ?_
                        refine TrC.ret ?_
                        refine p_ret1 (hp := by simp [stepRightB, hb15, hb24, hc38, hc57, hc59, hc61, hc61x, hc61xx, hc65, hb80, hb83])
                      · -- slot 83 is false
                        iterate 3 (refine p_guardNo (h := ?_))
                        refine p_pick (h := ?_)
                        refine p_assign (h := ?_)
                        refine p_end ?_
                        refine TrC.ret ?_
                        refine p_ret1 (hp := by simp [stepRightB, hb15, hb24, hc38, hc57, hc59, hc61, hc61x, hc61xx, hc65, hb80, hb83])
                    · -- slot 80 is false
                      refine p_guardNo (h := ?_)
                      refine p_pick (h := ?_)
                      refine p_move (h := ?_)
                      iterate 3 (refine p_guardNo (h := ?_))
                      refine p_pick (h := ?_)
                      refine p_assign (h := ?_)
                      refine p_end ?_
                      refine TrC.ret ?_
                      refine p_ret1 (hp := by simp [stepRightB, hb15, hb24, hc38, hc57, hc59, hc61, hc61x, hc61xx, hc65, hb80])
                  · refine p_condF (h := ?_)
                    refine p_skip ?_
                    refine p_seq (p_region fun hf => ?_)
                    refine p_num (h := ?_)
                    refine p_assign (h := ?_)
                    refine p_end ?_
                    refine p_splitC (s := 67) (ht := fun hc67 => ?_) (hf := fun hc67 => ?_)
                    · refine p_condT (h := ?_)
                      refine p_exit ?_
                      refine p_seq ?_
                      refine p_seq (p_region fun hf => ?_)
                      (first | refine p_fieldPtr (hf := F.fld50_6) (h := ?_) | refine p_fieldRef (hf := F.fld50_6) (h := ?_) | refine p_fieldRow (hf := F.fld50_6) (h := ?_))
                      refine p_store1 F.ti3 (h := ?_)
                      refine p_end ?_
                      refine p_seq (p_draw F.mixed fun hf => ?_)
                      (first | refine p_fieldPtr (hf := F.fld50_6) (h := ?_) | refine p_fieldRef (hf := F.fld50_6) (h := ?_) | refine p_fieldRow (hf := F.fld50_6) (h := ?_))
                      (first | refine p_load (ht := F.leaf3) (h := ?_) | refine p_loadRef (ht := F.leaf3) (h := ?_))
                      (first | refine p_fieldPtr (hf := F.fld29_7) (h := ?_) | refine p_fieldRef (hf := F.fld29_7) (h := ?_) | refine p_fieldRow (hf := F.fld29_7) (h := ?_))
                      (first | refine p_load (ht := F.leaf25) (h := ?_) | refine p_loadRef (ht := F.leaf25) (h := ?_))
                      refine p_len (ht := Try.underlying25) (h := ?_)
                      refine p_call (hx := rfl) (hb := ⟨Try.func51, by kernel_rfl, rfl⟩) (hf := in_ _ _) (h := ?_)
                      refine p_not (h := ?_)
                      refine p_move (h := ?_)
                      refine p_split (s := 96) (ht := fun hb96 => ?_) (hf := fun hb96 => ?_)
                      · -- slot 96 is true
                        iterate 10 (refine p_guardNo (h := ?_))
                        refine p_pick (h := ?_)
                        refine p_move (h := ?_)
                        iterate 10 (refine p_guardNo (h := ?_))
                        refine p_pick (h := ?_)
                        refine p_endD ?_
                        refine p_condT (h := ?_)
                        refine p_seq (p_region fun hf => ?_)
                        refine p_assign (h := ?_)
                        refine p_end ?_
                        refine TrC.ret ?_
                        refine p_ret1 (hp := by simp [stepRightB, hb15, hb24, hc38, hc57, hc59, hc61, hc61x, hc61xx, hc65, hc67, hb96])
                      · -- slot 96 is false
                        refine p_guardYes (h := ?_)
                        (first | refine p_fieldPtr (hf := F.fld29_7) (h := ?_) | refine p_fieldRef (hf := F.fld29_7) (h := ?_) | refine p_fieldRow (hf := F.fld29_7) (h := ?_))
                        refine p_guardYes (h := ?_)
                        (first | refine p_load (ht := F.leaf25) (h := ?_) | refine p_loadRef (ht := F.leaf25) (h := ?_))
                        refine p_guardYes (h := ?_)
                        (first | refine p_fieldPtr (hf := F.fld50_6) (h := ?_) | refine p_fieldRef (hf := F.fld50_6) (h := ?_) | refine p_fieldRow (hf := F.fld50_6) (h := ?_))
                        refine p_guardYes (h := ?_)
                        (first | refine p_load (ht := F.leaf3) (h := ?_) | refine p_loadRef (ht := F.leaf3) (h := ?_))
                        refine p_guardYes (h := ?_)
                        refine p_idxMap (j := s.site.toNat) (ht := Try.underlying25) (hi := F.ti54) (hij := inB_nat hb96) (hj := inB_lt hb96) (h := ?_)
                        rw [siteAt_eq (inB_lt hb96)]
                        refine p_guardYes (h := ?_)
                        (first | refine p_fieldPtr (hf := F.fld54_2) (h := ?_) | refine p_fieldRef (hf := F.fld54_2) (h := ?_) | refine p_fieldRow (hf := F.fld54_2) (h := ?_))
                        refine p_guardYes (h := ?_)
                        (first | refine p_load (ht := F.leaf3) (h := ?_) | refine p_loadRef (ht := F.leaf3) (h := ?_))
                        refine p_guardYes (h := ?_)
                        (first | refine p_fieldPtr (hf := F.fld50_0) (h := ?_) | refine p_fieldRef (hf := F.fld50_0) (h := ?_) | refine p_fieldRow (hf := F.fld50_0) (h := ?_))
                        refine p_guardYes (h := ?_)
                        (first | refine p_load (ht := F.leaf3) (h := ?_) | refine p_loadRef (ht := F.leaf3) (h := ?_))
                        refine p_guardYes (h := ?_)
                        refine p_num (h := ?_)
                        refine p_pick (h := ?_)
                        refine p_move (h := ?_)
                        refine p_split (s := 108) (ht := fun hb108 => ?_) (hf := fun hb108 => ?_)
                        · -- slot 108 is true
                          iterate 10 (refine p_guardNo (h := ?_))
                          refine p_pick (h := ?_)
                          refine p_endD ?_
                          refine p_condT (h := ?_)
                          refine p_seq (p_region fun hf => ?_)
                          refine p_assign (h := ?_)
                          refine p_end ?_
                          refine TrC.ret ?_
                          refine p_ret1 (hp := by simp [stepRightB, hb15, hb24, hc38, hc57, hc59, hc61, hc61x, hc61xx, hc65, hc67, hb96, hb108])
                        · -- slot 108 is false
                          refine p_guardYes (h := ?_)
                          (first | refine p_fieldPtr (hf := F.fld29_7) (h := ?_) | refine p_fieldRef (hf := F.fld29_7) (h := ?_) | refine p_fieldRow (hf := F.fld29_7) (h := ?_))
                          refine p_guardYes (h := ?_)
                          (first | refine p_load (ht := F.leaf25) (h := ?_) | refine p_loadRef (ht := F.leaf25) (h := ?_))
                          refine p_guardYes (h := ?_)
                          (first | refine p_fieldPtr (hf := F.fld50_6) (h := ?_) | refine p_fieldRef (hf := F.fld50_6) (h := ?_) | refine p_fieldRow (hf := F.fld50_6) (h := ?_))
                          refine p_guardYes (h := ?_)
                          (first | refine p_load (ht := F.leaf3) (h := ?_) | refine p_loadRef (ht := F.leaf3) (h := ?_))
                          refine p_guardYes (h := ?_)
                          refine p_idxMap (j := s.site.toNat) (ht := Try.underlying25) (hi := F.ti54) (hij := inB_nat hb96) (hj := inB_lt hb96) (h := ?_)
                          rw [siteAt_eq (inB_lt hb96)]
                          refine p_guardYes (h := ?_)
                          (first | refine p_fieldPtr (hf := F.fld54_3) (h := ?_) | refine p_fieldRef (hf := F.fld54_3) (h := ?_) | refine p_fieldRow (hf := F.fld54_3) (h := ?_))
                          refine p_guardYes (h := ?_)
                          (first | refine p_load (ht := F.leaf3) (h := ?_) | refine p_loadRef (ht := F.leaf3) (h := ?_))
                          refine p_guardYes (h := ?_)
                          (first | refine p_fieldPtr (hf := F.fld50_1) (h := ?_) | refine p_fieldRef (hf := F.fld50_1) (h := ?_) | refine p_fieldRow (hf := F.fld50_1) (h := ?_))
                          refine p_guardYes (h := ?_)
                          (first | refine p_load (ht := F.leaf3) (h := ?_) | refine p_loadRef (ht := F.leaf3) (h := ?_))
                          refine p_guardYes (h := ?_)
                          refine p_num (h := ?_)
                          refine p_pick (h := ?_)
                          refine p_endD ?_
                          refine p_splitC (s := 119) (ht := fun hc119 => ?_) (hf := fun hc119 => ?_)
                          · refine p_condT (h := ?_)
                            refine p_seq (p_region fun hf => ?_)
                            refine p_assign (h := ?_)
                            refine p_end ?_
                            refine TrC.ret ?_
                            refine p_ret1 (hp := by simp [stepRightB, hb15, hb24, hc38, hc57, hc59, hc61, hc61x, hc61xx, hc65, hc67, hb96, hb108, hc119])
                          · refine p_condF (h := ?_)
                            refine p_skip ?_
                            refine p_exit ?_
                            refine p_seq (p_region fun hf => ?_)
                            (first | refine p_loadA (ht := F.agg50) (hi := F.ti50) (h := ?_) | refine p_loadRefA (ht := F.agg50) (hi := F.ti50) (h := ?_))
                            refine p_build (hi := F.ti50) (hpl := F.pl50) (hps := rfl) (hl := by intro p hp; cases hp) (hr := rfl) (h := ?_)
                            refine p_eqIntsL (l' := [iV 0, iV 0, iV 0, iV 0, iV 0, iV 0, iV 0]) (ht := step_ints) (hb := by simp only [List.map_cons, List.map_nil, V.toI] <;> rfl) (h := ?_)
                            refine p_assign (h := ?_)
                            refine p_end ?_
                            refine TrC.ret ?_
                            refine p_ret1 (hp := by simp [stepRightB, hb15, hb24, hc38, hc57, hc59, hc61, hc61x, hc61xx, hc65, hc67, hb96, hb108, hc119])
                    · refine p_condF (h := ?_)
                      refine p_skip ?_
                      refine p_exit ?_
                      refine p_seq ?_
                      refine p_seq (p_region fun hf => ?_)
                      refine p_assign (h := ?_)
                      refine p_end ?_
                      refine TrC.ret ?_
                      refine p_ret1 (hp := by simp [stepRightB, hb15, hb24, hc38, hc57, hc59, hc61, hc61x, hc61xx, hc65, hc67])

end Go.Proofs.Ytfjciangbmjlmaa
