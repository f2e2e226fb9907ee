/-
  The small functions of package graph, walked.
-/
import Derived.Test.YtfjciangbmjlmaaGa
set_option linter.unusedSimpArgs false
set_option linter.unusedVariables false
namespace Go.Proofs.Ytfjciangbmjlmaa
open Go.RowKit
def inB (i n : Int) : Bool := decide (0 ≤ i) && decide (i < n)

theorem in_ (i n : Int) : FnC Try.prog 51 [iV i, iV n] (fun r => r = .bool (inB i n)) := by
  refine FnC.of (fn := Try.f51) ⟨Try.func51, by kernel_rfl, rfl⟩ Try.ntmps51 (by simp) fun w0 S0 => ?_
  refine p_seq (p_region fun hf => ?_)
  refine p_assign (h := ?_)
  refine p_end ?_
  refine p_seq (p_region fun hf => ?_)
  refine p_move (h := ?_)
  refine p_num (h := ?_)
  refine p_move (h := ?_)
  refine p_split (s := 7) (ht := fun hb7 => ?_) (hf := fun hb7 => ?_)
  · -- slot 7 is true
    refine p_guardYes (h := ?_)
    refine p_move (h := ?_)
    refine p_guardYes (h := ?_)
    refine p_move (h := ?_)
    refine p_guardYes (h := ?_)
    refine p_num (h := ?_)
    refine p_pick (h := ?_)
    refine p_assign (h := ?_)
    refine p_end ?_
    refine TrC.ret ?_
    refine p_ret1 (hp := by simp only [inB, hb7, Bool.true_and, Bool.false_and])
  · -- slot 7 is false
    iterate 3 (refine p_guardNo (h := ?_))
    refine p_pick (h := ?_)
    refine p_assign (h := ?_)
    refine p_end ?_
    refine TrC.ret ?_
    refine p_ret1 (hp := by simp only [inB, hb7, Bool.true_and, Bool.false_and])

theorem procs1 (k p : Int) : FnC Try.prog 72 [iV k, .ref [iV p]] (fun r => r = .bool (!inB k p)) := by
  refine FnC.of (fn := Try.f72) ⟨Try.func72, by kernel_rfl, rfl⟩ Try.ntmps72 (by simp) fun w0 S0 => ?_
  refine p_seq (p_region fun hf => ?_)
  refine p_assign (h := ?_)
  refine p_end ?_
  refine p_seq (p_region fun hf => ?_)
  refine p_move (h := ?_)
  (first | refine p_load (ht := F.leaf3) (h := ?_) | refine p_loadRef (ht := F.leaf3) (h := ?_))
  refine p_call (hx := rfl) (hb := ⟨Try.func51, by kernel_rfl, rfl⟩) (hf := in_ _ _) (h := ?_)
  refine p_not (h := ?_)
  refine p_assign (h := ?_)
  refine p_end ?_
  refine TrC.ret ?_
  refine p_ret1 (hp := by rfl)

theorem procs2 (s : Site) (p : Int) : FnC Try.prog 74 [siteV s, .ref [iV p]] (fun r => r = .bool (!inB s.proc p)) := by
  refine FnC.of (fn := Try.f74) ⟨Try.func74, by kernel_rfl, rfl⟩ Try.ntmps74 (by simp) fun w0 S0 => ?_
  refine p_seq (p_region fun hf => ?_)
  refine p_box (h := ?_)
  refine p_assign (h := ?_)
  refine p_end ?_
  refine p_seq (p_region fun hf => ?_)
  (first | refine p_fieldPtr (hf := F.fld54_1) (h := ?_) | refine p_fieldRef (hf := F.fld54_1) (h := ?_) | refine p_fieldRow (hf := F.fld54_1) (h := ?_))
  (first | refine p_load (ht := F.leaf3) (h := ?_) | refine p_loadRef (ht := F.leaf3) (h := ?_))
  (first | refine p_load (ht := F.leaf3) (h := ?_) | refine p_loadRef (ht := F.leaf3) (h := ?_))
  refine p_call (hx := rfl) (hb := ⟨Try.func51, by kernel_rfl, rfl⟩) (hf := in_ _ _) (h := ?_)
  refine p_not (h := ?_)
  refine p_assign (h := ?_)
  refine p_end ?_
  refine TrC.ret ?_
  refine p_ret1 (hp := by rfl)

theorem check1 (p : Point) (g : Graph) : FnC Try.prog 50 [pointV p, .ref (graphL g)] (fun r => r = .bool (!inB p.node g.of.length)) := by
  refine FnC.of (fn := Try.f50) ⟨Try.func50, by kernel_rfl, rfl⟩ Try.ntmps50 (by simp) fun w0 S0 => ?_
  refine p_seq (p_region fun hf => ?_)
  refine p_box (h := ?_)
  refine p_assign (h := ?_)
  refine p_end ?_
  refine p_seq (p_region fun hf => ?_)
  (first | refine p_fieldPtr (hf := F.fld121_1) (h := ?_) | refine p_fieldRef (hf := F.fld121_1) (h := ?_) | refine p_fieldRow (hf := F.fld121_1) (h := ?_))
  (first | refine p_load (ht := F.leaf3) (h := ?_) | refine p_loadRef (ht := F.leaf3) (h := ?_))
  (first | refine p_fieldPtr (hf := F.fld29_5) (h := ?_) | refine p_fieldRef (hf := F.fld29_5) (h := ?_) | refine p_fieldRow (hf := F.fld29_5) (h := ?_))
  (first | refine p_load (ht := F.leaf23) (h := ?_) | refine p_loadRef (ht := F.leaf23) (h := ?_))
  refine p_len (ht := Try.underlying23) (h := ?_)
  refine p_call (hx := rfl) (hb := ⟨Try.func51, by kernel_rfl, rfl⟩) (hf := in_ _ _) (h := ?_)
  refine p_not (h := ?_)
  refine p_assign (h := ?_)
  refine p_end ?_
  refine TrC.ret ?_
  refine p_ret1 (hp := by rfl)

theorem check2 (p : Sink) (g : Graph) : FnC Try.prog 53 [sinkV p, .ref (graphL g)] (fun r => r = .bool (!inB p.node g.of.length || !inB p.x g.vars.length)) := by
  refine FnC.of (fn := Try.f53) ⟨Try.func53, by kernel_rfl, rfl⟩ Try.ntmps53 (by simp) fun w0 S0 => ?_
  refine p_seq (p_region fun hf => ?_)
  refine p_box (h := ?_)
  refine p_assign (h := ?_)
  refine p_end ?_
  refine p_seq (p_region fun hf => ?_)
  (first | refine p_fieldPtr (hf := F.fld126_1) (h := ?_) | refine p_fieldRef (hf := F.fld126_1) (h := ?_) | refine p_fieldRow (hf := F.fld126_1) (h := ?_))
  (first | refine p_load (ht := F.leaf3) (h := ?_) | refine p_loadRef (ht := F.leaf3) (h := ?_))
  (first | refine p_fieldPtr (hf := F.fld29_5) (h := ?_) | refine p_fieldRef (hf := F.fld29_5) (h := ?_) | refine p_fieldRow (hf := F.fld29_5) (h := ?_))
  (first | refine p_load (ht := F.leaf23) (h := ?_) | refine p_loadRef (ht := F.leaf23) (h := ?_))
  refine p_len (ht := Try.underlying23) (h := ?_)
  refine p_call (hx := rfl) (hb := ⟨Try.func51, by kernel_rfl, rfl⟩) (hf := in_ _ _) (h := ?_)
  refine p_not (h := ?_)
  refine p_move (h := ?_)
  refine p_split (s := 11) (ht := fun hb11 => ?_) (hf := fun hb11 => ?_)
  · -- slot 11 is true
    iterate 7 (refine p_guardNo (h := ?_))
    refine p_pick (h := ?_)
    refine p_assign (h := ?_)
    refine p_end ?_
    refine TrC.ret ?_
    refine p_ret1 (hp := by simp only [hb11, Bool.true_or, Bool.false_or])
  · -- slot 11 is false
    refine p_guardYes (h := ?_)
    (first | refine p_fieldPtr (hf := F.fld126_0) (h := ?_) | refine p_fieldRef (hf := F.fld126_0) (h := ?_) | refine p_fieldRow (hf := F.fld126_0) (h := ?_))
    refine p_guardYes (h := ?_)
    (first | refine p_load (ht := F.leaf3) (h := ?_) | refine p_loadRef (ht := F.leaf3) (h := ?_))
    refine p_guardYes (h := ?_)
    (first | refine p_fieldPtr (hf := F.fld29_0) (h := ?_) | refine p_fieldRef (hf := F.fld29_0) (h := ?_) | refine p_fieldRow (hf := F.fld29_0) (h := ?_))
    refine p_guardYes (h := ?_)
    (first | refine p_load (ht := F.leaf22) (h := ?_) | refine p_loadRef (ht := F.leaf22) (h := ?_))
    refine p_guardYes (h := ?_)
    refine p_len (ht := Try.underlying22) (h := ?_)
    refine p_guardYes (h := ?_)
    refine p_call (hx := rfl) (hb := ⟨Try.func51, by kernel_rfl, rfl⟩) (hf := in_ _ _) (h := ?_)
    refine p_guardYes (h := ?_)
    refine p_not (h := ?_)
    refine p_pick (h := ?_)
    refine p_assign (h := ?_)
    refine p_end ?_
    refine TrC.ret ?_
    refine p_ret1 (hp := by simp only [hb11, Bool.true_or, Bool.false_or])

end Go.Proofs.Ytfjciangbmjlmaa
