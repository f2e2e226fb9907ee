/-
  The small functions of package encode in the mode of mere reachability, walked.
-/
import Derived.Test.YtfjciangbmjlmaaGh
set_option linter.unusedSimpArgs false
set_option linter.unusedVariables false
namespace Go.Proofs.Ytfjciangbmjlmaa
open Go.RowKit
/-- The one weight. -/
abbrev weightL : List V := [.bool false, iV 0, .int .u64 0, .nil, .nil, .nil]
abbrev spaceL : List V := [iV 1, iV 0, .nil]

def askedR (G : Graph) (m : Int) : Int := if decide (checkE G ≠ 0) then checkE G else if decide (m = 1) then 0 else if decide (m = 2) then 0 else if decide (m = 3) then 0 else 1

theorem asked (G : Graph) (m : Int) (h1 : G.steps.length ≤ 1000000000) (h2 : G.points.length ≤ 1000000000) (h3 : G.sinks.length ≤ 1000000000) : FnC Try.prog 26 [graphV G, iV m] (fun r => r = iV (askedR G m)) := by
  refine FnC.of (fn := Try.f26) ⟨Try.func26, by kernel_rfl, rfl⟩ Try.ntmps26 (by simp) fun w0 S0 => ?_
  refine p_seq (p_region fun hf => ?_)
  refine p_box (h := ?_)
  refine p_assign (h := ?_)
  refine p_end ?_
  refine p_seq ?_
  refine p_seq (p_region fun hf => ?_)
  (first | refine p_loadA (ht := F.agg29) (hi := F.ti29) (h := ?_) | refine p_loadRefA (ht := F.agg29) (hi := F.ti29) (h := ?_))
  refine p_call (hx := rfl) (hb := ⟨Try.func29, by kernel_rfl, rfl⟩) (hf := check G h1 h2 h3) (h := ?_)
  refine p_assign (h := ?_)
  refine p_end ?_
  refine p_seq (p_region fun hf => ?_)
  refine p_move (h := ?_)
  refine p_num (h := ?_)
  refine p_end ?_
  refine p_splitC (s := 9) (ht := fun hc9 => ?_) (hf := fun hc9 => ?_)
  · refine p_condT (h := ?_)
    refine p_seq (p_region fun hf => ?_)
    refine p_move (h := ?_)
    refine p_assign (h := ?_)
    refine p_end ?_
    refine TrC.ret ?_
    refine p_ret1 (hp := by simp only [askedR, hc9, ↓reduceIte, Bool.false_eq_true])
  · refine p_condF (h := ?_)
    refine p_skip ?_
    refine p_seq ?_
    refine p_seq (p_region fun hf => ?_)
    refine p_move (h := ?_)
    refine p_end ?_
    refine TrC.block ?_
    refine p_seq ?_
    refine TrC.block ?_
    refine TrC.block ?_
    refine TrC.block ?_
    refine p_seq ?_
    refine p_seq ?_
    refine p_seq (p_region fun hf => ?_)
    refine p_num (h := ?_)
    refine p_assign (h := ?_)
    refine p_end ?_
    refine p_splitC (s := 12) (ht := fun hc12 => ?_) (hf := fun hc12 => ?_)
    · refine p_condT (h := ?_)
      refine p_exit ?_
      refine p_seq ?_
      refine p_seq (p_region fun hf => ?_)
      refine p_assign (h := ?_)
      refine p_end ?_
      refine TrC.ret ?_
      refine p_ret1 (hp := by simp only [askedR, hc9, hc12, ↓reduceIte, Bool.false_eq_true])
    · refine p_condF (h := ?_)
      refine p_skip ?_
      refine p_seq ?_
      refine p_seq (p_region fun hf => ?_)
      refine p_num (h := ?_)
      refine p_assign (h := ?_)
      refine p_end ?_
      refine p_splitC (s := 14) (ht := fun hc14 => ?_) (hf := fun hc14 => ?_)
      · refine p_condT (h := ?_)
        refine p_exit ?_
        refine p_seq ?_
        refine p_seq (p_region fun hf => ?_)
        refine p_assign (h := ?_)
        refine p_end ?_
        refine TrC.ret ?_
        refine p_ret1 (hp := by simp only [askedR, hc9, hc12, hc14, ↓reduceIte, Bool.false_eq_true])
      · refine p_condF (h := ?_)
        refine p_skip ?_
        refine p_seq (p_region fun hf => ?_)
        refine p_num (h := ?_)
        refine p_assign (h := ?_)
        refine p_end ?_
        refine p_splitC (s := 16) (ht := fun hc16 => ?_) (hf := fun hc16 => ?_)
        · refine p_condT (h := ?_)
          refine p_exit ?_
          refine p_seq ?_
          refine p_seq (p_region fun hf => ?_)
          refine p_assign (h := ?_)
          refine p_end ?_
          refine TrC.ret ?_
          refine p_ret1 (hp := by simp only [askedR, hc9, hc12, hc14, hc16, ↓reduceIte, Bool.false_eq_true])
        · refine p_condF (h := ?_)
          refine p_skip ?_
          refine p_exit ?_
          refine p_seq (p_region fun hf => ?_)
          refine p_assign (h := ?_)
          refine p_end ?_
          refine TrC.ret ?_
          refine p_ret1 (hp := by simp only [askedR, hc9, hc12, hc14, hc16, ↓reduceIte, Bool.false_eq_true])

theorem space1 (G : Graph) : FnC Try.prog 27 [graphV G, iV 1] (fun r => r = .agg spaceL) := by
  refine FnC.of (fn := Try.f27) ⟨Try.func27, by kernel_rfl, rfl⟩ Try.ntmps27 (by simp) fun w0 S0 => ?_
  refine p_seq (p_region fun hf => ?_)
  refine p_box (h := ?_)
  refine p_alloc (hi := F.ti35) (h := ?_)
  refine p_end ?_
  refine p_seq (p_region fun hf => ?_)
  (first | refine p_fieldPtr (hf := F.fld29_0) (h := ?_) | refine p_fieldRef (hf := F.fld29_0) (h := ?_) | refine p_fieldRow (hf := F.fld29_0) (h := ?_))
  (first | refine p_load (ht := F.leaf22) (h := ?_) | refine p_loadRef (ht := F.leaf22) (h := ?_))
  refine p_len (ht := Try.underlying22) (h := ?_)
  refine p_assign (h := ?_)
  refine p_end ?_
  refine p_seq ?_
  refine p_seq (p_region fun hf => ?_)
  refine p_move (h := ?_)
  refine p_end ?_
  refine TrC.block ?_
  refine p_seq (p_region fun hf => ?_)
  refine p_num (h := ?_)
  refine p_assign (h := ?_)
  refine p_end ?_
  refine p_splitC (s := 10) (ht := fun hc10 => ?_) (hf := fun hc10 => ?_)
  · exact absurd hc10 (by decide)
  · refine p_condF (h := ?_)
    refine p_seq (p_region fun hf => ?_)
    refine p_num (h := ?_)
    refine p_assign (h := ?_)
    refine p_end ?_
    refine p_splitC (s := 17) (ht := fun hc17 => ?_) (hf := fun hc17 => ?_)
    · exact absurd hc17 (by decide)
    · refine p_condF (h := ?_)
      refine p_skip ?_
      refine p_seq (p_region fun hf => ?_)
      refine p_build (hi := F.ti35) (hpl := F.pl35) (h := ?_)
      refine p_storeAll F.ti35 (h := ?_)
      refine p_end ?_
      refine TrC.ret ?_
      refine Tr.ret1 rfl (res_cell eV_ oB_ F.agg35 F.ti35 rfl rfl) rfl (by intro l h; cases h)

theorem worth1 (G : Graph) (s : Step) : FnC Try.prog 28 [graphV G, iV 1, stepV s] (fun r => r = .agg weightL) := by
  refine FnC.of (fn := Try.f28) ⟨Try.func28, by kernel_rfl, rfl⟩ Try.ntmps28 (by simp) fun w0 S0 => ?_
  refine p_seq (p_region fun hf => ?_)
  refine p_box (h := ?_)
  refine p_box (h := ?_)
  refine p_alloc (hi := F.ti81) (h := ?_)
  refine p_end ?_
  refine p_seq ?_
  refine p_seq (p_region fun hf => ?_)
  refine p_move (h := ?_)
  refine p_end ?_
  refine TrC.block ?_
  refine p_seq (p_region fun hf => ?_)
  refine p_num (h := ?_)
  refine p_assign (h := ?_)
  refine p_end ?_
  refine p_splitC (s := 8) (ht := fun hc8 => ?_) (hf := fun hc8 => ?_)
  · exact absurd hc8 (by decide)
  · refine p_condF (h := ?_)
    refine p_seq (p_region fun hf => ?_)
    refine p_num (h := ?_)
    refine p_assign (h := ?_)
    refine p_end ?_
    refine p_splitC (s := 19) (ht := fun hc19 => ?_) (hf := fun hc19 => ?_)
    · exact absurd hc19 (by decide)
    · refine p_condF (h := ?_)
      refine p_skip ?_
      refine p_seq (p_region fun hf => ?_)
      refine p_build (hi := F.ti81) (hpl := F.pl81) (h := ?_)
      refine p_storeAll F.ti81 (h := ?_)
      refine p_end ?_
      refine TrC.ret ?_
      refine Tr.ret1 rfl (res_cell eV_ oB_ F.agg81 F.ti81 rfl rfl) rfl (by intro l h; cases h)

end Go.Proofs.Ytfjciangbmjlmaa
