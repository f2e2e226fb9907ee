/-
  The reference's Space, one and One at the spaces of the three modes, walked.
-/
import Derived.Test.YtfjciangbmjlmaaHg
set_option linter.unusedSimpArgs false
set_option linter.unusedVariables false
namespace Go.Proofs.Ytfjciangbmjlmaa
open Go.RowKit

theorem rspc1  : FnC Try.prog 63 [spcV ⟨1, 0⟩] (fun r => r = iV 0) := by
  refine FnC.of (fn := Try.f63) ⟨Try.func63, by kernel_rfl, rfl⟩ Try.ntmps63 (by simp) fun w0 S0 => ?_
  refine p_seq (p_region fun hf => ?_)
  refine p_box (h := ?_)
  refine p_assign (h := ?_)
  refine p_end ?_
  refine p_seq (p_region fun hf => ?_)
  refine p_assign (h := ?_)
  refine p_end ?_
  refine p_seq ?_
  refine p_seq (p_region fun hf => ?_)
  (first | refine p_fieldPtr (hf := F.fld35_0) (h := ?_) | refine p_fieldRef (hf := F.fld35_0) (h := ?_) | refine p_fieldRow (hf := F.fld35_0) (h := ?_))
  (first | refine p_load (ht := F.leaf32) (h := ?_) | refine p_loadRef (ht := F.leaf32) (h := ?_))
  refine p_end ?_
  refine TrC.block ?_
  refine p_seq (p_region fun hf => ?_)
  refine p_num (h := ?_)
  refine p_assign (h := ?_)
  refine p_end ?_
  refine p_isC (s := 7) (b := true) (hc := by first | rfl | decide | (simp; done) | (simp; omega)) (h := ?_)
  refine p_condT (h := ?_)
  refine p_region fun hf => ?_
  (first | refine p_fieldPtr (hf := F.fld35_1) (h := ?_) | refine p_fieldRef (hf := F.fld35_1) (h := ?_) | refine p_fieldRow (hf := F.fld35_1) (h := ?_))
  (first | refine p_load (ht := F.leaf3) (h := ?_) | refine p_loadRef (ht := F.leaf3) (h := ?_))
  refine p_num (h := ?_)
  refine p_move (h := ?_)
  refine p_isW (s := 12) (b := true) (hc := by first | rfl | decide | (simp; done) | (simp; omega)) (h := ?_)
  refine p_guardYes (h := ?_)
  (first | refine p_fieldPtr (hf := F.fld35_2) (h := ?_) | refine p_fieldRef (hf := F.fld35_2) (h := ?_) | refine p_fieldRow (hf := F.fld35_2) (h := ?_))
  refine p_guardYes (h := ?_)
  (first | refine p_load (ht := F.leaf33) (h := ?_) | refine p_loadRef (ht := F.leaf33) (h := ?_))
  refine p_guardYes (h := ?_)
  refine p_len (ht := Try.underlying33) (h := ?_)
  refine p_guardYes (h := ?_)
  refine p_num (h := ?_)
  refine p_pick (h := ?_)
  refine p_assign (h := ?_)
  refine p_end ?_
  refine p_seq ?_
  refine p_seq (p_region fun hf => ?_)
  refine p_move (h := ?_)
  refine p_not (h := ?_)
  refine p_end ?_
  refine p_isC (s := 89) (b := false) (hc := by first | rfl | decide | (simp; done) | (simp; omega)) (h := ?_)
  refine p_condF (h := ?_)
  refine p_skip ?_
  refine p_seq (p_region fun hf => ?_)
  refine p_assign (h := ?_)
  refine p_end ?_
  refine TrC.ret ?_
  refine p_ret1 (hp := by rfl)

theorem rspc2 (d : Int) (h : 0 ≤ d ∧ d ≤ 1048576) : FnC Try.prog 63 [spcV ⟨2, d⟩] (fun r => r = iV 0) := by
  refine FnC.of (fn := Try.f63) ⟨Try.func63, by kernel_rfl, rfl⟩ Try.ntmps63 (by simp) fun w0 S0 => ?_
  refine p_seq (p_region fun hf => ?_)
  refine p_box (h := ?_)
  refine p_assign (h := ?_)
  refine p_end ?_
  refine p_seq (p_region fun hf => ?_)
  refine p_assign (h := ?_)
  refine p_end ?_
  refine p_seq ?_
  refine p_seq (p_region fun hf => ?_)
  (first | refine p_fieldPtr (hf := F.fld35_0) (h := ?_) | refine p_fieldRef (hf := F.fld35_0) (h := ?_) | refine p_fieldRow (hf := F.fld35_0) (h := ?_))
  (first | refine p_load (ht := F.leaf32) (h := ?_) | refine p_loadRef (ht := F.leaf32) (h := ?_))
  refine p_end ?_
  refine TrC.block ?_
  refine p_seq (p_region fun hf => ?_)
  refine p_num (h := ?_)
  refine p_assign (h := ?_)
  refine p_end ?_
  refine p_isC (s := 7) (b := false) (hc := by first | rfl | decide | (simp; done) | (simp; omega)) (h := ?_)
  refine p_condF (h := ?_)
  refine p_seq (p_region fun hf => ?_)
  refine p_num (h := ?_)
  refine p_assign (h := ?_)
  refine p_end ?_
  refine p_isC (s := 18) (b := true) (hc := by first | rfl | decide | (simp; done) | (simp; omega)) (h := ?_)
  refine p_condT (h := ?_)
  refine p_region fun hf => ?_
  (first | refine p_fieldPtr (hf := F.fld35_1) (h := ?_) | refine p_fieldRef (hf := F.fld35_1) (h := ?_) | refine p_fieldRow (hf := F.fld35_1) (h := ?_))
  (first | refine p_load (ht := F.leaf3) (h := ?_) | refine p_loadRef (ht := F.leaf3) (h := ?_))
  refine p_num (h := ?_)
  refine p_move (h := ?_)
  refine p_isW (s := 23) (b := true) (hc := by first | rfl | decide | (simp; done) | (simp; omega)) (h := ?_)
  refine p_guardYes (h := ?_)
  (first | refine p_fieldPtr (hf := F.fld35_1) (h := ?_) | refine p_fieldRef (hf := F.fld35_1) (h := ?_) | refine p_fieldRow (hf := F.fld35_1) (h := ?_))
  refine p_guardYes (h := ?_)
  (first | refine p_load (ht := F.leaf3) (h := ?_) | refine p_loadRef (ht := F.leaf3) (h := ?_))
  refine p_guardYes (h := ?_)
  refine p_num (h := ?_)
  refine p_pick (h := ?_)
  refine p_move (h := ?_)
  refine p_isW (s := 28) (b := true) (hc := by first | rfl | decide | (simp; done) | (simp; omega)) (h := ?_)
  refine p_guardYes (h := ?_)
  (first | refine p_fieldPtr (hf := F.fld35_2) (h := ?_) | refine p_fieldRef (hf := F.fld35_2) (h := ?_) | refine p_fieldRow (hf := F.fld35_2) (h := ?_))
  refine p_guardYes (h := ?_)
  (first | refine p_load (ht := F.leaf33) (h := ?_) | refine p_loadRef (ht := F.leaf33) (h := ?_))
  refine p_guardYes (h := ?_)
  refine p_len (ht := Try.underlying33) (h := ?_)
  refine p_guardYes (h := ?_)
  refine p_num (h := ?_)
  refine p_pick (h := ?_)
  refine p_assign (h := ?_)
  refine p_end ?_
  refine p_seq ?_
  refine p_seq (p_region fun hf => ?_)
  refine p_move (h := ?_)
  refine p_not (h := ?_)
  refine p_end ?_
  refine p_isC (s := 89) (b := false) (hc := by first | rfl | decide | (simp; done) | (simp; omega)) (h := ?_)
  refine p_condF (h := ?_)
  refine p_skip ?_
  refine p_seq (p_region fun hf => ?_)
  refine p_assign (h := ?_)
  refine p_end ?_
  refine TrC.ret ?_
  refine p_ret1 (hp := by rfl)

theorem rspc3 (d : Int) (h : 0 ≤ d ∧ d ≤ 64) : FnC Try.prog 63 [spcV ⟨3, d⟩] (fun r => r = iV 0) := by
  refine FnC.of (fn := Try.f63) ⟨Try.func63, by kernel_rfl, rfl⟩ Try.ntmps63 (by simp) fun w0 S0 => ?_
  refine p_seq (p_region fun hf => ?_)
  refine p_box (h := ?_)
  refine p_assign (h := ?_)
  refine p_end ?_
  refine p_seq (p_region fun hf => ?_)
  refine p_assign (h := ?_)
  refine p_end ?_
  refine p_seq ?_
  refine p_seq (p_region fun hf => ?_)
  (first | refine p_fieldPtr (hf := F.fld35_0) (h := ?_) | refine p_fieldRef (hf := F.fld35_0) (h := ?_) | refine p_fieldRow (hf := F.fld35_0) (h := ?_))
  (first | refine p_load (ht := F.leaf32) (h := ?_) | refine p_loadRef (ht := F.leaf32) (h := ?_))
  refine p_end ?_
  refine TrC.block ?_
  refine p_seq (p_region fun hf => ?_)
  refine p_num (h := ?_)
  refine p_assign (h := ?_)
  refine p_end ?_
  refine p_isC (s := 7) (b := false) (hc := by first | rfl | decide | (simp; done) | (simp; omega)) (h := ?_)
  refine p_condF (h := ?_)
  refine p_seq (p_region fun hf => ?_)
  refine p_num (h := ?_)
  refine p_assign (h := ?_)
  refine p_end ?_
  refine p_isC (s := 18) (b := false) (hc := by first | rfl | decide | (simp; done) | (simp; omega)) (h := ?_)
  refine p_condF (h := ?_)
  refine p_seq ?_
  refine p_seq (p_region fun hf => ?_)
  refine p_num (h := ?_)
  refine p_assign (h := ?_)
  refine p_end ?_
  refine p_isC (s := 34) (b := true) (hc := by first | rfl | decide | (simp; done) | (simp; omega)) (h := ?_)
  refine p_condT (h := ?_)
  refine p_skip ?_
  refine p_condT (h := ?_)
  refine p_region fun hf => ?_
  (first | refine p_fieldPtr (hf := F.fld35_1) (h := ?_) | refine p_fieldRef (hf := F.fld35_1) (h := ?_) | refine p_fieldRow (hf := F.fld35_1) (h := ?_))
  (first | refine p_load (ht := F.leaf3) (h := ?_) | refine p_loadRef (ht := F.leaf3) (h := ?_))
  refine p_num (h := ?_)
  refine p_move (h := ?_)
  refine p_isW (s := 40) (b := true) (hc := by first | rfl | decide | (simp; done) | (simp; omega)) (h := ?_)
  refine p_guardYes (h := ?_)
  (first | refine p_fieldPtr (hf := F.fld35_1) (h := ?_) | refine p_fieldRef (hf := F.fld35_1) (h := ?_) | refine p_fieldRow (hf := F.fld35_1) (h := ?_))
  refine p_guardYes (h := ?_)
  (first | refine p_load (ht := F.leaf3) (h := ?_) | refine p_loadRef (ht := F.leaf3) (h := ?_))
  refine p_guardYes (h := ?_)
  refine p_num (h := ?_)
  refine p_pick (h := ?_)
  refine p_move (h := ?_)
  refine p_isW (s := 45) (b := true) (hc := by first | rfl | decide | (simp; done) | (simp; omega)) (h := ?_)
  refine p_guardYes (h := ?_)
  (first | refine p_fieldPtr (hf := F.fld35_2) (h := ?_) | refine p_fieldRef (hf := F.fld35_2) (h := ?_) | refine p_fieldRow (hf := F.fld35_2) (h := ?_))
  refine p_guardYes (h := ?_)
  (first | refine p_load (ht := F.leaf33) (h := ?_) | refine p_loadRef (ht := F.leaf33) (h := ?_))
  refine p_guardYes (h := ?_)
  refine p_len (ht := Try.underlying33) (h := ?_)
  refine p_guardYes (h := ?_)
  refine p_num (h := ?_)
  refine p_pick (h := ?_)
  refine p_assign (h := ?_)
  refine p_end ?_
  refine p_seq ?_
  refine p_seq (p_region fun hf => ?_)
  refine p_move (h := ?_)
  refine p_not (h := ?_)
  refine p_end ?_
  refine p_isC (s := 89) (b := false) (hc := by first | rfl | decide | (simp; done) | (simp; omega)) (h := ?_)
  refine p_condF (h := ?_)
  refine p_skip ?_
  refine p_seq (p_region fun hf => ?_)
  refine p_assign (h := ?_)
  refine p_end ?_
  refine TrC.ret ?_
  refine p_ret1 (hp := by rfl)

theorem rspc4 (d : Int) (h : 0 ≤ d ∧ d ≤ 64) : FnC Try.prog 63 [spcV ⟨4, d⟩] (fun r => r = iV 0) := by
  refine FnC.of (fn := Try.f63) ⟨Try.func63, by kernel_rfl, rfl⟩ Try.ntmps63 (by simp) fun w0 S0 => ?_
  refine p_seq (p_region fun hf => ?_)
  refine p_box (h := ?_)
  refine p_assign (h := ?_)
  refine p_end ?_
  refine p_seq (p_region fun hf => ?_)
  refine p_assign (h := ?_)
  refine p_end ?_
  refine p_seq ?_
  refine p_seq (p_region fun hf => ?_)
  (first | refine p_fieldPtr (hf := F.fld35_0) (h := ?_) | refine p_fieldRef (hf := F.fld35_0) (h := ?_) | refine p_fieldRow (hf := F.fld35_0) (h := ?_))
  (first | refine p_load (ht := F.leaf32) (h := ?_) | refine p_loadRef (ht := F.leaf32) (h := ?_))
  refine p_end ?_
  refine TrC.block ?_
  refine p_seq (p_region fun hf => ?_)
  refine p_num (h := ?_)
  refine p_assign (h := ?_)
  refine p_end ?_
  refine p_isC (s := 7) (b := false) (hc := by first | rfl | decide | (simp; done) | (simp; omega)) (h := ?_)
  refine p_condF (h := ?_)
  refine p_seq (p_region fun hf => ?_)
  refine p_num (h := ?_)
  refine p_assign (h := ?_)
  refine p_end ?_
  refine p_isC (s := 18) (b := false) (hc := by first | rfl | decide | (simp; done) | (simp; omega)) (h := ?_)
  refine p_condF (h := ?_)
  refine p_seq ?_
  refine p_seq (p_region fun hf => ?_)
  refine p_num (h := ?_)
  refine p_assign (h := ?_)
  refine p_end ?_
  refine p_splitC (s := 34) (ht := fun hc34 => ?_) (hf := fun hc34 => ?_)
  · exact absurd hc34 (by simp)
  · refine p_condF (h := ?_)
    refine p_region fun hf => ?_
    refine p_num (h := ?_)
    refine p_assign (h := ?_)
    refine p_end ?_
    refine p_splitC (s := 34) (ht := fun hc34x => ?_) (hf := fun hc34x => ?_)
    · refine p_condT (h := ?_)
      refine p_region fun hf => ?_
      (first | refine p_fieldPtr (hf := F.fld35_1) (h := ?_) | refine p_fieldRef (hf := F.fld35_1) (h := ?_) | refine p_fieldRow (hf := F.fld35_1) (h := ?_))
      (first | refine p_load (ht := F.leaf3) (h := ?_) | refine p_loadRef (ht := F.leaf3) (h := ?_))
      refine p_num (h := ?_)
      refine p_move (h := ?_)
      refine p_isW (s := 40) (b := true) (hc := by first | rfl | decide | (simp; done) | (simp; omega)) (h := ?_)
      refine p_guardYes (h := ?_)
      (first | refine p_fieldPtr (hf := F.fld35_1) (h := ?_) | refine p_fieldRef (hf := F.fld35_1) (h := ?_) | refine p_fieldRow (hf := F.fld35_1) (h := ?_))
      refine p_guardYes (h := ?_)
      (first | refine p_load (ht := F.leaf3) (h := ?_) | refine p_loadRef (ht := F.leaf3) (h := ?_))
      refine p_guardYes (h := ?_)
      refine p_num (h := ?_)
      refine p_pick (h := ?_)
      refine p_move (h := ?_)
      refine p_isW (s := 45) (b := true) (hc := by first | rfl | decide | (simp; done) | (simp; omega)) (h := ?_)
      refine p_guardYes (h := ?_)
      (first | refine p_fieldPtr (hf := F.fld35_2) (h := ?_) | refine p_fieldRef (hf := F.fld35_2) (h := ?_) | refine p_fieldRow (hf := F.fld35_2) (h := ?_))
      refine p_guardYes (h := ?_)
      (first | refine p_load (ht := F.leaf33) (h := ?_) | refine p_loadRef (ht := F.leaf33) (h := ?_))
      refine p_guardYes (h := ?_)
      refine p_len (ht := Try.underlying33) (h := ?_)
      refine p_guardYes (h := ?_)
      refine p_num (h := ?_)
      refine p_pick (h := ?_)
      refine p_assign (h := ?_)
      refine p_end ?_
      refine p_seq ?_
      refine p_seq (p_region fun hf => ?_)
      refine p_move (h := ?_)
      refine p_not (h := ?_)
      refine p_end ?_
      refine p_isC (s := 89) (b := false) (hc := by first | rfl | decide | (simp; done) | (simp; omega)) (h := ?_)
      refine p_condF (h := ?_)
      refine p_skip ?_
      refine p_seq (p_region fun hf => ?_)
      refine p_assign (h := ?_)
      refine p_end ?_
      refine TrC.ret ?_
      refine p_ret1 (hp := by rfl)
    · exact absurd hc34x (by simp)
/-- The parts of a pair's space. -/
def partsS (n : Nat) : List Spc := [⟨2, 1048576⟩, ⟨3, n⟩]
theorem parts_in {n i : Nat} (hi : i < (partsS n).length) (h : n ≤ 64) : (partsS n)[i].t ≠ 5 ∧ FnC Try.prog 63 [spcV (partsS n)[i]] (fun r => r = iV 0) := by
  have h2 : i < 2 := hi
  obtain rfl | rfl : i = 0 ∨ i = 1 := by omega
  · exact ⟨by simp [partsS], rspc2 _ (by omega)⟩
  · exact ⟨by simp [partsS], rspc3 n (by omega)⟩

theorem rspc5p (n : Nat) (h : n ≤ 64) : FnC Try.prog 63 [.agg [iV 5, iV 0, .sl 35 ((partsS n).map spcV)]] (fun r => r = iV 0) := by
  refine FnC.of (fn := Try.f63) ⟨Try.func63, by kernel_rfl, rfl⟩ Try.ntmps63 (by simp) fun w0 S0 => ?_
  refine p_seq (p_region fun hf => ?_)
  refine p_box (h := ?_)
  refine p_assign (h := ?_)
  refine p_end ?_
  refine p_seq (p_region fun hf => ?_)
  refine p_assign (h := ?_)
  refine p_end ?_
  refine p_seq ?_
  refine p_seq (p_region fun hf => ?_)
  (first | refine p_fieldPtr (hf := F.fld35_0) (h := ?_) | refine p_fieldRef (hf := F.fld35_0) (h := ?_) | refine p_fieldRow (hf := F.fld35_0) (h := ?_))
  (first | refine p_load (ht := F.leaf32) (h := ?_) | refine p_loadRef (ht := F.leaf32) (h := ?_))
  refine p_end ?_
  refine TrC.block ?_
  refine p_seq (p_region fun hf => ?_)
  refine p_num (h := ?_)
  refine p_assign (h := ?_)
  refine p_end ?_
  refine p_isC (s := 7) (b := false) (hc := by first | rfl | decide | (simp; done) | (simp; omega)) (h := ?_)
  refine p_condF (h := ?_)
  refine p_seq (p_region fun hf => ?_)
  refine p_num (h := ?_)
  refine p_assign (h := ?_)
  refine p_end ?_
  refine p_isC (s := 18) (b := false) (hc := by first | rfl | decide | (simp; done) | (simp; omega)) (h := ?_)
  refine p_condF (h := ?_)
  refine p_seq ?_
  refine p_seq (p_region fun hf => ?_)
  refine p_num (h := ?_)
  refine p_assign (h := ?_)
  refine p_end ?_
  refine p_splitC (s := 34) (ht := fun hc34 => ?_) (hf := fun hc34 => ?_)
  · exact absurd hc34 (by simp)
  · refine p_condF (h := ?_)
    refine p_region fun hf => ?_
    refine p_num (h := ?_)
    refine p_assign (h := ?_)
    refine p_end ?_
    refine p_splitC (s := 34) (ht := fun hc34x => ?_) (hf := fun hc34x => ?_)
    · exact absurd hc34x (by simp)
    · refine p_condF (h := ?_)
      refine p_seq (p_region fun hf => ?_)
      refine p_num (h := ?_)
      refine p_assign (h := ?_)
      refine p_end ?_
      refine p_isC (s := 51) (b := true) (hc := by first | rfl | decide | (simp; done) | (simp; omega)) (h := ?_)
      refine p_condT (h := ?_)
      refine p_seq (p_region fun hf => ?_)
      (first | refine p_fieldPtr (hf := F.fld35_1) (h := ?_) | refine p_fieldRef (hf := F.fld35_1) (h := ?_) | refine p_fieldRow (hf := F.fld35_1) (h := ?_))
      (first | refine p_load (ht := F.leaf3) (h := ?_) | refine p_loadRef (ht := F.leaf3) (h := ?_))
      refine p_num (h := ?_)
      refine p_move (h := ?_)
      refine p_isW (s := 56) (b := true) (hc := by first | rfl | decide | (simp; done) | (simp; omega)) (h := ?_)
      refine p_guardYes (h := ?_)
      (first | refine p_fieldPtr (hf := F.fld35_2) (h := ?_) | refine p_fieldRef (hf := F.fld35_2) (h := ?_) | refine p_fieldRow (hf := F.fld35_2) (h := ?_))
      refine p_guardYes (h := ?_)
      (first | refine p_load (ht := F.leaf33) (h := ?_) | refine p_loadRef (ht := F.leaf33) (h := ?_))
      refine p_guardYes (h := ?_)
      refine p_len (ht := Try.underlying33) (h := ?_)
      refine p_guardYes (h := ?_)
      refine p_num (h := ?_)
      refine p_pick (h := ?_)
      refine p_assign (h := ?_)
      refine p_end ?_
      refine p_seq (p_region fun hf => ?_)
      refine p_assign (h := ?_)
      refine p_end ?_
      refine TrC.block ?_
      refine p_loop (fun st => ∃ i : Nat, i ≤ 2 ∧ st.env 1 = .ptr (0 + 1) 1 0 ∧ st.env 3 = .bool true ∧ st.env 4 = iV i ∧ st.obj (0 + 1) 1 = .cells 35 [iV 5, iV 0, .sl 35 ((partsS n).map spcV)]) (fun st => 2 - (st.env 4).toN) ?_ fun e ob g1 hI => ?_
      · exact ⟨0, by omega, eV_, eV_, eV_, oB_⟩
      · obtain ⟨i, hi, e1, e3, e4, o1⟩ := hI
        dsimp only at e1 e3 e4 o1
        have hE := (⟨e1, e3, e4, o1⟩ : _ ∧ _ ∧ _ ∧ _)
        refine p_seq ?_
        refine p_seq (p_region fun hf => ?_)
        refine p_move (h := ?_)
        (first | refine p_fieldPtr (hf := F.fld35_2) (h := ?_) | refine p_fieldRef (hf := F.fld35_2) (h := ?_) | refine p_fieldRow (hf := F.fld35_2) (h := ?_))
        (first | refine p_load (ht := F.leaf33) (h := ?_) | refine p_loadRef (ht := F.leaf33) (h := ?_))
        refine p_len (ht := Try.underlying33) (h := ?_)
        refine p_num (h := ?_)
        refine p_move (h := ?_)
        refine p_split (s := 67) (ht := fun hb67 => ?_) (hf := fun hb67 => ?_)
        · -- slot 67 is true
          have hlt : i < (partsS n).length := by simpa using hb67
          refine p_guardYes (h := ?_)
          refine p_move (h := ?_)
          refine p_pick (h := ?_)
          refine p_end ?_
          refine p_splitC (s := 69) (ht := fun hc69 => ?_) (hf := fun hc69 => ?_)
          · refine p_condT (h := ?_)
            refine p_skip ?_
            refine p_seq ?_
            refine TrC.block ?_
            refine p_region fun hf => ?_
            (first | refine p_fieldPtr (hf := F.fld35_2) (h := ?_) | refine p_fieldRef (hf := F.fld35_2) (h := ?_) | refine p_fieldRow (hf := F.fld35_2) (h := ?_))
            (first | refine p_load (ht := F.leaf33) (h := ?_) | refine p_loadRef (ht := F.leaf33) (h := ?_))
            refine p_move (h := ?_)
            refine p_idxMap (j := i) (ht := Try.underlying33) (hi := F.ti35) (hij := rfl) (hj := hlt) (h := ?_)
            (first | refine p_fieldPtr (hf := F.fld35_0) (h := ?_) | refine p_fieldRef (hf := F.fld35_0) (h := ?_) | refine p_fieldRow (hf := F.fld35_0) (h := ?_))
            (first | refine p_load (ht := F.leaf32) (h := ?_) | refine p_loadRef (ht := F.leaf32) (h := ?_))
            refine p_num (h := ?_)
            refine p_move (h := ?_)
            refine p_isW (s := 79) (b := true) (hc := by simp [(parts_in hlt h).1]) (h := ?_)
            refine p_guardYes (h := ?_)
            (first | refine p_fieldPtr (hf := F.fld35_2) (h := ?_) | refine p_fieldRef (hf := F.fld35_2) (h := ?_) | refine p_fieldRow (hf := F.fld35_2) (h := ?_))
            refine p_guardYes (h := ?_)
            (first | refine p_load (ht := F.leaf33) (h := ?_) | refine p_loadRef (ht := F.leaf33) (h := ?_))
            refine p_guardYes (h := ?_)
            refine p_move (h := ?_)
            refine p_guardYes (h := ?_)
            refine p_idxMap (j := i) (ht := Try.underlying33) (hi := F.ti35) (hij := rfl) (hj := hlt) (h := ?_)
            refine p_guardYes (h := ?_)
            (first | refine p_loadA (ht := F.agg35) (hi := F.ti35) (h := ?_) | refine p_loadRefA (ht := F.agg35) (hi := F.ti35) (h := ?_))
            refine p_guardYes (h := ?_)
            refine p_call (hx := rfl) (hb := ⟨Try.func63, by kernel_rfl, rfl⟩) (hf := (parts_in hlt h).2) (h := ?_)
            refine p_guardYes (h := ?_)
            refine p_num (h := ?_)
            refine p_pick (h := ?_)
            refine p_assign (h := ?_)
            refine p_end ?_
            refine p_region fun hf => ?_
            refine p_move (h := ?_)
            refine p_add (r := ((i + 1 : Nat) : Int)) (hr := by omega) (hb := by omega) (h := ?_)
            refine p_assign (h := ?_)
            refine p_end ?_
            refine p_some ?_
            refine ⟨⟨i + 1, by have : (partsS n).length = 2 := rfl; omega, eV_, eV_, eV_, oB_⟩, ?_⟩
            have : (partsS n).length = 2 := rfl
            simp (decide := true) only [upd, e4, V.toN, ↓reduceIte]; omega
          · exact absurd hc69 (by simp)
        · -- slot 67 is false
          refine p_guardNo (h := ?_)
          refine p_pick (h := ?_)
          refine p_end ?_
          refine p_condF (h := ?_)
          refine p_exit ?_
          refine p_seq ?_
          refine p_seq (p_region fun hf => ?_)
          refine p_move (h := ?_)
          refine p_not (h := ?_)
          refine p_end ?_
          refine p_isC (s := 89) (b := false) (hc := by first | rfl | decide | (simp; done) | (simp; omega)) (h := ?_)
          refine p_condF (h := ?_)
          refine p_skip ?_
          refine p_seq (p_region fun hf => ?_)
          refine p_assign (h := ?_)
          refine p_end ?_
          refine TrC.ret ?_
          refine p_ret1 (hp := by rfl)

theorem rspc5 (n : Nat) (h : n ≤ 64) : FnC Try.prog 63 [.agg (sL 5 0 [.agg (sL 2 1048576 []), .agg (sL 3 n [])])] (fun r => r = iV 0) := rspc5p n h

theorem rone1  : FnC Try.prog 64 [spcV ⟨1, 0⟩] (fun r => r = .agg (wL 0 0 [] [] [])) := by
  refine FnC.of (fn := Try.f64) ⟨Try.func64, by kernel_rfl, rfl⟩ Try.ntmps64 (by simp) fun w0 S0 => ?_
  refine p_seq (p_region fun hf => ?_)
  refine p_box (h := ?_)
  refine p_alloc (hi := F.ti81) (h := ?_)
  refine p_end ?_
  refine p_seq (p_region fun hf => ?_)
  refine p_build (hi := F.ti81) (hpl := F.pl81) (h := ?_)
  refine p_alloc (hi := F.ti81) (h := ?_)
  refine p_storeAll F.ti81 (h := ?_)
  refine p_end ?_
  refine p_seq ?_
  refine p_seq (p_region fun hf => ?_)
  (first | refine p_fieldPtr (hf := F.fld35_0) (h := ?_) | refine p_fieldRef (hf := F.fld35_0) (h := ?_) | refine p_fieldRow (hf := F.fld35_0) (h := ?_))
  (first | refine p_load (ht := F.leaf32) (h := ?_) | refine p_loadRef (ht := F.leaf32) (h := ?_))
  refine p_end ?_
  refine TrC.block ?_
  refine p_seq (p_region fun hf => ?_)
  refine p_num (h := ?_)
  refine p_assign (h := ?_)
  refine p_end ?_
  refine p_isC (s := 8) (b := false) (hc := by first | rfl | decide | (simp; done) | (simp; omega)) (h := ?_)
  refine p_condF (h := ?_)
  refine p_seq (p_region fun hf => ?_)
  refine p_num (h := ?_)
  refine p_assign (h := ?_)
  refine p_end ?_
  refine p_isC (s := 17) (b := false) (hc := by first | rfl | decide | (simp; done) | (simp; omega)) (h := ?_)
  refine p_condF (h := ?_)
  refine p_seq (p_region fun hf => ?_)
  refine p_num (h := ?_)
  refine p_assign (h := ?_)
  refine p_end ?_
  refine p_isC (s := 33) (b := false) (hc := by first | rfl | decide | (simp; done) | (simp; omega)) (h := ?_)
  refine p_condF (h := ?_)
  refine p_skip ?_
  refine p_seq (p_region fun hf => ?_)
  (first | refine p_loadA (ht := F.agg81) (hi := F.ti81) (h := ?_) | refine p_loadRefA (ht := F.agg81) (hi := F.ti81) (h := ?_))
  refine p_storeAll F.ti81 (h := ?_)
  refine p_end ?_
  refine TrC.ret ?_
  refine p_cellNil (g1 := 0 + 1) (d1 := 2) (i := 3) (el := 74) (h := ?_)
  refine p_cellNil (g1 := 0 + 1) (d1 := 2) (i := 4) (el := 110) (h := ?_)
  refine p_cellNil (g1 := 0 + 1) (d1 := 2) (i := 5) (el := 81) (h := ?_)
  refine Tr.ret1 rfl (res_cell eV_ oB_ F.agg81 F.ti81 rfl rfl) rfl (by intro l h; cases h)

theorem rone2 (d : Int) : FnC Try.prog 64 [spcV ⟨2, d⟩] (fun r => r = .agg (wL 0 0 [] [] [])) := by
  refine FnC.of (fn := Try.f64) ⟨Try.func64, by kernel_rfl, rfl⟩ Try.ntmps64 (by simp) fun w0 S0 => ?_
  refine p_seq (p_region fun hf => ?_)
  refine p_box (h := ?_)
  refine p_alloc (hi := F.ti81) (h := ?_)
  refine p_end ?_
  refine p_seq (p_region fun hf => ?_)
  refine p_build (hi := F.ti81) (hpl := F.pl81) (h := ?_)
  refine p_alloc (hi := F.ti81) (h := ?_)
  refine p_storeAll F.ti81 (h := ?_)
  refine p_end ?_
  refine p_seq ?_
  refine p_seq (p_region fun hf => ?_)
  (first | refine p_fieldPtr (hf := F.fld35_0) (h := ?_) | refine p_fieldRef (hf := F.fld35_0) (h := ?_) | refine p_fieldRow (hf := F.fld35_0) (h := ?_))
  (first | refine p_load (ht := F.leaf32) (h := ?_) | refine p_loadRef (ht := F.leaf32) (h := ?_))
  refine p_end ?_
  refine TrC.block ?_
  refine p_seq (p_region fun hf => ?_)
  refine p_num (h := ?_)
  refine p_assign (h := ?_)
  refine p_end ?_
  refine p_isC (s := 8) (b := false) (hc := by first | rfl | decide | (simp; done) | (simp; omega)) (h := ?_)
  refine p_condF (h := ?_)
  refine p_seq (p_region fun hf => ?_)
  refine p_num (h := ?_)
  refine p_assign (h := ?_)
  refine p_end ?_
  refine p_isC (s := 17) (b := false) (hc := by first | rfl | decide | (simp; done) | (simp; omega)) (h := ?_)
  refine p_condF (h := ?_)
  refine p_seq (p_region fun hf => ?_)
  refine p_num (h := ?_)
  refine p_assign (h := ?_)
  refine p_end ?_
  refine p_isC (s := 33) (b := false) (hc := by first | rfl | decide | (simp; done) | (simp; omega)) (h := ?_)
  refine p_condF (h := ?_)
  refine p_skip ?_
  refine p_seq (p_region fun hf => ?_)
  (first | refine p_loadA (ht := F.agg81) (hi := F.ti81) (h := ?_) | refine p_loadRefA (ht := F.agg81) (hi := F.ti81) (h := ?_))
  refine p_storeAll F.ti81 (h := ?_)
  refine p_end ?_
  refine TrC.ret ?_
  refine p_cellNil (g1 := 0 + 1) (d1 := 2) (i := 3) (el := 74) (h := ?_)
  refine p_cellNil (g1 := 0 + 1) (d1 := 2) (i := 4) (el := 110) (h := ?_)
  refine p_cellNil (g1 := 0 + 1) (d1 := 2) (i := 5) (el := 81) (h := ?_)
  refine Tr.ret1 rfl (res_cell eV_ oB_ F.agg81 F.ti81 rfl rfl) rfl (by intro l h; cases h)

theorem rone3 (n : Nat) (h : n ≤ 64) : FnC Try.prog 64 [spcV ⟨3, n⟩] (fun r => r = .agg (wL 0 0 (rows1 n) [] [])) := by
  refine FnC.of (fn := Try.f64) ⟨Try.func64, by kernel_rfl, rfl⟩ Try.ntmps64 (by simp) fun w0 S0 => ?_
  refine p_seq (p_region fun hf => ?_)
  refine p_box (h := ?_)
  refine p_alloc (hi := F.ti81) (h := ?_)
  refine p_end ?_
  refine p_seq (p_region fun hf => ?_)
  refine p_build (hi := F.ti81) (hpl := F.pl81) (h := ?_)
  refine p_alloc (hi := F.ti81) (h := ?_)
  refine p_storeAll F.ti81 (h := ?_)
  refine p_end ?_
  refine p_seq ?_
  refine p_seq (p_region fun hf => ?_)
  (first | refine p_fieldPtr (hf := F.fld35_0) (h := ?_) | refine p_fieldRef (hf := F.fld35_0) (h := ?_) | refine p_fieldRow (hf := F.fld35_0) (h := ?_))
  (first | refine p_load (ht := F.leaf32) (h := ?_) | refine p_loadRef (ht := F.leaf32) (h := ?_))
  refine p_end ?_
  refine TrC.block ?_
  refine p_seq (p_region fun hf => ?_)
  refine p_num (h := ?_)
  refine p_assign (h := ?_)
  refine p_end ?_
  refine p_isC (s := 8) (b := true) (hc := by first | rfl | decide | (simp; done) | (simp; omega)) (h := ?_)
  refine p_condT (h := ?_)
  refine p_region fun hf => ?_
  (first | refine p_fieldPtr (hf := F.fld35_1) (h := ?_) | refine p_fieldRef (hf := F.fld35_1) (h := ?_) | refine p_fieldRow (hf := F.fld35_1) (h := ?_))
  (first | refine p_load (ht := F.leaf3) (h := ?_) | refine p_loadRef (ht := F.leaf3) (h := ?_))
  refine p_call (hx := rfl) (hb := ⟨Try.func79, by kernel_rfl, rfl⟩) (hf := one03R n h) (h := ?_)
  refine p_move (h := ?_)
  refine p_extract (h := ?_)
  refine p_extract (h := ?_)
  (first | refine p_fieldPtr (hf := F.fld81_2) (h := ?_) | refine p_fieldRef (hf := F.fld81_2) (h := ?_) | refine p_fieldRow (hf := F.fld81_2) (h := ?_))
  refine p_store F.ti77 (hl := .inr ⟨_, rfl⟩) (hlf := rfl) (hsz := rfl) (hp := by simp) (hcs := by simp only [splice, V.cells] <;> rfl) (h := ?_)
  refine p_end ?_
  refine p_seq (p_region fun hf => ?_)
  (first | refine p_loadA (ht := F.agg81) (hi := F.ti81) (h := ?_) | refine p_loadRefA (ht := F.agg81) (hi := F.ti81) (h := ?_))
  refine p_storeAll F.ti81 (h := ?_)
  refine p_end ?_
  refine TrC.ret ?_
  refine p_cellNil (g1 := 0 + 1) (d1 := 2) (i := 4) (el := 110) (h := ?_)
  refine p_cellNil (g1 := 0 + 1) (d1 := 2) (i := 5) (el := 81) (h := ?_)
  refine Tr.ret1 rfl (res_cell eV_ oB_ F.agg81 F.ti81 rfl rfl) rfl (by intro l h; cases h)

theorem rone4o (n : Nat) (h : n ≤ 64) : FnO Try.prog 64 [spcV ⟨4, n⟩] 110 (cells1 n) (fun g d => .agg [.bool false, iV 0, uV 0, .sl 74 [], .row g d n, .sl 81 []]) := by
  refine FnO.of (fn := Try.f64) ⟨Try.func64, by kernel_rfl, rfl⟩ Try.ntmps64 (by simp) fun w0 S0 => ?_
  refine p_seq (p_region fun hf => ?_)
  refine p_box (h := ?_)
  refine p_alloc (hi := F.ti81) (h := ?_)
  refine p_end ?_
  refine p_seq (p_region fun hf => ?_)
  refine p_build (hi := F.ti81) (hpl := F.pl81) (h := ?_)
  refine p_alloc (hi := F.ti81) (h := ?_)
  refine p_storeAll F.ti81 (h := ?_)
  refine p_end ?_
  refine p_seq ?_
  refine p_seq (p_region fun hf => ?_)
  (first | refine p_fieldPtr (hf := F.fld35_0) (h := ?_) | refine p_fieldRef (hf := F.fld35_0) (h := ?_) | refine p_fieldRow (hf := F.fld35_0) (h := ?_))
  (first | refine p_load (ht := F.leaf32) (h := ?_) | refine p_loadRef (ht := F.leaf32) (h := ?_))
  refine p_end ?_
  refine TrC.block ?_
  refine p_seq (p_region fun hf => ?_)
  refine p_num (h := ?_)
  refine p_assign (h := ?_)
  refine p_end ?_
  refine p_isC (s := 8) (b := false) (hc := by first | rfl | decide | (simp; done) | (simp; omega)) (h := ?_)
  refine p_condF (h := ?_)
  refine p_seq (p_region fun hf => ?_)
  refine p_num (h := ?_)
  refine p_assign (h := ?_)
  refine p_end ?_
  refine p_isC (s := 17) (b := true) (hc := by first | rfl | decide | (simp; done) | (simp; omega)) (h := ?_)
  refine p_condT (h := ?_)
  refine p_seq (p_region fun hf => ?_)
  refine p_assign (h := ?_)
  refine p_end ?_
  refine p_nilCell (g1 := 0 + 1 + 1) (d1 := 3) (i := 4) (el := 110) 31 (h := ?_)
  refine TrC.block ?_
  refine p_loop (fun st => ∃ i r : Nat, i ≤ n ∧ st.env 1 = .ptr (0 + 1) 1 0 ∧ st.env 2 = .ptr (0 + 1) 2 0 ∧ st.env 3 = .ptr (0 + 1 + 1) 3 0 ∧ st.env 4 = iV i ∧ st.obj (0 + 1) 1 = .cells 35 (spcV ⟨4, n⟩).cells ∧ st.obj (0 + 1) 2 = .cells 81 [.bool false, iV 0, uV 0, .nil, .nil, .nil] ∧ st.obj (0 + 1 + 1) 3 = .cells 81 [.bool false, iV 0, uV 0, .nil, .row r 31 i, .nil] ∧ st.obj r 31 = .row 110 (cells1 i)) (fun st => n - (st.env 4).toN) ?_ fun e ob g1 hI => ?_
  · exact ⟨0, _, by omega, eV_, eV_, eV_, eV_, oB_, oB_, oB_, oB_⟩
  · obtain ⟨i, r, hi, e1, e2, e3, e4, o1, o2, o3, o31⟩ := hI
    dsimp only at e1 e2 e3 e4 o1 o2 o3 o31
    have hE := (⟨e1, e2, e3, e4, o1, o2, o3, o31⟩ : _ ∧ _ ∧ _ ∧ _ ∧ _ ∧ _ ∧ _ ∧ _)
    refine p_seq ?_
    refine p_seq (p_region fun hf => ?_)
    refine p_move (h := ?_)
    (first | refine p_fieldPtr (hf := F.fld35_1) (h := ?_) | refine p_fieldRef (hf := F.fld35_1) (h := ?_) | refine p_fieldRow (hf := F.fld35_1) (h := ?_))
    (first | refine p_load (ht := F.leaf3) (h := ?_) | refine p_loadRef (ht := F.leaf3) (h := ?_))
    refine p_num (h := ?_)
    refine p_end ?_
    refine p_splitC (s := 22) (ht := fun hc22 => ?_) (hf := fun hc22 => ?_)
    · refine p_condT (h := ?_)
      have hlt : i < n := by simpa using hc22
      refine p_skip ?_
      refine p_seq ?_
      refine TrC.block ?_
      refine p_draw F.mixed fun hf => ?_
      (first | refine p_fieldPtr (hf := F.fld81_3) (h := ?_) | refine p_fieldRef (hf := F.fld81_3) (h := ?_) | refine p_fieldRow (hf := F.fld81_3) (h := ?_))
      (first | refine p_load (ht := F.leaf78) (h := ?_) | refine p_loadRef (ht := F.leaf78) (h := ?_))
      refine p_move (h := ?_)
      refine p_call (hx := rfl) (hb := ⟨Try.func81, by kernel_rfl, rfl⟩) (hf := worth01 i (by omega)) (h := ?_)
      refine p_build (hi := F.ti110) (hpl := F.pl110) (h := ?_)
      refine p_buildSlice (ht := Try.underlying78) (hi := F.ti110) (h := ?_)
      refine p_append (k := i + 1) (ht := Try.underlying78) (hi := F.ti110) (hnl := by simp [cells1]) (hy := by exact ⟨.inl oB_, rfl⟩) (hm := by simp [cells1]) (hlim := by omega) (h := ?_)
      (first | refine p_fieldPtr (hf := F.fld81_3) (h := ?_) | refine p_fieldRef (hf := F.fld81_3) (h := ?_) | refine p_fieldRow (hf := F.fld81_3) (h := ?_))
      refine p_store1 F.ti78 (h := ?_)
      refine p_endD ?_
      refine p_region fun hf => ?_
      refine p_move (h := ?_)
      refine p_add (r := ((i + 1 : Nat) : Int)) (hr := by omega) (hb := by omega) (h := ?_)
      refine p_assign (h := ?_)
      refine p_end ?_
      refine p_some ?_
      refine ⟨⟨i + 1, _, by omega, eV_, eV_, eV_, eV_, oB_, oB_, oB_, by refine Eq.trans oB_ ?_; rw [cells1, cells1, List.range_succ, List.map_append]; rfl⟩, ?_⟩
      simp (decide := true) only [upd, e4, V.toN, ↓reduceIte]; omega
    · refine p_condF (h := ?_)
      have hie : n = i := by simp at hc22; omega
      subst hie
      refine p_exit ?_
      refine p_seq (p_region fun hf => ?_)
      (first | refine p_loadA (ht := F.agg81) (hi := F.ti81) (h := ?_) | refine p_loadRefA (ht := F.agg81) (hi := F.ti81) (h := ?_))
      refine p_storeAll F.ti81 (h := ?_)
      refine p_end ?_
      refine TrC.ret ?_
      refine p_cellNil (g1 := 0 + 1) (d1 := 2) (i := 3) (el := 74) (h := ?_)
      refine p_cellNil (g1 := 0 + 1) (d1 := 2) (i := 5) (el := 81) (h := ?_)
      refine p_retO1 r 31 rfl oB_ ⟨_, _, _, _, eV_, oB_, F.agg81, _, _, _, F.ti81, rfl, rfl⟩ (Ren.agg (.cons (.out rfl) (.cons (.out rfl) (.cons (.out rfl) (.cons (.out rfl) (.cons (.row n) (.cons (.out rfl) .nil)))))))

theorem rone5 (n : Nat) (h : n ≤ 64) : FnC Try.prog 64 [.agg (sL 5 0 [.agg (sL 2 1048576 []), .agg (sL 3 n [])])] (fun r => r = .agg (wL 0 0 [] [] [.agg (wL 0 0 [] [] []), .agg (wL 0 0 (rows1 n) [] [])])) := by
  refine FnC.of (fn := Try.f64) ⟨Try.func64, by kernel_rfl, rfl⟩ Try.ntmps64 (by simp) fun w0 S0 => ?_
  refine p_seq (p_region fun hf => ?_)
  refine p_box (h := ?_)
  refine p_alloc (hi := F.ti81) (h := ?_)
  refine p_end ?_
  refine p_seq (p_region fun hf => ?_)
  refine p_build (hi := F.ti81) (hpl := F.pl81) (h := ?_)
  refine p_alloc (hi := F.ti81) (h := ?_)
  refine p_storeAll F.ti81 (h := ?_)
  refine p_end ?_
  refine p_seq ?_
  refine p_seq (p_region fun hf => ?_)
  (first | refine p_fieldPtr (hf := F.fld35_0) (h := ?_) | refine p_fieldRef (hf := F.fld35_0) (h := ?_) | refine p_fieldRow (hf := F.fld35_0) (h := ?_))
  (first | refine p_load (ht := F.leaf32) (h := ?_) | refine p_loadRef (ht := F.leaf32) (h := ?_))
  refine p_end ?_
  refine TrC.block ?_
  refine p_seq (p_region fun hf => ?_)
  refine p_num (h := ?_)
  refine p_assign (h := ?_)
  refine p_end ?_
  refine p_isC (s := 8) (b := false) (hc := by first | rfl | decide | (simp; done) | (simp; omega)) (h := ?_)
  refine p_condF (h := ?_)
  refine p_seq (p_region fun hf => ?_)
  refine p_num (h := ?_)
  refine p_assign (h := ?_)
  refine p_end ?_
  refine p_isC (s := 17) (b := false) (hc := by first | rfl | decide | (simp; done) | (simp; omega)) (h := ?_)
  refine p_condF (h := ?_)
  refine p_seq (p_region fun hf => ?_)
  refine p_num (h := ?_)
  refine p_assign (h := ?_)
  refine p_end ?_
  refine p_isC (s := 33) (b := true) (hc := by first | rfl | decide | (simp; done) | (simp; omega)) (h := ?_)
  refine p_condT (h := ?_)
  refine p_draw F.mixed fun hf => ?_
  (first | refine p_fieldPtr (hf := F.fld35_2) (h := ?_) | refine p_fieldRef (hf := F.fld35_2) (h := ?_) | refine p_fieldRow (hf := F.fld35_2) (h := ?_))
  (first | refine p_load (ht := F.leaf33) (h := ?_) | refine p_loadRef (ht := F.leaf33) (h := ?_))
  refine p_idxSl (ht := Try.underlying33) (hi := F.ti35) (h0 := by decide) (hv := by rfl) (h := ?_)
  (first | refine p_loadA (ht := F.agg35) (hi := F.ti35) (h := ?_) | refine p_loadRefA (ht := F.agg35) (hi := F.ti35) (h := ?_))
  refine p_call (hx := rfl) (hb := ⟨Try.func64, by kernel_rfl, rfl⟩) (hf := rone2 1048576) (h := ?_)
  (first | refine p_fieldPtr (hf := F.fld35_2) (h := ?_) | refine p_fieldRef (hf := F.fld35_2) (h := ?_) | refine p_fieldRow (hf := F.fld35_2) (h := ?_))
  (first | refine p_load (ht := F.leaf33) (h := ?_) | refine p_loadRef (ht := F.leaf33) (h := ?_))
  refine p_idxSl (ht := Try.underlying33) (hi := F.ti35) (h0 := by decide) (hv := by rfl) (h := ?_)
  (first | refine p_loadA (ht := F.agg35) (hi := F.ti35) (h := ?_) | refine p_loadRefA (ht := F.agg35) (hi := F.ti35) (h := ?_))
  refine p_call (hx := rfl) (hb := ⟨Try.func64, by kernel_rfl, rfl⟩) (hf := rone3 n h) (h := ?_)
  refine p_buildSlice (ht := Try.underlying79) (hi := F.ti81) (h := ?_)
  (first | refine p_fieldPtr (hf := F.fld81_4) (h := ?_) | refine p_fieldRef (hf := F.fld81_4) (h := ?_) | refine p_fieldRow (hf := F.fld81_4) (h := ?_))
  refine p_store1 F.ti79 (h := ?_)
  refine p_endD ?_
  refine p_seq (p_region fun hf => ?_)
  (first | refine p_loadA (ht := F.agg81) (hi := F.ti81) (h := ?_) | refine p_loadRefA (ht := F.agg81) (hi := F.ti81) (h := ?_))
  refine p_storeAll F.ti81 (h := ?_)
  refine p_end ?_
  refine TrC.ret ?_
  refine p_freeze (g1 := 0 + 1 + 1 + 1 + 1 + 1 + 1 + 1) (d1 := 45) (h := ?_)
  refine p_cellSl (g1 := 0 + 1) (d1 := 2) (i := 5) (hn := by rfl) (h := ?_)
  refine p_cellNil (g1 := 0 + 1) (d1 := 2) (i := 3) (el := 74) (h := ?_)
  refine p_cellNil (g1 := 0 + 1) (d1 := 2) (i := 4) (el := 110) (h := ?_)
  refine Tr.ret1 rfl (res_cell eV_ oB_ F.agg81 F.ti81 rfl rfl) rfl (by intro l h; cases h)

theorem rOne1  : FnC Try.prog 41 [spcV ⟨1, 0⟩] (fun r => r = .tup [.agg (wL 0 0 [] [] []), iV 0]) := by
  refine FnC.of (fn := Try.f41) ⟨Try.func41, by kernel_rfl, rfl⟩ Try.ntmps41 (by simp) fun w0 S0 => ?_
  refine p_seq (p_region fun hf => ?_)
  refine p_box (h := ?_)
  refine p_alloc (hi := F.ti81) (h := ?_)
  refine p_assign (h := ?_)
  refine p_end ?_
  refine p_seq ?_
  refine p_seq (p_region fun hf => ?_)
  (first | refine p_loadA (ht := F.agg35) (hi := F.ti35) (h := ?_) | refine p_loadRefA (ht := F.agg35) (hi := F.ti35) (h := ?_))
  refine p_call (hx := rfl) (hb := ⟨Try.func63, by kernel_rfl, rfl⟩) (hf := rspc1) (h := ?_)
  refine p_num (h := ?_)
  refine p_end ?_
  refine p_isC (s := 6) (b := false) (hc := by first | rfl | decide | (simp; done) | (simp; omega)) (h := ?_)
  refine p_condF (h := ?_)
  refine p_skip ?_
  refine p_seq (p_region fun hf => ?_)
  (first | refine p_loadA (ht := F.agg35) (hi := F.ti35) (h := ?_) | refine p_loadRefA (ht := F.agg35) (hi := F.ti35) (h := ?_))
  refine p_call (hx := rfl) (hb := ⟨Try.func64, by kernel_rfl, rfl⟩) (hf := rone1) (h := ?_)
  refine p_storeAll F.ti81 (h := ?_)
  refine p_assign (h := ?_)
  refine p_end ?_
  refine TrC.ret ?_
  refine p_rets2 rfl (res_cell eV_ oB_ F.agg81 F.ti81 rfl rfl) ⟨eV_, rfl⟩ rfl

theorem rOne5 (n : Nat) (h : n ≤ 64) : FnC Try.prog 41 [.agg (sL 5 0 [.agg (sL 2 1048576 []), .agg (sL 3 n [])])] (fun r => r = .tup [.agg (wL 0 0 [] [] [.agg (wL 0 0 [] [] []), .agg (wL 0 0 (rows1 n) [] [])]), iV 0]) := by
  refine FnC.of (fn := Try.f41) ⟨Try.func41, by kernel_rfl, rfl⟩ Try.ntmps41 (by simp) fun w0 S0 => ?_
  refine p_seq (p_region fun hf => ?_)
  refine p_box (h := ?_)
  refine p_alloc (hi := F.ti81) (h := ?_)
  refine p_assign (h := ?_)
  refine p_end ?_
  refine p_seq ?_
  refine p_seq (p_region fun hf => ?_)
  (first | refine p_loadA (ht := F.agg35) (hi := F.ti35) (h := ?_) | refine p_loadRefA (ht := F.agg35) (hi := F.ti35) (h := ?_))
  refine p_call (hx := rfl) (hb := ⟨Try.func63, by kernel_rfl, rfl⟩) (hf := rspc5 n h) (h := ?_)
  refine p_num (h := ?_)
  refine p_end ?_
  refine p_isC (s := 6) (b := false) (hc := by first | rfl | decide | (simp; done) | (simp; omega)) (h := ?_)
  refine p_condF (h := ?_)
  refine p_skip ?_
  refine p_seq (p_region fun hf => ?_)
  (first | refine p_loadA (ht := F.agg35) (hi := F.ti35) (h := ?_) | refine p_loadRefA (ht := F.agg35) (hi := F.ti35) (h := ?_))
  refine p_call (hx := rfl) (hb := ⟨Try.func64, by kernel_rfl, rfl⟩) (hf := rone5 n h) (h := ?_)
  refine p_storeAll F.ti81 (h := ?_)
  refine p_assign (h := ?_)
  refine p_end ?_
  refine TrC.ret ?_
  refine p_rets2 rfl (res_cell eV_ oB_ F.agg81 F.ti81 rfl rfl) ⟨eV_, rfl⟩ rfl

theorem rOne4o (n : Nat) (h : n ≤ 64) : FnO Try.prog 41 [spcV ⟨4, n⟩] 110 (cells1 n) (fun g d => .tup [.agg [.bool false, iV 0, uV 0, .sl 74 [], .row g d n, .sl 81 []], iV 0]) := by
  refine FnO.of (fn := Try.f41) ⟨Try.func41, by kernel_rfl, rfl⟩ Try.ntmps41 (by simp) fun w0 S0 => ?_
  refine p_seq (p_region fun hf => ?_)
  refine p_box (h := ?_)
  refine p_alloc (hi := F.ti81) (h := ?_)
  refine p_assign (h := ?_)
  refine p_end ?_
  refine p_seq ?_
  refine p_seq (p_region fun hf => ?_)
  (first | refine p_loadA (ht := F.agg35) (hi := F.ti35) (h := ?_) | refine p_loadRefA (ht := F.agg35) (hi := F.ti35) (h := ?_))
  refine p_call (hx := rfl) (hb := ⟨Try.func63, by kernel_rfl, rfl⟩) (hf := rspc4 n (by omega)) (h := ?_)
  refine p_num (h := ?_)
  refine p_end ?_
  refine p_isC (s := 6) (b := false) (hc := by first | rfl | decide | (simp; done) | (simp; omega)) (h := ?_)
  refine p_condF (h := ?_)
  refine p_skip ?_
  refine p_seq (p_region fun hf => ?_)
  (first | refine p_loadA (ht := F.agg35) (hi := F.ti35) (h := ?_) | refine p_loadRefA (ht := F.agg35) (hi := F.ti35) (h := ?_))
  refine p_callO 9 (hb := ⟨Try.func64, by kernel_rfl, rfl⟩) (hf := rone4o n h) (h := ?_)
  refine p_storeAll F.ti81 (h := ?_)
  refine p_assign (h := ?_)
  refine p_end ?_
  refine TrC.ret ?_
  refine p_retO2 (0 + 1 + 1 + 1) 9 (v1 := fun g d => .agg [.bool false, iV 0, uV 0, .sl 74 [], .row g d n, .sl 81 []]) (v2 := fun _ _ => iV 0) rfl oB_ ⟨_, _, _, _, eV_, oB_, F.agg81, _, _, _, F.ti81, rfl, rfl⟩ eV_ rfl (Ren.tup (.cons (Ren.agg (.cons (.out rfl) (.cons (.out rfl) (.cons (.out rfl) (.cons (.out rfl) (.cons (.row n) (.cons (.out rfl) .nil))))))) (.cons (.out rfl) .nil)))

end Go.Proofs.Ytfjciangbmjlmaa
