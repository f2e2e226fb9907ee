/-
  weight.Space and One at the spaces of the three modes, walked.
-/
import Derived.Test.YtfjciangbmjlmaaHb
set_option linter.unusedSimpArgs false
set_option linter.unusedVariables false
namespace Go.Proofs.Ytfjciangbmjlmaa
open Go.RowKit
/-- A space without parts. -/
structure Spc where
  (t d : Int)
abbrev spcV (s : Spc) : V := .agg (sL s.t s.d [])

theorem indexFunc_space (p : Spc → Bool) (l : List Spc) (hl : l.length ≤ 1000000000) (fid : FuncId) (fn : Func) (code : Code) (cap : List V) (hcap : V.outs cap = true) (hb : HasBody Try.prog fid fn code) (hp : ∀ x ∈ l, FnC Try.prog fid (spcV x :: cap) (fun r => r = .bool (p x))) :
    FnC Try.prog 97 [.sl 35 (l.map spcV), .fn fid cap] (fun r => r = iV (idx p l)) := by
  refine FnC.of (fn := Try.f97) ⟨Try.func97, by kernel_rfl, rfl⟩ Try.ntmps97 (by simp) fun w0 S0 => ?_
  refine p_seq (p_region fun hf => ?_)
  refine p_assign (h := ?_)
  refine p_end ?_
  refine p_seq ?_
  refine p_seq (p_region fun hf => ?_)
  refine p_move (h := ?_)
  refine p_len (ht := Try.underlying33) (h := ?_)
  refine p_move (h := ?_)
  refine p_end ?_
  refine TrC.block ?_
  refine p_loop (fun st => ∃ i : Nat, i ≤ l.length ∧ (∀ j (hj : j < l.length), j < i → p l[j] = false) ∧ st.env 0 = .sl 35 (l.map spcV) ∧ st.env 1 = .fn fid cap ∧ st.env 7 = iV l.length ∧ st.env 8 = iV i) (fun st => l.length - (st.env 8).toN) ?_ fun e ob g hI => ?_
  · exact ⟨0, by omega, fun j hj h => by omega, eV_, eV_, eV_, eV_⟩
  · obtain ⟨i, hi, hn, e0, e1, e7, e8⟩ := hI
    dsimp only at e0 e1 e7 e8
    have hE := (⟨e0, e1, e7, e8⟩ : _ ∧ _ ∧ _ ∧ _)
    refine p_seq (p_region fun hf => ?_)
    refine p_num (h := ?_)
    refine p_end ?_
    refine p_seq ?_
    refine p_cond (ht := fun hc => ?_) (hf := fun hc => ?_)
    · have hlt : i < l.length := by simpa using hc
      refine p_skip ?_
      refine p_seq ?_
      refine TrC.block ?_
      refine p_seq (p_region fun hf => ?_)
      refine p_move (h := ?_)
      refine p_assign (h := ?_)
      refine p_end ?_
      refine p_seq (p_region fun hf => ?_)
      refine p_move (h := ?_)
      refine p_move (h := ?_)
      refine p_move (h := ?_)
      refine p_idxMap (j := i) (ht := Try.underlying33) (hi := F.ti35) (hij := rfl) (hj := hlt) (h := ?_)
      (first | refine p_loadA (ht := F.agg35) (hi := F.ti35) (h := ?_) | refine p_loadRefA (ht := F.agg35) (hi := F.ti35) (h := ?_))
      refine p_call (vs := spcV l[i] :: cap) (hb := hb) (hro := by simp [V.outs, V.out, hcap]) (hf := hp l[i] (List.getElem_mem hlt)) (h := ?_)
      refine p_end ?_
      refine p_cond (ht := fun hc => ?_) (hf := fun hc => ?_)
      · refine p_seq (p_region fun hf => ?_)
        refine p_move (h := ?_)
        refine p_assign (h := ?_)
        refine p_end ?_
        refine TrC.ret ?_
        refine p_ret1 (hp := by rw [idx_hit hlt hc hn])
      · refine p_skip ?_
        refine p_region fun hf => ?_
        refine p_add (r := ((i + 1 : Nat) : Int)) (hr := by omega) (hb := by omega) (h := ?_)
        refine p_move (h := ?_)
        refine p_end ?_
        refine p_some ?_
        refine ⟨⟨i + 1, hlt, fun j hj h => ?_, eV_, eV_, eV_, eV_⟩, ?_⟩
        · rcases Nat.lt_succ_iff_lt_or_eq.1 h with h | h
          · exact hn j hj h
          · subst h; exact hc
        · simp (decide := true) only [upd, e8, V.toN, ↓reduceIte]; omega
    · have hge : i = l.length := by have := hc; simp at this; omega
      refine p_exit ?_
      refine p_seq (p_region fun hf => ?_)
      refine p_assign (h := ?_)
      refine p_end ?_
      refine TrC.ret ?_
      refine p_ret1 (hp := by rw [idx_miss fun j hj => hn j hj (by omega)])
theorem containsFunc_space (p : Spc → Bool) (l : List Spc) (hl : l.length ≤ 1000000000) (fid : FuncId) (fn : Func) (code : Code) (cap : List V) (hcap : V.outs cap = true) (hb : HasBody Try.prog fid fn code) (hp : ∀ x ∈ l, FnC Try.prog fid (spcV x :: cap) (fun r => r = .bool (p x))) :
    FnC Try.prog 82 [.sl 35 (l.map spcV), .fn fid cap] (fun r => r = .bool (l.any p)) := by
  refine FnC.of (fn := Try.f82) ⟨Try.func82, by kernel_rfl, rfl⟩ Try.ntmps82 (by simp) fun w0 S0 => ?_
  refine p_seq (p_region fun hf => ?_)
  refine p_assign (h := ?_)
  refine p_end ?_
  refine p_seq (p_region fun hf => ?_)
  refine p_move (h := ?_)
  refine p_move (h := ?_)
  refine p_call (vs := [.sl 35 (l.map spcV), .fn fid cap]) (hx := rfl) (hb := ⟨Try.func97, by kernel_rfl, rfl⟩) (hro := by simp [V.outs, V.out, hcap]) (hf := indexFunc_space p l hl fid fn code cap hcap hb hp) (h := ?_)
  refine p_num (h := ?_)
  refine p_assign (h := ?_)
  refine p_end ?_
  refine TrC.ret ?_
  refine p_ret1 (hp := by rw [idx_nonneg])

theorem spc1  : FnC Try.prog 61 [spcV ⟨1, 0⟩] (fun r => r = iV 0) := by
  refine FnC.of (fn := Try.f61) ⟨Try.func61, by kernel_rfl, rfl⟩ Try.ntmps61 (by simp) fun w0 S0 => ?_
  refine p_seq (p_region fun hf => ?_)
  refine p_box (h := ?_)
  refine p_assign (h := ?_)
  refine p_end ?_
  refine p_seq (p_region fun hf => ?_)
  refine p_assign (h := ?_)
  refine p_end ?_
  refine p_seq ?_
  refine p_seq (p_region fun hf => ?_)
  (first | refine p_fieldPtr (hf := F.fld35_0) (h := ?_) | refine p_fieldRef (hf := F.fld35_0) (h := ?_) | refine p_fieldRow (hf := F.fld35_0) (h := ?_))
  (first | refine p_load (ht := F.leaf32) (h := ?_) | refine p_loadRef (ht := F.leaf32) (h := ?_))
  refine p_end ?_
  refine TrC.block ?_
  refine p_seq ?_
  refine TrC.block ?_
  refine p_seq ?_
  refine TrC.block ?_
  refine TrC.block ?_
  refine p_seq ?_
  refine TrC.block ?_
  refine p_seq ?_
  refine TrC.block ?_
  refine p_seq ?_
  refine p_seq ?_
  refine p_seq (p_region fun hf => ?_)
  refine p_num (h := ?_)
  refine p_assign (h := ?_)
  refine p_end ?_
  refine p_isC (s := 6) (b := true) (hc := by first | rfl | decide | (simp; done) | (simp; omega)) (h := ?_)
  refine p_condT (h := ?_)
  refine p_exit ?_
  refine p_seq (p_region fun hf => ?_)
  (first | refine p_fieldPtr (hf := F.fld35_1) (h := ?_) | refine p_fieldRef (hf := F.fld35_1) (h := ?_) | refine p_fieldRow (hf := F.fld35_1) (h := ?_))
  (first | refine p_load (ht := F.leaf3) (h := ?_) | refine p_loadRef (ht := F.leaf3) (h := ?_))
  refine p_num (h := ?_)
  refine p_move (h := ?_)
  refine p_isW (s := 19) (b := true) (hc := by first | rfl | decide | (simp; done) | (simp; omega)) (h := ?_)
  refine p_guardYes (h := ?_)
  (first | refine p_fieldPtr (hf := F.fld35_2) (h := ?_) | refine p_fieldRef (hf := F.fld35_2) (h := ?_) | refine p_fieldRow (hf := F.fld35_2) (h := ?_))
  refine p_guardYes (h := ?_)
  (first | refine p_load (ht := F.leaf33) (h := ?_) | refine p_loadRef (ht := F.leaf33) (h := ?_))
  refine p_guardYes (h := ?_)
  refine p_len (ht := Try.underlying33) (h := ?_)
  refine p_guardYes (h := ?_)
  refine p_num (h := ?_)
  refine p_pick (h := ?_)
  refine p_assign (h := ?_)
  refine p_end ?_
  refine p_exit ?_
  refine p_seq ?_
  refine p_seq (p_region fun hf => ?_)
  refine p_move (h := ?_)
  refine p_not (h := ?_)
  refine p_end ?_
  refine p_isC (s := 69) (b := false) (hc := by first | rfl | decide | (simp; done) | (simp; omega)) (h := ?_)
  refine p_condF (h := ?_)
  refine p_skip ?_
  refine p_seq (p_region fun hf => ?_)
  refine p_assign (h := ?_)
  refine p_end ?_
  refine TrC.ret ?_
  refine p_ret1 (hp := by rfl)

theorem spc2 (d : Int) (h : 0 ≤ d ∧ d ≤ 1048576) : FnC Try.prog 61 [spcV ⟨2, d⟩] (fun r => r = iV 0) := by
  refine FnC.of (fn := Try.f61) ⟨Try.func61, by kernel_rfl, rfl⟩ Try.ntmps61 (by simp) fun w0 S0 => ?_
  refine p_seq (p_region fun hf => ?_)
  refine p_box (h := ?_)
  refine p_assign (h := ?_)
  refine p_end ?_
  refine p_seq (p_region fun hf => ?_)
  refine p_assign (h := ?_)
  refine p_end ?_
  refine p_seq ?_
  refine p_seq (p_region fun hf => ?_)
  (first | refine p_fieldPtr (hf := F.fld35_0) (h := ?_) | refine p_fieldRef (hf := F.fld35_0) (h := ?_) | refine p_fieldRow (hf := F.fld35_0) (h := ?_))
  (first | refine p_load (ht := F.leaf32) (h := ?_) | refine p_loadRef (ht := F.leaf32) (h := ?_))
  refine p_end ?_
  refine TrC.block ?_
  refine p_seq ?_
  refine TrC.block ?_
  refine p_seq ?_
  refine TrC.block ?_
  refine TrC.block ?_
  refine p_seq ?_
  refine TrC.block ?_
  refine p_seq ?_
  refine TrC.block ?_
  refine p_seq ?_
  refine p_seq ?_
  refine p_seq (p_region fun hf => ?_)
  refine p_num (h := ?_)
  refine p_assign (h := ?_)
  refine p_end ?_
  refine p_isC (s := 6) (b := false) (hc := by first | rfl | decide | (simp; done) | (simp; omega)) (h := ?_)
  refine p_condF (h := ?_)
  refine p_skip ?_
  refine p_seq ?_
  refine p_seq (p_region fun hf => ?_)
  refine p_num (h := ?_)
  refine p_assign (h := ?_)
  refine p_end ?_
  refine p_isC (s := 8) (b := true) (hc := by first | rfl | decide | (simp; done) | (simp; omega)) (h := ?_)
  refine p_condT (h := ?_)
  refine p_exit ?_
  refine p_seq (p_region fun hf => ?_)
  (first | refine p_fieldPtr (hf := F.fld35_1) (h := ?_) | refine p_fieldRef (hf := F.fld35_1) (h := ?_) | refine p_fieldRow (hf := F.fld35_1) (h := ?_))
  (first | refine p_load (ht := F.leaf3) (h := ?_) | refine p_loadRef (ht := F.leaf3) (h := ?_))
  refine p_num (h := ?_)
  refine p_move (h := ?_)
  refine p_isW (s := 28) (b := true) (hc := by first | rfl | decide | (simp; done) | (simp; omega)) (h := ?_)
  refine p_guardYes (h := ?_)
  (first | refine p_fieldPtr (hf := F.fld35_1) (h := ?_) | refine p_fieldRef (hf := F.fld35_1) (h := ?_) | refine p_fieldRow (hf := F.fld35_1) (h := ?_))
  refine p_guardYes (h := ?_)
  (first | refine p_load (ht := F.leaf3) (h := ?_) | refine p_loadRef (ht := F.leaf3) (h := ?_))
  refine p_guardYes (h := ?_)
  refine p_num (h := ?_)
  refine p_pick (h := ?_)
  refine p_move (h := ?_)
  refine p_isW (s := 33) (b := true) (hc := by first | rfl | decide | (simp; done) | (simp; omega)) (h := ?_)
  refine p_guardYes (h := ?_)
  (first | refine p_fieldPtr (hf := F.fld35_2) (h := ?_) | refine p_fieldRef (hf := F.fld35_2) (h := ?_) | refine p_fieldRow (hf := F.fld35_2) (h := ?_))
  refine p_guardYes (h := ?_)
  (first | refine p_load (ht := F.leaf33) (h := ?_) | refine p_loadRef (ht := F.leaf33) (h := ?_))
  refine p_guardYes (h := ?_)
  refine p_len (ht := Try.underlying33) (h := ?_)
  refine p_guardYes (h := ?_)
  refine p_num (h := ?_)
  refine p_pick (h := ?_)
  refine p_assign (h := ?_)
  refine p_end ?_
  refine p_exit ?_
  refine p_seq ?_
  refine p_seq (p_region fun hf => ?_)
  refine p_move (h := ?_)
  refine p_not (h := ?_)
  refine p_end ?_
  refine p_isC (s := 69) (b := false) (hc := by first | rfl | decide | (simp; done) | (simp; omega)) (h := ?_)
  refine p_condF (h := ?_)
  refine p_skip ?_
  refine p_seq (p_region fun hf => ?_)
  refine p_assign (h := ?_)
  refine p_end ?_
  refine TrC.ret ?_
  refine p_ret1 (hp := by rfl)

theorem spc3 (d : Int) (h : 0 ≤ d ∧ d ≤ 64) : FnC Try.prog 61 [spcV ⟨3, d⟩] (fun r => r = iV 0) := by
  refine FnC.of (fn := Try.f61) ⟨Try.func61, by kernel_rfl, rfl⟩ Try.ntmps61 (by simp) fun w0 S0 => ?_
  refine p_seq (p_region fun hf => ?_)
  refine p_box (h := ?_)
  refine p_assign (h := ?_)
  refine p_end ?_
  refine p_seq (p_region fun hf => ?_)
  refine p_assign (h := ?_)
  refine p_end ?_
  refine p_seq ?_
  refine p_seq (p_region fun hf => ?_)
  (first | refine p_fieldPtr (hf := F.fld35_0) (h := ?_) | refine p_fieldRef (hf := F.fld35_0) (h := ?_) | refine p_fieldRow (hf := F.fld35_0) (h := ?_))
  (first | refine p_load (ht := F.leaf32) (h := ?_) | refine p_loadRef (ht := F.leaf32) (h := ?_))
  refine p_end ?_
  refine TrC.block ?_
  refine p_seq ?_
  refine TrC.block ?_
  refine p_seq ?_
  refine TrC.block ?_
  refine TrC.block ?_
  refine p_seq ?_
  refine TrC.block ?_
  refine p_seq ?_
  refine TrC.block ?_
  refine p_seq ?_
  refine p_seq ?_
  refine p_seq (p_region fun hf => ?_)
  refine p_num (h := ?_)
  refine p_assign (h := ?_)
  refine p_end ?_
  refine p_isC (s := 6) (b := false) (hc := by first | rfl | decide | (simp; done) | (simp; omega)) (h := ?_)
  refine p_condF (h := ?_)
  refine p_skip ?_
  refine p_seq ?_
  refine p_seq (p_region fun hf => ?_)
  refine p_num (h := ?_)
  refine p_assign (h := ?_)
  refine p_end ?_
  refine p_isC (s := 8) (b := false) (hc := by first | rfl | decide | (simp; done) | (simp; omega)) (h := ?_)
  refine p_condF (h := ?_)
  refine p_skip ?_
  refine p_seq ?_
  refine p_seq (p_region fun hf => ?_)
  refine p_num (h := ?_)
  refine p_assign (h := ?_)
  refine p_end ?_
  refine p_isC (s := 10) (b := true) (hc := by first | rfl | decide | (simp; done) | (simp; omega)) (h := ?_)
  refine p_condT (h := ?_)
  refine p_exit ?_
  refine p_seq (p_region fun hf => ?_)
  (first | refine p_fieldPtr (hf := F.fld35_1) (h := ?_) | refine p_fieldRef (hf := F.fld35_1) (h := ?_) | refine p_fieldRow (hf := F.fld35_1) (h := ?_))
  (first | refine p_load (ht := F.leaf3) (h := ?_) | refine p_loadRef (ht := F.leaf3) (h := ?_))
  refine p_num (h := ?_)
  refine p_move (h := ?_)
  refine p_isW (s := 42) (b := true) (hc := by first | rfl | decide | (simp; done) | (simp; omega)) (h := ?_)
  refine p_guardYes (h := ?_)
  (first | refine p_fieldPtr (hf := F.fld35_1) (h := ?_) | refine p_fieldRef (hf := F.fld35_1) (h := ?_) | refine p_fieldRow (hf := F.fld35_1) (h := ?_))
  refine p_guardYes (h := ?_)
  (first | refine p_load (ht := F.leaf3) (h := ?_) | refine p_loadRef (ht := F.leaf3) (h := ?_))
  refine p_guardYes (h := ?_)
  refine p_num (h := ?_)
  refine p_pick (h := ?_)
  refine p_move (h := ?_)
  refine p_isW (s := 47) (b := true) (hc := by first | rfl | decide | (simp; done) | (simp; omega)) (h := ?_)
  refine p_guardYes (h := ?_)
  (first | refine p_fieldPtr (hf := F.fld35_2) (h := ?_) | refine p_fieldRef (hf := F.fld35_2) (h := ?_) | refine p_fieldRow (hf := F.fld35_2) (h := ?_))
  refine p_guardYes (h := ?_)
  (first | refine p_load (ht := F.leaf33) (h := ?_) | refine p_loadRef (ht := F.leaf33) (h := ?_))
  refine p_guardYes (h := ?_)
  refine p_len (ht := Try.underlying33) (h := ?_)
  refine p_guardYes (h := ?_)
  refine p_num (h := ?_)
  refine p_pick (h := ?_)
  refine p_assign (h := ?_)
  refine p_end ?_
  refine p_exit ?_
  refine p_seq ?_
  refine p_seq (p_region fun hf => ?_)
  refine p_move (h := ?_)
  refine p_not (h := ?_)
  refine p_end ?_
  refine p_isC (s := 69) (b := false) (hc := by first | rfl | decide | (simp; done) | (simp; omega)) (h := ?_)
  refine p_condF (h := ?_)
  refine p_skip ?_
  refine p_seq (p_region fun hf => ?_)
  refine p_assign (h := ?_)
  refine p_end ?_
  refine TrC.ret ?_
  refine p_ret1 (hp := by rfl)

theorem spc4 (d : Int) (h : 0 ≤ d ∧ d ≤ 64) : FnC Try.prog 61 [spcV ⟨4, d⟩] (fun r => r = iV 0) := by
  refine FnC.of (fn := Try.f61) ⟨Try.func61, by kernel_rfl, rfl⟩ Try.ntmps61 (by simp) fun w0 S0 => ?_
  refine p_seq (p_region fun hf => ?_)
  refine p_box (h := ?_)
  refine p_assign (h := ?_)
  refine p_end ?_
  refine p_seq (p_region fun hf => ?_)
  refine p_assign (h := ?_)
  refine p_end ?_
  refine p_seq ?_
  refine p_seq (p_region fun hf => ?_)
  (first | refine p_fieldPtr (hf := F.fld35_0) (h := ?_) | refine p_fieldRef (hf := F.fld35_0) (h := ?_) | refine p_fieldRow (hf := F.fld35_0) (h := ?_))
  (first | refine p_load (ht := F.leaf32) (h := ?_) | refine p_loadRef (ht := F.leaf32) (h := ?_))
  refine p_end ?_
  refine TrC.block ?_
  refine p_seq ?_
  refine TrC.block ?_
  refine p_seq ?_
  refine TrC.block ?_
  refine TrC.block ?_
  refine p_seq ?_
  refine TrC.block ?_
  refine p_seq ?_
  refine TrC.block ?_
  refine p_seq ?_
  refine p_seq ?_
  refine p_seq (p_region fun hf => ?_)
  refine p_num (h := ?_)
  refine p_assign (h := ?_)
  refine p_end ?_
  refine p_isC (s := 6) (b := false) (hc := by first | rfl | decide | (simp; done) | (simp; omega)) (h := ?_)
  refine p_condF (h := ?_)
  refine p_skip ?_
  refine p_seq ?_
  refine p_seq (p_region fun hf => ?_)
  refine p_num (h := ?_)
  refine p_assign (h := ?_)
  refine p_end ?_
  refine p_isC (s := 8) (b := false) (hc := by first | rfl | decide | (simp; done) | (simp; omega)) (h := ?_)
  refine p_condF (h := ?_)
  refine p_skip ?_
  refine p_seq ?_
  refine p_seq (p_region fun hf => ?_)
  refine p_num (h := ?_)
  refine p_assign (h := ?_)
  refine p_end ?_
  refine p_isC (s := 10) (b := false) (hc := by first | rfl | decide | (simp; done) | (simp; omega)) (h := ?_)
  refine p_condF (h := ?_)
  refine p_skip ?_
  refine p_seq ?_
  refine p_seq (p_region fun hf => ?_)
  refine p_num (h := ?_)
  refine p_assign (h := ?_)
  refine p_end ?_
  refine p_isC (s := 12) (b := true) (hc := by first | rfl | decide | (simp; done) | (simp; omega)) (h := ?_)
  refine p_condT (h := ?_)
  refine p_exit ?_
  refine p_seq (p_region fun hf => ?_)
  (first | refine p_fieldPtr (hf := F.fld35_1) (h := ?_) | refine p_fieldRef (hf := F.fld35_1) (h := ?_) | refine p_fieldRow (hf := F.fld35_1) (h := ?_))
  (first | refine p_load (ht := F.leaf3) (h := ?_) | refine p_loadRef (ht := F.leaf3) (h := ?_))
  refine p_num (h := ?_)
  refine p_move (h := ?_)
  refine p_isW (s := 42) (b := true) (hc := by first | rfl | decide | (simp; done) | (simp; omega)) (h := ?_)
  refine p_guardYes (h := ?_)
  (first | refine p_fieldPtr (hf := F.fld35_1) (h := ?_) | refine p_fieldRef (hf := F.fld35_1) (h := ?_) | refine p_fieldRow (hf := F.fld35_1) (h := ?_))
  refine p_guardYes (h := ?_)
  (first | refine p_load (ht := F.leaf3) (h := ?_) | refine p_loadRef (ht := F.leaf3) (h := ?_))
  refine p_guardYes (h := ?_)
  refine p_num (h := ?_)
  refine p_pick (h := ?_)
  refine p_move (h := ?_)
  refine p_isW (s := 47) (b := true) (hc := by first | rfl | decide | (simp; done) | (simp; omega)) (h := ?_)
  refine p_guardYes (h := ?_)
  (first | refine p_fieldPtr (hf := F.fld35_2) (h := ?_) | refine p_fieldRef (hf := F.fld35_2) (h := ?_) | refine p_fieldRow (hf := F.fld35_2) (h := ?_))
  refine p_guardYes (h := ?_)
  (first | refine p_load (ht := F.leaf33) (h := ?_) | refine p_loadRef (ht := F.leaf33) (h := ?_))
  refine p_guardYes (h := ?_)
  refine p_len (ht := Try.underlying33) (h := ?_)
  refine p_guardYes (h := ?_)
  refine p_num (h := ?_)
  refine p_pick (h := ?_)
  refine p_assign (h := ?_)
  refine p_end ?_
  refine p_exit ?_
  refine p_seq ?_
  refine p_seq (p_region fun hf => ?_)
  refine p_move (h := ?_)
  refine p_not (h := ?_)
  refine p_end ?_
  refine p_isC (s := 69) (b := false) (hc := by first | rfl | decide | (simp; done) | (simp; omega)) (h := ?_)
  refine p_condF (h := ?_)
  refine p_skip ?_
  refine p_seq (p_region fun hf => ?_)
  refine p_assign (h := ?_)
  refine p_end ?_
  refine TrC.ret ?_
  refine p_ret1 (hp := by rfl)

theorem spcBad (s : Spc) (h5 : s.t ≠ 5) (h : FnC Try.prog 61 [spcV s] (fun r => r = iV 0)) : FnC Try.prog 83 [spcV s] (fun r => r = .bool false) := by
  refine FnC.of (fn := Try.f83) ⟨Try.func83, by kernel_rfl, rfl⟩ Try.ntmps83 (by simp) fun w0 S0 => ?_
  refine p_seq (p_region fun hf => ?_)
  refine p_box (h := ?_)
  refine p_assign (h := ?_)
  refine p_end ?_
  refine p_seq (p_region fun hf => ?_)
  (first | refine p_fieldPtr (hf := F.fld35_0) (h := ?_) | refine p_fieldRef (hf := F.fld35_0) (h := ?_) | refine p_fieldRow (hf := F.fld35_0) (h := ?_))
  (first | refine p_load (ht := F.leaf32) (h := ?_) | refine p_loadRef (ht := F.leaf32) (h := ?_))
  refine p_num (h := ?_)
  refine p_move (h := ?_)
  refine p_isW (s := 6) (b := false) (hc := by simp [h5]) (h := ?_)
  refine p_guardYes (h := ?_)
  (first | refine p_loadA (ht := F.agg35) (hi := F.ti35) (h := ?_) | refine p_loadRefA (ht := F.agg35) (hi := F.ti35) (h := ?_))
  refine p_guardYes (h := ?_)
  refine p_call (hx := rfl) (hb := ⟨Try.func61, by kernel_rfl, rfl⟩) (hf := h) (h := ?_)
  refine p_guardYes (h := ?_)
  refine p_num (h := ?_)
  refine p_pick (h := ?_)
  refine p_assign (h := ?_)
  refine p_end ?_
  refine TrC.ret ?_
  refine p_ret1 (hp := by rfl)

theorem spcsOk (n : Nat) (h : n ≤ 64) : FnC Try.prog 82 [.sl 35 [.agg (sL 2 1048576 []), .agg (sL 3 n [])], .fn 83 []] (fun r => r = .bool false) :=
  containsFunc_space (fun _ => false) [⟨2, 1048576⟩, ⟨3, n⟩] (by simp) _ _ _ [] rfl ⟨Try.func83, by kernel_rfl, rfl⟩ (fun x hx => by
    simp only [List.mem_cons, List.not_mem_nil, or_false] at hx
    rcases hx with rfl | rfl
    · exact spcBad ⟨2, 1048576⟩ (by simp) (spc2 _ (by omega))
    · exact spcBad ⟨3, n⟩ (by simp) (spc3 n (by omega)))

theorem spc5 (n : Nat) (h : n ≤ 64) : FnC Try.prog 61 [.agg (sL 5 0 [.agg (sL 2 1048576 []), .agg (sL 3 n [])])] (fun r => r = iV 0) := by
  refine FnC.of (fn := Try.f61) ⟨Try.func61, by kernel_rfl, rfl⟩ Try.ntmps61 (by simp) fun w0 S0 => ?_
  refine p_seq (p_region fun hf => ?_)
  refine p_box (h := ?_)
  refine p_assign (h := ?_)
  refine p_end ?_
  refine p_seq (p_region fun hf => ?_)
  refine p_assign (h := ?_)
  refine p_end ?_
  refine p_seq ?_
  refine p_seq (p_region fun hf => ?_)
  (first | refine p_fieldPtr (hf := F.fld35_0) (h := ?_) | refine p_fieldRef (hf := F.fld35_0) (h := ?_) | refine p_fieldRow (hf := F.fld35_0) (h := ?_))
  (first | refine p_load (ht := F.leaf32) (h := ?_) | refine p_loadRef (ht := F.leaf32) (h := ?_))
  refine p_end ?_
  refine TrC.block ?_
  refine p_seq ?_
  refine TrC.block ?_
  refine p_seq ?_
  refine TrC.block ?_
  refine TrC.block ?_
  refine p_seq ?_
  refine TrC.block ?_
  refine p_seq ?_
  refine TrC.block ?_
  refine p_seq ?_
  refine p_seq ?_
  refine p_seq (p_region fun hf => ?_)
  refine p_num (h := ?_)
  refine p_assign (h := ?_)
  refine p_end ?_
  refine p_isC (s := 6) (b := false) (hc := by first | rfl | decide | (simp; done) | (simp; omega)) (h := ?_)
  refine p_condF (h := ?_)
  refine p_skip ?_
  refine p_seq ?_
  refine p_seq (p_region fun hf => ?_)
  refine p_num (h := ?_)
  refine p_assign (h := ?_)
  refine p_end ?_
  refine p_isC (s := 8) (b := false) (hc := by first | rfl | decide | (simp; done) | (simp; omega)) (h := ?_)
  refine p_condF (h := ?_)
  refine p_skip ?_
  refine p_seq ?_
  refine p_seq (p_region fun hf => ?_)
  refine p_num (h := ?_)
  refine p_assign (h := ?_)
  refine p_end ?_
  refine p_isC (s := 10) (b := false) (hc := by first | rfl | decide | (simp; done) | (simp; omega)) (h := ?_)
  refine p_condF (h := ?_)
  refine p_skip ?_
  refine p_seq ?_
  refine p_seq (p_region fun hf => ?_)
  refine p_num (h := ?_)
  refine p_assign (h := ?_)
  refine p_end ?_
  refine p_isC (s := 12) (b := false) (hc := by first | rfl | decide | (simp; done) | (simp; omega)) (h := ?_)
  refine p_condF (h := ?_)
  refine p_skip ?_
  refine p_seq (p_region fun hf => ?_)
  refine p_num (h := ?_)
  refine p_assign (h := ?_)
  refine p_end ?_
  refine p_isC (s := 14) (b := true) (hc := by first | rfl | decide | (simp; done) | (simp; omega)) (h := ?_)
  refine p_condT (h := ?_)
  refine p_exit ?_
  refine p_seq (p_region fun hf => ?_)
  (first | refine p_fieldPtr (hf := F.fld35_1) (h := ?_) | refine p_fieldRef (hf := F.fld35_1) (h := ?_) | refine p_fieldRow (hf := F.fld35_1) (h := ?_))
  (first | refine p_load (ht := F.leaf3) (h := ?_) | refine p_loadRef (ht := F.leaf3) (h := ?_))
  refine p_num (h := ?_)
  refine p_move (h := ?_)
  refine p_isW (s := 56) (b := true) (hc := by first | rfl | decide | (simp; done) | (simp; omega)) (h := ?_)
  refine p_guardYes (h := ?_)
  (first | refine p_fieldPtr (hf := F.fld35_2) (h := ?_) | refine p_fieldRef (hf := F.fld35_2) (h := ?_) | refine p_fieldRow (hf := F.fld35_2) (h := ?_))
  refine p_guardYes (h := ?_)
  (first | refine p_load (ht := F.leaf33) (h := ?_) | refine p_loadRef (ht := F.leaf33) (h := ?_))
  refine p_guardYes (h := ?_)
  refine p_len (ht := Try.underlying33) (h := ?_)
  refine p_guardYes (h := ?_)
  refine p_num (h := ?_)
  refine p_pick (h := ?_)
  refine p_move (h := ?_)
  refine p_isW (s := 62) (b := true) (hc := by first | rfl | decide | (simp; done) | (simp; omega)) (h := ?_)
  refine p_guardYes (h := ?_)
  (first | refine p_fieldPtr (hf := F.fld35_2) (h := ?_) | refine p_fieldRef (hf := F.fld35_2) (h := ?_) | refine p_fieldRow (hf := F.fld35_2) (h := ?_))
  refine p_guardYes (h := ?_)
  (first | refine p_load (ht := F.leaf33) (h := ?_) | refine p_loadRef (ht := F.leaf33) (h := ?_))
  refine p_guardYes (h := ?_)
  refine p_call (hx := rfl) (hb := ⟨Try.func82, by kernel_rfl, rfl⟩) (hf := spcsOk n h) (h := ?_)
  refine p_guardYes (h := ?_)
  refine p_not (h := ?_)
  refine p_pick (h := ?_)
  refine p_assign (h := ?_)
  refine p_end ?_
  refine p_exit ?_
  refine p_seq ?_
  refine p_seq (p_region fun hf => ?_)
  refine p_move (h := ?_)
  refine p_not (h := ?_)
  refine p_end ?_
  refine p_isC (s := 69) (b := false) (hc := by first | rfl | decide | (simp; done) | (simp; omega)) (h := ?_)
  refine p_condF (h := ?_)
  refine p_skip ?_
  refine p_seq (p_region fun hf => ?_)
  refine p_assign (h := ?_)
  refine p_end ?_
  refine TrC.ret ?_
  refine p_ret1 (hp := by rfl)

theorem wone1  : FnC Try.prog 62 [spcV ⟨1, 0⟩] (fun r => r = .agg (wL 0 0 [] [] [])) := by
  refine FnC.of (fn := Try.f62) ⟨Try.func62, by kernel_rfl, rfl⟩ Try.ntmps62 (by simp) fun w0 S0 => ?_
  refine p_seq (p_region fun hf => ?_)
  refine p_box (h := ?_)
  refine p_alloc (hi := F.ti81) (h := ?_)
  refine p_end ?_
  refine p_seq (p_region fun hf => ?_)
  refine p_alloc (hi := F.ti81) (h := ?_)
  refine p_end ?_
  refine p_seq ?_
  refine p_seq (p_region fun hf => ?_)
  (first | refine p_fieldPtr (hf := F.fld35_0) (h := ?_) | refine p_fieldRef (hf := F.fld35_0) (h := ?_) | refine p_fieldRow (hf := F.fld35_0) (h := ?_))
  (first | refine p_load (ht := F.leaf32) (h := ?_) | refine p_loadRef (ht := F.leaf32) (h := ?_))
  refine p_end ?_
  refine TrC.block ?_
  refine p_seq (p_region fun hf => ?_)
  refine p_num (h := ?_)
  refine p_assign (h := ?_)
  refine p_end ?_
  refine p_isC (s := 6) (b := false) (hc := by first | rfl | decide | (simp; done) | (simp; omega)) (h := ?_)
  refine p_condF (h := ?_)
  refine p_seq (p_region fun hf => ?_)
  refine p_num (h := ?_)
  refine p_assign (h := ?_)
  refine p_end ?_
  refine p_isC (s := 15) (b := false) (hc := by first | rfl | decide | (simp; done) | (simp; omega)) (h := ?_)
  refine p_condF (h := ?_)
  refine p_seq (p_region fun hf => ?_)
  refine p_num (h := ?_)
  refine p_assign (h := ?_)
  refine p_end ?_
  refine p_isC (s := 24) (b := false) (hc := by first | rfl | decide | (simp; done) | (simp; omega)) (h := ?_)
  refine p_condF (h := ?_)
  refine p_skip ?_
  refine p_seq (p_region fun hf => ?_)
  (first | refine p_loadA (ht := F.agg81) (hi := F.ti81) (h := ?_) | refine p_loadRefA (ht := F.agg81) (hi := F.ti81) (h := ?_))
  refine p_storeAll F.ti81 (h := ?_)
  refine p_end ?_
  refine TrC.ret ?_
  refine p_cellNil (g1 := 0 + 1) (d1 := 2) (i := 3) (el := 74) (h := ?_)
  refine p_cellNil (g1 := 0 + 1) (d1 := 2) (i := 4) (el := 110) (h := ?_)
  refine p_cellNil (g1 := 0 + 1) (d1 := 2) (i := 5) (el := 81) (h := ?_)
  refine Tr.ret1 rfl (res_cell eV_ oB_ F.agg81 F.ti81 rfl rfl) rfl (by intro l h; cases h)

theorem wone2 (d : Int) : FnC Try.prog 62 [spcV ⟨2, d⟩] (fun r => r = .agg (wL 0 0 [] [] [])) := by
  refine FnC.of (fn := Try.f62) ⟨Try.func62, by kernel_rfl, rfl⟩ Try.ntmps62 (by simp) fun w0 S0 => ?_
  refine p_seq (p_region fun hf => ?_)
  refine p_box (h := ?_)
  refine p_alloc (hi := F.ti81) (h := ?_)
  refine p_end ?_
  refine p_seq (p_region fun hf => ?_)
  refine p_alloc (hi := F.ti81) (h := ?_)
  refine p_end ?_
  refine p_seq ?_
  refine p_seq (p_region fun hf => ?_)
  (first | refine p_fieldPtr (hf := F.fld35_0) (h := ?_) | refine p_fieldRef (hf := F.fld35_0) (h := ?_) | refine p_fieldRow (hf := F.fld35_0) (h := ?_))
  (first | refine p_load (ht := F.leaf32) (h := ?_) | refine p_loadRef (ht := F.leaf32) (h := ?_))
  refine p_end ?_
  refine TrC.block ?_
  refine p_seq (p_region fun hf => ?_)
  refine p_num (h := ?_)
  refine p_assign (h := ?_)
  refine p_end ?_
  refine p_isC (s := 6) (b := false) (hc := by first | rfl | decide | (simp; done) | (simp; omega)) (h := ?_)
  refine p_condF (h := ?_)
  refine p_seq (p_region fun hf => ?_)
  refine p_num (h := ?_)
  refine p_assign (h := ?_)
  refine p_end ?_
  refine p_isC (s := 15) (b := false) (hc := by first | rfl | decide | (simp; done) | (simp; omega)) (h := ?_)
  refine p_condF (h := ?_)
  refine p_seq (p_region fun hf => ?_)
  refine p_num (h := ?_)
  refine p_assign (h := ?_)
  refine p_end ?_
  refine p_isC (s := 24) (b := false) (hc := by first | rfl | decide | (simp; done) | (simp; omega)) (h := ?_)
  refine p_condF (h := ?_)
  refine p_skip ?_
  refine p_seq (p_region fun hf => ?_)
  (first | refine p_loadA (ht := F.agg81) (hi := F.ti81) (h := ?_) | refine p_loadRefA (ht := F.agg81) (hi := F.ti81) (h := ?_))
  refine p_storeAll F.ti81 (h := ?_)
  refine p_end ?_
  refine TrC.ret ?_
  refine p_cellNil (g1 := 0 + 1) (d1 := 2) (i := 3) (el := 74) (h := ?_)
  refine p_cellNil (g1 := 0 + 1) (d1 := 2) (i := 4) (el := 110) (h := ?_)
  refine p_cellNil (g1 := 0 + 1) (d1 := 2) (i := 5) (el := 81) (h := ?_)
  refine Tr.ret1 rfl (res_cell eV_ oB_ F.agg81 F.ti81 rfl rfl) rfl (by intro l h; cases h)

theorem wone3 (n : Nat) (h : n ≤ 64) : FnC Try.prog 62 [spcV ⟨3, n⟩] (fun r => r = .agg (wL 0 0 (rows1 n) [] [])) := by
  refine FnC.of (fn := Try.f62) ⟨Try.func62, by kernel_rfl, rfl⟩ Try.ntmps62 (by simp) fun w0 S0 => ?_
  refine p_seq (p_region fun hf => ?_)
  refine p_box (h := ?_)
  refine p_alloc (hi := F.ti81) (h := ?_)
  refine p_end ?_
  refine p_seq (p_region fun hf => ?_)
  refine p_alloc (hi := F.ti81) (h := ?_)
  refine p_end ?_
  refine p_seq ?_
  refine p_seq (p_region fun hf => ?_)
  (first | refine p_fieldPtr (hf := F.fld35_0) (h := ?_) | refine p_fieldRef (hf := F.fld35_0) (h := ?_) | refine p_fieldRow (hf := F.fld35_0) (h := ?_))
  (first | refine p_load (ht := F.leaf32) (h := ?_) | refine p_loadRef (ht := F.leaf32) (h := ?_))
  refine p_end ?_
  refine TrC.block ?_
  refine p_seq (p_region fun hf => ?_)
  refine p_num (h := ?_)
  refine p_assign (h := ?_)
  refine p_end ?_
  refine p_isC (s := 6) (b := true) (hc := by first | rfl | decide | (simp; done) | (simp; omega)) (h := ?_)
  refine p_condT (h := ?_)
  refine p_region fun hf => ?_
  (first | refine p_fieldPtr (hf := F.fld35_1) (h := ?_) | refine p_fieldRef (hf := F.fld35_1) (h := ?_) | refine p_fieldRow (hf := F.fld35_1) (h := ?_))
  (first | refine p_load (ht := F.leaf3) (h := ?_) | refine p_loadRef (ht := F.leaf3) (h := ?_))
  refine p_call (hx := rfl) (hb := ⟨Try.func66, by kernel_rfl, rfl⟩) (hf := one03 n h) (h := ?_)
  refine p_move (h := ?_)
  refine p_extract (h := ?_)
  refine p_extract (h := ?_)
  (first | refine p_fieldPtr (hf := F.fld81_2) (h := ?_) | refine p_fieldRef (hf := F.fld81_2) (h := ?_) | refine p_fieldRow (hf := F.fld81_2) (h := ?_))
  refine p_store F.ti77 (hl := .inr ⟨_, rfl⟩) (hlf := rfl) (hsz := rfl) (hp := by simp) (hcs := by simp only [splice, V.cells] <;> rfl) (h := ?_)
  refine p_end ?_
  refine p_seq (p_region fun hf => ?_)
  (first | refine p_loadA (ht := F.agg81) (hi := F.ti81) (h := ?_) | refine p_loadRefA (ht := F.agg81) (hi := F.ti81) (h := ?_))
  refine p_storeAll F.ti81 (h := ?_)
  refine p_end ?_
  refine TrC.ret ?_
  refine p_cellNil (g1 := 0 + 1) (d1 := 2) (i := 4) (el := 110) (h := ?_)
  refine p_cellNil (g1 := 0 + 1) (d1 := 2) (i := 5) (el := 81) (h := ?_)
  refine Tr.ret1 rfl (res_cell eV_ oB_ F.agg81 F.ti81 rfl rfl) rfl (by intro l h; cases h)

theorem wone4o (n : Nat) (h : n ≤ 64) : FnO Try.prog 62 [spcV ⟨4, n⟩] 110 (cells1 n) (fun g d => .agg [.bool false, iV 0, uV 0, .sl 74 [], .row g d n, .sl 81 []]) := by
  refine FnO.of (fn := Try.f62) ⟨Try.func62, by kernel_rfl, rfl⟩ Try.ntmps62 (by simp) fun w0 S0 => ?_
  refine p_seq (p_region fun hf => ?_)
  refine p_box (h := ?_)
  refine p_alloc (hi := F.ti81) (h := ?_)
  refine p_end ?_
  refine p_seq (p_region fun hf => ?_)
  refine p_alloc (hi := F.ti81) (h := ?_)
  refine p_end ?_
  refine p_seq ?_
  refine p_seq (p_region fun hf => ?_)
  (first | refine p_fieldPtr (hf := F.fld35_0) (h := ?_) | refine p_fieldRef (hf := F.fld35_0) (h := ?_) | refine p_fieldRow (hf := F.fld35_0) (h := ?_))
  (first | refine p_load (ht := F.leaf32) (h := ?_) | refine p_loadRef (ht := F.leaf32) (h := ?_))
  refine p_end ?_
  refine TrC.block ?_
  refine p_seq (p_region fun hf => ?_)
  refine p_num (h := ?_)
  refine p_assign (h := ?_)
  refine p_end ?_
  refine p_isC (s := 6) (b := false) (hc := by first | rfl | decide | (simp; done) | (simp; omega)) (h := ?_)
  refine p_condF (h := ?_)
  refine p_seq (p_region fun hf => ?_)
  refine p_num (h := ?_)
  refine p_assign (h := ?_)
  refine p_end ?_
  refine p_isC (s := 15) (b := true) (hc := by first | rfl | decide | (simp; done) | (simp; omega)) (h := ?_)
  refine p_condT (h := ?_)
  refine p_region fun hf => ?_
  (first | refine p_fieldPtr (hf := F.fld35_1) (h := ?_) | refine p_fieldRef (hf := F.fld35_1) (h := ?_) | refine p_fieldRow (hf := F.fld35_1) (h := ?_))
  (first | refine p_load (ht := F.leaf3) (h := ?_) | refine p_loadRef (ht := F.leaf3) (h := ?_))
  refine p_callO 20 (hb := ⟨Try.func70, by kernel_rfl, rfl⟩) (hf := one04o n h) (h := ?_)
  refine p_move (h := ?_)
  refine p_extract (h := ?_)
  refine p_extract (h := ?_)
  (first | refine p_fieldPtr (hf := F.fld81_3) (h := ?_) | refine p_fieldRef (hf := F.fld81_3) (h := ?_) | refine p_fieldRow (hf := F.fld81_3) (h := ?_))
  refine p_store1 F.ti78 (h := ?_)
  refine p_end ?_
  refine p_seq (p_region fun hf => ?_)
  (first | refine p_loadA (ht := F.agg81) (hi := F.ti81) (h := ?_) | refine p_loadRefA (ht := F.agg81) (hi := F.ti81) (h := ?_))
  refine p_storeAll F.ti81 (h := ?_)
  refine p_end ?_
  refine TrC.ret ?_
  refine p_cellNil (g1 := 0 + 1) (d1 := 2) (i := 3) (el := 74) (h := ?_)
  refine p_cellNil (g1 := 0 + 1) (d1 := 2) (i := 5) (el := 81) (h := ?_)
  refine p_retO1 (0 + 1 + 1 + 1 + 1 + 1 + 1) 20 rfl oB_ ⟨_, _, _, _, eV_, oB_, F.agg81, _, _, _, F.ti81, rfl, rfl⟩ (Ren.agg (.cons (.out rfl) (.cons (.out rfl) (.cons (.out rfl) (.cons (.out rfl) (.cons (.row n) (.cons (.out rfl) .nil)))))))

end Go.Proofs.Ytfjciangbmjlmaa
