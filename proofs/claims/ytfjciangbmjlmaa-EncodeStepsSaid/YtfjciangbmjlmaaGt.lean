/-
  The references 05, 11 and 12 on pushdown systems of mere reachability: what may be, whether a rule applies and what comes of it; walked.
-/
import Derived.Test.YtfjciangbmjlmaaGs
set_option linter.unusedSimpArgs false
set_option linter.unusedVariables false
namespace Go.Proofs.Ytfjciangbmjlmaa
open Go.RowKit
structure Rule where
  g : Int
  w : List Int
abbrev boolSp : V := .agg [iV 1, iV 0, .nil]
abbrev zeroWt : V := .agg [.bool false, iV 0, .int .u64 0, .nil, .nil, .nil]
abbrev ruleW (r : Rule) : V := ruleV r.g (.sl 3 (r.w.map iV))
abbrev pdsW (n : Int) (rs : List Rule) : V := .agg [iV 1, iV 0, .nil, iV 1, iV n, .sl 92 (rs.map ruleW)]
def ruleOk (n : Int) (r : Rule) : Prop := inB r.g n = true ∧ r.w.length ≤ 4096 ∧ ∀ x ∈ r.w, inB x n = true
def confOk (n : Int) (c : Conf) : Prop := c.p = 0 ∧ c.w.length ≤ 4096 ∧ ∀ x ∈ c.w, inB x n = true

theorem space05  : FnC Try.prog 63 [boolSp] (fun r => r = iV 0) := by
  refine FnC.of (fn := Try.f63) ⟨Try.func63, by kernel_rfl, rfl⟩ Try.ntmps63 (by simp) fun w0 S0 => ?_
  refine p_seq (p_region fun hf => ?_)
  refine p_box (h := ?_)
  refine p_assign (h := ?_)
  refine p_end ?_
  refine p_seq (p_region fun hf => ?_)
  refine p_assign (h := ?_)
  refine p_end ?_
  refine p_seq ?_
  refine p_seq (p_region fun hf => ?_)
  (first | refine p_fieldPtr (hf := F.fld35_0) (h := ?_) | refine p_fieldRef (hf := F.fld35_0) (h := ?_) | refine p_fieldRow (hf := F.fld35_0) (h := ?_))
  (first | refine p_load (ht := F.leaf32) (h := ?_) | refine p_loadRef (ht := F.leaf32) (h := ?_))
  refine p_end ?_
  refine TrC.block ?_
  refine p_seq (p_region fun hf => ?_)
  refine p_num (h := ?_)
  refine p_assign (h := ?_)
  refine p_end ?_
  refine p_isC (s := 7) (b := true) (hc := by first | rfl | decide | simp) (h := ?_)
  refine p_condT (h := ?_)
  refine p_region fun hf => ?_
  (first | refine p_fieldPtr (hf := F.fld35_1) (h := ?_) | refine p_fieldRef (hf := F.fld35_1) (h := ?_) | refine p_fieldRow (hf := F.fld35_1) (h := ?_))
  (first | refine p_load (ht := F.leaf3) (h := ?_) | refine p_loadRef (ht := F.leaf3) (h := ?_))
  refine p_num (h := ?_)
  refine p_move (h := ?_)
  refine p_isW (s := 12) (b := true) (hc := by first | rfl | decide | simp) (h := ?_)
  refine p_guardYes (h := ?_)
  (first | refine p_fieldPtr (hf := F.fld35_2) (h := ?_) | refine p_fieldRef (hf := F.fld35_2) (h := ?_) | refine p_fieldRow (hf := F.fld35_2) (h := ?_))
  refine p_guardYes (h := ?_)
  (first | refine p_load (ht := F.leaf33) (h := ?_) | refine p_loadRef (ht := F.leaf33) (h := ?_))
  refine p_guardYes (h := ?_)
  refine p_len (ht := Try.underlying33) (h := ?_)
  refine p_guardYes (h := ?_)
  refine p_num (h := ?_)
  refine p_pick (h := ?_)
  refine p_assign (h := ?_)
  refine p_end ?_
  refine p_seq ?_
  refine p_seq (p_region fun hf => ?_)
  refine p_move (h := ?_)
  refine p_not (h := ?_)
  refine p_end ?_
  refine p_isC (s := 89) (b := false) (hc := by first | rfl | decide | simp) (h := ?_)
  refine p_condF (h := ?_)
  refine p_skip ?_
  refine p_seq (p_region fun hf => ?_)
  refine p_assign (h := ?_)
  refine p_end ?_
  refine TrC.ret ?_
  refine p_ret1 (hp := by rfl)

theorem plain05  : FnC Try.prog 98 [zeroWt, .bool false, .bool false, .bool false, .bool false] (fun r => r = .bool true) := by
  refine FnC.of (fn := Try.f98) ⟨Try.func98, by kernel_rfl, rfl⟩ Try.ntmps98 (by simp) fun w0 S0 => ?_
  refine p_seq (p_region fun hf => ?_)
  refine p_box (h := ?_)
  refine p_assign (h := ?_)
  refine p_end ?_
  refine p_seq (p_region fun hf => ?_)
  refine p_move (h := ?_)
  refine p_move (h := ?_)
  refine p_isW (s := 12) (b := false) (hc := by first | rfl | decide | simp) (h := ?_)
  refine p_guardYes (h := ?_)
  (first | refine p_fieldPtr (hf := F.fld81_1) (h := ?_) | refine p_fieldRef (hf := F.fld81_1) (h := ?_) | refine p_fieldRow (hf := F.fld81_1) (h := ?_))
  refine p_guardYes (h := ?_)
  (first | refine p_load (ht := F.leaf3) (h := ?_) | refine p_loadRef (ht := F.leaf3) (h := ?_))
  refine p_guardYes (h := ?_)
  refine p_num (h := ?_)
  refine p_pick (h := ?_)
  refine p_move (h := ?_)
  refine p_isW (s := 17) (b := true) (hc := by first | rfl | decide | simp) (h := ?_)
  refine p_guardYes (h := ?_)
  refine p_move (h := ?_)
  refine p_guardYes (h := ?_)
  refine p_move (h := ?_)
  refine p_isW (s := 19) (b := false) (hc := by first | rfl | decide | simp) (h := ?_)
  refine p_guardYes (h := ?_)
  (first | refine p_fieldPtr (hf := F.fld81_2) (h := ?_) | refine p_fieldRef (hf := F.fld81_2) (h := ?_) | refine p_fieldRow (hf := F.fld81_2) (h := ?_))
  refine p_guardYes (h := ?_)
  (first | refine p_fieldPtr (hf := F.fld77_0) (h := ?_) | refine p_fieldRef (hf := F.fld77_0) (h := ?_) | refine p_fieldRow (hf := F.fld77_0) (h := ?_))
  refine p_guardYes (h := ?_)
  (first | refine p_load (ht := F.leaf74) (h := ?_) | refine p_loadRef (ht := F.leaf74) (h := ?_))
  refine p_guardYes (h := ?_)
  refine p_num (h := ?_)
  refine p_guardYes (h := ?_)
  refine p_move (h := ?_)
  refine p_isW (s := 24) (b := true) (hc := by first | rfl | decide | simp) (h := ?_)
  refine p_guardYes (h := ?_)
  (first | refine p_fieldPtr (hf := F.fld81_2) (h := ?_) | refine p_fieldRef (hf := F.fld81_2) (h := ?_) | refine p_fieldRow (hf := F.fld81_2) (h := ?_))
  refine p_guardYes (h := ?_)
  (first | refine p_fieldPtr (hf := F.fld77_1) (h := ?_) | refine p_fieldRef (hf := F.fld77_1) (h := ?_) | refine p_fieldRow (hf := F.fld77_1) (h := ?_))
  refine p_guardYes (h := ?_)
  (first | refine p_load (ht := F.leaf75) (h := ?_) | refine p_loadRef (ht := F.leaf75) (h := ?_))
  refine p_guardYes (h := ?_)
  refine p_len (ht := Try.underlying75) (h := ?_)
  refine p_guardYes (h := ?_)
  refine p_num (h := ?_)
  refine p_guardYes (h := ?_)
  refine p_pick (h := ?_)
  refine p_guardYes (h := ?_)
  refine p_pick (h := ?_)
  refine p_pick (h := ?_)
  refine p_move (h := ?_)
  refine p_isW (s := 33) (b := true) (hc := by first | rfl | decide | simp) (h := ?_)
  refine p_guardYes (h := ?_)
  refine p_move (h := ?_)
  refine p_guardYes (h := ?_)
  refine p_move (h := ?_)
  refine p_isW (s := 35) (b := false) (hc := by first | rfl | decide | simp) (h := ?_)
  refine p_guardYes (h := ?_)
  (first | refine p_fieldPtr (hf := F.fld81_3) (h := ?_) | refine p_fieldRef (hf := F.fld81_3) (h := ?_) | refine p_fieldRow (hf := F.fld81_3) (h := ?_))
  refine p_guardYes (h := ?_)
  (first | refine p_load (ht := F.leaf78) (h := ?_) | refine p_loadRef (ht := F.leaf78) (h := ?_))
  refine p_guardYes (h := ?_)
  refine p_len (ht := Try.underlying78) (h := ?_)
  refine p_guardYes (h := ?_)
  refine p_num (h := ?_)
  refine p_guardYes (h := ?_)
  refine p_pick (h := ?_)
  refine p_pick (h := ?_)
  refine p_move (h := ?_)
  refine p_isW (s := 42) (b := true) (hc := by first | rfl | decide | simp) (h := ?_)
  refine p_guardYes (h := ?_)
  refine p_move (h := ?_)
  refine p_guardYes (h := ?_)
  refine p_move (h := ?_)
  refine p_isW (s := 44) (b := false) (hc := by first | rfl | decide | simp) (h := ?_)
  refine p_guardYes (h := ?_)
  (first | refine p_fieldPtr (hf := F.fld81_4) (h := ?_) | refine p_fieldRef (hf := F.fld81_4) (h := ?_) | refine p_fieldRow (hf := F.fld81_4) (h := ?_))
  refine p_guardYes (h := ?_)
  (first | refine p_load (ht := F.leaf79) (h := ?_) | refine p_loadRef (ht := F.leaf79) (h := ?_))
  refine p_guardYes (h := ?_)
  refine p_len (ht := Try.underlying79) (h := ?_)
  refine p_guardYes (h := ?_)
  refine p_num (h := ?_)
  refine p_guardYes (h := ?_)
  refine p_pick (h := ?_)
  refine p_pick (h := ?_)
  refine p_assign (h := ?_)
  refine p_end ?_
  refine TrC.ret ?_
  refine p_ret1 (hp := by rfl)

theorem is05  : FnC Try.prog 94 [boolSp, zeroWt] (fun r => r = .bool true) := by
  refine FnC.of (fn := Try.f94) ⟨Try.func94, by kernel_rfl, rfl⟩ Try.ntmps94 (by simp) fun w0 S0 => ?_
  refine p_seq (p_region fun hf => ?_)
  refine p_box (h := ?_)
  refine p_box (h := ?_)
  refine p_assign (h := ?_)
  refine p_end ?_
  refine p_seq ?_
  refine p_seq (p_region fun hf => ?_)
  (first | refine p_fieldPtr (hf := F.fld81_0) (h := ?_) | refine p_fieldRef (hf := F.fld81_0) (h := ?_) | refine p_fieldRow (hf := F.fld81_0) (h := ?_))
  (first | refine p_load (ht := F.leaf4) (h := ?_) | refine p_loadRef (ht := F.leaf4) (h := ?_))
  refine p_end ?_
  refine p_isC (s := 7) (b := false) (hc := by first | rfl | decide | simp) (h := ?_)
  refine p_condF (h := ?_)
  refine p_skip ?_
  refine p_seq ?_
  refine p_seq (p_region fun hf => ?_)
  (first | refine p_fieldPtr (hf := F.fld35_0) (h := ?_) | refine p_fieldRef (hf := F.fld35_0) (h := ?_) | refine p_fieldRow (hf := F.fld35_0) (h := ?_))
  (first | refine p_load (ht := F.leaf32) (h := ?_) | refine p_loadRef (ht := F.leaf32) (h := ?_))
  refine p_end ?_
  refine TrC.block ?_
  refine p_seq (p_region fun hf => ?_)
  refine p_num (h := ?_)
  refine p_assign (h := ?_)
  refine p_end ?_
  refine p_isC (s := 17) (b := true) (hc := by first | rfl | decide | simp) (h := ?_)
  refine p_condT (h := ?_)
  refine p_seq (p_region fun hf => ?_)
  (first | refine p_loadA (ht := F.agg81) (hi := F.ti81) (h := ?_) | refine p_loadRefA (ht := F.agg81) (hi := F.ti81) (h := ?_))
  refine p_call (hx := rfl) (hb := ⟨Try.func98, by kernel_rfl, rfl⟩) (hf := plain05) (h := ?_)
  refine p_assign (h := ?_)
  refine p_end ?_
  refine TrC.ret ?_
  refine p_ret1 (hp := by rfl)

theorem check05  : FnC Try.prog 78 [boolSp, zeroWt] (fun r => r = iV 0) := by
  refine FnC.of (fn := Try.f78) ⟨Try.func78, by kernel_rfl, rfl⟩ Try.ntmps78 (by simp) fun w0 S0 => ?_
  refine p_seq (p_region fun hf => ?_)
  refine p_box (h := ?_)
  refine p_box (h := ?_)
  refine p_assign (h := ?_)
  refine p_end ?_
  refine p_seq (p_region fun hf => ?_)
  (first | refine p_loadA (ht := F.agg35) (hi := F.ti35) (h := ?_) | refine p_loadRefA (ht := F.agg35) (hi := F.ti35) (h := ?_))
  refine p_call (hx := rfl) (hb := ⟨Try.func63, by kernel_rfl, rfl⟩) (hf := space05) (h := ?_)
  refine p_assign (h := ?_)
  refine p_end ?_
  refine p_seq ?_
  refine p_seq (p_region fun hf => ?_)
  refine p_move (h := ?_)
  refine p_num (h := ?_)
  refine p_end ?_
  refine p_isC (s := 9) (b := false) (hc := by first | rfl | decide | simp) (h := ?_)
  refine p_condF (h := ?_)
  refine p_skip ?_
  refine p_seq ?_
  refine p_seq (p_region fun hf => ?_)
  (first | refine p_loadA (ht := F.agg35) (hi := F.ti35) (h := ?_) | refine p_loadRefA (ht := F.agg35) (hi := F.ti35) (h := ?_))
  (first | refine p_loadA (ht := F.agg81) (hi := F.ti81) (h := ?_) | refine p_loadRefA (ht := F.agg81) (hi := F.ti81) (h := ?_))
  refine p_call (hx := rfl) (hb := ⟨Try.func94, by kernel_rfl, rfl⟩) (hf := is05) (h := ?_)
  refine p_not (h := ?_)
  refine p_end ?_
  refine p_isC (s := 14) (b := false) (hc := by first | rfl | decide | simp) (h := ?_)
  refine p_condF (h := ?_)
  refine p_skip ?_
  refine p_seq (p_region fun hf => ?_)
  refine p_assign (h := ?_)
  refine p_end ?_
  refine TrC.ret ?_
  refine p_ret1 (hp := by rfl)

theorem in11 (i n : Int) : FnC Try.prog 93 [iV i, iV n] (fun r => r = .bool (inB i n)) := by
  refine FnC.of (fn := Try.f93) ⟨Try.func93, by kernel_rfl, rfl⟩ Try.ntmps93 (by simp) fun w0 S0 => ?_
  refine p_seq (p_region fun hf => ?_)
  refine p_assign (h := ?_)
  refine p_end ?_
  refine p_seq (p_region fun hf => ?_)
  refine p_move (h := ?_)
  refine p_num (h := ?_)
  refine p_move (h := ?_)
  refine p_split (s := 7) (ht := fun hb7 => ?_) (hf := fun hb7 => ?_)
  · -- slot 7 is true
    refine p_guardYes (h := ?_)
    refine p_move (h := ?_)
    refine p_guardYes (h := ?_)
    refine p_move (h := ?_)
    refine p_guardYes (h := ?_)
    refine p_num (h := ?_)
    refine p_pick (h := ?_)
    refine p_assign (h := ?_)
    refine p_end ?_
    refine TrC.ret ?_
    refine p_ret1 (hp := by simp [inB, hb7])
  · -- slot 7 is false
    iterate 3 (refine p_guardNo (h := ?_))
    refine p_pick (h := ?_)
    refine p_assign (h := ?_)
    refine p_end ?_
    refine TrC.ret ?_
    refine p_ret1 (hp := by simp [inB, hb7])

theorem rule11 (n : Int) (rs : List Rule) (r : Rule) (h : ruleOk n r) : FnC Try.prog 77 [pdsW n rs, ruleW r] (fun r => r = .bool true) := by
  refine FnC.of (fn := Try.f77) ⟨Try.func77, by kernel_rfl, rfl⟩ Try.ntmps77 (by simp) fun w0 S0 => ?_
  refine p_seq (p_region fun hf => ?_)
  refine p_box (h := ?_)
  refine p_box (h := ?_)
  refine p_assign (h := ?_)
  refine p_end ?_
  refine p_seq ?_
  refine p_seq (p_region fun hf => ?_)
  (first | refine p_fieldPtr (hf := F.fld92_0) (h := ?_) | refine p_fieldRef (hf := F.fld92_0) (h := ?_) | refine p_fieldRow (hf := F.fld92_0) (h := ?_))
  (first | refine p_load (ht := F.leaf3) (h := ?_) | refine p_loadRef (ht := F.leaf3) (h := ?_))
  (first | refine p_fieldPtr (hf := F.fld38_1) (h := ?_) | refine p_fieldRef (hf := F.fld38_1) (h := ?_) | refine p_fieldRow (hf := F.fld38_1) (h := ?_))
  (first | refine p_load (ht := F.leaf3) (h := ?_) | refine p_loadRef (ht := F.leaf3) (h := ?_))
  refine p_call (hx := rfl) (hb := ⟨Try.func93, by kernel_rfl, rfl⟩) (hf := in11 0 1) (h := ?_)
  refine p_not (h := ?_)
  refine p_move (h := ?_)
  refine p_isW (s := 12) (b := false) (hc := by first | rfl | decide | simp) (h := ?_)
  refine p_guardYes (h := ?_)
  (first | refine p_fieldPtr (hf := F.fld92_2) (h := ?_) | refine p_fieldRef (hf := F.fld92_2) (h := ?_) | refine p_fieldRow (hf := F.fld92_2) (h := ?_))
  refine p_guardYes (h := ?_)
  (first | refine p_load (ht := F.leaf3) (h := ?_) | refine p_loadRef (ht := F.leaf3) (h := ?_))
  refine p_guardYes (h := ?_)
  (first | refine p_fieldPtr (hf := F.fld38_1) (h := ?_) | refine p_fieldRef (hf := F.fld38_1) (h := ?_) | refine p_fieldRow (hf := F.fld38_1) (h := ?_))
  refine p_guardYes (h := ?_)
  (first | refine p_load (ht := F.leaf3) (h := ?_) | refine p_loadRef (ht := F.leaf3) (h := ?_))
  refine p_guardYes (h := ?_)
  refine p_call (hx := rfl) (hb := ⟨Try.func93, by kernel_rfl, rfl⟩) (hf := in11 0 1) (h := ?_)
  refine p_guardYes (h := ?_)
  refine p_not (h := ?_)
  refine p_pick (h := ?_)
  refine p_move (h := ?_)
  refine p_isW (s := 20) (b := false) (hc := by first | rfl | decide | simp) (h := ?_)
  refine p_guardYes (h := ?_)
  (first | refine p_fieldPtr (hf := F.fld92_1) (h := ?_) | refine p_fieldRef (hf := F.fld92_1) (h := ?_) | refine p_fieldRow (hf := F.fld92_1) (h := ?_))
  refine p_guardYes (h := ?_)
  (first | refine p_load (ht := F.leaf3) (h := ?_) | refine p_loadRef (ht := F.leaf3) (h := ?_))
  refine p_guardYes (h := ?_)
  (first | refine p_fieldPtr (hf := F.fld38_2) (h := ?_) | refine p_fieldRef (hf := F.fld38_2) (h := ?_) | refine p_fieldRow (hf := F.fld38_2) (h := ?_))
  refine p_guardYes (h := ?_)
  (first | refine p_load (ht := F.leaf3) (h := ?_) | refine p_loadRef (ht := F.leaf3) (h := ?_))
  refine p_guardYes (h := ?_)
  refine p_call (hx := rfl) (hb := ⟨Try.func93, by kernel_rfl, rfl⟩) (hf := in11 r.g n) (h := ?_)
  refine p_guardYes (h := ?_)
  refine p_not (h := ?_)
  refine p_pick (h := ?_)
  refine p_move (h := ?_)
  refine p_isW (s := 28) (b := false) (hc := by rw [h.1]; rfl) (h := ?_)
  refine p_guardYes (h := ?_)
  (first | refine p_fieldPtr (hf := F.fld92_3) (h := ?_) | refine p_fieldRef (hf := F.fld92_3) (h := ?_) | refine p_fieldRow (hf := F.fld92_3) (h := ?_))
  refine p_guardYes (h := ?_)
  (first | refine p_load (ht := F.leaf23) (h := ?_) | refine p_loadRef (ht := F.leaf23) (h := ?_))
  refine p_guardYes (h := ?_)
  refine p_len (ht := Try.underlying23) (h := ?_)
  refine p_guardYes (h := ?_)
  refine p_num (h := ?_)
  refine p_pick (h := ?_)
  refine p_end ?_
  refine p_isC (s := 33) (b := false) (hc := by have := h.2.1; simp; omega) (h := ?_)
  refine p_condF (h := ?_)
  refine p_skip ?_
  refine p_seq ?_
  refine p_seq (p_region fun hf => ?_)
  refine p_assign (h := ?_)
  refine p_end ?_
  refine TrC.block ?_
  refine p_loop (fun st => ∃ i : Nat, i ≤ r.w.length ∧ st.env 2 = .ptr (0 + 1) 2 0 ∧ st.env 3 = .ptr (0 + 1) 3 0 ∧ st.env 5 = iV i ∧ st.obj (0 + 1) 2 = .cells 38 [iV 1, iV 0, .nil, iV 1, iV n, .sl 92 (rs.map ruleW)] ∧ st.obj (0 + 1) 3 = .cells 92 [iV 0, iV r.g, iV 0, .sl 3 (r.w.map iV), .bool false, iV 0, .int .u64 0, .nil, .nil, .nil]) (fun st => r.w.length - (st.env 5).toN) ?_ fun e ob g1 hI => ?_
  · exact ⟨0, by omega, eV_, eV_, eV_, oB_, oB_⟩
  · obtain ⟨i, hi, e2, e3, e5, o2, o3⟩ := hI
    dsimp only at e2 e3 e5 o2 o3
    have hE := (⟨e2, e3, e5, o2, o3⟩ : _ ∧ _ ∧ _ ∧ _ ∧ _)
    have hlen := h.2.1
    refine p_seq ?_
    refine p_seq (p_region fun hf => ?_)
    refine p_move (h := ?_)
    (first | refine p_fieldPtr (hf := F.fld92_3) (h := ?_) | refine p_fieldRef (hf := F.fld92_3) (h := ?_) | refine p_fieldRow (hf := F.fld92_3) (h := ?_))
    (first | refine p_load (ht := F.leaf23) (h := ?_) | refine p_loadRef (ht := F.leaf23) (h := ?_))
    refine p_len (ht := Try.underlying23) (h := ?_)
    refine p_num (h := ?_)
    refine p_end ?_
    refine p_splitC (s := 38) (ht := fun hc38 => ?_) (hf := fun hc38 => ?_)
    · refine p_condT (h := ?_)
      have hlt : i < r.w.length := by simpa using hc38
      refine p_skip ?_
      refine p_seq ?_
      refine TrC.block ?_
      refine p_seq (p_draw F.mixed fun hf => ?_)
      (first | refine p_fieldPtr (hf := F.fld92_3) (h := ?_) | refine p_fieldRef (hf := F.fld92_3) (h := ?_) | refine p_fieldRow (hf := F.fld92_3) (h := ?_))
      (first | refine p_load (ht := F.leaf23) (h := ?_) | refine p_loadRef (ht := F.leaf23) (h := ?_))
      refine p_move (h := ?_)
      refine p_idxMap (j := i) (ht := Try.underlying23) (hi := F.ti3) (hij := rfl) (hj := hlt) (h := ?_)
      (first | refine p_load (ht := F.leaf3) (h := ?_) | refine p_loadRef (ht := F.leaf3) (h := ?_))
      (first | refine p_fieldPtr (hf := F.fld38_2) (h := ?_) | refine p_fieldRef (hf := F.fld38_2) (h := ?_) | refine p_fieldRow (hf := F.fld38_2) (h := ?_))
      (first | refine p_load (ht := F.leaf3) (h := ?_) | refine p_loadRef (ht := F.leaf3) (h := ?_))
      refine p_call (hx := rfl) (hb := ⟨Try.func93, by kernel_rfl, rfl⟩) (hf := in11 r.w[i] n) (h := ?_)
      refine p_not (h := ?_)
      refine p_endD ?_
      refine p_isC (s := 49) (b := false) (hc := by rw [h.2.2 _ (List.getElem_mem hlt)]; rfl) (h := ?_)
      refine p_condF (h := ?_)
      refine p_skip ?_
      refine p_region fun hf => ?_
      refine p_move (h := ?_)
      refine p_add (r := ((i + 1 : Nat) : Int)) (hr := by omega) (hb := by omega) (h := ?_)
      refine p_assign (h := ?_)
      refine p_end ?_
      refine p_some ?_
      refine ⟨⟨i + 1, hlt, eV_, eV_, eV_, oB_, oB_⟩, ?_⟩
      simp (decide := true) only [upd, e5, V.toN, ↓reduceIte]; omega
    · refine p_condF (h := ?_)
      refine p_exit ?_
      refine p_seq (p_region fun hf => ?_)
      refine p_assign (h := ?_)
      refine p_end ?_
      refine TrC.ret ?_
      refine p_ret1 (hp := by rfl)

theorem check11 (n : Int) (rs : List Rule) (h : ∀ r ∈ rs, ruleOk n r) (hn : 0 ≤ n ∧ n ≤ 4096) (hl : rs.length ≤ 16384) : FnC Try.prog 57 [pdsW n rs] (fun r => r = iV 0) := by
  refine FnC.of (fn := Try.f57) ⟨Try.func57, by kernel_rfl, rfl⟩ Try.ntmps57 (by simp) fun w0 S0 => ?_
  refine p_seq (p_region fun hf => ?_)
  refine p_box (h := ?_)
  refine p_assign (h := ?_)
  refine p_end ?_
  refine p_seq (p_region fun hf => ?_)
  (first | refine p_fieldPtr (hf := F.fld38_0) (h := ?_) | refine p_fieldRef (hf := F.fld38_0) (h := ?_) | refine p_fieldRow (hf := F.fld38_0) (h := ?_))
  (first | refine p_loadA (ht := F.agg35) (hi := F.ti35) (h := ?_) | refine p_loadRefA (ht := F.agg35) (hi := F.ti35) (h := ?_))
  refine p_call (hx := rfl) (hb := ⟨Try.func63, by kernel_rfl, rfl⟩) (hf := space05) (h := ?_)
  refine p_assign (h := ?_)
  refine p_end ?_
  refine p_seq ?_
  refine p_seq (p_region fun hf => ?_)
  refine p_move (h := ?_)
  refine p_num (h := ?_)
  refine p_end ?_
  refine p_isC (s := 11) (b := false) (hc := by first | rfl | decide | simp) (h := ?_)
  refine p_condF (h := ?_)
  refine p_skip ?_
  refine p_seq ?_
  refine p_seq (p_region fun hf => ?_)
  (first | refine p_fieldPtr (hf := F.fld38_3) (h := ?_) | refine p_fieldRef (hf := F.fld38_3) (h := ?_) | refine p_fieldRow (hf := F.fld38_3) (h := ?_))
  (first | refine p_load (ht := F.leaf36) (h := ?_) | refine p_loadRef (ht := F.leaf36) (h := ?_))
  refine p_len (ht := Try.underlying36) (h := ?_)
  refine p_num (h := ?_)
  refine p_end ?_
  refine p_isC (s := 16) (b := false) (hc := by simp; omega) (h := ?_)
  refine p_condF (h := ?_)
  refine p_skip ?_
  refine p_seq ?_
  refine p_seq (p_region fun hf => ?_)
  (first | refine p_fieldPtr (hf := F.fld38_1) (h := ?_) | refine p_fieldRef (hf := F.fld38_1) (h := ?_) | refine p_fieldRow (hf := F.fld38_1) (h := ?_))
  (first | refine p_load (ht := F.leaf3) (h := ?_) | refine p_loadRef (ht := F.leaf3) (h := ?_))
  refine p_num (h := ?_)
  refine p_move (h := ?_)
  refine p_isW (s := 20) (b := false) (hc := by first | rfl | decide | simp) (h := ?_)
  refine p_guardYes (h := ?_)
  (first | refine p_fieldPtr (hf := F.fld38_1) (h := ?_) | refine p_fieldRef (hf := F.fld38_1) (h := ?_) | refine p_fieldRow (hf := F.fld38_1) (h := ?_))
  refine p_guardYes (h := ?_)
  (first | refine p_load (ht := F.leaf3) (h := ?_) | refine p_loadRef (ht := F.leaf3) (h := ?_))
  refine p_guardYes (h := ?_)
  refine p_num (h := ?_)
  refine p_pick (h := ?_)
  refine p_move (h := ?_)
  refine p_isW (s := 25) (b := false) (hc := by first | rfl | decide | simp) (h := ?_)
  refine p_guardYes (h := ?_)
  (first | refine p_fieldPtr (hf := F.fld38_2) (h := ?_) | refine p_fieldRef (hf := F.fld38_2) (h := ?_) | refine p_fieldRow (hf := F.fld38_2) (h := ?_))
  refine p_guardYes (h := ?_)
  (first | refine p_load (ht := F.leaf3) (h := ?_) | refine p_loadRef (ht := F.leaf3) (h := ?_))
  refine p_guardYes (h := ?_)
  refine p_num (h := ?_)
  refine p_pick (h := ?_)
  refine p_move (h := ?_)
  refine p_isW (s := 30) (b := false) (hc := by simp; omega) (h := ?_)
  refine p_guardYes (h := ?_)
  (first | refine p_fieldPtr (hf := F.fld38_2) (h := ?_) | refine p_fieldRef (hf := F.fld38_2) (h := ?_) | refine p_fieldRow (hf := F.fld38_2) (h := ?_))
  refine p_guardYes (h := ?_)
  (first | refine p_load (ht := F.leaf3) (h := ?_) | refine p_loadRef (ht := F.leaf3) (h := ?_))
  refine p_guardYes (h := ?_)
  refine p_num (h := ?_)
  refine p_pick (h := ?_)
  refine p_end ?_
  refine p_isC (s := 34) (b := false) (hc := by simp; omega) (h := ?_)
  refine p_condF (h := ?_)
  refine p_skip ?_
  refine p_seq ?_
  refine p_seq (p_region fun hf => ?_)
  refine p_assign (h := ?_)
  refine p_end ?_
  refine TrC.block ?_
  refine p_loop (fun st => ∃ i : Nat, i ≤ rs.length ∧ st.env 1 = .ptr (0 + 1) 1 0 ∧ st.env 4 = iV i ∧ st.obj (0 + 1) 1 = .cells 38 [iV 1, iV 0, .nil, iV 1, iV n, .sl 92 (rs.map ruleW)]) (fun st => rs.length - (st.env 4).toN) ?_ fun e ob g1 hI => ?_
  · exact ⟨0, by omega, eV_, eV_, oB_⟩
  · obtain ⟨i, hii, i1, i2, io⟩ := hI
    dsimp only at i1 i2 io
    have hE := (⟨i1, i2, io⟩ : _ ∧ _ ∧ _)
    refine p_seq ?_
    refine p_seq (p_region fun hf => ?_)
    refine p_move (h := ?_)
    (first | refine p_fieldPtr (hf := F.fld38_3) (h := ?_) | refine p_fieldRef (hf := F.fld38_3) (h := ?_) | refine p_fieldRow (hf := F.fld38_3) (h := ?_))
    (first | refine p_load (ht := F.leaf36) (h := ?_) | refine p_loadRef (ht := F.leaf36) (h := ?_))
    refine p_len (ht := Try.underlying36) (h := ?_)
    refine p_num (h := ?_)
    refine p_end ?_
    refine p_splitC (s := 39) (ht := fun hc39 => ?_) (hf := fun hc39 => ?_)
    · refine p_condT (h := ?_)
      have hlti : i < rs.length := by simpa using hc39
      refine p_skip ?_
      refine p_seq ?_
      refine TrC.block ?_
      refine p_seq (p_draw F.mixed fun hf => ?_)
      (first | refine p_loadA (ht := F.agg38) (hi := F.ti38) (h := ?_) | refine p_loadRefA (ht := F.agg38) (hi := F.ti38) (h := ?_))
      (first | refine p_fieldPtr (hf := F.fld38_3) (h := ?_) | refine p_fieldRef (hf := F.fld38_3) (h := ?_) | refine p_fieldRow (hf := F.fld38_3) (h := ?_))
      (first | refine p_load (ht := F.leaf36) (h := ?_) | refine p_loadRef (ht := F.leaf36) (h := ?_))
      refine p_move (h := ?_)
      refine p_idxMap (j := i) (ht := Try.underlying36) (hi := F.ti92) (hij := rfl) (hj := hlti) (h := ?_)
      (first | refine p_loadA (ht := F.agg92) (hi := F.ti92) (h := ?_) | refine p_loadRefA (ht := F.agg92) (hi := F.ti92) (h := ?_))
      refine p_call (hx := rfl) (hb := ⟨Try.func77, by kernel_rfl, rfl⟩) (hf := rule11 n rs rs[i] (h _ (List.getElem_mem hlti))) (h := ?_)
      refine p_not (h := ?_)
      refine p_endD ?_
      refine p_isC (s := 49) (b := false) (hc := by first | rfl | decide | simp) (h := ?_)
      refine p_condF (h := ?_)
      refine p_skip ?_
      refine p_region fun hf => ?_
      refine p_move (h := ?_)
      refine p_add (r := ((i + 1 : Nat) : Int)) (hr := by omega) (hb := by omega) (h := ?_)
      refine p_assign (h := ?_)
      refine p_end ?_
      refine p_some ?_
      refine ⟨⟨i + 1, hlti, eV_, eV_, oB_⟩, ?_⟩
      simp (decide := true) only [upd, i2, V.toN, ↓reduceIte]; omega
    · refine p_condF (h := ?_)
      refine p_exit ?_
      refine p_seq ?_
      refine p_seq (p_region fun hf => ?_)
      refine p_assign (h := ?_)
      refine p_end ?_
      refine TrC.block ?_
      refine p_loop (fun st => ∃ i : Nat, i ≤ rs.length ∧ st.env 1 = .ptr (0 + 1) 1 0 ∧ st.env 5 = iV i ∧ st.obj (0 + 1) 1 = .cells 38 [iV 1, iV 0, .nil, iV 1, iV n, .sl 92 (rs.map ruleW)]) (fun st => rs.length - (st.env 5).toN) ?_ fun e ob g2 hI => ?_
      · exact ⟨0, by omega, eV_, eV_, oB_⟩
      · obtain ⟨j, hij, j1, j2, jo⟩ := hI
        dsimp only at j1 j2 jo
        have hE := (⟨j1, j2, jo⟩ : _ ∧ _ ∧ _)
        refine p_seq ?_
        refine p_seq (p_region fun hf => ?_)
        refine p_move (h := ?_)
        (first | refine p_fieldPtr (hf := F.fld38_3) (h := ?_) | refine p_fieldRef (hf := F.fld38_3) (h := ?_) | refine p_fieldRow (hf := F.fld38_3) (h := ?_))
        (first | refine p_load (ht := F.leaf36) (h := ?_) | refine p_loadRef (ht := F.leaf36) (h := ?_))
        refine p_len (ht := Try.underlying36) (h := ?_)
        refine p_num (h := ?_)
        refine p_end ?_
        refine p_splitC (s := 54) (ht := fun hc54 => ?_) (hf := fun hc54 => ?_)
        · refine p_condT (h := ?_)
          have hltj : j < rs.length := by simpa using hc54
          refine p_skip ?_
          refine p_seq ?_
          refine TrC.block ?_
          refine p_seq (p_draw F.mixed fun hf => ?_)
          (first | refine p_fieldPtr (hf := F.fld38_0) (h := ?_) | refine p_fieldRef (hf := F.fld38_0) (h := ?_) | refine p_fieldRow (hf := F.fld38_0) (h := ?_))
          (first | refine p_loadA (ht := F.agg35) (hi := F.ti35) (h := ?_) | refine p_loadRefA (ht := F.agg35) (hi := F.ti35) (h := ?_))
          (first | refine p_fieldPtr (hf := F.fld38_3) (h := ?_) | refine p_fieldRef (hf := F.fld38_3) (h := ?_) | refine p_fieldRow (hf := F.fld38_3) (h := ?_))
          (first | refine p_load (ht := F.leaf36) (h := ?_) | refine p_loadRef (ht := F.leaf36) (h := ?_))
          refine p_move (h := ?_)
          refine p_idxMap (j := j) (ht := Try.underlying36) (hi := F.ti92) (hij := rfl) (hj := hltj) (h := ?_)
          (first | refine p_fieldPtr (hf := F.fld92_4) (h := ?_) | refine p_fieldRef (hf := F.fld92_4) (h := ?_) | refine p_fieldRow (hf := F.fld92_4) (h := ?_))
          (first | refine p_loadA (ht := F.agg81) (hi := F.ti81) (h := ?_) | refine p_loadRefA (ht := F.agg81) (hi := F.ti81) (h := ?_))
          refine p_call (hx := rfl) (hb := ⟨Try.func78, by kernel_rfl, rfl⟩) (hf := check05) (h := ?_)
          refine p_assign (h := ?_)
          refine p_endD ?_
          refine p_seq (p_region fun hf => ?_)
          refine p_move (h := ?_)
          refine p_num (h := ?_)
          refine p_end ?_
          refine p_isC (s := 67) (b := false) (hc := by first | rfl | decide | simp) (h := ?_)
          refine p_condF (h := ?_)
          refine p_skip ?_
          refine p_region fun hf => ?_
          refine p_move (h := ?_)
          refine p_add (r := ((j + 1 : Nat) : Int)) (hr := by omega) (hb := by omega) (h := ?_)
          refine p_assign (h := ?_)
          refine p_end ?_
          refine p_some ?_
          refine ⟨⟨j + 1, hltj, eV_, eV_, oB_⟩, ?_⟩
          simp (decide := true) only [upd, j2, V.toN, ↓reduceIte]; omega
        · refine p_condF (h := ?_)
          refine p_exit ?_
          refine p_seq (p_region fun hf => ?_)
          refine p_assign (h := ?_)
          refine p_end ?_
          refine TrC.ret ?_
          refine p_ret1 (hp := by rfl)

theorem check12 (n : Int) (rs : List Rule) (c : Conf) (h : ∀ r ∈ rs, ruleOk n r) (hn : 0 ≤ n ∧ n ≤ 4096) (hl : rs.length ≤ 16384) (hc : confOk n c) : FnC Try.prog 31 [pdsW n rs, confV c] (fun r => r = iV 0) := by
  refine FnC.of (fn := Try.f31) ⟨Try.func31, by kernel_rfl, rfl⟩ Try.ntmps31 (by simp) fun w0 S0 => ?_
  refine p_seq (p_region fun hf => ?_)
  refine p_box (h := ?_)
  refine p_box (h := ?_)
  refine p_assign (h := ?_)
  refine p_end ?_
  refine p_seq (p_region fun hf => ?_)
  (first | refine p_loadA (ht := F.agg38) (hi := F.ti38) (h := ?_) | refine p_loadRefA (ht := F.agg38) (hi := F.ti38) (h := ?_))
  refine p_call (hx := rfl) (hb := ⟨Try.func57, by kernel_rfl, rfl⟩) (hf := check11 n rs h hn hl) (h := ?_)
  refine p_assign (h := ?_)
  refine p_end ?_
  refine p_seq ?_
  refine p_seq (p_region fun hf => ?_)
  refine p_move (h := ?_)
  refine p_num (h := ?_)
  refine p_end ?_
  refine p_isC (s := 10) (b := false) (hc := by first | rfl | decide | simp) (h := ?_)
  refine p_condF (h := ?_)
  refine p_skip ?_
  refine p_seq ?_
  refine p_seq (p_region fun hf => ?_)
  (first | refine p_fieldPtr (hf := F.fld44_0) (h := ?_) | refine p_fieldRef (hf := F.fld44_0) (h := ?_) | refine p_fieldRow (hf := F.fld44_0) (h := ?_))
  (first | refine p_load (ht := F.leaf3) (h := ?_) | refine p_loadRef (ht := F.leaf3) (h := ?_))
  refine p_num (h := ?_)
  refine p_move (h := ?_)
  refine p_isW (s := 15) (b := false) (hc := by rw [hc.1]; rfl) (h := ?_)
  refine p_guardYes (h := ?_)
  (first | refine p_fieldPtr (hf := F.fld44_0) (h := ?_) | refine p_fieldRef (hf := F.fld44_0) (h := ?_) | refine p_fieldRow (hf := F.fld44_0) (h := ?_))
  refine p_guardYes (h := ?_)
  (first | refine p_load (ht := F.leaf3) (h := ?_) | refine p_loadRef (ht := F.leaf3) (h := ?_))
  refine p_guardYes (h := ?_)
  (first | refine p_fieldPtr (hf := F.fld38_1) (h := ?_) | refine p_fieldRef (hf := F.fld38_1) (h := ?_) | refine p_fieldRow (hf := F.fld38_1) (h := ?_))
  refine p_guardYes (h := ?_)
  (first | refine p_load (ht := F.leaf3) (h := ?_) | refine p_loadRef (ht := F.leaf3) (h := ?_))
  refine p_guardYes (h := ?_)
  refine p_num (h := ?_)
  refine p_pick (h := ?_)
  refine p_move (h := ?_)
  refine p_isW (s := 22) (b := false) (hc := by rw [hc.1]; rfl) (h := ?_)
  refine p_guardYes (h := ?_)
  (first | refine p_fieldPtr (hf := F.fld44_1) (h := ?_) | refine p_fieldRef (hf := F.fld44_1) (h := ?_) | refine p_fieldRow (hf := F.fld44_1) (h := ?_))
  refine p_guardYes (h := ?_)
  (first | refine p_load (ht := F.leaf23) (h := ?_) | refine p_loadRef (ht := F.leaf23) (h := ?_))
  refine p_guardYes (h := ?_)
  refine p_len (ht := Try.underlying23) (h := ?_)
  refine p_guardYes (h := ?_)
  refine p_num (h := ?_)
  refine p_pick (h := ?_)
  refine p_end ?_
  refine p_isC (s := 27) (b := false) (hc := by have := hc.2.1; simp; omega) (h := ?_)
  refine p_condF (h := ?_)
  refine p_skip ?_
  refine p_seq ?_
  refine p_seq (p_region fun hf => ?_)
  refine p_assign (h := ?_)
  refine p_end ?_
  refine TrC.block ?_
  refine p_loop (fun st => ∃ i : Nat, i ≤ c.w.length ∧ st.env 2 = .ptr (0 + 1) 2 0 ∧ st.env 3 = .ptr (0 + 1) 3 0 ∧ st.env 6 = iV i ∧ st.obj (0 + 1) 2 = .cells 38 [iV 1, iV 0, .nil, iV 1, iV n, .sl 92 (rs.map ruleW)] ∧ st.obj (0 + 1) 3 = .cells 44 [iV c.p, .sl 3 (c.w.map iV)]) (fun st => c.w.length - (st.env 6).toN) ?_ fun e ob g1 hI => ?_
  · exact ⟨0, by omega, eV_, eV_, eV_, oB_, oB_⟩
  · obtain ⟨i, hi, e2, e3, e6, o2, o3⟩ := hI
    dsimp only at e2 e3 e6 o2 o3
    have hE := (⟨e2, e3, e6, o2, o3⟩ : _ ∧ _ ∧ _ ∧ _ ∧ _)
    have hlen := hc.2.1
    refine p_seq ?_
    refine p_seq (p_region fun hf => ?_)
    refine p_move (h := ?_)
    (first | refine p_fieldPtr (hf := F.fld44_1) (h := ?_) | refine p_fieldRef (hf := F.fld44_1) (h := ?_) | refine p_fieldRow (hf := F.fld44_1) (h := ?_))
    (first | refine p_load (ht := F.leaf23) (h := ?_) | refine p_loadRef (ht := F.leaf23) (h := ?_))
    refine p_len (ht := Try.underlying23) (h := ?_)
    refine p_num (h := ?_)
    refine p_end ?_
    refine p_splitC (s := 32) (ht := fun hc32 => ?_) (hf := fun hc32 => ?_)
    · refine p_condT (h := ?_)
      have hlt : i < c.w.length := by simpa using hc32
      refine p_skip ?_
      refine p_seq ?_
      refine TrC.block ?_
      refine p_seq (p_draw F.mixed fun hf => ?_)
      (first | refine p_fieldPtr (hf := F.fld44_1) (h := ?_) | refine p_fieldRef (hf := F.fld44_1) (h := ?_) | refine p_fieldRow (hf := F.fld44_1) (h := ?_))
      (first | refine p_load (ht := F.leaf23) (h := ?_) | refine p_loadRef (ht := F.leaf23) (h := ?_))
      refine p_move (h := ?_)
      refine p_idxMap (j := i) (ht := Try.underlying23) (hi := F.ti3) (hij := rfl) (hj := hlt) (h := ?_)
      (first | refine p_load (ht := F.leaf3) (h := ?_) | refine p_loadRef (ht := F.leaf3) (h := ?_))
      refine p_num (h := ?_)
      refine p_move (h := ?_)
      refine p_isW (s := 41) (b := false) (hc := by have := hc.2.2 _ (List.getElem_mem hlt); simp [inB] at this; simp; omega) (h := ?_)
      refine p_guardYes (h := ?_)
      (first | refine p_fieldPtr (hf := F.fld44_1) (h := ?_) | refine p_fieldRef (hf := F.fld44_1) (h := ?_) | refine p_fieldRow (hf := F.fld44_1) (h := ?_))
      refine p_guardYes (h := ?_)
      (first | refine p_load (ht := F.leaf23) (h := ?_) | refine p_loadRef (ht := F.leaf23) (h := ?_))
      refine p_guardYes (h := ?_)
      refine p_move (h := ?_)
      refine p_guardYes (h := ?_)
      refine p_idxMap (j := i) (ht := Try.underlying23) (hi := F.ti3) (hij := rfl) (hj := hlt) (h := ?_)
      refine p_guardYes (h := ?_)
      (first | refine p_load (ht := F.leaf3) (h := ?_) | refine p_loadRef (ht := F.leaf3) (h := ?_))
      refine p_guardYes (h := ?_)
      (first | refine p_fieldPtr (hf := F.fld38_2) (h := ?_) | refine p_fieldRef (hf := F.fld38_2) (h := ?_) | refine p_fieldRow (hf := F.fld38_2) (h := ?_))
      refine p_guardYes (h := ?_)
      (first | refine p_load (ht := F.leaf3) (h := ?_) | refine p_loadRef (ht := F.leaf3) (h := ?_))
      refine p_guardYes (h := ?_)
      refine p_num (h := ?_)
      refine p_pick (h := ?_)
      refine p_endD ?_
      refine p_isC (s := 50) (b := false) (hc := by have := hc.2.2 _ (List.getElem_mem hlt); simp [inB] at this; simp; omega) (h := ?_)
      refine p_condF (h := ?_)
      refine p_skip ?_
      refine p_region fun hf => ?_
      refine p_move (h := ?_)
      refine p_add (r := ((i + 1 : Nat) : Int)) (hr := by omega) (hb := by omega) (h := ?_)
      refine p_assign (h := ?_)
      refine p_end ?_
      refine p_some ?_
      refine ⟨⟨i + 1, hlt, eV_, eV_, eV_, oB_, oB_⟩, ?_⟩
      simp (decide := true) only [upd, e6, V.toN, ↓reduceIte]; omega
    · refine p_condF (h := ?_)
      refine p_exit ?_
      refine p_seq (p_region fun hf => ?_)
      refine p_assign (h := ?_)
      refine p_end ?_
      refine TrC.ret ?_
      refine p_ret1 (hp := by rfl)

def appliesR (r : Rule) (c : Conf) : Bool := decide (0 = c.p) && decide (c.w.head? = some r.g)

theorem applies12 (ru : Rule) (c : Conf) : FnC Try.prog 32 [ruleW ru, confV c] (fun r => r = .bool (appliesR ru c)) := by
  refine FnC.of (fn := Try.f32) ⟨Try.func32, by kernel_rfl, rfl⟩ Try.ntmps32 (by simp) fun w0 S0 => ?_
  refine p_seq (p_region fun hf => ?_)
  refine p_box (h := ?_)
  refine p_box (h := ?_)
  refine p_assign (h := ?_)
  refine p_end ?_
  refine p_seq (p_draw F.mixed fun hf => ?_)
  (first | refine p_fieldPtr (hf := F.fld92_0) (h := ?_) | refine p_fieldRef (hf := F.fld92_0) (h := ?_) | refine p_fieldRow (hf := F.fld92_0) (h := ?_))
  (first | refine p_load (ht := F.leaf3) (h := ?_) | refine p_loadRef (ht := F.leaf3) (h := ?_))
  (first | refine p_fieldPtr (hf := F.fld44_0) (h := ?_) | refine p_fieldRef (hf := F.fld44_0) (h := ?_) | refine p_fieldRow (hf := F.fld44_0) (h := ?_))
  (first | refine p_load (ht := F.leaf3) (h := ?_) | refine p_loadRef (ht := F.leaf3) (h := ?_))
  refine p_num (h := ?_)
  refine p_move (h := ?_)
  refine p_split (s := 10) (ht := fun hb10 => ?_) (hf := fun hb10 => ?_)
  · -- slot 10 is true
    refine p_guardYes (h := ?_)
    (first | refine p_fieldPtr (hf := F.fld44_1) (h := ?_) | refine p_fieldRef (hf := F.fld44_1) (h := ?_) | refine p_fieldRow (hf := F.fld44_1) (h := ?_))
    refine p_guardYes (h := ?_)
    (first | refine p_load (ht := F.leaf23) (h := ?_) | refine p_loadRef (ht := F.leaf23) (h := ?_))
    refine p_guardYes (h := ?_)
    refine p_len (ht := Try.underlying23) (h := ?_)
    refine p_guardYes (h := ?_)
    refine p_num (h := ?_)
    refine p_pick (h := ?_)
    refine p_move (h := ?_)
    refine p_split (s := 16) (ht := fun hb16 => ?_) (hf := fun hb16 => ?_)
    · -- slot 16 is true
      have hpos : 0 < c.w.length := by simpa using hb16
      refine p_guardYes (h := ?_)
      (first | refine p_fieldPtr (hf := F.fld44_1) (h := ?_) | refine p_fieldRef (hf := F.fld44_1) (h := ?_) | refine p_fieldRow (hf := F.fld44_1) (h := ?_))
      refine p_guardYes (h := ?_)
      (first | refine p_load (ht := F.leaf23) (h := ?_) | refine p_loadRef (ht := F.leaf23) (h := ?_))
      refine p_guardYes (h := ?_)
      refine p_idxMap (j := 0) (ht := Try.underlying23) (hi := F.ti3) (hij := rfl) (hj := hpos) (h := ?_)
      refine p_guardYes (h := ?_)
      (first | refine p_load (ht := F.leaf3) (h := ?_) | refine p_loadRef (ht := F.leaf3) (h := ?_))
      refine p_guardYes (h := ?_)
      (first | refine p_fieldPtr (hf := F.fld92_1) (h := ?_) | refine p_fieldRef (hf := F.fld92_1) (h := ?_) | refine p_fieldRow (hf := F.fld92_1) (h := ?_))
      refine p_guardYes (h := ?_)
      (first | refine p_load (ht := F.leaf3) (h := ?_) | refine p_loadRef (ht := F.leaf3) (h := ?_))
      refine p_guardYes (h := ?_)
      refine p_num (h := ?_)
      refine p_pick (h := ?_)
      refine p_assign (h := ?_)
      refine p_endD ?_
      refine TrC.ret ?_
      refine p_ret1 (hp := by obtain ⟨p, w⟩ := c; cases w <;> simp_all [appliesR] <;> (try omega))
    · -- slot 16 is false
      iterate 7 (refine p_guardNo (h := ?_))
      refine p_pick (h := ?_)
      refine p_assign (h := ?_)
      refine p_endD ?_
      refine TrC.ret ?_
      refine p_ret1 (hp := by obtain ⟨p, w⟩ := c; cases w <;> simp_all [appliesR] <;> (try omega))
  · -- slot 10 is false
    iterate 4 (refine p_guardNo (h := ?_))
    refine p_pick (h := ?_)
    refine p_move (h := ?_)
    iterate 7 (refine p_guardNo (h := ?_))
    refine p_pick (h := ?_)
    refine p_assign (h := ?_)
    refine p_endD ?_
    refine TrC.ret ?_
    refine p_ret1 (hp := by obtain ⟨p, w⟩ := c; cases w <;> simp_all [appliesR] <;> (try omega))

theorem behind12 (q : Int) (w rest : List Int) (hw : w.length + rest.length ≤ 1000000000) : FnC Try.prog 58 [iV q, .sl 3 (w.map iV), .sl 3 (rest.map iV)] (fun r => r = confV ⟨q, w ++ rest⟩) := by
  refine FnC.of (fn := Try.f58) ⟨Try.func58, by kernel_rfl, rfl⟩ Try.ntmps58 (by simp) fun w0 S0 => ?_
  refine p_seq (p_region fun hf => ?_)
  refine p_alloc (hi := F.ti44) (h := ?_)
  refine p_end ?_
  refine p_seq (p_region fun hf => ?_)
  refine p_move (h := ?_)
  refine p_buildSlice (ht := Try.underlying23) (hi := F.ti3) (hl := by simp) (h := ?_)
  refine p_move (h := ?_)
  refine p_append (k := w.length) (ht := Try.underlying23) (hi := F.ti3) (hnl := by simp) (hy := by exact .inl ⟨rfl, rfl⟩) (hm := by simp) (hlim := by omega) (h := ?_)
  refine p_move (h := ?_)
  refine p_append (k := w.length + rest.length) (ht := Try.underlying23) (hi := F.ti3) (hnl := by simp) (hy := by exact .inl ⟨rfl, rfl⟩) (hm := by simp) (hlim := by omega) (h := ?_)
  refine p_build (hi := F.ti44) (hpl := F.pl44) (h := ?_)
  refine p_storeAll F.ti44 (h := ?_)
  refine p_end ?_
  refine TrC.ret ?_
  refine p_freeze (g1 := 0 + 1 + 1) (d1 := 12) (h := ?_)
  refine p_cellSl (g1 := 0 + 1) (d1 := 6) (i := 1) (hn := by simp) (h := ?_)
  refine Tr.ret1 rfl (res_cell eV_ oB_ F.agg44 F.ti44 rfl rfl) (by simp [confV]) (by intro l h; cases h)

theorem by12 (ru : Rule) (c : Conf) (hc : 0 < c.w.length) (hl : ru.w.length + c.w.length ≤ 1000000000) : FnC Try.prog 33 [ruleW ru, confV c] (fun r => r = confV ⟨0, ru.w ++ c.w.drop 1⟩) := by
  refine FnC.of (fn := Try.f33) ⟨Try.func33, by kernel_rfl, rfl⟩ Try.ntmps33 (by simp) fun w0 S0 => ?_
  refine p_seq (p_region fun hf => ?_)
  refine p_box (h := ?_)
  refine p_box (h := ?_)
  refine p_alloc (hi := F.ti44) (h := ?_)
  refine p_end ?_
  refine p_seq (p_draw F.mixed fun hf => ?_)
  (first | refine p_fieldPtr (hf := F.fld92_2) (h := ?_) | refine p_fieldRef (hf := F.fld92_2) (h := ?_) | refine p_fieldRow (hf := F.fld92_2) (h := ?_))
  (first | refine p_load (ht := F.leaf3) (h := ?_) | refine p_loadRef (ht := F.leaf3) (h := ?_))
  (first | refine p_fieldPtr (hf := F.fld92_3) (h := ?_) | refine p_fieldRef (hf := F.fld92_3) (h := ?_) | refine p_fieldRow (hf := F.fld92_3) (h := ?_))
  (first | refine p_load (ht := F.leaf23) (h := ?_) | refine p_loadRef (ht := F.leaf23) (h := ?_))
  (first | refine p_fieldPtr (hf := F.fld44_1) (h := ?_) | refine p_fieldRef (hf := F.fld44_1) (h := ?_) | refine p_fieldRow (hf := F.fld44_1) (h := ?_))
  (first | refine p_load (ht := F.leaf23) (h := ?_) | refine p_loadRef (ht := F.leaf23) (h := ?_))
  refine p_partLo (l := 1) (ys := (c.w.drop 1).map iV) (ht := Try.underlying23) (hi := F.ti3) (hl := by simp; omega) (hys := by rw [List.map_drop]) (h := ?_)
  refine p_call (hx := rfl) (hb := ⟨Try.func58, by kernel_rfl, rfl⟩) (hf := behind12 0 ru.w (c.w.drop 1) (by simp; omega)) (h := ?_)
  refine p_storeAll F.ti44 (h := ?_)
  refine p_endD ?_
  refine TrC.ret ?_
  refine Tr.ret1 rfl (res_cell eV_ oB_ F.agg44 F.ti44 rfl rfl) rfl (by intro l h; cases h)

theorem long12 (c : Conf) : FnC Try.prog 34 [confV c] (fun r => r = .bool (decide ((4096 : Int) < c.w.length))) := by
  refine FnC.of (fn := Try.f34) ⟨Try.func34, by kernel_rfl, rfl⟩ Try.ntmps34 (by simp) fun w0 S0 => ?_
  refine p_seq (p_region fun hf => ?_)
  refine p_box (h := ?_)
  refine p_assign (h := ?_)
  refine p_end ?_
  refine p_seq (p_region fun hf => ?_)
  (first | refine p_fieldPtr (hf := F.fld44_1) (h := ?_) | refine p_fieldRef (hf := F.fld44_1) (h := ?_) | refine p_fieldRow (hf := F.fld44_1) (h := ?_))
  (first | refine p_load (ht := F.leaf23) (h := ?_) | refine p_loadRef (ht := F.leaf23) (h := ?_))
  refine p_len (ht := Try.underlying23) (h := ?_)
  refine p_num (h := ?_)
  refine p_assign (h := ?_)
  refine p_end ?_
  refine TrC.ret ?_
  refine p_ret1 (hp := by simp)

end Go.Proofs.Ytfjciangbmjlmaa
