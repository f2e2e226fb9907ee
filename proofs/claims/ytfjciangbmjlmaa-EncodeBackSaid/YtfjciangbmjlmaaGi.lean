/-
  The small functions of package encode in the mode of mere reachability, walked.
-/
import Derived.Test.YtfjciangbmjlmaaGh
set_option linter.unusedSimpArgs false
set_option linter.unusedVariables false
namespace Go.Proofs.Ytfjciangbmjlmaa
open Go.RowKit
/-- The one weight. -/
abbrev weightL : List V := [.bool false, iV 0, .int .u64 0, .nil, .nil, .nil]
abbrev spaceL : List V := [iV 1, iV 0, .nil]

def askedR (G : Graph) (m : Int) : Int := if decide (checkE G ≠ 0) then checkE G else if decide (m = 1) then 0 else if decide (m = 2) then 0 else if decide (m = 3) then 0 else 1

theorem asked (G : Graph) (m : Int) (h1 : G.steps.length ≤ 1000000000) (h2 : G.points.length ≤ 1000000000) (h3 : G.sinks.length ≤ 1000000000) : FnC Try.prog 26 [graphV G, iV m] (fun r => r = iV (askedR G m)) := by
  refine FnC.of (fn := Try.f26) ⟨Try.func26, by kernel_rfl, rfl⟩ Try.ntmps26 (by simp) fun w0 S0 => ?_
  refine p_seq (p_region fun hf => ?_)
  refine p_box (by decide) (by repeat (first | exact hf _ | with_reducible rfl | rw [updO_off (by decide)])) (by simp (decide := true) only [evE, upd, updO, cv, args0, List.getElem?_cons_zero, List.getElem?_cons_succ, Option.getD_some, List.length_map, ↓reduceIte] <;> rfl) (by first | exact .inl rfl | exact .inr ⟨_, rfl⟩) rfl ?_
  refine p_assign (by decide) (by simp (decide := true) only [evE, upd, updO, cv, args0, List.getElem?_cons_zero, List.getElem?_cons_succ, Option.getD_some, List.length_map, ↓reduceIte] <;> rfl) ?_
  refine p_end ?_; (repeat (first | with_reducible refine Tr.then_normal ?_ | with_reducible refine Tr.block_normal ?_ | with_reducible refine Tr.then_exit ?_ | with_reducible refine Tr.block_exit_same ?_ | with_reducible refine Tr.block_exit_other (by decide) ?_ | with_reducible refine Tr.then_ret ?_ | with_reducible refine Tr.block_ret ?_))
  refine p_seq ?_
  refine p_seq (p_region fun hf => ?_)
  (first | refine p_loadA (by decide) F.agg29 F.ti29 (by simp (decide := true) only [evE, upd, updO, cv, args0, List.getElem?_cons_zero, List.getElem?_cons_succ, Option.getD_some, List.length_map, ↓reduceIte] <;> rfl) (by simp (decide := true) only [updO, upd, true_and, and_true, false_and, and_false, ↓reduceIte] <;> first | rfl | assumption) (by simp only [V.cells, List.drop_zero, List.drop_succ_cons, List.take_succ_cons, List.take_zero, List.take_nil] <;> rfl) rfl ?_ | refine p_loadRefA (by decide) F.agg29 F.ti29 (by simp (decide := true) only [evE, upd, updO, cv, args0, List.getElem?_cons_zero, List.getElem?_cons_succ, Option.getD_some, List.length_map, ↓reduceIte] <;> rfl) (by simp only [V.cells, List.drop_zero, List.drop_succ_cons, List.take_succ_cons, List.take_zero, List.take_nil] <;> rfl) rfl ?_)
  refine p_call (by decide) rfl ⟨Try.func29, by kernel_rfl, rfl⟩ (by simp (decide := true) only [List.map_cons, List.map_nil, List.cons_append, List.nil_append, List.append_nil, evE, upd, updO, cv, args0, List.getElem?_cons_zero, List.getElem?_cons_succ, Option.getD_some, List.length_map, ↓reduceIte] <;> rfl) rfl (check G h1 h2 h3) ?_
  refine p_assign (by decide) (by simp (decide := true) only [evE, upd, updO, cv, args0, List.getElem?_cons_zero, List.getElem?_cons_succ, Option.getD_some, List.length_map, ↓reduceIte] <;> rfl) ?_
  refine p_end ?_; (repeat (first | with_reducible refine Tr.then_normal ?_ | with_reducible refine Tr.block_normal ?_ | with_reducible refine Tr.then_exit ?_ | with_reducible refine Tr.block_exit_same ?_ | with_reducible refine Tr.block_exit_other (by decide) ?_ | with_reducible refine Tr.then_ret ?_ | with_reducible refine Tr.block_ret ?_))
  refine p_seq (p_region fun hf => ?_)
  refine p_move (by decide) (by simp (decide := true) only [evE, upd, updO, cv, args0, List.getElem?_cons_zero, List.getElem?_cons_succ, Option.getD_some, List.length_map, ↓reduceIte] <;> rfl) ?_
  refine p_num (by decide) (by simp (decide := true) only [evE, upd, updO, cv, args0, List.getElem?_cons_zero, List.getElem?_cons_succ, Option.getD_some, List.length_map, ↓reduceIte] <;> rfl) (by simp (decide := true) only [evE, upd, updO, cv, args0, List.getElem?_cons_zero, List.getElem?_cons_succ, Option.getD_some, List.length_map, ↓reduceIte] <;> rfl) rfl ?_
  refine p_end ?_; (repeat (first | with_reducible refine Tr.then_normal ?_ | with_reducible refine Tr.block_normal ?_ | with_reducible refine Tr.then_exit ?_ | with_reducible refine Tr.block_exit_same ?_ | with_reducible refine Tr.block_exit_other (by decide) ?_ | with_reducible refine Tr.then_ret ?_ | with_reducible refine Tr.block_ret ?_))
  refine p_splitC (s := 9) (by simp (decide := true) only [evE, upd, updO, cv, args0, List.getElem?_cons_zero, List.getElem?_cons_succ, Option.getD_some, List.length_map, ↓reduceIte] <;> rfl) (fun hc9 => ?_) (fun hc9 => ?_)
  · refine p_condT (by simp (decide := true) only [evE, upd, updO, cv, args0, List.getElem?_cons_zero, List.getElem?_cons_succ, Option.getD_some, List.length_map, ↓reduceIte] <;> rfl) ?_
    refine p_seq (p_region fun hf => ?_)
    refine p_move (by decide) (by simp (decide := true) only [evE, upd, updO, cv, args0, List.getElem?_cons_zero, List.getElem?_cons_succ, Option.getD_some, List.length_map, ↓reduceIte] <;> rfl) ?_
    refine p_assign (by decide) (by simp (decide := true) only [evE, upd, updO, cv, args0, List.getElem?_cons_zero, List.getElem?_cons_succ, Option.getD_some, List.length_map, ↓reduceIte] <;> rfl) ?_
    refine p_end ?_; (repeat (first | with_reducible refine Tr.then_normal ?_ | with_reducible refine Tr.block_normal ?_ | with_reducible refine Tr.then_exit ?_ | with_reducible refine Tr.block_exit_same ?_ | with_reducible refine Tr.block_exit_other (by decide) ?_ | with_reducible refine Tr.then_ret ?_ | with_reducible refine Tr.block_ret ?_))
    refine TrC.ret ?_
    refine Tr.ret1 rfl ⟨(by simp (decide := true) only [evE, upd, updO, cv, args0, List.getElem?_cons_zero, List.getElem?_cons_succ, Option.getD_some, List.length_map, ↓reduceIte] <;> rfl), rfl⟩ (by simp only [askedR, hc9, ↓reduceIte, Bool.false_eq_true]) (by intro l h; cases h)
  · refine p_condF (by simp (decide := true) only [evE, upd, updO, cv, args0, List.getElem?_cons_zero, List.getElem?_cons_succ, Option.getD_some, List.length_map, ↓reduceIte] <;> rfl) ?_
    refine TrC.skip ?_; (repeat (first | with_reducible refine Tr.then_normal ?_ | with_reducible refine Tr.block_normal ?_ | with_reducible refine Tr.then_exit ?_ | with_reducible refine Tr.block_exit_same ?_ | with_reducible refine Tr.block_exit_other (by decide) ?_ | with_reducible refine Tr.then_ret ?_ | with_reducible refine Tr.block_ret ?_))
    refine p_seq ?_
    refine p_seq (p_region fun hf => ?_)
    refine p_move (by decide) (by simp (decide := true) only [evE, upd, updO, cv, args0, List.getElem?_cons_zero, List.getElem?_cons_succ, Option.getD_some, List.length_map, ↓reduceIte] <;> rfl) ?_
    refine p_end ?_; (repeat (first | with_reducible refine Tr.then_normal ?_ | with_reducible refine Tr.block_normal ?_ | with_reducible refine Tr.then_exit ?_ | with_reducible refine Tr.block_exit_same ?_ | with_reducible refine Tr.block_exit_other (by decide) ?_ | with_reducible refine Tr.then_ret ?_ | with_reducible refine Tr.block_ret ?_))
    refine TrC.block ?_
    refine p_seq ?_
    refine TrC.block ?_
    refine TrC.block ?_
    refine TrC.block ?_
    refine p_seq ?_
    refine p_seq ?_
    refine p_seq (p_region fun hf => ?_)
    refine p_num (by decide) (by simp (decide := true) only [evE, upd, updO, cv, args0, List.getElem?_cons_zero, List.getElem?_cons_succ, Option.getD_some, List.length_map, ↓reduceIte] <;> rfl) (by simp (decide := true) only [evE, upd, updO, cv, args0, List.getElem?_cons_zero, List.getElem?_cons_succ, Option.getD_some, List.length_map, ↓reduceIte] <;> rfl) rfl ?_
    refine p_assign (by decide) (by simp (decide := true) only [evE, upd, updO, cv, args0, List.getElem?_cons_zero, List.getElem?_cons_succ, Option.getD_some, List.length_map, ↓reduceIte] <;> rfl) ?_
    refine p_end ?_; (repeat (first | with_reducible refine Tr.then_normal ?_ | with_reducible refine Tr.block_normal ?_ | with_reducible refine Tr.then_exit ?_ | with_reducible refine Tr.block_exit_same ?_ | with_reducible refine Tr.block_exit_other (by decide) ?_ | with_reducible refine Tr.then_ret ?_ | with_reducible refine Tr.block_ret ?_))
    refine p_splitC (s := 12) (by simp (decide := true) only [evE, upd, updO, cv, args0, List.getElem?_cons_zero, List.getElem?_cons_succ, Option.getD_some, List.length_map, ↓reduceIte] <;> rfl) (fun hc12 => ?_) (fun hc12 => ?_)
    · refine p_condT (by simp (decide := true) only [evE, upd, updO, cv, args0, List.getElem?_cons_zero, List.getElem?_cons_succ, Option.getD_some, List.length_map, ↓reduceIte] <;> rfl) ?_
      refine TrC.exit ?_; (repeat (first | with_reducible refine Tr.then_normal ?_ | with_reducible refine Tr.block_normal ?_ | with_reducible refine Tr.then_exit ?_ | with_reducible refine Tr.block_exit_same ?_ | with_reducible refine Tr.block_exit_other (by decide) ?_ | with_reducible refine Tr.then_ret ?_ | with_reducible refine Tr.block_ret ?_))
      refine p_seq ?_
      refine p_seq (p_region fun hf => ?_)
      refine p_assign (by decide) (by simp (decide := true) only [evE, upd, updO, cv, args0, List.getElem?_cons_zero, List.getElem?_cons_succ, Option.getD_some, List.length_map, ↓reduceIte] <;> rfl) ?_
      refine p_end ?_; (repeat (first | with_reducible refine Tr.then_normal ?_ | with_reducible refine Tr.block_normal ?_ | with_reducible refine Tr.then_exit ?_ | with_reducible refine Tr.block_exit_same ?_ | with_reducible refine Tr.block_exit_other (by decide) ?_ | with_reducible refine Tr.then_ret ?_ | with_reducible refine Tr.block_ret ?_))
      refine TrC.ret ?_
      refine Tr.ret1 rfl ⟨(by simp (decide := true) only [evE, upd, updO, cv, args0, List.getElem?_cons_zero, List.getElem?_cons_succ, Option.getD_some, List.length_map, ↓reduceIte] <;> rfl), rfl⟩ (by simp only [askedR, hc9, hc12, ↓reduceIte, Bool.false_eq_true]) (by intro l h; cases h)
    · refine p_condF (by simp (decide := true) only [evE, upd, updO, cv, args0, List.getElem?_cons_zero, List.getElem?_cons_succ, Option.getD_some, List.length_map, ↓reduceIte] <;> rfl) ?_
      refine TrC.skip ?_; (repeat (first | with_reducible refine Tr.then_normal ?_ | with_reducible refine Tr.block_normal ?_ | with_reducible refine Tr.then_exit ?_ | with_reducible refine Tr.block_exit_same ?_ | with_reducible refine Tr.block_exit_other (by decide) ?_ | with_reducible refine Tr.then_ret ?_ | with_reducible refine Tr.block_ret ?_))
      refine p_seq ?_
      refine p_seq (p_region fun hf => ?_)
      refine p_num (by decide) (by simp (decide := true) only [evE, upd, updO, cv, args0, List.getElem?_cons_zero, List.getElem?_cons_succ, Option.getD_some, List.length_map, ↓reduceIte] <;> rfl) (by simp (decide := true) only [evE, upd, updO, cv, args0, List.getElem?_cons_zero, List.getElem?_cons_succ, Option.getD_some, List.length_map, ↓reduceIte] <;> rfl) rfl ?_
      refine p_assign (by decide) (by simp (decide := true) only [evE, upd, updO, cv, args0, List.getElem?_cons_zero, List.getElem?_cons_succ, Option.getD_some, List.length_map, ↓reduceIte] <;> rfl) ?_
      refine p_end ?_; (repeat (first | with_reducible refine Tr.then_normal ?_ | with_reducible refine Tr.block_normal ?_ | with_reducible refine Tr.then_exit ?_ | with_reducible refine Tr.block_exit_same ?_ | with_reducible refine Tr.block_exit_other (by decide) ?_ | with_reducible refine Tr.then_ret ?_ | with_reducible refine Tr.block_ret ?_))
      refine p_splitC (s := 14) (by simp (decide := true) only [evE, upd, updO, cv, args0, List.getElem?_cons_zero, List.getElem?_cons_succ, Option.getD_some, List.length_map, ↓reduceIte] <;> rfl) (fun hc14 => ?_) (fun hc14 => ?_)
      · refine p_condT (by simp (decide := true) only [evE, upd, updO, cv, args0, List.getElem?_cons_zero, List.getElem?_cons_succ, Option.getD_some, List.length_map, ↓reduceIte] <;> rfl) ?_
        refine TrC.exit ?_; (repeat (first | with_reducible refine Tr.then_normal ?_ | with_reducible refine Tr.block_normal ?_ | with_reducible refine Tr.then_exit ?_ | with_reducible refine Tr.block_exit_same ?_ | with_reducible refine Tr.block_exit_other (by decide) ?_ | with_reducible refine Tr.then_ret ?_ | with_reducible refine Tr.block_ret ?_))
        refine p_seq ?_
        refine p_seq (p_region fun hf => ?_)
        refine p_assign (by decide) (by simp (decide := true) only [evE, upd, updO, cv, args0, List.getElem?_cons_zero, List.getElem?_cons_succ, Option.getD_some, List.length_map, ↓reduceIte] <;> rfl) ?_
        refine p_end ?_; (repeat (first | with_reducible refine Tr.then_normal ?_ | with_reducible refine Tr.block_normal ?_ | with_reducible refine Tr.then_exit ?_ | with_reducible refine Tr.block_exit_same ?_ | with_reducible refine Tr.block_exit_other (by decide) ?_ | with_reducible refine Tr.then_ret ?_ | with_reducible refine Tr.block_ret ?_))
        refine TrC.ret ?_
        refine Tr.ret1 rfl ⟨(by simp (decide := true) only [evE, upd, updO, cv, args0, List.getElem?_cons_zero, List.getElem?_cons_succ, Option.getD_some, List.length_map, ↓reduceIte] <;> rfl), rfl⟩ (by simp only [askedR, hc9, hc12, hc14, ↓reduceIte, Bool.false_eq_true]) (by intro l h; cases h)
      · refine p_condF (by simp (decide := true) only [evE, upd, updO, cv, args0, List.getElem?_cons_zero, List.getElem?_cons_succ, Option.getD_some, List.length_map, ↓reduceIte] <;> rfl) ?_
        refine TrC.skip ?_; (repeat (first | with_reducible refine Tr.then_normal ?_ | with_reducible refine Tr.block_normal ?_ | with_reducible refine Tr.then_exit ?_ | with_reducible refine Tr.block_exit_same ?_ | with_reducible refine Tr.block_exit_other (by decide) ?_ | with_reducible refine Tr.then_ret ?_ | with_reducible refine Tr.block_ret ?_))
        refine p_seq (p_region fun hf => ?_)
        refine p_num (by decide) (by simp (decide := true) only [evE, upd, updO, cv, args0, List.getElem?_cons_zero, List.getElem?_cons_succ, Option.getD_some, List.length_map, ↓reduceIte] <;> rfl) (by simp (decide := true) only [evE, upd, updO, cv, args0, List.getElem?_cons_zero, List.getElem?_cons_succ, Option.getD_some, List.length_map, ↓reduceIte] <;> rfl) rfl ?_
        refine p_assign (by decide) (by simp (decide := true) only [evE, upd, updO, cv, args0, List.getElem?_cons_zero, List.getElem?_cons_succ, Option.getD_some, List.length_map, ↓reduceIte] <;> rfl) ?_
        refine p_end ?_; (repeat (first | with_reducible refine Tr.then_normal ?_ | with_reducible refine Tr.block_normal ?_ | with_reducible refine Tr.then_exit ?_ | with_reducible refine Tr.block_exit_same ?_ | with_reducible refine Tr.block_exit_other (by decide) ?_ | with_reducible refine Tr.then_ret ?_ | with_reducible refine Tr.block_ret ?_))
        refine p_splitC (s := 16) (by simp (decide := true) only [evE, upd, updO, cv, args0, List.getElem?_cons_zero, List.getElem?_cons_succ, Option.getD_some, List.length_map, ↓reduceIte] <;> rfl) (fun hc16 => ?_) (fun hc16 => ?_)
        · refine p_condT (by simp (decide := true) only [evE, upd, updO, cv, args0, List.getElem?_cons_zero, List.getElem?_cons_succ, Option.getD_some, List.length_map, ↓reduceIte] <;> rfl) ?_
          refine TrC.exit ?_; (repeat (first | with_reducible refine Tr.then_normal ?_ | with_reducible refine Tr.block_normal ?_ | with_reducible refine Tr.then_exit ?_ | with_reducible refine Tr.block_exit_same ?_ | with_reducible refine Tr.block_exit_other (by decide) ?_ | with_reducible refine Tr.then_ret ?_ | with_reducible refine Tr.block_ret ?_))
          refine p_seq ?_
          refine p_seq (p_region fun hf => ?_)
          refine p_assign (by decide) (by simp (decide := true) only [evE, upd, updO, cv, args0, List.getElem?_cons_zero, List.getElem?_cons_succ, Option.getD_some, List.length_map, ↓reduceIte] <;> rfl) ?_
          refine p_end ?_; (repeat (first | with_reducible refine Tr.then_normal ?_ | with_reducible refine Tr.block_normal ?_ | with_reducible refine Tr.then_exit ?_ | with_reducible refine Tr.block_exit_same ?_ | with_reducible refine Tr.block_exit_other (by decide) ?_ | with_reducible refine Tr.then_ret ?_ | with_reducible refine Tr.block_ret ?_))
          refine TrC.ret ?_
          refine Tr.ret1 rfl ⟨(by simp (decide := true) only [evE, upd, updO, cv, args0, List.getElem?_cons_zero, List.getElem?_cons_succ, Option.getD_some, List.length_map, ↓reduceIte] <;> rfl), rfl⟩ (by simp only [askedR, hc9, hc12, hc14, hc16, ↓reduceIte, Bool.false_eq_true]) (by intro l h; cases h)
        · refine p_condF (by simp (decide := true) only [evE, upd, updO, cv, args0, List.getElem?_cons_zero, List.getElem?_cons_succ, Option.getD_some, List.length_map, ↓reduceIte] <;> rfl) ?_
          refine TrC.skip ?_; (repeat (first | with_reducible refine Tr.then_normal ?_ | with_reducible refine Tr.block_normal ?_ | with_reducible refine Tr.then_exit ?_ | with_reducible refine Tr.block_exit_same ?_ | with_reducible refine Tr.block_exit_other (by decide) ?_ | with_reducible refine Tr.then_ret ?_ | with_reducible refine Tr.block_ret ?_))
          refine TrC.exit ?_; (repeat (first | with_reducible refine Tr.then_normal ?_ | with_reducible refine Tr.block_normal ?_ | with_reducible refine Tr.then_exit ?_ | with_reducible refine Tr.block_exit_same ?_ | with_reducible refine Tr.block_exit_other (by decide) ?_ | with_reducible refine Tr.then_ret ?_ | with_reducible refine Tr.block_ret ?_))
          refine p_seq (p_region fun hf => ?_)
          refine p_assign (by decide) (by simp (decide := true) only [evE, upd, updO, cv, args0, List.getElem?_cons_zero, List.getElem?_cons_succ, Option.getD_some, List.length_map, ↓reduceIte] <;> rfl) ?_
          refine p_end ?_; (repeat (first | with_reducible refine Tr.then_normal ?_ | with_reducible refine Tr.block_normal ?_ | with_reducible refine Tr.then_exit ?_ | with_reducible refine Tr.block_exit_same ?_ | with_reducible refine Tr.block_exit_other (by decide) ?_ | with_reducible refine Tr.then_ret ?_ | with_reducible refine Tr.block_ret ?_))
          refine TrC.ret ?_
          refine Tr.ret1 rfl ⟨(by simp (decide := true) only [evE, upd, updO, cv, args0, List.getElem?_cons_zero, List.getElem?_cons_succ, Option.getD_some, List.length_map, ↓reduceIte] <;> rfl), rfl⟩ (by simp only [askedR, hc9, hc12, hc14, hc16, ↓reduceIte, Bool.false_eq_true]) (by intro l h; cases h)

theorem space1 (G : Graph) : FnC Try.prog 27 [graphV G, iV 1] (fun r => r = .agg spaceL) := by
  refine FnC.of (fn := Try.f27) ⟨Try.func27, by kernel_rfl, rfl⟩ Try.ntmps27 (by simp) fun w0 S0 => ?_
  refine p_seq (p_region fun hf => ?_)
  refine p_box (by decide) (by repeat (first | exact hf _ | with_reducible rfl | rw [updO_off (by decide)])) (by simp (decide := true) only [evE, upd, updO, cv, args0, List.getElem?_cons_zero, List.getElem?_cons_succ, Option.getD_some, List.length_map, ↓reduceIte] <;> rfl) (by first | exact .inl rfl | exact .inr ⟨_, rfl⟩) rfl ?_
  refine p_alloc (by decide) (by repeat (first | exact hf _ | with_reducible rfl | rw [updO_off (by decide)])) F.ti35 (by simp [Value.cells, cv] <;> rfl) ?_
  refine p_end ?_; (repeat (first | with_reducible refine Tr.then_normal ?_ | with_reducible refine Tr.block_normal ?_ | with_reducible refine Tr.then_exit ?_ | with_reducible refine Tr.block_exit_same ?_ | with_reducible refine Tr.block_exit_other (by decide) ?_ | with_reducible refine Tr.then_ret ?_ | with_reducible refine Tr.block_ret ?_))
  refine p_seq (p_region fun hf => ?_)
  (first | refine p_fieldPtr (by decide) F.fld29_0 (by simp (decide := true) only [evE, upd, updO, cv, args0, List.getElem?_cons_zero, List.getElem?_cons_succ, Option.getD_some, List.length_map, ↓reduceIte] <;> rfl) ?_ | refine p_fieldRef (by decide) F.fld29_0 (by simp (decide := true) only [evE, upd, updO, cv, args0, List.getElem?_cons_zero, List.getElem?_cons_succ, Option.getD_some, List.length_map, ↓reduceIte] <;> rfl) (by simp only [V.cells, List.drop_zero, List.drop_succ_cons, List.drop_nil] <;> rfl) ?_ | refine p_fieldRow (by decide) F.fld29_0 (by simp (decide := true) only [evE, upd, updO, cv, args0, List.getElem?_cons_zero, List.getElem?_cons_succ, Option.getD_some, List.length_map, ↓reduceIte] <;> rfl) ?_)
  (first | refine p_load (by decide) F.leaf22 (by simp (decide := true) only [evE, upd, updO, cv, args0, List.getElem?_cons_zero, List.getElem?_cons_succ, Option.getD_some, List.length_map, ↓reduceIte] <;> rfl) (by simp (decide := true) only [updO, upd, true_and, and_true, false_and, and_false, ↓reduceIte] <;> first | rfl | assumption) rfl ?_ | refine p_loadRef (by decide) F.leaf22 (by simp (decide := true) only [evE, upd, updO, cv, args0, List.getElem?_cons_zero, List.getElem?_cons_succ, Option.getD_some, List.length_map, ↓reduceIte] <;> rfl) rfl ?_)
  refine p_len (by decide) Try.underlying22 (by simp (decide := true) only [evE, upd, updO, cv, args0, List.getElem?_cons_zero, List.getElem?_cons_succ, Option.getD_some, List.length_map, ↓reduceIte] <;> rfl) rfl (by intro s h; cases h) ?_
  refine p_assign (by decide) (by simp (decide := true) only [evE, upd, updO, cv, args0, List.getElem?_cons_zero, List.getElem?_cons_succ, Option.getD_some, List.length_map, ↓reduceIte] <;> rfl) ?_
  refine p_end ?_; (repeat (first | with_reducible refine Tr.then_normal ?_ | with_reducible refine Tr.block_normal ?_ | with_reducible refine Tr.then_exit ?_ | with_reducible refine Tr.block_exit_same ?_ | with_reducible refine Tr.block_exit_other (by decide) ?_ | with_reducible refine Tr.then_ret ?_ | with_reducible refine Tr.block_ret ?_))
  refine p_seq ?_
  refine p_seq (p_region fun hf => ?_)
  refine p_move (by decide) (by simp (decide := true) only [evE, upd, updO, cv, args0, List.getElem?_cons_zero, List.getElem?_cons_succ, Option.getD_some, List.length_map, ↓reduceIte] <;> rfl) ?_
  refine p_end ?_; (repeat (first | with_reducible refine Tr.then_normal ?_ | with_reducible refine Tr.block_normal ?_ | with_reducible refine Tr.then_exit ?_ | with_reducible refine Tr.block_exit_same ?_ | with_reducible refine Tr.block_exit_other (by decide) ?_ | with_reducible refine Tr.then_ret ?_ | with_reducible refine Tr.block_ret ?_))
  refine TrC.block ?_
  refine p_seq (p_region fun hf => ?_)
  refine p_num (by decide) (by simp (decide := true) only [evE, upd, updO, cv, args0, List.getElem?_cons_zero, List.getElem?_cons_succ, Option.getD_some, List.length_map, ↓reduceIte] <;> rfl) (by simp (decide := true) only [evE, upd, updO, cv, args0, List.getElem?_cons_zero, List.getElem?_cons_succ, Option.getD_some, List.length_map, ↓reduceIte] <;> rfl) rfl ?_
  refine p_assign (by decide) (by simp (decide := true) only [evE, upd, updO, cv, args0, List.getElem?_cons_zero, List.getElem?_cons_succ, Option.getD_some, List.length_map, ↓reduceIte] <;> rfl) ?_
  refine p_end ?_; (repeat (first | with_reducible refine Tr.then_normal ?_ | with_reducible refine Tr.block_normal ?_ | with_reducible refine Tr.then_exit ?_ | with_reducible refine Tr.block_exit_same ?_ | with_reducible refine Tr.block_exit_other (by decide) ?_ | with_reducible refine Tr.then_ret ?_ | with_reducible refine Tr.block_ret ?_))
  refine p_splitC (s := 10) (by simp (decide := true) only [evE, upd, updO, cv, args0, List.getElem?_cons_zero, List.getElem?_cons_succ, Option.getD_some, List.length_map, ↓reduceIte] <;> rfl) (fun hc10 => ?_) (fun hc10 => ?_)
  · exact absurd hc10 (by decide)
  · refine p_condF (by simp (decide := true) only [evE, upd, updO, cv, args0, List.getElem?_cons_zero, List.getElem?_cons_succ, Option.getD_some, List.length_map, ↓reduceIte] <;> rfl) ?_
    refine p_seq (p_region fun hf => ?_)
    refine p_num (by decide) (by simp (decide := true) only [evE, upd, updO, cv, args0, List.getElem?_cons_zero, List.getElem?_cons_succ, Option.getD_some, List.length_map, ↓reduceIte] <;> rfl) (by simp (decide := true) only [evE, upd, updO, cv, args0, List.getElem?_cons_zero, List.getElem?_cons_succ, Option.getD_some, List.length_map, ↓reduceIte] <;> rfl) rfl ?_
    refine p_assign (by decide) (by simp (decide := true) only [evE, upd, updO, cv, args0, List.getElem?_cons_zero, List.getElem?_cons_succ, Option.getD_some, List.length_map, ↓reduceIte] <;> rfl) ?_
    refine p_end ?_; (repeat (first | with_reducible refine Tr.then_normal ?_ | with_reducible refine Tr.block_normal ?_ | with_reducible refine Tr.then_exit ?_ | with_reducible refine Tr.block_exit_same ?_ | with_reducible refine Tr.block_exit_other (by decide) ?_ | with_reducible refine Tr.then_ret ?_ | with_reducible refine Tr.block_ret ?_))
    refine p_splitC (s := 17) (by simp (decide := true) only [evE, upd, updO, cv, args0, List.getElem?_cons_zero, List.getElem?_cons_succ, Option.getD_some, List.length_map, ↓reduceIte] <;> rfl) (fun hc17 => ?_) (fun hc17 => ?_)
    · exact absurd hc17 (by decide)
    · refine p_condF (by simp (decide := true) only [evE, upd, updO, cv, args0, List.getElem?_cons_zero, List.getElem?_cons_succ, Option.getD_some, List.length_map, ↓reduceIte] <;> rfl) ?_
      refine TrC.skip ?_; (repeat (first | with_reducible refine Tr.then_normal ?_ | with_reducible refine Tr.block_normal ?_ | with_reducible refine Tr.then_exit ?_ | with_reducible refine Tr.block_exit_same ?_ | with_reducible refine Tr.block_exit_other (by decide) ?_ | with_reducible refine Tr.then_ret ?_ | with_reducible refine Tr.block_ret ?_))
      refine p_seq (p_region fun hf => ?_)
      refine p_build (by decide) F.ti35 F.pl35 (by simp (decide := true) only [List.map_cons, List.map_nil, List.cons_append, List.nil_append, List.append_nil, evE, upd, updO, cv, args0, List.getElem?_cons_zero, List.getElem?_cons_succ, Option.getD_some, List.length_map, ↓reduceIte] <;> rfl) (by simp only [List.forall_mem_cons, List.not_mem_nil, false_implies, implies_true, and_true] <;> and_intros <;> first | exact .inl rfl | exact .inr ⟨_, rfl⟩) (by simp [fillV, splice, V.cells, Value.cells, cv] <;> rfl) ?_
      refine p_storeAll F.ti35 (by simp (decide := true) only [evE, upd, updO, cv, args0, List.getElem?_cons_zero, List.getElem?_cons_succ, Option.getD_some, List.length_map, ↓reduceIte] <;> rfl) (by simp (decide := true) only [updO, upd, true_and, and_true, false_and, and_false, ↓reduceIte] <;> first | rfl | assumption) (by simp (decide := true) only [evE, upd, updO, cv, args0, List.getElem?_cons_zero, List.getElem?_cons_succ, Option.getD_some, List.length_map, ↓reduceIte] <;> rfl) rfl rfl rfl ?_
      refine p_end ?_; (repeat (first | with_reducible refine Tr.then_normal ?_ | with_reducible refine Tr.block_normal ?_ | with_reducible refine Tr.then_exit ?_ | with_reducible refine Tr.block_exit_same ?_ | with_reducible refine Tr.block_exit_other (by decide) ?_ | with_reducible refine Tr.then_ret ?_ | with_reducible refine Tr.block_ret ?_))
      refine TrC.ret ?_
      refine Tr.ret1 rfl (res_cell (by simp (decide := true) only [evE, upd, updO, cv, args0, List.getElem?_cons_zero, List.getElem?_cons_succ, Option.getD_some, List.length_map, ↓reduceIte] <;> rfl) (by simp (decide := true) only [updO, upd, true_and, and_true, false_and, and_false, ↓reduceIte] <;> first | rfl | assumption) F.agg35 F.ti35 rfl rfl) rfl (by intro l h; cases h)

theorem worth1 (G : Graph) (s : Step) : FnC Try.prog 28 [graphV G, iV 1, stepV s] (fun r => r = .agg weightL) := by
  refine FnC.of (fn := Try.f28) ⟨Try.func28, by kernel_rfl, rfl⟩ Try.ntmps28 (by simp) fun w0 S0 => ?_
  refine p_seq (p_region fun hf => ?_)
  refine p_box (by decide) (by repeat (first | exact hf _ | with_reducible rfl | rw [updO_off (by decide)])) (by simp (decide := true) only [evE, upd, updO, cv, args0, List.getElem?_cons_zero, List.getElem?_cons_succ, Option.getD_some, List.length_map, ↓reduceIte] <;> rfl) (by first | exact .inl rfl | exact .inr ⟨_, rfl⟩) rfl ?_
  refine p_box (by decide) (by repeat (first | exact hf _ | with_reducible rfl | rw [updO_off (by decide)])) (by simp (decide := true) only [evE, upd, updO, cv, args0, List.getElem?_cons_zero, List.getElem?_cons_succ, Option.getD_some, List.length_map, ↓reduceIte] <;> rfl) (by first | exact .inl rfl | exact .inr ⟨_, rfl⟩) rfl ?_
  refine p_alloc (by decide) (by repeat (first | exact hf _ | with_reducible rfl | rw [updO_off (by decide)])) F.ti81 (by simp [Value.cells, cv] <;> rfl) ?_
  refine p_end ?_; (repeat (first | with_reducible refine Tr.then_normal ?_ | with_reducible refine Tr.block_normal ?_ | with_reducible refine Tr.then_exit ?_ | with_reducible refine Tr.block_exit_same ?_ | with_reducible refine Tr.block_exit_other (by decide) ?_ | with_reducible refine Tr.then_ret ?_ | with_reducible refine Tr.block_ret ?_))
  refine p_seq ?_
  refine p_seq (p_region fun hf => ?_)
  refine p_move (by decide) (by simp (decide := true) only [evE, upd, updO, cv, args0, List.getElem?_cons_zero, List.getElem?_cons_succ, Option.getD_some, List.length_map, ↓reduceIte] <;> rfl) ?_
  refine p_end ?_; (repeat (first | with_reducible refine Tr.then_normal ?_ | with_reducible refine Tr.block_normal ?_ | with_reducible refine Tr.then_exit ?_ | with_reducible refine Tr.block_exit_same ?_ | with_reducible refine Tr.block_exit_other (by decide) ?_ | with_reducible refine Tr.then_ret ?_ | with_reducible refine Tr.block_ret ?_))
  refine TrC.block ?_
  refine p_seq (p_region fun hf => ?_)
  refine p_num (by decide) (by simp (decide := true) only [evE, upd, updO, cv, args0, List.getElem?_cons_zero, List.getElem?_cons_succ, Option.getD_some, List.length_map, ↓reduceIte] <;> rfl) (by simp (decide := true) only [evE, upd, updO, cv, args0, List.getElem?_cons_zero, List.getElem?_cons_succ, Option.getD_some, List.length_map, ↓reduceIte] <;> rfl) rfl ?_
  refine p_assign (by decide) (by simp (decide := true) only [evE, upd, updO, cv, args0, List.getElem?_cons_zero, List.getElem?_cons_succ, Option.getD_some, List.length_map, ↓reduceIte] <;> rfl) ?_
  refine p_end ?_; (repeat (first | with_reducible refine Tr.then_normal ?_ | with_reducible refine Tr.block_normal ?_ | with_reducible refine Tr.then_exit ?_ | with_reducible refine Tr.block_exit_same ?_ | with_reducible refine Tr.block_exit_other (by decide) ?_ | with_reducible refine Tr.then_ret ?_ | with_reducible refine Tr.block_ret ?_))
  refine p_splitC (s := 8) (by simp (decide := true) only [evE, upd, updO, cv, args0, List.getElem?_cons_zero, List.getElem?_cons_succ, Option.getD_some, List.length_map, ↓reduceIte] <;> rfl) (fun hc8 => ?_) (fun hc8 => ?_)
  · exact absurd hc8 (by decide)
  · refine p_condF (by simp (decide := true) only [evE, upd, updO, cv, args0, List.getElem?_cons_zero, List.getElem?_cons_succ, Option.getD_some, List.length_map, ↓reduceIte] <;> rfl) ?_
    refine p_seq (p_region fun hf => ?_)
    refine p_num (by decide) (by simp (decide := true) only [evE, upd, updO, cv, args0, List.getElem?_cons_zero, List.getElem?_cons_succ, Option.getD_some, List.length_map, ↓reduceIte] <;> rfl) (by simp (decide := true) only [evE, upd, updO, cv, args0, List.getElem?_cons_zero, List.getElem?_cons_succ, Option.getD_some, List.length_map, ↓reduceIte] <;> rfl) rfl ?_
    refine p_assign (by decide) (by simp (decide := true) only [evE, upd, updO, cv, args0, List.getElem?_cons_zero, List.getElem?_cons_succ, Option.getD_some, List.length_map, ↓reduceIte] <;> rfl) ?_
    refine p_end ?_; (repeat (first | with_reducible refine Tr.then_normal ?_ | with_reducible refine Tr.block_normal ?_ | with_reducible refine Tr.then_exit ?_ | with_reducible refine Tr.block_exit_same ?_ | with_reducible refine Tr.block_exit_other (by decide) ?_ | with_reducible refine Tr.then_ret ?_ | with_reducible refine Tr.block_ret ?_))
    refine p_splitC (s := 19) (by simp (decide := true) only [evE, upd, updO, cv, args0, List.getElem?_cons_zero, List.getElem?_cons_succ, Option.getD_some, List.length_map, ↓reduceIte] <;> rfl) (fun hc19 => ?_) (fun hc19 => ?_)
    · exact absurd hc19 (by decide)
    · refine p_condF (by simp (decide := true) only [evE, upd, updO, cv, args0, List.getElem?_cons_zero, List.getElem?_cons_succ, Option.getD_some, List.length_map, ↓reduceIte] <;> rfl) ?_
      refine TrC.skip ?_; (repeat (first | with_reducible refine Tr.then_normal ?_ | with_reducible refine Tr.block_normal ?_ | with_reducible refine Tr.then_exit ?_ | with_reducible refine Tr.block_exit_same ?_ | with_reducible refine Tr.block_exit_other (by decide) ?_ | with_reducible refine Tr.then_ret ?_ | with_reducible refine Tr.block_ret ?_))
      refine p_seq (p_region fun hf => ?_)
      refine p_build (by decide) F.ti81 F.pl81 (by simp (decide := true) only [List.map_cons, List.map_nil, List.cons_append, List.nil_append, List.append_nil, evE, upd, updO, cv, args0, List.getElem?_cons_zero, List.getElem?_cons_succ, Option.getD_some, List.length_map, ↓reduceIte] <;> rfl) (by simp only [List.forall_mem_cons, List.not_mem_nil, false_implies, implies_true, and_true] <;> and_intros <;> first | exact .inl rfl | exact .inr ⟨_, rfl⟩) (by simp [fillV, splice, V.cells, Value.cells, cv] <;> rfl) ?_
      refine p_storeAll F.ti81 (by simp (decide := true) only [evE, upd, updO, cv, args0, List.getElem?_cons_zero, List.getElem?_cons_succ, Option.getD_some, List.length_map, ↓reduceIte] <;> rfl) (by simp (decide := true) only [updO, upd, true_and, and_true, false_and, and_false, ↓reduceIte] <;> first | rfl | assumption) (by simp (decide := true) only [evE, upd, updO, cv, args0, List.getElem?_cons_zero, List.getElem?_cons_succ, Option.getD_some, List.length_map, ↓reduceIte] <;> rfl) rfl rfl rfl ?_
      refine p_end ?_; (repeat (first | with_reducible refine Tr.then_normal ?_ | with_reducible refine Tr.block_normal ?_ | with_reducible refine Tr.then_exit ?_ | with_reducible refine Tr.block_exit_same ?_ | with_reducible refine Tr.block_exit_other (by decide) ?_ | with_reducible refine Tr.then_ret ?_ | with_reducible refine Tr.block_ret ?_))
      refine TrC.ret ?_
      refine Tr.ret1 rfl (res_cell (by simp (decide := true) only [evE, upd, updO, cv, args0, List.getElem?_cons_zero, List.getElem?_cons_succ, Option.getD_some, List.length_map, ↓reduceIte] <;> rfl) (by simp (decide := true) only [updO, upd, true_and, and_true, false_and, and_false, ↓reduceIte] <;> first | rfl | assumption) F.agg81 F.ti81 rfl rfl) rfl (by intro l h; cases h)

end Go.Proofs.Ytfjciangbmjlmaa
