/-
  encode.Weight and Pds in all modes, walked.
-/
import Derived.Test.YtfjciangbmjlmaaHa
set_option linter.unusedSimpArgs false
set_option linter.unusedVariables false
namespace Go.Proofs.Ytfjciangbmjlmaa
open Go.RowKit
def wC (n : Nat) (m : Int) (s : Step) : List V := if decide (m = 2) then [] else if decide (m = 3) then valuesR n s else []
def wP (n : Nat) (m : Int) (s : Step) : List V := if decide (m = 2) then [.agg (wL 1 0 [] [] []), .agg (wL 0 (marksG s) (marksR n s) [] [])] else []
theorem worth_eq (n : Nat) (m : Int) (s : Step) : worthL n m s = wL 0 0 [] (wC n m s) (wP n m s) := by
  unfold worthL wC wP
  split
  · rfl
  · split <;> rfl
def spT (m : Int) : Int := if decide (m = 2) then 5 else if decide (m = 3) then 4 else 1
def spD (n : Nat) (m : Int) : Int := if decide (m = 2) then 0 else if decide (m = 3) then n else 0
def spP (n : Nat) (m : Int) : List V := if decide (m = 2) then [.agg (sL 2 1048576 []), .agg (sL 3 n [])] else []
theorem space_eq (n : Nat) (m : Int) : spaceR n m = sL (spT m) (spD n m) (spP n m) := by
  unfold spaceR spT spD spP
  split
  · rfl
  · split <;> rfl
theorem spaceM (G : Graph) (m : Int) : FnC Try.prog 27 [graphV G, iV m] (fun r => r = .agg (sL (spT m) (spD G.vars.length m) (spP G.vars.length m))) := by
  have := space G m
  rwa [space_eq] at this
theorem worthM (G : Graph) (m : Int) (s : Step) (h : G.vars.length ≤ 64) (hs : StepIn G.vars.length s) : FnC Try.prog 28 [graphV G, iV m, stepV s] (fun r => r = .agg (wL 0 0 [] (wC G.vars.length m s) (wP G.vars.length m s))) := by
  have := worth G m s h hs
  rwa [worth_eq] at this
theorem inB_in {x : Int} {n : Nat} (h : inB x n = true) : 0 ≤ x ∧ x < n := by
  have h1 : (!inB x n) = false := by rw [h]; rfl
  have := inB_lt h1
  have := inB_nat h1
  omega
theorem stepIn_of {G : Graph} {s : Step} (h : stepRightB G s = true) : StepIn G.vars.length s := by
  rw [stepRightB] at h
  by_cases c1 : (!inB s.frm G.of.length) = true
  · rw [if_pos c1] at h; cases h
  rw [if_neg c1] at h
  by_cases c2 : (!inB s.to G.of.length) = true
  · rw [if_pos c2] at h; cases h
  rw [if_neg c2] at h
  by_cases c3 : decide (ofAt G s.frm ≠ ofAt G s.to) = true
  · rw [if_pos c3] at h; cases h
  rw [if_neg c3] at h
  constructor
  · intro hk
    rcases hk with hk | hk | hk | hk | hk <;> simp only [hk, Int.reduceEq, decide_false, decide_true, ↓reduceIte, Bool.and_eq_true, Bool.false_or, Bool.or_true, Bool.true_or, Bool.or_false, Bool.false_eq_true] at h
    · exact inB_in h.1
    · exact inB_in h.1.1
    · exact inB_in h.1
    · exact inB_in h.1
    · exact inB_in h.1
  · intro hk
    simp only [hk, Int.reduceEq, decide_false, decide_true, ↓reduceIte, Bool.and_eq_true, Bool.false_or, Bool.or_true, Bool.true_or, Bool.or_false, Bool.false_eq_true] at h
    exact inB_in h.1.2
theorem skipIn (n : Nat) : StepIn n ⟨0, 0, 1, 0, 0, 0, 0⟩ := ⟨fun h => by simp at h, fun h => by simp at h⟩
theorem step_in {G : Graph} (h : checkB G = true) {i : Nat} (hi : i < G.steps.length) : StepIn G.vars.length G.steps[i] := by
  simp only [checkB, Bool.and_eq_true] at h
  exact stepIn_of (scan_all _ _ h.1.1.1.2 _ (List.getElem_mem hi))
theorem asked_checkM {G : Graph} {m : Int} (h : decide (askedR G m ≠ 0) = false) : checkB G = true := by
  cases hc : checkB G with
  | true => rfl
  | false => simp [askedR, checkE, hc] at h
def weightE (G : Graph) (m step : Int) : V × Int := if decide (askedR G m ≠ 0) then (.agg (wL 0 0 [] [] []), askedR G m) else if decide (step < 0) || decide ((G.steps.length : Int) ≤ step) then (.agg (wL 0 0 [] [] []), 5) else (.agg (wL 0 0 [] (wC G.vars.length m (G.steps.getD step.toNat ⟨0, 0, 1, 0, 0, 0, 0⟩)) (wP G.vars.length m (G.steps.getD step.toNat ⟨0, 0, 1, 0, 0, 0, 0⟩))), 0)

theorem weightM (G : Graph) (m step : Int) (h1 : G.steps.length ≤ 1000000000) (h2 : G.points.length ≤ 1000000000) (h3 : G.sinks.length ≤ 1000000000) (h4 : G.exit.length ≤ 1000000000) (h : G.vars.length ≤ 64) : FnC Try.prog 20 [graphV G, iV m, iV step] (fun r => r = .tup [(weightE G m step).1, iV (weightE G m step).2]) := by
  refine FnC.of (fn := Try.f20) ⟨Try.func20, by kernel_rfl, rfl⟩ Try.ntmps20 (by simp) fun w0 S0 => ?_
  refine p_seq (p_region fun hf => ?_)
  refine p_box (h := ?_)
  refine p_alloc (hi := F.ti81) (h := ?_)
  refine p_assign (h := ?_)
  refine p_end ?_
  refine p_seq ?_
  refine p_seq (p_region fun hf => ?_)
  (first | refine p_loadA (ht := F.agg29) (hi := F.ti29) (h := ?_) | refine p_loadRefA (ht := F.agg29) (hi := F.ti29) (h := ?_))
  refine p_move (h := ?_)
  refine p_call (hx := rfl) (hb := ⟨Try.func26, by kernel_rfl, rfl⟩) (hf := asked G m h1 h2 h3) (h := ?_)
  refine p_assign (h := ?_)
  refine p_end ?_
  refine p_seq (p_region fun hf => ?_)
  refine p_move (h := ?_)
  refine p_num (h := ?_)
  refine p_end ?_
  refine p_splitC (s := 13) (ht := fun hc13 => ?_) (hf := fun hc13 => ?_)
  · refine p_condT (h := ?_)
    refine p_seq (p_region fun hf => ?_)
    refine p_build (hi := F.ti81) (hpl := F.pl81) (h := ?_)
    refine p_move (h := ?_)
    refine p_storeAll F.ti81 (h := ?_)
    refine p_assign (h := ?_)
    refine p_end ?_
    refine TrC.ret ?_
    refine p_cellNil (g1 := 0 + 1) (d1 := 6) (i := 3) (el := 74) (h := ?_)
    refine p_cellNil (g1 := 0 + 1) (d1 := 6) (i := 4) (el := 110) (h := ?_)
    refine p_cellNil (g1 := 0 + 1) (d1 := 6) (i := 5) (el := 81) (h := ?_)
    refine p_rets2 rfl (res_cell eV_ oB_ F.agg81 F.ti81 rfl rfl) ⟨eV_, rfl⟩ (by simp only [weightE, hc13, Bool.true_or, Bool.false_or, Bool.false_eq_true, ↓reduceIte]; rfl)
  · refine p_condF (h := ?_)
    refine p_skip ?_
    refine p_seq ?_
    refine p_seq (p_region fun hf => ?_)
    refine p_move (h := ?_)
    refine p_num (h := ?_)
    refine p_move (h := ?_)
    refine p_split (s := 18) (ht := fun hb18 => ?_) (hf := fun hb18 => ?_)
    · -- slot 18 is true
      iterate 5 (refine p_guardNo (h := ?_))
      refine p_pick (h := ?_)
      refine p_end ?_
      refine p_condT (h := ?_)
      refine p_seq (p_region fun hf => ?_)
      refine p_build (hi := F.ti81) (hpl := F.pl81) (h := ?_)
      refine p_storeAll F.ti81 (h := ?_)
      refine p_assign (h := ?_)
      refine p_end ?_
      refine TrC.ret ?_
      refine p_cellNil (g1 := 0 + 1) (d1 := 6) (i := 3) (el := 74) (h := ?_)
      refine p_cellNil (g1 := 0 + 1) (d1 := 6) (i := 4) (el := 110) (h := ?_)
      refine p_cellNil (g1 := 0 + 1) (d1 := 6) (i := 5) (el := 81) (h := ?_)
      refine p_rets2 rfl (res_cell eV_ oB_ F.agg81 F.ti81 rfl rfl) ⟨eV_, rfl⟩ (by simp only [weightE, hc13, hb18, Bool.true_or, Bool.false_or, Bool.false_eq_true, ↓reduceIte]; rfl)
    · -- slot 18 is false
      refine p_guardYes (h := ?_)
      refine p_move (h := ?_)
      refine p_guardYes (h := ?_)
      (first | refine p_fieldPtr (hf := F.fld29_6) (h := ?_) | refine p_fieldRef (hf := F.fld29_6) (h := ?_) | refine p_fieldRow (hf := F.fld29_6) (h := ?_))
      refine p_guardYes (h := ?_)
      (first | refine p_load (ht := F.leaf24) (h := ?_) | refine p_loadRef (ht := F.leaf24) (h := ?_))
      refine p_guardYes (h := ?_)
      refine p_len (ht := Try.underlying24) (h := ?_)
      refine p_guardYes (h := ?_)
      refine p_num (h := ?_)
      refine p_pick (h := ?_)
      refine p_end ?_
      refine p_splitC (s := 24) (ht := fun hc24 => ?_) (hf := fun hc24 => ?_)
      · refine p_condT (h := ?_)
        refine p_seq (p_region fun hf => ?_)
        refine p_build (hi := F.ti81) (hpl := F.pl81) (h := ?_)
        refine p_storeAll F.ti81 (h := ?_)
        refine p_assign (h := ?_)
        refine p_end ?_
        refine TrC.ret ?_
        refine p_cellNil (g1 := 0 + 1) (d1 := 6) (i := 3) (el := 74) (h := ?_)
        refine p_cellNil (g1 := 0 + 1) (d1 := 6) (i := 4) (el := 110) (h := ?_)
        refine p_cellNil (g1 := 0 + 1) (d1 := 6) (i := 5) (el := 81) (h := ?_)
        refine p_rets2 rfl (res_cell eV_ oB_ F.agg81 F.ti81 rfl rfl) ⟨eV_, rfl⟩ (by simp only [weightE, hc13, hb18, hc24, Bool.true_or, Bool.false_or, Bool.false_eq_true, ↓reduceIte]; rfl)
      · refine p_condF (h := ?_)
        have hst : 0 ≤ step ∧ step < G.steps.length := by simp at hb18 hc24; omega
        have hlt : step.toNat < G.steps.length := by omega
        refine p_skip ?_
        refine p_seq (p_draw F.mixed fun hf => ?_)
        (first | refine p_loadA (ht := F.agg29) (hi := F.ti29) (h := ?_) | refine p_loadRefA (ht := F.agg29) (hi := F.ti29) (h := ?_))
        refine p_move (h := ?_)
        (first | refine p_fieldPtr (hf := F.fld29_6) (h := ?_) | refine p_fieldRef (hf := F.fld29_6) (h := ?_) | refine p_fieldRow (hf := F.fld29_6) (h := ?_))
        (first | refine p_load (ht := F.leaf24) (h := ?_) | refine p_loadRef (ht := F.leaf24) (h := ?_))
        refine p_move (h := ?_)
        refine p_idxMap (j := step.toNat) (ht := Try.underlying24) (hi := F.ti50) (hij := by omega) (hj := hlt) (h := ?_)
        (first | refine p_loadA (ht := F.agg50) (hi := F.ti50) (h := ?_) | refine p_loadRefA (ht := F.agg50) (hi := F.ti50) (h := ?_))
        refine p_call (hx := rfl) (hb := ⟨Try.func28, by kernel_rfl, rfl⟩) (hf := worthM G m G.steps[step.toNat] h (step_in (asked_checkM hc13) hlt)) (h := ?_)
        refine p_storeAll F.ti81 (h := ?_)
        refine p_assign (h := ?_)
        refine p_endD ?_
        refine TrC.ret ?_
        refine p_rets2 rfl (res_cell eV_ oB_ F.agg81 F.ti81 rfl rfl) ⟨eV_, rfl⟩ (by simp only [weightE, hc13, hb18, hc24, Bool.or_self, Bool.false_eq_true, ↓reduceIte, List.getD, List.getElem?_eq_getElem hlt, Option.getD_some])

abbrev ruleM (g : Int) (w c p : List V) : V := .agg [iV 0, iV g, iV 0, .sl 3 w, .bool false, iV 0, uV 0, .sl 74 [], .sl 110 c, .sl 81 p]
def stepRuleM (G : Graph) (m : Int) (s : Step) : V := ruleM s.frm ((stepWord G s).map iV) (wC G.vars.length m s) (wP G.vars.length m s)
theorem stepRuleM_call {G : Graph} {m : Int} {s : Step} (h : decide (s.kind = 8) = true) : stepRuleM G m s = ruleM s.frm [iV (entryZ G (siteAt G s.site).proc), iV s.to] (wC G.vars.length m s) (wP G.vars.length m s) := by simp only [stepRuleM, stepWord, h, ↓reduceIte, List.map_cons, List.map_nil]
theorem stepRuleM_not {G : Graph} {m : Int} {s : Step} (h : decide (s.kind = 8) = false) : stepRuleM G m s = ruleM s.frm [iV s.to] (wC G.vars.length m s) (wP G.vars.length m s) := by simp only [stepRuleM, stepWord, h, Bool.false_eq_true, ↓reduceIte, List.map_cons, List.map_nil]
def exitRuleM (G : Graph) (m n : Int) : V := ruleM n [] (wC G.vars.length m ⟨0, 0, 1, 0, 0, 0, 0⟩) (wP G.vars.length m ⟨0, 0, 1, 0, 0, 0, 0⟩)
def rulesM (G : Graph) (m : Int) (i j : Nat) : List V := (G.steps.take i).map (stepRuleM G m) ++ (G.exit.take j).map (exitRuleM G m)
theorem rulesM_step {G : Graph} {m : Int} {i : Nat} (h : i < G.steps.length) : rulesM G m (i + 1) 0 = rulesM G m i 0 ++ [stepRuleM G m G.steps[i]] := by
  simp only [rulesM, List.take_add_one, List.getElem?_eq_getElem h, Option.toList_some, List.map_append, List.map_cons, List.map_nil, List.take_zero, List.append_nil]
theorem rulesM_exit {G : Graph} {m : Int} {i j : Nat} (h : j < G.exit.length) : rulesM G m i (j + 1) = rulesM G m i j ++ [exitRuleM G m G.exit[j]] := by
  simp only [rulesM, List.take_add_one, List.getElem?_eq_getElem h, Option.toList_some, List.map_append, List.map_cons, List.map_nil, List.append_assoc]
theorem rulesM_len {G : Graph} {m : Int} {i j : Nat} (hi : i ≤ G.steps.length) (hj : j ≤ G.exit.length) : i + j = (rulesM G m i j).length := by simp [rulesM]; omega
abbrev pdsML (G : Graph) (m : Int) : List V := [iV (spT m), iV (spD G.vars.length m), .sl 35 (spP G.vars.length m), iV 1, iV G.of.length, .sl 92 (rulesM G m G.steps.length G.exit.length)]
abbrev pdsMZ : List V := [iV 0, iV 0, .sl 35 [], iV 0, iV 0, .sl 92 []]
def pdsE (G : Graph) (m : Int) : V := if decide (askedR G m ≠ 0) then .tup [.agg pdsMZ, iV (askedR G m)] else .tup [.agg (pdsML G m), iV 0]

theorem pdsM (G : Graph) (m : Int) (h1 : G.steps.length ≤ 1000000000) (h2 : G.points.length ≤ 1000000000) (h3 : G.sinks.length ≤ 1000000000) (h4 : G.exit.length ≤ 1000000000) (h : G.vars.length ≤ 64) : FnC Try.prog 9 [graphV G, iV m] (fun r => r = pdsE G m) := by
  refine FnC.of (fn := Try.f9) ⟨Try.func9, by kernel_rfl, rfl⟩ Try.ntmps9 (by simp) fun w0 S0 => ?_
  refine p_seq (p_region fun hf => ?_)
  refine p_box (h := ?_)
  refine p_alloc (hi := F.ti38) (h := ?_)
  refine p_assign (h := ?_)
  refine p_end ?_
  refine p_seq ?_
  refine p_seq (p_region fun hf => ?_)
  (first | refine p_loadA (ht := F.agg29) (hi := F.ti29) (h := ?_) | refine p_loadRefA (ht := F.agg29) (hi := F.ti29) (h := ?_))
  refine p_move (h := ?_)
  refine p_call (hx := rfl) (hb := ⟨Try.func26, by kernel_rfl, rfl⟩) (hf := asked G m h1 h2 h3) (h := ?_)
  refine p_assign (h := ?_)
  refine p_end ?_
  refine p_seq (p_region fun hf => ?_)
  refine p_move (h := ?_)
  refine p_num (h := ?_)
  refine p_end ?_
  refine p_splitC (s := 17) (ht := fun hc17 => ?_) (hf := fun hc17 => ?_)
  · refine p_condT (h := ?_)
    refine p_seq (p_region fun hf => ?_)
    refine p_build (hi := F.ti38) (hpl := F.pl38) (h := ?_)
    refine p_move (h := ?_)
    refine p_storeAll F.ti38 (h := ?_)
    refine p_assign (h := ?_)
    refine p_end ?_
    refine TrC.ret ?_
    refine p_cellNil (g1 := 0 + 1) (d1 := 4) (i := 2) (el := 35) (h := ?_)
    refine p_cellNil (g1 := 0 + 1) (d1 := 4) (i := 5) (el := 92) (h := ?_)
    refine p_rets2 rfl (res_cell eV_ oB_ F.agg38 F.ti38 rfl rfl) ⟨eV_, rfl⟩ (by simp only [pdsE, hc17, ↓reduceIte]; rfl)
  · refine p_condF (h := ?_)
    have hck := asked_checkM hc17
    refine p_skip ?_
    refine p_seq (p_draw F.mixed fun hf => ?_)
    (first | refine p_loadA (ht := F.agg29) (hi := F.ti29) (h := ?_) | refine p_loadRefA (ht := F.agg29) (hi := F.ti29) (h := ?_))
    refine p_move (h := ?_)
    refine p_call (hx := rfl) (hb := ⟨Try.func27, by kernel_rfl, rfl⟩) (hf := spaceM G m) (h := ?_)
    (first | refine p_fieldPtr (hf := F.fld29_5) (h := ?_) | refine p_fieldRef (hf := F.fld29_5) (h := ?_) | refine p_fieldRow (hf := F.fld29_5) (h := ?_))
    (first | refine p_load (ht := F.leaf23) (h := ?_) | refine p_loadRef (ht := F.leaf23) (h := ?_))
    refine p_len (ht := Try.underlying23) (h := ?_)
    refine p_build (hi := F.ti38) (hpl := F.pl38) (h := ?_)
    refine p_alloc (hi := F.ti38) (h := ?_)
    refine p_storeAll F.ti38 (h := ?_)
    refine p_endD ?_
    refine p_seq ?_
    refine p_seq (p_region fun hf => ?_)
    (first | refine p_fieldPtr (hf := F.fld29_6) (h := ?_) | refine p_fieldRef (hf := F.fld29_6) (h := ?_) | refine p_fieldRow (hf := F.fld29_6) (h := ?_))
    (first | refine p_load (ht := F.leaf24) (h := ?_) | refine p_loadRef (ht := F.leaf24) (h := ?_))
    refine p_len (ht := Try.underlying24) (h := ?_)
    refine p_move (h := ?_)
    refine p_end ?_
    refine p_nilCell (g1 := 0 + 1 + 1 + 1 + 1) (d1 := 7) (i := 5) (el := 92) 65 (h := ?_)
    refine TrC.block ?_
    refine p_loop (fun st => ∃ (i r : Nat), i ≤ G.steps.length ∧ st.env 1 = iV m ∧ st.env 2 = .ptr (0 + 1) 2 0 ∧ st.env 4 = .ptr (0 + 1) 4 0 ∧ st.env 7 = .ptr (0 + 1 + 1 + 1 + 1) 7 0 ∧ st.env 28 = .sl 50 (G.steps.map stepV) ∧ st.env 29 = iV G.steps.length ∧ st.env 30 = iV i ∧ st.obj (0 + 1) 2 = .cells 29 (graphL G) ∧ st.obj (0 + 1) 4 = .cells 38 [iV 0, iV 0, .nil, iV 0, iV 0, .nil] ∧ st.obj (0 + 1 + 1 + 1 + 1) 7 = .cells 38 [iV (spT m), iV (spD G.vars.length m), .sl 35 (spP G.vars.length m), iV 1, iV G.of.length, .row r 65 (i + 0)] ∧ st.obj r 65 = .row 92 (rulesM G m i 0)) (fun st => G.steps.length - (st.env 30).toN) ?_ fun e ob g1 hI => ?_
    · exact ⟨0, _, by omega, eV_, eV_, eV_, eV_, eV_, eV_, eV_, oB_, oB_, oB_, oB_⟩
    · obtain ⟨i, r, hi, e1, e2, e4, e7, e28, e29, e30, o2, o4, o7, o65⟩ := hI
      dsimp only at e1 e2 e4 e7 e28 e29 e30 o2 o4 o7 o65
      have hE := (⟨e1, e2, e4, e7, e28, e29, e30, o2, o4, o7, o65⟩ : _ ∧ _ ∧ _ ∧ _ ∧ _ ∧ _ ∧ _ ∧ _ ∧ _ ∧ _ ∧ _)
      refine p_seq (p_region fun hf => ?_)
      refine p_num (h := ?_)
      refine p_end ?_
      refine p_seq ?_
      refine p_splitC (s := 31) (ht := fun hc31 => ?_) (hf := fun hc31 => ?_)
      · refine p_condT (h := ?_)
        have hlt : i < G.steps.length := by simpa using hc31
        refine p_skip ?_
        refine p_seq ?_
        refine TrC.block ?_
        refine p_seq (p_region fun hf => ?_)
        refine p_idxMap (j := i) (ht := Try.underlying24) (hi := F.ti50) (hij := rfl) (hj := hlt) (h := ?_)
        (first | refine p_loadA (ht := F.agg50) (hi := F.ti50) (h := ?_) | refine p_loadRefA (ht := F.agg50) (hi := F.ti50) (h := ?_))
        refine p_alloc (hi := F.ti50) (h := ?_)
        refine p_storeAll F.ti50 (h := ?_)
        refine p_end ?_
        refine p_seq (p_region fun hf => ?_)
        (first | refine p_fieldPtr (hf := F.fld50_1) (h := ?_) | refine p_fieldRef (hf := F.fld50_1) (h := ?_) | refine p_fieldRow (hf := F.fld50_1) (h := ?_))
        (first | refine p_load (ht := F.leaf3) (h := ?_) | refine p_loadRef (ht := F.leaf3) (h := ?_))
        refine p_buildSlice (ht := Try.underlying23) (hi := F.ti3) (h := ?_)
        refine p_assign (h := ?_)
        refine p_end ?_
        refine p_seq ?_
        refine p_seq (p_region fun hf => ?_)
        (first | refine p_fieldPtr (hf := F.fld50_2) (h := ?_) | refine p_fieldRef (hf := F.fld50_2) (h := ?_) | refine p_fieldRow (hf := F.fld50_2) (h := ?_))
        (first | refine p_load (ht := F.leaf48) (h := ?_) | refine p_loadRef (ht := F.leaf48) (h := ?_))
        refine p_num (h := ?_)
        refine p_end ?_
        refine p_splitC (s := 39) (ht := fun hc39 => ?_) (hf := fun hc39 => ?_)
        · refine p_condT (h := ?_)
          have hin := step_site hck hlt hc39
          have hpr := site_proc hck hin
          refine p_draw F.mixed fun hf => ?_
          (first | refine p_fieldPtr (hf := F.fld29_2) (h := ?_) | refine p_fieldRef (hf := F.fld29_2) (h := ?_) | refine p_fieldRow (hf := F.fld29_2) (h := ?_))
          (first | refine p_load (ht := F.leaf23) (h := ?_) | refine p_loadRef (ht := F.leaf23) (h := ?_))
          (first | refine p_fieldPtr (hf := F.fld29_7) (h := ?_) | refine p_fieldRef (hf := F.fld29_7) (h := ?_) | refine p_fieldRow (hf := F.fld29_7) (h := ?_))
          (first | refine p_load (ht := F.leaf25) (h := ?_) | refine p_loadRef (ht := F.leaf25) (h := ?_))
          (first | refine p_fieldPtr (hf := F.fld50_6) (h := ?_) | refine p_fieldRef (hf := F.fld50_6) (h := ?_) | refine p_fieldRow (hf := F.fld50_6) (h := ?_))
          (first | refine p_load (ht := F.leaf3) (h := ?_) | refine p_loadRef (ht := F.leaf3) (h := ?_))
          refine p_idxMap (j := G.steps[i].site.toNat) (ht := Try.underlying25) (hi := F.ti54) (hij := inB_nat hin) (hj := inB_lt hin) (h := ?_)
          rw [siteAt_eq (inB_lt hin)]
          (first | refine p_fieldPtr (hf := F.fld54_1) (h := ?_) | refine p_fieldRef (hf := F.fld54_1) (h := ?_) | refine p_fieldRow (hf := F.fld54_1) (h := ?_))
          (first | refine p_load (ht := F.leaf3) (h := ?_) | refine p_loadRef (ht := F.leaf3) (h := ?_))
          refine p_idxMap (j := (siteAt G G.steps[i].site).proc.toNat) (ht := Try.underlying23) (hi := F.ti3) (hij := inB_nat hpr) (hj := inB_lt hpr) (h := ?_)
          rw [entryZ_eq (inB_lt hpr)]
          (first | refine p_load (ht := F.leaf3) (h := ?_) | refine p_loadRef (ht := F.leaf3) (h := ?_))
          (first | refine p_fieldPtr (hf := F.fld50_1) (h := ?_) | refine p_fieldRef (hf := F.fld50_1) (h := ?_) | refine p_fieldRow (hf := F.fld50_1) (h := ?_))
          (first | refine p_load (ht := F.leaf3) (h := ?_) | refine p_loadRef (ht := F.leaf3) (h := ?_))
          refine p_buildSlice (ht := Try.underlying23) (hi := F.ti3) (h := ?_)
          refine p_assign (h := ?_)
          refine p_endD ?_
          refine p_freeze (g1 := g1 + 1 + 1 + 1 + 1 + 1) (d1 := 53) (h := ?_)
          refine p_toSl (s := 10) (hn := by rfl) (h := ?_)
          refine p_draw F.mixed fun hf => ?_
          (first | refine p_fieldPtr (hf := F.fld38_3) (h := ?_) | refine p_fieldRef (hf := F.fld38_3) (h := ?_) | refine p_fieldRow (hf := F.fld38_3) (h := ?_))
          (first | refine p_load (ht := F.leaf36) (h := ?_) | refine p_loadRef (ht := F.leaf36) (h := ?_))
          (first | refine p_fieldPtr (hf := F.fld50_0) (h := ?_) | refine p_fieldRef (hf := F.fld50_0) (h := ?_) | refine p_fieldRow (hf := F.fld50_0) (h := ?_))
          (first | refine p_load (ht := F.leaf3) (h := ?_) | refine p_loadRef (ht := F.leaf3) (h := ?_))
          refine p_move (h := ?_)
          (first | refine p_loadA (ht := F.agg29) (hi := F.ti29) (h := ?_) | refine p_loadRefA (ht := F.agg29) (hi := F.ti29) (h := ?_))
          refine p_move (h := ?_)
          (first | refine p_loadA (ht := F.agg50) (hi := F.ti50) (h := ?_) | refine p_loadRefA (ht := F.agg50) (hi := F.ti50) (h := ?_))
          refine p_call (hx := rfl) (hb := ⟨Try.func28, by kernel_rfl, rfl⟩) (hf := worthM G m G.steps[i] h (step_in hck hlt)) (h := ?_)
          refine p_build (hi := F.ti92) (hpl := F.pl92) (h := ?_)
          refine p_buildSlice (ht := Try.underlying36) (hi := F.ti92) (h := ?_)
          refine p_append (k := i + 0 + 1) (ht := Try.underlying36) (hi := F.ti92) (hnl := rulesM_len (j := 0) hi (Nat.zero_le _)) (hy := by exact ⟨.inl oB_, rfl⟩) (hm := by have := rulesM_len (m := m) (j := 0) hi (Nat.zero_le _); simp only [List.length_cons, List.length_nil]; omega) (hlim := by omega) (h := ?_)
          (first | refine p_fieldPtr (hf := F.fld38_3) (h := ?_) | refine p_fieldRef (hf := F.fld38_3) (h := ?_) | refine p_fieldRow (hf := F.fld38_3) (h := ?_))
          refine p_store1 F.ti36 (h := ?_)
          refine p_endD ?_
          refine p_region fun hf => ?_
          refine p_add (r := ((i + 1 : Nat) : Int)) (hr := by omega) (hb := by omega) (h := ?_)
          refine p_move (h := ?_)
          refine p_end ?_
          refine p_some ?_
          refine ⟨⟨i + 1, _, hlt, eV_, eV_, eV_, eV_, eV_, eV_, eV_, oB_, oB_, oB_, ?_⟩, ?_⟩
          · rw [rulesM_step hlt, stepRuleM_call hc39]; exact oB_
          · simp (decide := true) only [upd, e30, V.toN, ↓reduceIte]; omega
        · refine p_condF (h := ?_)
          refine p_skip ?_
          refine p_freeze (g1 := g1 + 1 + 1 + 1) (d1 := 36) (h := ?_)
          refine p_toSl (s := 10) (hn := by rfl) (h := ?_)
          refine p_draw F.mixed fun hf => ?_
          (first | refine p_fieldPtr (hf := F.fld38_3) (h := ?_) | refine p_fieldRef (hf := F.fld38_3) (h := ?_) | refine p_fieldRow (hf := F.fld38_3) (h := ?_))
          (first | refine p_load (ht := F.leaf36) (h := ?_) | refine p_loadRef (ht := F.leaf36) (h := ?_))
          (first | refine p_fieldPtr (hf := F.fld50_0) (h := ?_) | refine p_fieldRef (hf := F.fld50_0) (h := ?_) | refine p_fieldRow (hf := F.fld50_0) (h := ?_))
          (first | refine p_load (ht := F.leaf3) (h := ?_) | refine p_loadRef (ht := F.leaf3) (h := ?_))
          refine p_move (h := ?_)
          (first | refine p_loadA (ht := F.agg29) (hi := F.ti29) (h := ?_) | refine p_loadRefA (ht := F.agg29) (hi := F.ti29) (h := ?_))
          refine p_move (h := ?_)
          (first | refine p_loadA (ht := F.agg50) (hi := F.ti50) (h := ?_) | refine p_loadRefA (ht := F.agg50) (hi := F.ti50) (h := ?_))
          refine p_call (hx := rfl) (hb := ⟨Try.func28, by kernel_rfl, rfl⟩) (hf := worthM G m G.steps[i] h (step_in hck hlt)) (h := ?_)
          refine p_build (hi := F.ti92) (hpl := F.pl92) (h := ?_)
          refine p_buildSlice (ht := Try.underlying36) (hi := F.ti92) (h := ?_)
          refine p_append (k := i + 0 + 1) (ht := Try.underlying36) (hi := F.ti92) (hnl := rulesM_len (j := 0) hi (Nat.zero_le _)) (hy := by exact ⟨.inl oB_, rfl⟩) (hm := by have := rulesM_len (m := m) (j := 0) hi (Nat.zero_le _); simp only [List.length_cons, List.length_nil]; omega) (hlim := by omega) (h := ?_)
          (first | refine p_fieldPtr (hf := F.fld38_3) (h := ?_) | refine p_fieldRef (hf := F.fld38_3) (h := ?_) | refine p_fieldRow (hf := F.fld38_3) (h := ?_))
          refine p_store1 F.ti36 (h := ?_)
          refine p_endD ?_
          refine p_region fun hf => ?_
          refine p_add (r := ((i + 1 : Nat) : Int)) (hr := by omega) (hb := by omega) (h := ?_)
          refine p_move (h := ?_)
          refine p_end ?_
          refine p_some ?_
          refine ⟨⟨i + 1, _, hlt, eV_, eV_, eV_, eV_, eV_, eV_, eV_, oB_, oB_, oB_, ?_⟩, ?_⟩
          · rw [rulesM_step hlt, stepRuleM_not hc39]; exact oB_
          · simp (decide := true) only [upd, e30, V.toN, ↓reduceIte]; omega
      · refine p_condF (h := ?_)
        have hie : i = G.steps.length := by simp at hc31; omega
        refine p_exit ?_
        refine p_seq ?_
        refine p_seq (p_region fun hf => ?_)
        (first | refine p_fieldPtr (hf := F.fld29_3) (h := ?_) | refine p_fieldRef (hf := F.fld29_3) (h := ?_) | refine p_fieldRow (hf := F.fld29_3) (h := ?_))
        (first | refine p_load (ht := F.leaf23) (h := ?_) | refine p_loadRef (ht := F.leaf23) (h := ?_))
        refine p_len (ht := Try.underlying23) (h := ?_)
        refine p_move (h := ?_)
        refine p_end ?_
        refine p_renCell (g1 := 0 + 1 + 1 + 1 + 1) (d1 := 7) (i := 5) 84 (h := ?_)
        refine TrC.block ?_
        refine p_loop (fun st => ∃ (j r : Nat), j ≤ G.exit.length ∧ st.env 1 = iV m ∧ st.env 2 = .ptr (0 + 1) 2 0 ∧ st.env 4 = .ptr (0 + 1) 4 0 ∧ st.env 7 = .ptr (0 + 1 + 1 + 1 + 1) 7 0 ∧ st.env 69 = .sl 3 (G.exit.map iV) ∧ st.env 70 = iV G.exit.length ∧ st.env 71 = iV j ∧ st.obj (0 + 1) 2 = .cells 29 (graphL G) ∧ st.obj (0 + 1) 4 = .cells 38 [iV 0, iV 0, .nil, iV 0, iV 0, .nil] ∧ st.obj (0 + 1 + 1 + 1 + 1) 7 = .cells 38 [iV (spT m), iV (spD G.vars.length m), .sl 35 (spP G.vars.length m), iV 1, iV G.of.length, .row r 84 (G.steps.length + j)] ∧ st.obj r 84 = .row 92 (rulesM G m G.steps.length j)) (fun st => G.exit.length - (st.env 71).toN) ?_ fun e ob g2 hI => ?_
        · exact ⟨0, _, by omega, eV_, eV_, eV_, eV_, eV_, eV_, eV_, oB_, oB_, by rw [← hie]; exact oB_, by rw [← hie]; exact oB_⟩
        · obtain ⟨j, r, hj, f1, f2, f4, f7, f69, f70, f71, q2, q4, q7, q84⟩ := hI
          dsimp only at f1 f2 f4 f7 f69 f70 f71 q2 q4 q7 q84
          have hE := (⟨f1, f2, f4, f7, f69, f70, f71, q2, q4, q7, q84⟩ : _ ∧ _ ∧ _ ∧ _ ∧ _ ∧ _ ∧ _ ∧ _ ∧ _ ∧ _ ∧ _)
          refine p_seq (p_region fun hf => ?_)
          refine p_num (h := ?_)
          refine p_end ?_
          refine p_seq ?_
          refine p_splitC (s := 72) (ht := fun hc72 => ?_) (hf := fun hc72 => ?_)
          · refine p_condT (h := ?_)
            have hlt2 : j < G.exit.length := by simpa using hc72
            refine p_skip ?_
            refine p_seq ?_
            refine TrC.block ?_
            refine p_seq (p_region fun hf => ?_)
            refine p_idxMap (j := j) (ht := Try.underlying23) (hi := F.ti3) (hij := rfl) (hj := hlt2) (h := ?_)
            (first | refine p_load (ht := F.leaf3) (h := ?_) | refine p_loadRef (ht := F.leaf3) (h := ?_))
            refine p_assign (h := ?_)
            refine p_end ?_
            refine p_draw F.mixed fun hf => ?_
            (first | refine p_fieldPtr (hf := F.fld38_3) (h := ?_) | refine p_fieldRef (hf := F.fld38_3) (h := ?_) | refine p_fieldRow (hf := F.fld38_3) (h := ?_))
            (first | refine p_load (ht := F.leaf36) (h := ?_) | refine p_loadRef (ht := F.leaf36) (h := ?_))
            refine p_move (h := ?_)
            (first | refine p_loadA (ht := F.agg29) (hi := F.ti29) (h := ?_) | refine p_loadRefA (ht := F.agg29) (hi := F.ti29) (h := ?_))
            refine p_move (h := ?_)
            refine p_build (hi := F.ti50) (hpl := F.pl50) (h := ?_)
            refine p_call (hx := rfl) (hb := ⟨Try.func28, by kernel_rfl, rfl⟩) (hf := worthM G m ⟨0, 0, 1, 0, 0, 0, 0⟩ h (skipIn _)) (h := ?_)
            refine p_build (hi := F.ti92) (hpl := F.pl92) (h := ?_)
            refine p_buildSlice (ht := Try.underlying36) (hi := F.ti92) (h := ?_)
            refine p_append (k := G.steps.length + j + 1) (ht := Try.underlying36) (hi := F.ti92) (hnl := rulesM_len (Nat.le_refl _) hj) (hy := by exact ⟨.inl oB_, rfl⟩) (hm := by have := rulesM_len (m := m) (Nat.le_refl G.steps.length) hj; simp only [List.length_cons, List.length_nil]; omega) (hlim := by omega) (h := ?_)
            (first | refine p_fieldPtr (hf := F.fld38_3) (h := ?_) | refine p_fieldRef (hf := F.fld38_3) (h := ?_) | refine p_fieldRow (hf := F.fld38_3) (h := ?_))
            refine p_store1 F.ti36 (h := ?_)
            refine p_endD ?_
            refine p_lastNil (g1 := g2 + 1 + 1 + 1) (d1 := 84) (i := 3) (el := 3) (h := ?_)
            refine p_region fun hf => ?_
            refine p_add (r := ((j + 1 : Nat) : Int)) (hr := by omega) (hb := by omega) (h := ?_)
            refine p_move (h := ?_)
            refine p_end ?_
            refine p_some ?_
            refine ⟨⟨j + 1, _, hlt2, eV_, eV_, eV_, eV_, eV_, eV_, eV_, oB_, oB_, oB_, ?_⟩, ?_⟩
            · rw [rulesM_exit hlt2]; exact oB_
            · simp (decide := true) only [upd, f71, V.toN, ↓reduceIte]; omega
          · refine p_condF (h := ?_)
            have hje : j = G.exit.length := by simp at hc72; omega
            refine p_exit ?_
            refine p_seq (p_region fun hf => ?_)
            (first | refine p_loadA (ht := F.agg38) (hi := F.ti38) (h := ?_) | refine p_loadRefA (ht := F.agg38) (hi := F.ti38) (h := ?_))
            refine p_storeAll F.ti38 (h := ?_)
            refine p_assign (h := ?_)
            refine p_end ?_
            refine TrC.ret ?_
            refine p_freeze (g1 := r) (d1 := 84) (h := ?_)
            refine p_cellSl (g1 := 0 + 1) (d1 := 4) (i := 5) (hn := rulesM_len (Nat.le_refl _) hj) (h := ?_)
            refine p_rets2 rfl (res_cell eV_ oB_ F.agg38 F.ti38 rfl rfl) ⟨eV_, rfl⟩ (by simp only [pdsE, hc17, Bool.false_eq_true, ↓reduceIte, hje]; rfl)

end Go.Proofs.Ytfjciangbmjlmaa
