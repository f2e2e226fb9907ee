/-
  EncodeMakes, walked: it answers true for every graph, mode and step.
-/
import Derived.Test.YtfjciangbmjlmaaHk
import Derived.Test.YtfjciangbmjlmaaGl
set_option linter.unusedSimpArgs false
set_option linter.unusedVariables false
namespace Go.Proofs.Ytfjciangbmjlmaa
open Go.RowKit
/-! ### what is answered, as lists -/
theorem rows1_I (n : Nat) : rows1 n = ((List.range n).map bitI).map uV := by simp [rows1]
def marksI (n : Nat) (s : Step) : List Int := if decide (s.kind = 5) then (List.range n).map (rowS s.x.toNat (-1)) else if decide (s.kind = 2) then (List.range n).map (rowS s.x.toNat (-2)) else if decide (s.kind = 4) then (List.range n).map (rowS s.x.toNat (-2)) else if decide (s.kind = 6) then (List.range n).map (rowS s.x.toNat (-2)) else if decide (s.kind = 3) then (List.range n).map (rowS s.x.toNat s.y) else (List.range n).map bitI
theorem rowsS_I (n x : Nat) (y : Int) : rowsS n x y = ((List.range n).map (rowS x y)).map uV := by simp [rowsS]
theorem marks_I (n : Nat) (s : Step) : marksR n s = (marksI n s).map uV := by
  unfold marksR marksI
  (repeat' split) <;> first | exact rowsS_I _ _ _ | exact rows1_I _
theorem marks_len (n : Nat) (s : Step) : (marksI n s).length = n := by
  unfold marksI
  (repeat' split) <;> simp
def cellT (x : Nat) (c : Int × Int × Int) (j : Nat) : Int × Int × Int := if j = x then c else (bitI j, 0, 0)
theorem cellsX_I (n x : Nat) (c : Int × Int × Int) : cellsX n x (celT c) = ((List.range n).map (cellT x c)).map celT := by
  rw [cellsX, List.map_map]
  refine List.map_congr_left fun j _ => ?_
  simp only [cellX, cellT, Function.comp_apply]
  split <;> rfl
theorem cells1_I (n : Nat) : cells1 n = ((List.range n).map fun j => (bitI j, (0 : Int), (0 : Int))).map celT := by simp [cells1]
def valuesI (n : Nat) (s : Step) : List (Int × Int × Int) := if decide (s.kind = 2) then (List.range n).map (cellT s.x.toNat (0, 1, s.k)) else if decide (s.kind = 3) then (List.range n).map (cellT s.x.toNat (bitI s.y.toNat, 0, 0)) else if decide (s.kind = 4) then (List.range n).map (cellT s.x.toNat (0, 2, 0)) else (List.range n).map fun j => (bitI j, 0, 0)
theorem values_I (n : Nat) (s : Step) : valuesR n s = (valuesI n s).map celT := by
  unfold valuesR valuesI
  split
  · exact cellsX_I n _ (0, 1, s.k)
  split
  · exact cellsX_I n _ (bitI s.y.toNat, 0, 0)
  split
  · exact cellsX_I n _ (0, 2, 0)
  · exact cells1_I n
theorem values_len (n : Nat) (s : Step) : (valuesI n s).length = n := by
  unfold valuesI
  (repeat' split) <;> simp
def wCI (n : Nat) (m : Int) (s : Step) : List (Int × Int × Int) := if decide (m = 2) then [] else if decide (m = 3) then valuesI n s else []
def wPI (n : Nat) (m : Int) (s : Step) : List Wgt := if decide (m = 2) then [⟨1, 0, [], []⟩, ⟨0, marksG s, marksI n s, []⟩] else []
theorem wC_I (n : Nat) (m : Int) (s : Step) : wC n m s = (wCI n m s).map celT := by
  unfold wC wCI
  split
  · rfl
  split
  · exact values_I n s
  · rfl
theorem wP_I (n : Nat) (m : Int) (s : Step) : wP n m s = (wPI n m s).map lwV := by
  unfold wP wPI
  split
  · simp only [List.map_cons, List.map_nil, marks_I]; rfl
  · rfl
theorem w_fit {n : Nat} (h : n ≤ 64) (m : Int) (s : Step) : WFit ⟨0, 0, [], wCI n m s⟩ (wPI n m s) := by
  refine ⟨⟨by simp, ?_⟩, fun p hp => ?_, ?_⟩
  · show (wCI n m s).length ≤ _
    unfold wCI
    split
    · simp
    split
    · rw [values_len]; omega
    · simp
  · unfold wPI at hp
    split at hp
    · simp only [List.mem_cons, List.not_mem_nil, or_false] at hp
      rcases hp with rfl | rfl
      · exact ⟨by simp, by simp⟩
      · exact ⟨by show (marksI n s).length ≤ _; rw [marks_len]; omega, by simp⟩
    · simp at hp
  · unfold wPI; split <;> simp
def spI (n : Nat) (m : Int) : List Spc := if decide (m = 2) then [⟨2, 1048576⟩, ⟨3, n⟩] else []
theorem sp_I (n : Nat) (m : Int) : spP n m = (spI n m).map spcV := by unfold spP spI; split <;> rfl
theorem sp_len (n : Nat) (m : Int) : (spI n m).length ≤ 1000000000 := by unfold spI; split <;> simp
def stepRuleI (G : Graph) (m : Int) (s : Step) : Rul := ⟨0, s.frm, 0, stepWord G s, ⟨0, 0, [], wCI G.vars.length m s⟩, wPI G.vars.length m s⟩
def exitRuleI (G : Graph) (m n : Int) : Rul := ⟨0, n, 0, [], ⟨0, 0, [], wCI G.vars.length m ⟨0, 0, 1, 0, 0, 0, 0⟩⟩, wPI G.vars.length m ⟨0, 0, 1, 0, 0, 0, 0⟩⟩
theorem stepRule_I (G : Graph) (m : Int) (s : Step) : stepRuleM G m s = rulV (stepRuleI G m s) := by simp only [stepRuleM, stepRuleI, wC_I, wP_I]; rfl
theorem exitRule_I (G : Graph) (m n : Int) : exitRuleM G m n = rulV (exitRuleI G m n) := by simp only [exitRuleM, exitRuleI, wC_I, wP_I]; rfl
def rulesI (G : Graph) (m : Int) : List Rul := G.steps.map (stepRuleI G m) ++ G.exit.map (exitRuleI G m)
theorem rules_I (G : Graph) (m : Int) : rulesM G m G.steps.length G.exit.length = (rulesI G m).map rulV := by
  rw [rulesM, List.take_length, List.take_length, rulesI, List.map_append, List.map_map, List.map_map]
  congr 1
  · exact List.map_congr_left fun s _ => stepRule_I G m s
  · exact List.map_congr_left fun n _ => exitRule_I G m n
theorem rules_fit {G : Graph} (h : G.vars.length ≤ 64) (m : Int) : ∀ r ∈ rulesI G m, r.Fit := by
  intro r hr
  rcases List.mem_append.1 hr with hr | hr
  · obtain ⟨s, _, rfl⟩ := List.mem_map.1 hr
    refine ⟨?_, w_fit h m s⟩
    show (stepWord G s).length ≤ _
    unfold stepWord; split <;> simp
  · obtain ⟨n, _, rfl⟩ := List.mem_map.1 hr
    exact ⟨by show ([] : List Int).length ≤ _; simp, w_fit h m _⟩
structure PdsX where
  (t d n k : Int)
  (sp : List Spc)
  (rs : List Rul)
abbrev pdsXL (x : PdsX) : List V := [iV x.t, iV x.d, .sl 35 (x.sp.map spcV), iV x.n, iV x.k, .sl 92 (x.rs.map rulV)]
def pdsX (G : Graph) (m : Int) : PdsX := if decide (askedR G m ≠ 0) then ⟨0, 0, 0, 0, [], []⟩ else ⟨spT m, spD G.vars.length m, 1, G.of.length, spI G.vars.length m, rulesI G m⟩
theorem pds_X (G : Graph) (m : Int) : pdsE G m = .tup [.agg (pdsXL (pdsX G m)), iV (askedR G m)] := by
  unfold pdsE pdsX
  cases h : decide (askedR G m ≠ 0) with
  | true => rfl
  | false =>
    have h0 : askedR G m = 0 := by simpa using h
    simp only [Bool.false_eq_true, ↓reduceIte, pdsML, sp_I, rules_I, h0]
theorem pdsX_fit {G : Graph} (h : G.vars.length ≤ 64) (h1 : G.steps.length ≤ 400000000) (h4 : G.exit.length ≤ 400000000) (m : Int) : (pdsX G m).sp.length ≤ 1000000000 ∧ (pdsX G m).rs.length ≤ 1000000000 ∧ ∀ r ∈ (pdsX G m).rs, r.Fit := by
  unfold pdsX
  split
  · exact ⟨by simp, by simp, fun r hr => by simp at hr⟩
  · exact ⟨sp_len _ _, by show (rulesI G m).length ≤ _; rw [rulesI, List.length_append, List.length_map, List.length_map]; omega, rules_fit h m⟩
structure AutX where
  (t d n k : Int)
  (sp : List Spc)
  (fin : List Int)
  (ts : List Trn)
abbrev autXL (x : AutX) : List V := [iV x.t, iV x.d, .sl 35 (x.sp.map spcV), iV x.n, iV x.k, .sl 3 (x.fin.map iV), .sl 112 (x.ts.map trnV)]
def startF (n : Nat) (m : Int) : Wgt := ⟨0, 0, [], if decide (m = 3) then (List.range n).map fun _ => (0, 1, 0) else []⟩
def startP (n : Nat) (m : Int) : List Wgt := if decide (m = 2) then [⟨0, 0, [], []⟩, ⟨0, 0, (List.range n).map bitI, []⟩] else []
def startX (G : Graph) (m : Int) : AutX := if decide (askedR G m ≠ 0) then ⟨0, 0, 0, 0, [], [], []⟩ else ⟨spT m, spD G.vars.length m, 2, G.of.length, spI G.vars.length m, [1], [⟨0, entryZ G G.main, 1, startF G.vars.length m, startP G.vars.length m⟩]⟩
theorem startX_fit {G : Graph} (h : G.vars.length ≤ 64) (m : Int) : (startX G m).sp.length ≤ 1000000000 ∧ (startX G m).fin.length ≤ 1000000000 ∧ (startX G m).ts.length ≤ 1000000000 ∧ ∀ r ∈ (startX G m).ts, WFit r.f r.ps := by
  unfold startX
  split
  · exact ⟨by simp, by simp, by simp, fun r hr => by simp at hr⟩
  · refine ⟨sp_len _ _, by simp, by simp, fun r hr => ?_⟩
    obtain rfl := List.mem_singleton.1 hr
    refine ⟨⟨by simp [startF], ?_⟩, fun p hp => ?_, ?_⟩
    · simp only [startF]; split <;> simp; omega
    · simp only [startP] at hp
      split at hp
      · simp only [List.mem_cons, List.not_mem_nil, or_false] at hp
        rcases hp with rfl | rfl
        · exact ⟨by simp, by simp⟩
        · exact ⟨by simp; omega, by simp⟩
      · simp at hp
    · simp only [startP]; split <;> simp
theorem mode_of {G : Graph} {m : Int} (h : decide (askedR G m ≠ 0) = false) : m = 1 ∨ m = 2 ∨ m = 3 := by
  have h0 : askedR G m = 0 := by simpa using h
  unfold askedR at h0
  split at h0
  · rename_i hc; rw [h0] at hc; cases hc
  split at h0
  · rename_i h1; simp at h1; omega
  split at h0
  · rename_i h1; simp at h1; omega
  split at h0
  · rename_i h1; simp at h1; omega
  · cases h0
section
variable (G : Graph) (m : Int) (h1 : G.steps.length ≤ 1000000000) (h2 : G.points.length ≤ 1000000000) (h3 : G.sinks.length ≤ 1000000000) (h5 : G.sites.length ≤ 1000000000) (h : G.vars.length ≤ 64)
theorem startC_I (n : Nat) : startC n = ((List.range n).map fun _ => ((0 : Int), (1 : Int), (0 : Int))).map celT := by simp [startC]
theorem start_of (P : V → Prop) (he : decide (askedR G m ≠ 0) = true → P (.tup [.agg (autoL 0 0 [] 0 0 [] []), iV (askedR G m)])) (k1 : decide (askedR G m ≠ 0) = false → m = 1 → P (.tup [.agg (autoL 1 0 [] 2 G.of.length [iV 1] [transV 0 (entryZ G G.main) 1 [] [] []]), iV 0]))
    (k2 : decide (askedR G m ≠ 0) = false → m = 2 → P (.tup [.agg (autoL 5 0 [.agg (sL 2 1048576 []), .agg (sL 3 G.vars.length [])] 2 G.of.length [iV 1] [transV 0 (entryZ G G.main) 1 [] [] [.agg (wL 0 0 [] [] []), .agg (wL 0 0 (rows1 G.vars.length) [] [])]]), iV 0]))
    (k3 : decide (askedR G m ≠ 0) = false → m = 3 → P (.tup [.agg (autoL 4 G.vars.length [] 2 G.of.length [iV 1] [transV 0 (entryZ G G.main) 1 [] (startC G.vars.length) []]), iV 0])) : P (.tup [.agg (autXL (startX G m)), iV (askedR G m)]) := by
  cases hc : decide (askedR G m ≠ 0) with
  | true => rw [startX, hc]; exact he hc
  | false =>
    have h0 : askedR G m = 0 := by simpa using hc
    rw [startX, hc, h0]
    rcases mode_of hc with hm | hm | hm
    · subst hm; exact k1 hc rfl
    · subst hm
      have := k2 hc rfl
      rw [rows1_I] at this
      exact this
    · subst hm
      have := k3 hc rfl
      rw [startC_I] at this
      exact this
include h1 h2 h3 h in
theorem start_X : FnC Try.prog 18 [graphV G, iV m] (fun r => r = .tup [.agg (autXL (startX G m)), iV (askedR G m)]) :=
  start_of G m (fun v => FnC Try.prog 18 [graphV G, iV m] (fun r => r = v)) (fun he => startErr G m h1 h2 h3 he) (fun he hm => by subst hm; exact start1 G h1 h2 h3 he) (fun he hm => by subst hm; exact start2 G h1 h2 h3 h he) (fun he hm => by subst hm; exact start3 G h1 h2 h3 h he)
include h1 h2 h3 h5 h in
theorem start23_X : FnC Try.prog 19 [graphV G, iV m] (fun r => r = .tup [.agg (autXL (startX G m)), iV (askedR G m)]) :=
  start_of G m (fun v => FnC Try.prog 19 [graphV G, iV m] (fun r => r = v)) (fun he => start23Err G m h1 h2 h3 h5 he) (fun he hm => by subst hm; exact start23_1 G h1 h2 h3 h5 he) (fun he hm => by subst hm; exact start23_2 G h1 h2 h3 h5 h he) (fun he hm => by subst hm; exact start23_3 G h1 h2 h3 h5 h he)
end
def weightF (G : Graph) (m step : Int) : Wgt := if decide (askedR G m ≠ 0) then ⟨0, 0, [], []⟩ else if decide (step < 0) || decide ((G.steps.length : Int) ≤ step) then ⟨0, 0, [], []⟩ else ⟨0, 0, [], wCI G.vars.length m (G.steps.getD step.toNat ⟨0, 0, 1, 0, 0, 0, 0⟩)⟩
def weightP (G : Graph) (m step : Int) : List Wgt := if decide (askedR G m ≠ 0) then [] else if decide (step < 0) || decide ((G.steps.length : Int) ≤ step) then [] else wPI G.vars.length m (G.steps.getD step.toNat ⟨0, 0, 1, 0, 0, 0, 0⟩)
theorem weight_X (G : Graph) (m step : Int) : (weightE G m step).1 = .agg (wtV (weightF G m step) ((weightP G m step).map lwV)) := by
  unfold weightE weightF weightP
  split
  · rfl
  split
  · rfl
  · simp only [wC_I, wP_I]; rfl
theorem weight_fit {G : Graph} (h : G.vars.length ≤ 64) (m step : Int) : WFit (weightF G m step) (weightP G m step) := by
  unfold weightF weightP
  split
  · exact ⟨⟨by simp, by simp⟩, fun p hp => by simp at hp, by simp⟩
  split
  · exact ⟨⟨by simp, by simp⟩, fun p hp => by simp at hp, by simp⟩
  · exact w_fit h m _

/-! ### EncodeMakes, walked -/
theorem small_all {G : Graph} (h : (!smallR G) = false) : G.steps.length ≤ 1000000 ∧ G.points.length ≤ 1000000 ∧ G.sinks.length ≤ 1000000 ∧ G.sites.length ≤ 1000000 ∧ G.exit.length ≤ 1000000 ∧ G.vars.length ≤ 64 := by
  simp [smallR] at h; omega

theorem encodeMakes (G : Graph) (m step : Int) : FnC Try.prog 6 [graphV G, iV m, iV step] (fun r => r = .bool true) := by
  refine FnC.of (fn := Try.f6) ⟨Try.func6, by kernel_rfl, rfl⟩ Try.ntmps6 (by simp) fun w0 S0 => ?_
  refine p_seq (p_region fun hf => ?_)
  refine p_box (h := ?_)
  refine p_assign (h := ?_)
  refine p_end ?_
  refine p_seq ?_
  refine p_seq (p_region fun hf => ?_)
  (first | refine p_loadA (ht := F.agg29) (hi := F.ti29) (h := ?_) | refine p_loadRefA (ht := F.agg29) (hi := F.ti29) (h := ?_))
  refine p_call (hx := rfl) (hb := ⟨Try.func7, by kernel_rfl, rfl⟩) (hf := small G) (h := ?_)
  refine p_not (h := ?_)
  refine p_end ?_
  refine p_splitC (s := 21) (ht := fun hc21 => ?_) (hf := fun hc21 => ?_)
  · refine p_condT (h := ?_)
    refine p_seq (p_region fun hf => ?_)
    refine p_call (hx := rfl) (hb := ⟨Try.func8, by kernel_rfl, rfl⟩) (hf := alive) (h := ?_)
    refine p_assign (h := ?_)
    refine p_end ?_
    refine TrC.ret ?_
    refine p_ret1 (hp := by rfl)
  · refine p_condF (h := ?_)
    obtain ⟨k1, k2, k3, k5, k4, k6⟩ := small_all hc21
    have h1 : G.steps.length ≤ 1000000000 := by omega
    have h2 : G.points.length ≤ 1000000000 := by omega
    have h3 : G.sinks.length ≤ 1000000000 := by omega
    have h5 : G.sites.length ≤ 1000000000 := by omega
    have h4 : G.exit.length ≤ 1000000000 := by omega
    have c26 : FnC Try.prog 9 [graphV G, iV m] (fun r => r = .tup [.agg (pdsXL (pdsX G m)), iV (askedR G m)]) := by rw [← pds_X]; exact pdsM G m h1 h2 h3 h4 k6
    have c32 : FnC Try.prog 17 [graphV G, iV m] (fun r => r = .tup [.agg (pdsXL (pdsX G m)), iV (askedR G m)]) := by rw [← pds_X]; exact pds23 G m h1 h2 h3 h5 h4 k6
    have c51 : FnC Try.prog 20 [graphV G, iV m, iV step] (fun r => r = .tup [.agg (wtV (weightF G m step) ((weightP G m step).map lwV)), iV (weightE G m step).2]) := by rw [← weight_X]; exact weightM G m step h1 h2 h3 h4 k6
    have c58 : FnC Try.prog 21 [graphV G, iV m, iV step] (fun r => r = .tup [.agg (wtV (weightF G m step) ((weightP G m step).map lwV)), iV (weightE G m step).2]) := by rw [← weight_X]; exact weight23 G m step h1 h2 h3 h5 h4 k6
    obtain ⟨p1, p2, p3⟩ := pdsX_fit k6 (by omega) (by omega) m
    obtain ⟨a1, a2, a3, a4⟩ := startX_fit k6 m
    have hw := weight_fit k6 m step
    refine p_skip ?_
    refine p_seq (p_region fun hf => ?_)
    (first | refine p_loadA (ht := F.agg29) (hi := F.ti29) (h := ?_) | refine p_loadRefA (ht := F.agg29) (hi := F.ti29) (h := ?_))
    refine p_move (h := ?_)
    refine p_call (hx := rfl) (hb := ⟨Try.func9, by kernel_rfl, rfl⟩) (hf := c26) (h := ?_)
    refine p_move (h := ?_)
    refine p_extract (h := ?_)
    refine p_extract (h := ?_)
    refine p_alloc (hi := F.ti38) (h := ?_)
    refine p_storeAll F.ti38 (h := ?_)
    refine p_assign (h := ?_)
    refine p_end ?_
    refine p_seq (p_region fun hf => ?_)
    (first | refine p_loadA (ht := F.agg29) (hi := F.ti29) (h := ?_) | refine p_loadRefA (ht := F.agg29) (hi := F.ti29) (h := ?_))
    refine p_move (h := ?_)
    refine p_call (hx := rfl) (hb := ⟨Try.func17, by kernel_rfl, rfl⟩) (hf := c32) (h := ?_)
    refine p_move (h := ?_)
    refine p_extract (h := ?_)
    refine p_extract (h := ?_)
    refine p_alloc (hi := F.ti38) (h := ?_)
    refine p_storeAll F.ti38 (h := ?_)
    refine p_assign (h := ?_)
    refine p_end ?_
    refine p_seq (p_region fun hf => ?_)
    (first | refine p_loadA (ht := F.agg29) (hi := F.ti29) (h := ?_) | refine p_loadRefA (ht := F.agg29) (hi := F.ti29) (h := ?_))
    refine p_move (h := ?_)
    refine p_call (hx := rfl) (hb := ⟨Try.func18, by kernel_rfl, rfl⟩) (hf := start_X G m h1 h2 h3 k6) (h := ?_)
    refine p_move (h := ?_)
    refine p_extract (h := ?_)
    refine p_extract (h := ?_)
    refine p_alloc (hi := F.ti69) (h := ?_)
    refine p_storeAll F.ti69 (h := ?_)
    refine p_assign (h := ?_)
    refine p_end ?_
    refine p_seq (p_region fun hf => ?_)
    (first | refine p_loadA (ht := F.agg29) (hi := F.ti29) (h := ?_) | refine p_loadRefA (ht := F.agg29) (hi := F.ti29) (h := ?_))
    refine p_move (h := ?_)
    refine p_call (hx := rfl) (hb := ⟨Try.func19, by kernel_rfl, rfl⟩) (hf := start23_X G m h1 h2 h3 h5 k6) (h := ?_)
    refine p_move (h := ?_)
    refine p_extract (h := ?_)
    refine p_extract (h := ?_)
    refine p_alloc (hi := F.ti69) (h := ?_)
    refine p_storeAll F.ti69 (h := ?_)
    refine p_assign (h := ?_)
    refine p_end ?_
    refine p_seq (p_region fun hf => ?_)
    (first | refine p_loadA (ht := F.agg29) (hi := F.ti29) (h := ?_) | refine p_loadRefA (ht := F.agg29) (hi := F.ti29) (h := ?_))
    refine p_move (h := ?_)
    refine p_move (h := ?_)
    refine p_call (hx := rfl) (hb := ⟨Try.func20, by kernel_rfl, rfl⟩) (hf := c51) (h := ?_)
    refine p_move (h := ?_)
    refine p_extract (h := ?_)
    refine p_extract (h := ?_)
    refine p_alloc (hi := F.ti81) (h := ?_)
    refine p_storeAll F.ti81 (h := ?_)
    refine p_assign (h := ?_)
    refine p_end ?_
    refine p_seq (p_region fun hf => ?_)
    (first | refine p_loadA (ht := F.agg29) (hi := F.ti29) (h := ?_) | refine p_loadRefA (ht := F.agg29) (hi := F.ti29) (h := ?_))
    refine p_move (h := ?_)
    refine p_move (h := ?_)
    refine p_call (hx := rfl) (hb := ⟨Try.func21, by kernel_rfl, rfl⟩) (hf := c58) (h := ?_)
    refine p_move (h := ?_)
    refine p_extract (h := ?_)
    refine p_extract (h := ?_)
    refine p_alloc (hi := F.ti81) (h := ?_)
    refine p_storeAll F.ti81 (h := ?_)
    refine p_assign (h := ?_)
    refine p_end ?_
    refine p_seq (p_region fun hf => ?_)
    (first | refine p_loadA (ht := F.agg38) (hi := F.ti38) (h := ?_) | refine p_loadRefA (ht := F.agg38) (hi := F.ti38) (h := ?_))
    (first | refine p_loadA (ht := F.agg38) (hi := F.ti38) (h := ?_) | refine p_loadRefA (ht := F.agg38) (hi := F.ti38) (h := ?_))
    refine p_call (hx := rfl) (hb := ⟨Try.func22, by kernel_rfl, rfl⟩) (hf := sameP _ _ _ _ _ _ p1 p2 p3) (h := ?_)
    refine p_move (h := ?_)
    refine p_isW (s := 64) (b := true) (hc := by simp) (h := ?_)
    refine p_guardYes (h := ?_)
    refine p_move (h := ?_)
    refine p_guardYes (h := ?_)
    refine p_move (h := ?_)
    refine p_guardYes (h := ?_)
    refine p_num (h := ?_)
    refine p_pick (h := ?_)
    refine p_move (h := ?_)
    refine p_isW (s := 69) (b := true) (hc := by simp) (h := ?_)
    refine p_guardYes (h := ?_)
    (first | refine p_loadA (ht := F.agg69) (hi := F.ti69) (h := ?_) | refine p_loadRefA (ht := F.agg69) (hi := F.ti69) (h := ?_))
    refine p_guardYes (h := ?_)
    (first | refine p_loadA (ht := F.agg69) (hi := F.ti69) (h := ?_) | refine p_loadRefA (ht := F.agg69) (hi := F.ti69) (h := ?_))
    refine p_guardYes (h := ?_)
    refine p_call (hx := rfl) (hb := ⟨Try.func23, by kernel_rfl, rfl⟩) (hf := sameA _ _ _ _ _ _ _ a1 a2 a3 a4) (h := ?_)
    refine p_pick (h := ?_)
    refine p_move (h := ?_)
    refine p_isW (s := 74) (b := true) (hc := by simp) (h := ?_)
    refine p_guardYes (h := ?_)
    refine p_move (h := ?_)
    refine p_guardYes (h := ?_)
    refine p_move (h := ?_)
    refine p_guardYes (h := ?_)
    refine p_num (h := ?_)
    refine p_pick (h := ?_)
    refine p_move (h := ?_)
    refine p_isW (s := 79) (b := true) (hc := by simp) (h := ?_)
    refine p_guardYes (h := ?_)
    (first | refine p_loadA (ht := F.agg81) (hi := F.ti81) (h := ?_) | refine p_loadRefA (ht := F.agg81) (hi := F.ti81) (h := ?_))
    refine p_guardYes (h := ?_)
    (first | refine p_loadA (ht := F.agg81) (hi := F.ti81) (h := ?_) | refine p_loadRefA (ht := F.agg81) (hi := F.ti81) (h := ?_))
    refine p_guardYes (h := ?_)
    refine p_call (hx := rfl) (hb := ⟨Try.func24, by kernel_rfl, rfl⟩) (hf := sameW _ _ hw.one hw.all hw.len) (h := ?_)
    refine p_pick (h := ?_)
    refine p_move (h := ?_)
    refine p_isW (s := 84) (b := true) (hc := by simp) (h := ?_)
    refine p_guardYes (h := ?_)
    refine p_move (h := ?_)
    refine p_guardYes (h := ?_)
    refine p_move (h := ?_)
    refine p_guardYes (h := ?_)
    refine p_num (h := ?_)
    refine p_pick (h := ?_)
    refine p_move (h := ?_)
    refine p_isW (s := 89) (b := true) (hc := by simp) (h := ?_)
    refine p_guardYes (h := ?_)
    refine p_call (hx := rfl) (hb := ⟨Try.func8, by kernel_rfl, rfl⟩) (hf := alive) (h := ?_)
    refine p_pick (h := ?_)
    refine p_assign (h := ?_)
    refine p_end ?_
    refine TrC.ret ?_
    refine p_ret1 (hp := by rfl)

end Go.Proofs.Ytfjciangbmjlmaa
