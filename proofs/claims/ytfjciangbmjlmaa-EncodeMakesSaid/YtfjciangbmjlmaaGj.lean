/-
  encode.Pds in the mode of mere reachability, walked.
-/
import Derived.Test.YtfjciangbmjlmaaGi
set_option linter.unusedSimpArgs false
set_option linter.unusedVariables false
namespace Go.Proofs.Ytfjciangbmjlmaa
open Go.RowKit
abbrev ruleV (g : Int) (w : V) : V := .agg [iV 0, iV g, iV 0, w, .bool false, iV 0, .int .u64 0, .nil, .nil, .nil]
def entryZ (G : Graph) (k : Int) : Int := (G.entry[k.toNat]?).getD 0
theorem entryZ_eq {G : Graph} {k : Int} (h : k.toNat < G.entry.length) : G.entry[k.toNat] = entryZ G k := by simp [entryZ, h]
def stepWord (G : Graph) (s : Step) : List Int := if decide (s.kind = 8) then [entryZ G (siteAt G s.site).proc, s.to] else [s.to]
def stepRule (G : Graph) (s : Step) : V := ruleV s.frm (.sl 3 ((stepWord G s).map iV))
theorem stepRule_call {G : Graph} {s : Step} (h : decide (s.kind = 8) = true) : stepRule G s = ruleV s.frm (.sl 3 [iV (entryZ G (siteAt G s.site).proc), iV s.to]) := by simp only [stepRule, stepWord, h, ↓reduceIte, List.map_cons, List.map_nil]
theorem stepRule_not {G : Graph} {s : Step} (h : decide (s.kind = 8) = false) : stepRule G s = ruleV s.frm (.sl 3 [iV s.to]) := by simp only [stepRule, stepWord, h, Bool.false_eq_true, ↓reduceIte, List.map_cons, List.map_nil]
def rulesOf (G : Graph) : List V := G.steps.map (stepRule G) ++ G.exit.map fun n => ruleV n .nil
abbrev pdsL (G : Graph) : List V := [iV 1, iV 0, .nil, iV 1, iV G.of.length, .sl 92 (rulesOf G)]
abbrev pdsZ : List V := [iV 0, iV 0, .nil, iV 0, iV 0, .nil]
def pdsR (G : Graph) : V := if decide (askedR G 1 ≠ 0) then .tup [.agg pdsZ, iV (askedR G 1)] else .tup [.agg (pdsL G), iV 0]
def rulesAt (G : Graph) (i j : Nat) : List V := (G.steps.take i).map (stepRule G) ++ (G.exit.take j).map fun n => ruleV n .nil
theorem rules_step {G : Graph} {i : Nat} (h : i < G.steps.length) : rulesAt G (i + 1) 0 = rulesAt G i 0 ++ [stepRule G G.steps[i]] := by
  simp only [rulesAt, List.take_add_one, List.getElem?_eq_getElem h, Option.toList_some, List.map_append, List.map_cons, List.map_nil, List.take_zero, List.append_nil]
theorem rules_exit {G : Graph} {i j : Nat} (h : j < G.exit.length) : rulesAt G i (j + 1) = rulesAt G i j ++ [ruleV G.exit[j] .nil] := by
  simp only [rulesAt, List.take_add_one, List.getElem?_eq_getElem h, Option.toList_some, List.map_append, List.map_cons, List.map_nil, List.append_assoc]
theorem rules_len {G : Graph} {i j : Nat} (hi : i ≤ G.steps.length) (hj : j ≤ G.exit.length) : i + j = (rulesAt G i j).length := by simp [rulesAt]; omega
theorem scan_all {G : Graph} : ∀ (l : List Step) (c : Nat), (scan G c l).1 = true → ∀ s ∈ l, stepRightB G s = true
  | [], _, _, s, hs => by simp at hs
  | s :: l, c, h, q, hq => by
    unfold scan at h
    split at h
    · rename_i hc
      simp only [Bool.and_eq_true] at hc
      rcases List.mem_cons.1 hq with rfl | hq
      · exact hc.1
      · exact scan_all l _ h q hq
    · cases h
theorem asked_check {G : Graph} (h : decide (askedR G 1 ≠ 0) = false) : checkB G = true := by
  cases hc : checkB G with
  | true => rfl
  | false => simp [askedR, checkE, hc] at h
theorem step_site {G : Graph} (h : checkB G = true) {i : Nat} (hi : i < G.steps.length) (hk : decide (G.steps[i].kind = 8) = true) : (!inB G.steps[i].site G.sites.length) = false := by
  simp only [checkB, Bool.and_eq_true] at h
  have h1 := scan_all _ _ h.1.1.1.2 _ (List.getElem_mem hi)
  have hk' : G.steps[i].kind = 8 := by simpa using hk
  unfold stepRightB at h1
  simp only [hk'] at h1
  by_cases h2 : (!inB G.steps[i].site G.sites.length) = true
  · simp [h2] at h1
  · simpa using h2
theorem site_proc {G : Graph} (h : checkB G = true) {k : Int} (hk : (!inB k G.sites.length) = false) : (!inB (siteAt G k).proc G.entry.length) = false := by
  simp only [checkB, Bool.and_eq_true] at h
  have h1 := h.1.1.1.1
  simp only [procsRightB, Bool.and_eq_true] at h1
  have hl : (G.entry.length : Int) = G.procs.length := by
    have h2 := h1.1.1.1
    simp only [headB, Bool.not_eq_true', Bool.or_eq_false_iff] at h2
    simpa using h2.1.1.1.2
  have h3 := h1.2.2
  simp only [Bool.not_eq_true', List.any_eq_false] at h3
  have hlt := inB_lt hk
  have h4 := h3 G.sites[k.toNat] (List.getElem_mem hlt)
  rw [siteAt_eq hlt, ← hl] at h4
  simpa using h4

theorem pds1 (G : Graph) (h1 : G.steps.length ≤ 1000000000) (h2 : G.points.length ≤ 1000000000) (h3 : G.sinks.length ≤ 1000000000) (h4 : G.exit.length ≤ 1000000000) : FnC Try.prog 9 [graphV G, iV 1] (fun r => r = pdsR G) := by
  refine FnC.of (fn := Try.f9) ⟨Try.func9, by kernel_rfl, rfl⟩ Try.ntmps9 (by simp) fun w0 S0 => ?_
  refine p_seq (p_region fun hf => ?_)
  refine p_box (h := ?_)
  refine p_alloc (hi := F.ti38) (h := ?_)
  refine p_assign (h := ?_)
  refine p_end ?_
  refine p_seq ?_
  refine p_seq (p_region fun hf => ?_)
  (first | refine p_loadA (ht := F.agg29) (hi := F.ti29) (h := ?_) | refine p_loadRefA (ht := F.agg29) (hi := F.ti29) (h := ?_))
  refine p_move (h := ?_)
  refine p_call (hx := rfl) (hb := ⟨Try.func26, by kernel_rfl, rfl⟩) (hf := asked G 1 h1 h2 h3) (h := ?_)
  refine p_assign (h := ?_)
  refine p_end ?_
  refine p_seq (p_region fun hf => ?_)
  refine p_move (h := ?_)
  refine p_num (h := ?_)
  refine p_end ?_
  refine p_splitC (s := 17) (ht := fun hc17 => ?_) (hf := fun hc17 => ?_)
  · refine p_condT (h := ?_)
    refine p_seq (p_region fun hf => ?_)
    refine p_build (hi := F.ti38) (hpl := F.pl38) (h := ?_)
    refine p_move (h := ?_)
    refine p_storeAll F.ti38 (h := ?_)
    refine p_assign (h := ?_)
    refine p_end ?_
    refine TrC.ret ?_
    refine p_rets2 rfl (res_cell eV_ oB_ F.agg38 F.ti38 rfl rfl) ⟨eV_, rfl⟩ (by simp only [pdsR, hc17, ↓reduceIte])
  · refine p_condF (h := ?_)
    have hck := asked_check hc17
    refine p_skip ?_
    refine p_seq (p_draw F.mixed fun hf => ?_)
    (first | refine p_loadA (ht := F.agg29) (hi := F.ti29) (h := ?_) | refine p_loadRefA (ht := F.agg29) (hi := F.ti29) (h := ?_))
    refine p_move (h := ?_)
    refine p_call (hx := rfl) (hb := ⟨Try.func27, by kernel_rfl, rfl⟩) (hf := space1 G) (h := ?_)
    (first | refine p_fieldPtr (hf := F.fld29_5) (h := ?_) | refine p_fieldRef (hf := F.fld29_5) (h := ?_) | refine p_fieldRow (hf := F.fld29_5) (h := ?_))
    (first | refine p_load (ht := F.leaf23) (h := ?_) | refine p_loadRef (ht := F.leaf23) (h := ?_))
    refine p_len (ht := Try.underlying23) (h := ?_)
    refine p_build (hi := F.ti38) (hpl := F.pl38) (h := ?_)
    refine p_alloc (hi := F.ti38) (h := ?_)
    refine p_storeAll F.ti38 (h := ?_)
    refine p_endD ?_
    refine p_seq ?_
    refine p_seq (p_region fun hf => ?_)
    (first | refine p_fieldPtr (hf := F.fld29_6) (h := ?_) | refine p_fieldRef (hf := F.fld29_6) (h := ?_) | refine p_fieldRow (hf := F.fld29_6) (h := ?_))
    (first | refine p_load (ht := F.leaf24) (h := ?_) | refine p_loadRef (ht := F.leaf24) (h := ?_))
    refine p_len (ht := Try.underlying24) (h := ?_)
    refine p_move (h := ?_)
    refine p_end ?_
    refine p_nilCell (g1 := 0 + 1 + 1 + 1 + 1) (d1 := 7) (i := 5) (el := 92) 65 (h := ?_)
    refine TrC.block ?_
    refine p_loop (fun st => ∃ (i r : Nat), i ≤ G.steps.length ∧ st.env 1 = iV 1 ∧ st.env 2 = .ptr (0 + 1) 2 0 ∧ st.env 4 = .ptr (0 + 1) 4 0 ∧ st.env 7 = .ptr (0 + 1 + 1 + 1 + 1) 7 0 ∧ st.env 28 = .sl 50 (G.steps.map stepV) ∧ st.env 29 = iV G.steps.length ∧ st.env 30 = iV i ∧ st.obj (0 + 1) 2 = .cells 29 (graphL G) ∧ st.obj (0 + 1) 4 = .cells 38 pdsZ ∧ st.obj (0 + 1 + 1 + 1 + 1) 7 = .cells 38 [iV 1, iV 0, .nil, iV 1, iV G.of.length, .row r 65 (i + 0)] ∧ st.obj r 65 = .row 92 (rulesAt G i 0)) (fun st => G.steps.length - (st.env 30).toN) ?_ fun e ob g1 hI => ?_
    · exact ⟨0, _, by omega, eV_, eV_, eV_, eV_, eV_, eV_, eV_, oB_, oB_, oB_, oB_⟩
    · obtain ⟨i, r, hi, e1, e2, e4, e7, e28, e29, e30, o2, o4, o7, o65⟩ := hI
      dsimp only at e1 e2 e4 e7 e28 e29 e30 o2 o4 o7 o65
      have hE := (⟨e1, e2, e4, e7, e28, e29, e30, o2, o4, o7, o65⟩ : _ ∧ _ ∧ _ ∧ _ ∧ _ ∧ _ ∧ _ ∧ _ ∧ _ ∧ _ ∧ _)
      refine p_seq (p_region fun hf => ?_)
      refine p_num (h := ?_)
      refine p_end ?_
      refine p_seq ?_
      refine p_splitC (s := 31) (ht := fun hc31 => ?_) (hf := fun hc31 => ?_)
      · refine p_condT (h := ?_)
        have hlt : i < G.steps.length := by simpa using hc31
        refine p_skip ?_
        refine p_seq ?_
        refine TrC.block ?_
        refine p_seq (p_region fun hf => ?_)
        refine p_idxMap (j := i) (ht := Try.underlying24) (hi := F.ti50) (hij := rfl) (hj := hlt) (h := ?_)
        (first | refine p_loadA (ht := F.agg50) (hi := F.ti50) (h := ?_) | refine p_loadRefA (ht := F.agg50) (hi := F.ti50) (h := ?_))
        refine p_alloc (hi := F.ti50) (h := ?_)
        refine p_storeAll F.ti50 (h := ?_)
        refine p_end ?_
        refine p_seq (p_region fun hf => ?_)
        (first | refine p_fieldPtr (hf := F.fld50_1) (h := ?_) | refine p_fieldRef (hf := F.fld50_1) (h := ?_) | refine p_fieldRow (hf := F.fld50_1) (h := ?_))
        (first | refine p_load (ht := F.leaf3) (h := ?_) | refine p_loadRef (ht := F.leaf3) (h := ?_))
        refine p_buildSlice (ht := Try.underlying23) (hi := F.ti3) (h := ?_)
        refine p_assign (h := ?_)
        refine p_end ?_
        refine p_seq ?_
        refine p_seq (p_region fun hf => ?_)
        (first | refine p_fieldPtr (hf := F.fld50_2) (h := ?_) | refine p_fieldRef (hf := F.fld50_2) (h := ?_) | refine p_fieldRow (hf := F.fld50_2) (h := ?_))
        (first | refine p_load (ht := F.leaf48) (h := ?_) | refine p_loadRef (ht := F.leaf48) (h := ?_))
        refine p_num (h := ?_)
        refine p_end ?_
        refine p_splitC (s := 39) (ht := fun hc39 => ?_) (hf := fun hc39 => ?_)
        · refine p_condT (h := ?_)
          have hin := step_site hck hlt hc39
          have hpr := site_proc hck hin
          refine p_draw F.mixed fun hf => ?_
          (first | refine p_fieldPtr (hf := F.fld29_2) (h := ?_) | refine p_fieldRef (hf := F.fld29_2) (h := ?_) | refine p_fieldRow (hf := F.fld29_2) (h := ?_))
          (first | refine p_load (ht := F.leaf23) (h := ?_) | refine p_loadRef (ht := F.leaf23) (h := ?_))
          (first | refine p_fieldPtr (hf := F.fld29_7) (h := ?_) | refine p_fieldRef (hf := F.fld29_7) (h := ?_) | refine p_fieldRow (hf := F.fld29_7) (h := ?_))
          (first | refine p_load (ht := F.leaf25) (h := ?_) | refine p_loadRef (ht := F.leaf25) (h := ?_))
          (first | refine p_fieldPtr (hf := F.fld50_6) (h := ?_) | refine p_fieldRef (hf := F.fld50_6) (h := ?_) | refine p_fieldRow (hf := F.fld50_6) (h := ?_))
          (first | refine p_load (ht := F.leaf3) (h := ?_) | refine p_loadRef (ht := F.leaf3) (h := ?_))
          refine p_idxMap (j := G.steps[i].site.toNat) (ht := Try.underlying25) (hi := F.ti54) (hij := inB_nat hin) (hj := inB_lt hin) (h := ?_)
          rw [siteAt_eq (inB_lt hin)]
          (first | refine p_fieldPtr (hf := F.fld54_1) (h := ?_) | refine p_fieldRef (hf := F.fld54_1) (h := ?_) | refine p_fieldRow (hf := F.fld54_1) (h := ?_))
          (first | refine p_load (ht := F.leaf3) (h := ?_) | refine p_loadRef (ht := F.leaf3) (h := ?_))
          refine p_idxMap (j := (siteAt G G.steps[i].site).proc.toNat) (ht := Try.underlying23) (hi := F.ti3) (hij := inB_nat hpr) (hj := inB_lt hpr) (h := ?_)
          rw [entryZ_eq (inB_lt hpr)]
          (first | refine p_load (ht := F.leaf3) (h := ?_) | refine p_loadRef (ht := F.leaf3) (h := ?_))
          (first | refine p_fieldPtr (hf := F.fld50_1) (h := ?_) | refine p_fieldRef (hf := F.fld50_1) (h := ?_) | refine p_fieldRow (hf := F.fld50_1) (h := ?_))
          (first | refine p_load (ht := F.leaf3) (h := ?_) | refine p_loadRef (ht := F.leaf3) (h := ?_))
          refine p_buildSlice (ht := Try.underlying23) (hi := F.ti3) (h := ?_)
          refine p_assign (h := ?_)
          refine p_endD ?_
          refine p_freeze (g1 := g1 + 1 + 1 + 1 + 1 + 1) (d1 := 53) (h := ?_)
          refine p_toSl (s := 10) (hn := by rfl) (h := ?_)
          refine p_draw F.mixed fun hf => ?_
          (first | refine p_fieldPtr (hf := F.fld38_3) (h := ?_) | refine p_fieldRef (hf := F.fld38_3) (h := ?_) | refine p_fieldRow (hf := F.fld38_3) (h := ?_))
          (first | refine p_load (ht := F.leaf36) (h := ?_) | refine p_loadRef (ht := F.leaf36) (h := ?_))
          (first | refine p_fieldPtr (hf := F.fld50_0) (h := ?_) | refine p_fieldRef (hf := F.fld50_0) (h := ?_) | refine p_fieldRow (hf := F.fld50_0) (h := ?_))
          (first | refine p_load (ht := F.leaf3) (h := ?_) | refine p_loadRef (ht := F.leaf3) (h := ?_))
          refine p_move (h := ?_)
          (first | refine p_loadA (ht := F.agg29) (hi := F.ti29) (h := ?_) | refine p_loadRefA (ht := F.agg29) (hi := F.ti29) (h := ?_))
          refine p_move (h := ?_)
          (first | refine p_loadA (ht := F.agg50) (hi := F.ti50) (h := ?_) | refine p_loadRefA (ht := F.agg50) (hi := F.ti50) (h := ?_))
          refine p_call (hx := rfl) (hb := ⟨Try.func28, by kernel_rfl, rfl⟩) (hf := worth1 G G.steps[i]) (h := ?_)
          refine p_build (hi := F.ti92) (hpl := F.pl92) (h := ?_)
          refine p_buildSlice (ht := Try.underlying36) (hi := F.ti92) (h := ?_)
          refine p_append (k := i + 0 + 1) (ht := Try.underlying36) (hi := F.ti92) (hnl := rules_len (j := 0) hi (Nat.zero_le _)) (hy := by exact ⟨.inl oB_, rfl⟩) (hm := by have := rules_len (j := 0) hi (Nat.zero_le _); simp only [List.length_cons, List.length_nil]; omega) (hlim := by omega) (h := ?_)
          (first | refine p_fieldPtr (hf := F.fld38_3) (h := ?_) | refine p_fieldRef (hf := F.fld38_3) (h := ?_) | refine p_fieldRow (hf := F.fld38_3) (h := ?_))
          refine p_store1 F.ti36 (h := ?_)
          refine p_endD ?_
          refine p_region fun hf => ?_
          refine p_add (r := ((i + 1 : Nat) : Int)) (hr := by omega) (hb := by omega) (h := ?_)
          refine p_move (h := ?_)
          refine p_end ?_
          refine p_some ?_
          refine ⟨⟨i + 1, _, hlt, eV_, eV_, eV_, eV_, eV_, eV_, eV_, oB_, oB_, oB_, ?_⟩, ?_⟩
          · rw [rules_step hlt, stepRule_call hc39]; exact oB_
          · simp (decide := true) only [upd, e30, V.toN, ↓reduceIte]; omega
        · refine p_condF (h := ?_)
          refine p_skip ?_
          refine p_freeze (g1 := g1 + 1 + 1 + 1) (d1 := 36) (h := ?_)
          refine p_toSl (s := 10) (hn := by rfl) (h := ?_)
          refine p_draw F.mixed fun hf => ?_
          (first | refine p_fieldPtr (hf := F.fld38_3) (h := ?_) | refine p_fieldRef (hf := F.fld38_3) (h := ?_) | refine p_fieldRow (hf := F.fld38_3) (h := ?_))
          (first | refine p_load (ht := F.leaf36) (h := ?_) | refine p_loadRef (ht := F.leaf36) (h := ?_))
          (first | refine p_fieldPtr (hf := F.fld50_0) (h := ?_) | refine p_fieldRef (hf := F.fld50_0) (h := ?_) | refine p_fieldRow (hf := F.fld50_0) (h := ?_))
          (first | refine p_load (ht := F.leaf3) (h := ?_) | refine p_loadRef (ht := F.leaf3) (h := ?_))
          refine p_move (h := ?_)
          (first | refine p_loadA (ht := F.agg29) (hi := F.ti29) (h := ?_) | refine p_loadRefA (ht := F.agg29) (hi := F.ti29) (h := ?_))
          refine p_move (h := ?_)
          (first | refine p_loadA (ht := F.agg50) (hi := F.ti50) (h := ?_) | refine p_loadRefA (ht := F.agg50) (hi := F.ti50) (h := ?_))
          refine p_call (hx := rfl) (hb := ⟨Try.func28, by kernel_rfl, rfl⟩) (hf := worth1 G G.steps[i]) (h := ?_)
          refine p_build (hi := F.ti92) (hpl := F.pl92) (h := ?_)
          refine p_buildSlice (ht := Try.underlying36) (hi := F.ti92) (h := ?_)
          refine p_append (k := i + 0 + 1) (ht := Try.underlying36) (hi := F.ti92) (hnl := rules_len (j := 0) hi (Nat.zero_le _)) (hy := by exact ⟨.inl oB_, rfl⟩) (hm := by have := rules_len (j := 0) hi (Nat.zero_le _); simp only [List.length_cons, List.length_nil]; omega) (hlim := by omega) (h := ?_)
          (first | refine p_fieldPtr (hf := F.fld38_3) (h := ?_) | refine p_fieldRef (hf := F.fld38_3) (h := ?_) | refine p_fieldRow (hf := F.fld38_3) (h := ?_))
          refine p_store1 F.ti36 (h := ?_)
          refine p_endD ?_
          refine p_region fun hf => ?_
          refine p_add (r := ((i + 1 : Nat) : Int)) (hr := by omega) (hb := by omega) (h := ?_)
          refine p_move (h := ?_)
          refine p_end ?_
          refine p_some ?_
          refine ⟨⟨i + 1, _, hlt, eV_, eV_, eV_, eV_, eV_, eV_, eV_, oB_, oB_, oB_, ?_⟩, ?_⟩
          · rw [rules_step hlt, stepRule_not hc39]; exact oB_
          · simp (decide := true) only [upd, e30, V.toN, ↓reduceIte]; omega
      · refine p_condF (h := ?_)
        have hie : i = G.steps.length := by simp at hc31; omega
        refine p_exit ?_
        refine p_seq ?_
        refine p_seq (p_region fun hf => ?_)
        (first | refine p_fieldPtr (hf := F.fld29_3) (h := ?_) | refine p_fieldRef (hf := F.fld29_3) (h := ?_) | refine p_fieldRow (hf := F.fld29_3) (h := ?_))
        (first | refine p_load (ht := F.leaf23) (h := ?_) | refine p_loadRef (ht := F.leaf23) (h := ?_))
        refine p_len (ht := Try.underlying23) (h := ?_)
        refine p_move (h := ?_)
        refine p_end ?_
        refine p_renCell (g1 := 0 + 1 + 1 + 1 + 1) (d1 := 7) (i := 5) 84 (h := ?_)
        refine TrC.block ?_
        refine p_loop (fun st => ∃ (j r : Nat), j ≤ G.exit.length ∧ st.env 1 = iV 1 ∧ st.env 2 = .ptr (0 + 1) 2 0 ∧ st.env 4 = .ptr (0 + 1) 4 0 ∧ st.env 7 = .ptr (0 + 1 + 1 + 1 + 1) 7 0 ∧ st.env 69 = .sl 3 (G.exit.map iV) ∧ st.env 70 = iV G.exit.length ∧ st.env 71 = iV j ∧ st.obj (0 + 1) 2 = .cells 29 (graphL G) ∧ st.obj (0 + 1) 4 = .cells 38 pdsZ ∧ st.obj (0 + 1 + 1 + 1 + 1) 7 = .cells 38 [iV 1, iV 0, .nil, iV 1, iV G.of.length, .row r 84 (G.steps.length + j)] ∧ st.obj r 84 = .row 92 (rulesAt G G.steps.length j)) (fun st => G.exit.length - (st.env 71).toN) ?_ fun e ob g2 hI => ?_
        · exact ⟨0, _, by omega, eV_, eV_, eV_, eV_, eV_, eV_, eV_, oB_, oB_, by rw [← hie]; exact oB_, by rw [← hie]; exact oB_⟩
        · obtain ⟨j, r, hj, f1, f2, f4, f7, f69, f70, f71, q2, q4, q7, q84⟩ := hI
          dsimp only at f1 f2 f4 f7 f69 f70 f71 q2 q4 q7 q84
          have hE := (⟨f1, f2, f4, f7, f69, f70, f71, q2, q4, q7, q84⟩ : _ ∧ _ ∧ _ ∧ _ ∧ _ ∧ _ ∧ _ ∧ _ ∧ _ ∧ _ ∧ _)
          refine p_seq (p_region fun hf => ?_)
          refine p_num (h := ?_)
          refine p_end ?_
          refine p_seq ?_
          refine p_splitC (s := 72) (ht := fun hc72 => ?_) (hf := fun hc72 => ?_)
          · refine p_condT (h := ?_)
            have hlt2 : j < G.exit.length := by simpa using hc72
            refine p_skip ?_
            refine p_seq ?_
            refine TrC.block ?_
            refine p_seq (p_region fun hf => ?_)
            refine p_idxMap (j := j) (ht := Try.underlying23) (hi := F.ti3) (hij := rfl) (hj := hlt2) (h := ?_)
            (first | refine p_load (ht := F.leaf3) (h := ?_) | refine p_loadRef (ht := F.leaf3) (h := ?_))
            refine p_assign (h := ?_)
            refine p_end ?_
            refine p_draw F.mixed fun hf => ?_
            (first | refine p_fieldPtr (hf := F.fld38_3) (h := ?_) | refine p_fieldRef (hf := F.fld38_3) (h := ?_) | refine p_fieldRow (hf := F.fld38_3) (h := ?_))
            (first | refine p_load (ht := F.leaf36) (h := ?_) | refine p_loadRef (ht := F.leaf36) (h := ?_))
            refine p_move (h := ?_)
            (first | refine p_loadA (ht := F.agg29) (hi := F.ti29) (h := ?_) | refine p_loadRefA (ht := F.agg29) (hi := F.ti29) (h := ?_))
            refine p_move (h := ?_)
            refine p_build (hi := F.ti50) (hpl := F.pl50) (h := ?_)
            refine p_call (hx := rfl) (hb := ⟨Try.func28, by kernel_rfl, rfl⟩) (hf := worth1 G ⟨0, 0, 1, 0, 0, 0, 0⟩) (h := ?_)
            refine p_build (hi := F.ti92) (hpl := F.pl92) (h := ?_)
            refine p_buildSlice (ht := Try.underlying36) (hi := F.ti92) (h := ?_)
            refine p_append (k := G.steps.length + j + 1) (ht := Try.underlying36) (hi := F.ti92) (hnl := rules_len (Nat.le_refl _) hj) (hy := by exact ⟨.inl oB_, rfl⟩) (hm := by have := rules_len (Nat.le_refl G.steps.length) hj; simp only [List.length_cons, List.length_nil]; omega) (hlim := by omega) (h := ?_)
            (first | refine p_fieldPtr (hf := F.fld38_3) (h := ?_) | refine p_fieldRef (hf := F.fld38_3) (h := ?_) | refine p_fieldRow (hf := F.fld38_3) (h := ?_))
            refine p_store1 F.ti36 (h := ?_)
            refine p_endD ?_
            refine p_region fun hf => ?_
            refine p_add (r := ((j + 1 : Nat) : Int)) (hr := by omega) (hb := by omega) (h := ?_)
            refine p_move (h := ?_)
            refine p_end ?_
            refine p_some ?_
            refine ⟨⟨j + 1, _, hlt2, eV_, eV_, eV_, eV_, eV_, eV_, eV_, oB_, oB_, oB_, ?_⟩, ?_⟩
            · rw [rules_exit hlt2]; exact oB_
            · simp (decide := true) only [upd, f71, V.toN, ↓reduceIte]; omega
          · refine p_condF (h := ?_)
            have hje : j = G.exit.length := by simp at hc72; omega
            have hall : rulesAt G G.steps.length G.exit.length = rulesOf G := by rw [rulesAt, List.take_length, List.take_length, rulesOf]
            refine p_exit ?_
            refine p_seq (p_region fun hf => ?_)
            (first | refine p_loadA (ht := F.agg38) (hi := F.ti38) (h := ?_) | refine p_loadRefA (ht := F.agg38) (hi := F.ti38) (h := ?_))
            refine p_storeAll F.ti38 (h := ?_)
            refine p_assign (h := ?_)
            refine p_end ?_
            refine TrC.ret ?_
            refine p_freeze (g1 := r) (d1 := 84) (h := ?_)
            refine p_cellSl (g1 := 0 + 1) (d1 := 4) (i := 5) (hn := rules_len (Nat.le_refl _) hj) (h := ?_)
            refine p_rets2 rfl (res_cell eV_ oB_ F.agg38 F.ti38 rfl rfl) ⟨eV_, rfl⟩ (by rw [hje]; simp only [pdsR, hc17, Bool.false_eq_true, ↓reduceIte, hall]; rfl)

end Go.Proofs.Ytfjciangbmjlmaa
