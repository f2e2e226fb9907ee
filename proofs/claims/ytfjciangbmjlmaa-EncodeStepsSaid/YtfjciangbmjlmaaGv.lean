/-
  The plain law of EncodeSteps: what comes of a configuration by the rules is what comes by the graph's steps, calls and returns.
-/
import Derived.Test.YtfjciangbmjlmaaGu
set_option linter.unusedSimpArgs false
set_option linter.unusedVariables false
namespace Go.Proofs.Ytfjciangbmjlmaa
open Go.RowKit
def stepR (G : Graph) (s : Step) : Rule := ⟨s.frm, stepWord G s⟩
def exitRu (n : Int) : Rule := ⟨n, []⟩
def rulesL (G : Graph) : List Rule := G.steps.map (stepR G) ++ G.exit.map exitRu
def stepConf (G : Graph) (sites : List Int) (s : Step) : Conf := if decide (s.kind = 8) then (confR G (entryZ G (siteAt G s.site).proc) (s.site :: sites)).1 else (confR G s.to sites).1
def exitConf (G : Graph) (sites : List Int) : Conf := match sites with | [] => ⟨0, []⟩ | k :: l => (confR G (backAt G k) l).1
def wantA (G : Graph) (node : Int) (sites : List Int) (i : Nat) : List Conf := ((G.steps.take i).filter fun s => decide (s.frm = node)).map (stepConf G sites)
def wantB (G : Graph) (node : Int) (sites : List Int) (j : Nat) : List Conf := wantA G node sites G.steps.length ++ ((G.exit.take j).filter fun n => decide (n = node)).map fun _ => exitConf G sites
theorem wantA_hit {G : Graph} {node : Int} {sites : List Int} {i : Nat} (h : i < G.steps.length) (ha : decide (G.steps[i].frm ≠ node) = false) : wantA G node sites (i + 1) = wantA G node sites i ++ [stepConf G sites G.steps[i]] := by
  have ha' : decide (G.steps[i].frm = node) = true := by simpa using ha
  simp only [wantA, List.take_add_one, List.getElem?_eq_getElem h, Option.toList_some, List.filter_append, List.map_append, List.filter_cons, ha', ↓reduceIte, List.filter_nil, List.map_cons, List.map_nil]
theorem wantA_miss {G : Graph} {node : Int} {sites : List Int} {i : Nat} (h : i < G.steps.length) (ha : decide (G.steps[i].frm ≠ node) = true) : wantA G node sites (i + 1) = wantA G node sites i := by
  have ha' : decide (G.steps[i].frm = node) = false := by simpa using ha
  simp only [wantA, List.take_add_one, List.getElem?_eq_getElem h, Option.toList_some, List.filter_append, List.map_append, List.filter_cons, ha', Bool.false_eq_true, ↓reduceIte, List.filter_nil, List.map_nil, List.append_nil]
theorem wantB_hit {G : Graph} {node : Int} {sites : List Int} {i : Nat} (h : i < G.exit.length) (ha : decide (G.exit[i] ≠ node) = false) : wantB G node sites (i + 1) = wantB G node sites i ++ [exitConf G sites] := by
  have ha' : decide (G.exit[i] = node) = true := by simpa using ha
  simp only [wantB, List.take_add_one, List.getElem?_eq_getElem h, Option.toList_some, List.filter_append, List.map_append, List.filter_cons, ha', ↓reduceIte, List.filter_nil, List.map_cons, List.map_nil, List.append_assoc]
theorem wantB_miss {G : Graph} {node : Int} {sites : List Int} {i : Nat} (h : i < G.exit.length) (ha : decide (G.exit[i] ≠ node) = true) : wantB G node sites (i + 1) = wantB G node sites i := by
  have ha' : decide (G.exit[i] = node) = false := by simpa using ha
  simp only [wantB, List.take_add_one, List.getElem?_eq_getElem h, Option.toList_some, List.filter_append, List.map_append, List.filter_cons, ha', Bool.false_eq_true, ↓reduceIte, List.filter_nil, List.map_nil, List.append_nil]
theorem wantA_len {G : Graph} {node : Int} {sites : List Int} {i : Nat} : (wantA G node sites i).length ≤ i := by
  simp only [wantA, List.length_map]; exact Nat.le_trans (List.length_filter_le ..) (by simp; omega)
theorem wantB_len {G : Graph} {node : Int} {sites : List Int} {j : Nat} : (wantB G node sites j).length ≤ G.steps.length + j := by
  have h1 := wantA_len (G := G) (node := node) (sites := sites) (i := G.steps.length)
  have h2 : (((G.exit.take j).filter fun n => decide (n = node)).map fun _ => exitConf G sites).length ≤ j := by
    simp only [List.length_map]; exact Nat.le_trans (List.length_filter_le ..) (by simp; omega)
  rw [wantB, List.length_append]; omega
/-- What a graph that may be has. -/
theorem scan_sites {G : Graph} : ∀ (l : List Step) (c n : Nat), scan G c l = (true, n) → ∀ k : Nat, c ≤ k → k < n → ∃ s ∈ l, s.kind = 8 ∧ s.site = k
  | [], c, n, h, k, h1, h2 => by simp [scan] at h; omega
  | s :: l, c, n, h, k, h1, h2 => by
    unfold scan at h
    split at h
    · rename_i hc
      simp only [Bool.and_eq_true, Bool.or_eq_true, Bool.not_eq_true', decide_eq_false_iff_not, decide_eq_true_eq] at hc
      by_cases h8 : s.kind = 8
      · rw [if_pos (by simpa using h8)] at h
        by_cases hk : k = c
        · subst hk; exact ⟨s, by simp, h8, hc.2.elim (fun h' => absurd h8 h') id⟩
        · obtain ⟨s', h3, h4⟩ := scan_sites l _ n h k (by omega) h2
          exact ⟨s', by simp [h3], h4⟩
      · rw [if_neg (by simpa using h8)] at h
        obtain ⟨s', h3, h4⟩ := scan_sites l _ n h k h1 h2
        exact ⟨s', by simp [h3], h4⟩
    · cases h
theorem step_in {G : Graph} {s : Step} (h : stepRightB G s = true) : inB s.frm G.of.length = true ∧ inB s.to G.of.length = true ∧ (s.kind = 8 → inB s.site G.sites.length = true ∧ backAt G s.site = s.to) := by
  cases e1 : (!inB s.frm G.of.length) with
  | true => rw [stepRightB, e1, if_pos rfl] at h; cases h
  | false =>
    cases e2 : (!inB s.to G.of.length) with
    | true => rw [stepRightB, e1, if_neg (by decide), e2, if_pos rfl] at h; cases h
    | false =>
      refine ⟨by simpa using e1, by simpa using e2, fun h8 => ?_⟩
      cases e3 : decide (ofAt G s.frm ≠ ofAt G s.to) with
      | true => rw [stepRightB, e1, if_neg (by decide), e2, if_neg (by decide), e3, if_pos rfl] at h; cases h
      | false =>
        rw [stepRightB, e1, if_neg (by decide), e2, if_neg (by decide), e3, if_neg (by decide), h8, if_neg (by decide), if_neg (by decide), if_neg (by decide), if_neg (by decide), if_pos (by decide)] at h
        cases e4 : (!inB s.site G.sites.length) with
        | true => rw [e4, if_pos rfl] at h; cases h
        | false =>
          cases e5 : decide ((siteAt G s.site).frm ≠ s.frm) with
          | true => rw [e4, if_neg (by decide), e5, if_pos rfl] at h; cases h
          | false =>
            cases e6 : decide ((siteAt G s.site).back ≠ s.to) with
            | true => rw [e4, if_neg (by decide), e5, if_neg (by decide), e6, if_pos rfl] at h; cases h
            | false => exact ⟨by simpa using e4, by simpa [backAt] using e6⟩
theorem check_steps {G : Graph} (h : checkB G = true) : ∀ s ∈ G.steps, stepRightB G s = true := by
  simp only [checkB, Bool.and_eq_true] at h
  exact scan_all _ _ h.1.1.1.2
theorem check_right {G : Graph} (h : checkB G = true) : ∀ i, i < G.procs.length → rightAt G i = true := by
  simp only [checkB, procsRightB, Bool.and_eq_true, List.all_eq_true] at h
  intro i hi
  exact h.1.1.1.1.1.2 i (List.mem_range.2 hi)
theorem check_lens {G : Graph} (h : checkB G = true) : G.entry.length = G.procs.length ∧ G.exit.length = G.procs.length ∧ G.of.length ≤ 4096 := by
  simp only [checkB, procsRightB, Bool.and_eq_true] at h
  have h2 := h.1.1.1.1.1.1.1
  simp only [headB, Bool.not_eq_true', Bool.or_eq_false_iff, decide_eq_false_iff_not] at h2
  omega
theorem entry_in {G : Graph} (h : checkB G = true) {k : Int} (hk : inB k G.entry.length = true) : inB (entryZ G k) G.of.length = true := by
  have hl := (check_lens h).1
  have hk' : k.toNat < G.procs.length := by simp [inB] at hk; omega
  have := check_right h k.toNat hk'
  simp only [rightAt, okNode, Bool.and_eq_true] at this
  exact this.1.1
theorem exit_in {G : Graph} (h : checkB G = true) : ∀ n ∈ G.exit, inB n G.of.length = true := by
  intro n hn
  obtain ⟨i, hi, rfl⟩ := List.mem_iff_getElem.1 hn
  have hl := (check_lens h).2.1
  have := check_right h i (by omega)
  simp only [rightAt, okNode, Bool.and_eq_true] at this
  rw [exit_eq hi]; exact this.2.1
theorem back_in {G : Graph} (h : checkB G = true) {k : Int} (hk : inB k G.sites.length = true) : inB (backAt G k) G.of.length = true := by
  have h' := h
  simp only [checkB, Bool.and_eq_true, decide_eq_true_eq] at h'
  have h1 : scan G 0 G.steps = (true, (scan G 0 G.steps).2) := Prod.ext h'.1.1.1.2 rfl
  have hk' : 0 ≤ k ∧ k < G.sites.length := by simpa [inB] using hk
  obtain ⟨s, h2, h3, h4⟩ := scan_sites _ _ _ h1 k.toNat (by omega) (by have := h'.1.1.2; omega)
  have h5 := step_in (check_steps h s h2)
  have h6 : s.site = k := by omega
  rw [← h6, (h5.2.2 h3).2]; exact h5.2.1
theorem conf_val {G : Graph} {node : Int} {sites : List Int} (h : checkB G = true) (hn : inB node G.of.length = true) (hs : ∀ k ∈ sites, inB k G.sites.length = true) (hl : sites.length ≤ 1000) : confR G node sites = (⟨0, node :: sites.map (backAt G)⟩, 0) := by
  have h1 : decide (checkE G ≠ 0) = false := by simp [checkE, h]
  have h2 : (decide (node < 0) || decide ((G.of.length : Int) ≤ node)) = false := by simp [inB] at hn; simp; omega
  have h3 : (sites.any fun k => decide (k < 0) || decide ((G.sites.length : Int) ≤ k)) = false := by
    rw [List.any_eq_false]; intro k hk; have := hs k hk; simp [inB] at this; simp; omega
  have h4 : decide ((4096 : Int) < (node :: sites.map (backAt G)).length) = false := by simp; omega
  rw [confR, h1, h2, h3, h4]; rfl
theorem conf_inv {G : Graph} {node : Int} {sites : List Int} (h : checkB G = true) (hc : decide ((confR G node sites).2 ≠ 0) = false) : inB node G.of.length = true ∧ ∀ k ∈ sites, inB k G.sites.length = true := by
  have h1 : decide (checkE G ≠ 0) = false := by simp [checkE, h]
  rw [confR, h1] at hc
  cases h2 : (decide (node < 0) || decide ((G.of.length : Int) ≤ node)) with
  | true => rw [h2] at hc; cases hc
  | false =>
    cases h3 : (sites.any fun k => decide (k < 0) || decide ((G.sites.length : Int) ≤ k)) with
    | true => rw [h2, h3] at hc; cases hc
    | false =>
      refine ⟨by simp at h2; simp [inB]; omega, fun k hk => ?_⟩
      have := List.any_eq_false.1 h3 k hk
      simp at this; simp [inB]; omega
theorem proc_in {G : Graph} (h : checkB G = true) {k : Int} (hk : inB k G.sites.length = true) : inB (entryZ G (siteAt G k).proc) G.of.length = true := by
  have := site_proc h (inBt hk)
  exact entry_in h (by simpa using this)
theorem word_ok {G : Graph} (h : checkB G = true) {s : Step} (hs : s ∈ G.steps) : ruleOk G.of.length (stepR G s) ∧ (stepWord G s).length ≤ 2 := by
  obtain ⟨h1, h2, h3⟩ := step_in (check_steps h s hs)
  by_cases h8 : s.kind = 8
  · have hw : stepWord G s = [entryZ G (siteAt G s.site).proc, s.to] := by simp [stepWord, h8]
    refine ⟨⟨h1, by simp [stepR, hw], fun x hx => ?_⟩, by simp [hw]⟩
    simp only [stepR, hw, List.mem_cons, List.not_mem_nil, or_false] at hx
    rcases hx with rfl | rfl
    · exact proc_in h (h3 h8).1
    · exact h2
  · have hw : stepWord G s = [s.to] := by simp [stepWord, h8]
    refine ⟨⟨h1, by simp [stepR, hw], fun x hx => ?_⟩, by simp [hw]⟩
    simp only [stepR, hw, List.mem_cons, List.not_mem_nil, or_false] at hx
    subst hx; exact h2
theorem rules_ok {G : Graph} (h : checkB G = true) : ∀ r ∈ rulesL G, ruleOk G.of.length r ∧ r.w.length ≤ 2 := by
  intro r hr
  simp only [rulesL, List.mem_append, List.mem_map] at hr
  rcases hr with ⟨s, hs, rfl⟩ | ⟨n, hn, rfl⟩
  · exact word_ok h hs
  · exact ⟨⟨exit_in h n hn, by simp [exitRu], by simp [exitRu]⟩, by simp [exitRu]⟩
theorem conf_ok {G : Graph} {node : Int} {sites : List Int} (h : checkB G = true) (hn : inB node G.of.length = true) (hs : ∀ k ∈ sites, inB k G.sites.length = true) (hl : sites.length ≤ 50) : confOk G.of.length ⟨0, node :: sites.map (backAt G)⟩ := by
  refine ⟨rfl, by simp; omega, fun x hx => ?_⟩
  simp only [List.mem_cons, List.mem_map] at hx
  rcases hx with rfl | ⟨k, hk, rfl⟩
  · exact hn
  · exact back_in h (hs k hk)
theorem next_want {G : Graph} {node : Int} {sites : List Int} (h : checkB G = true) (hn : inB node G.of.length = true) (hs : ∀ k ∈ sites, inB k G.sites.length = true) (hl : sites.length ≤ 50) : nextR (rulesL G) ⟨0, node :: sites.map (backAt G)⟩ = wantB G node sites G.exit.length := by
  have happ : ∀ r : Rule, appliesR r ⟨0, node :: sites.map (backAt G)⟩ = decide (r.g = node) := fun r => by
    simp only [appliesR, List.head?_cons, Option.some.injEq, decide_true, Bool.true_and]
    exact decide_eq_decide.2 ⟨Eq.symm, Eq.symm⟩
  have hfun : (fun ru => appliesR ru ⟨0, node :: sites.map (backAt G)⟩) = fun ru : Rule => decide (ru.g = node) := funext happ
  rw [nextR, hfun, rulesL, List.filter_append, List.map_append, wantB, wantA, List.take_length, List.take_length]
  congr 1
  · rw [List.filter_map, List.map_map]
    refine List.map_congr_left fun s hs' => ?_
    have hs2 := (List.mem_filter.1 hs').1
    obtain ⟨h1, h2, h3⟩ := step_in (check_steps h s hs2)
    by_cases h8 : s.kind = 8
    · have hv := conf_val (node := entryZ G (siteAt G s.site).proc) (sites := s.site :: sites) h (proc_in h (h3 h8).1) (fun k hk => (List.mem_cons.1 hk).elim (fun e => by rw [e]; exact (h3 h8).1) (hs k)) (by simp; omega)
      simp [stepConf, h8, hv, byR, stepR, stepWord, (h3 h8).2]
    · have hv := conf_val (node := s.to) (sites := sites) h h2 hs (by omega)
      simp [stepConf, h8, hv, byR, stepR, stepWord]
  · rw [List.filter_map, List.map_map]
    refine List.map_congr_left fun n _ => ?_
    cases sites with
    | nil => rfl
    | cons k l =>
      have hv := conf_val (node := backAt G k) (sites := l) h (back_in h (hs k (by simp))) (fun j hj => hs j (by simp [hj])) (by simp at hl; omega)
      simp [exitConf, hv, byR, exitRu]
/-- Pds, of a graph that may be and of another one. -/
theorem pds_good {G : Graph} (h : checkB G = true) (h1 : G.steps.length ≤ 1000000000) (h2 : G.points.length ≤ 1000000000) (h3 : G.sinks.length ≤ 1000000000) (h4 : G.exit.length ≤ 1000000000) : FnC Try.prog 9 [graphV G, iV 1] (fun r => r = .tup [pdsW G.of.length (rulesL G), iV 0]) := by
  have hp := pds1 G h1 h2 h3 h4
  have ha : decide (askedR G 1 ≠ 0) = false := by simp [askedR, checkE, h]
  rw [pdsR, ha] at hp
  refine hp.wid fun w S c hc => RV.wid_tup ?_ hc
  refine ⟨.refl _, .refl _, .refl _, .refl _, .refl _, ?_, trivial⟩
  refine Wid.sl (by simp [rulesOf, rulesL]) fun k x y hx hy => ?_
  by_cases hk : k < G.steps.length
  · rw [rulesOf, List.getElem?_append_left (by simpa using hk)] at hx
    rw [rulesL, List.map_append, List.getElem?_append_left (by simpa using hk)] at hy
    simp only [List.getElem?_map, List.getElem?_eq_getElem hk, Option.map_some, Option.some.injEq] at hx hy
    subst hx hy
    exact .refl _
  · rw [rulesOf, List.getElem?_append_right (by simp; omega)] at hx
    rw [rulesL, List.map_append, List.getElem?_append_right (by simp; omega)] at hy
    simp only [List.length_map, List.getElem?_map, Option.map_map, Option.map_eq_some_iff] at hx hy
    obtain ⟨a, ha, rfl⟩ := hx
    obtain ⟨b, hb, rfl⟩ := hy
    rw [ha] at hb; cases hb
    exact WidX.agg ⟨.refl _, .refl _, .refl _, .nil _, .refl _, .refl _, .refl _, .refl _, .refl _, .refl _, trivial⟩
theorem pds_bad {G : Graph} (h : checkB G = false) (h1 : G.steps.length ≤ 1000000000) (h2 : G.points.length ≤ 1000000000) (h3 : G.sinks.length ≤ 1000000000) (h4 : G.exit.length ≤ 1000000000) : FnC Try.prog 9 [graphV G, iV 1] (fun r => r = .tup [.agg pdsZ, iV 213]) := by
  have hp := pds1 G h1 h2 h3 h4
  have ha : askedR G 1 = 213 := by simp [askedR, checkE, h]
  rw [pdsR, ha] at hp
  exact hp
end Go.Proofs.Ytfjciangbmjlmaa
