/-
  encode.Conf, walked.
-/
import Derived.Test.YtfjciangbmjlmaaGe
import Derived.Test.YtfjciangbmjlmaaK
set_option linter.unusedSimpArgs false
set_option linter.unusedVariables false
namespace Go.Proofs.Ytfjciangbmjlmaa
open Go.RowKit
structure Conf where
  (p : Int)
  (w : List Int)
abbrev confL (c : Conf) : List V := [iV c.p, .sl 3 (c.w.map iV)]
abbrev confV (c : Conf) : V := .agg (confL c)
def backAt (G : Graph) (k : Int) : Int := (siteAt G k).back
def confR (G : Graph) (node : Int) (sites : List Int) : Conf × Int :=
  if decide (checkE G ≠ 0) then (⟨0, []⟩, checkE G)
  else if decide (node < 0) || decide ((G.of.length : Int) ≤ node) then (⟨0, []⟩, 5)
  else if sites.any fun k => decide (k < 0) || decide ((G.sites.length : Int) ≤ k) then (⟨0, []⟩, 5)
  else if decide ((4096 : Int) < (node :: sites.map (backAt G)).length) then (⟨0, []⟩, 2)
  else (⟨0, node :: sites.map (backAt G)⟩, 0)
def wordAt (G : Graph) (node : Int) (sites : List Int) (i : Nat) : List Int := node :: (sites.take i).map (backAt G)
theorem word_len {G : Graph} {node : Int} {sites : List Int} {i : Nat} (h : i ≤ sites.length) : i + 1 = ((wordAt G node sites i).map iV).length := by simp [wordAt]; omega
theorem word_next {G : Graph} {node : Int} {sites : List Int} {i : Nat} (h : i < sites.length) : (wordAt G node sites (i + 1)).map iV = (wordAt G node sites i).map iV ++ [iV (backAt G sites[i])] := by
  simp only [wordAt, List.take_add_one, List.getElem?_eq_getElem h, Option.toList_some, List.map_append, List.map_cons, List.map_nil, List.cons_append]
theorem inB_of {k : Int} {n : Nat} (h1 : decide (k < 0) = false) (h2 : decide ((n : Int) ≤ k) = false) : (!inB k n) = false := by simp at h1 h2; simp [inB]; omega
theorem conf_bad {G : Graph} {node : Int} {sites : List Int} {i : Nat} (hi : i < sites.length) (h : (decide (sites[i] < 0) || decide ((G.sites.length : Int) ≤ sites[i])) = true) : (sites.any fun k => decide (k < 0) || decide ((G.sites.length : Int) ≤ k)) = true := List.any_eq_true.2 ⟨_, List.getElem_mem hi, h⟩
theorem conf_good {G : Graph} {sites : List Int} {i : Nat} (hi : i = sites.length) (h : ∀ j (hj : j < sites.length), j < i → (decide (sites[j] < 0) || decide ((G.sites.length : Int) ≤ sites[j])) = false) : (sites.any fun k => decide (k < 0) || decide ((G.sites.length : Int) ≤ k)) = false := by
  refine Bool.eq_false_iff.2 fun h1 => ?_
  obtain ⟨x, hx, hp⟩ := List.any_eq_true.1 h1
  obtain ⟨j, hj, rfl⟩ := List.mem_iff_getElem.1 hx
  rw [h j hj (by omega)] at hp; cases hp

theorem conf (G : Graph) (node : Int) (sites : List Int) (h1 : G.steps.length ≤ 1000000000) (h2 : G.points.length ≤ 1000000000) (h3 : G.sinks.length ≤ 1000000000) (h4 : sites.length ≤ 1000000000) : FnC Try.prog 10 [graphV G, iV node, .sl 3 (sites.map iV)] (fun r => r = .tup [confV (confR G node sites).1, iV (confR G node sites).2]) := by
  refine FnC.of (fn := Try.f10) ⟨Try.func10, by kernel_rfl, rfl⟩ Try.ntmps10 (by simp) fun w0 S0 => ?_
  refine p_seq (p_region fun hf => ?_)
  refine p_box (h := ?_)
  refine p_alloc (hi := F.ti44) (h := ?_)
  refine p_assign (h := ?_)
  refine p_end ?_
  refine p_seq ?_
  refine p_seq (p_region fun hf => ?_)
  (first | refine p_loadA (ht := F.agg29) (hi := F.ti29) (h := ?_) | refine p_loadRefA (ht := F.agg29) (hi := F.ti29) (h := ?_))
  refine p_call (hx := rfl) (hb := ⟨Try.func29, by kernel_rfl, rfl⟩) (hf := check G h1 h2 h3) (h := ?_)
  refine p_assign (h := ?_)
  refine p_end ?_
  refine p_seq (p_region fun hf => ?_)
  refine p_move (h := ?_)
  refine p_num (h := ?_)
  refine p_end ?_
  refine p_splitC (s := 15) (ht := fun hc15 => ?_) (hf := fun hc15 => ?_)
  · refine p_condT (h := ?_)
    refine p_seq (p_region fun hf => ?_)
    refine p_build (hi := F.ti44) (hpl := F.pl44) (h := ?_)
    refine p_move (h := ?_)
    refine p_storeAll F.ti44 (h := ?_)
    refine p_assign (h := ?_)
    refine p_end ?_
    refine TrC.ret ?_
    refine p_cellNil (g1 := 0 + 1) (d1 := 6) (i := 1) (el := 3) (h := ?_)
    refine p_rets2 rfl (res_cell eV_ oB_ F.agg44 F.ti44 rfl rfl) ⟨eV_, rfl⟩ (by simp only [confR, hc15, Bool.true_or, Bool.false_or, Bool.or_false, Bool.or_true, Bool.false_eq_true, ↓reduceIte, List.map_nil]; rfl)
  · refine p_condF (h := ?_)
    refine p_skip ?_
    refine p_seq ?_
    refine p_seq (p_region fun hf => ?_)
    refine p_move (h := ?_)
    refine p_num (h := ?_)
    refine p_move (h := ?_)
    refine p_split (s := 20) (ht := fun hb20 => ?_) (hf := fun hb20 => ?_)
    · -- slot 20 is true
      iterate 5 (refine p_guardNo (h := ?_))
      refine p_pick (h := ?_)
      refine p_end ?_
      refine p_condT (h := ?_)
      refine p_seq (p_region fun hf => ?_)
      refine p_build (hi := F.ti44) (hpl := F.pl44) (h := ?_)
      refine p_storeAll F.ti44 (h := ?_)
      refine p_assign (h := ?_)
      refine p_end ?_
      refine TrC.ret ?_
      refine p_cellNil (g1 := 0 + 1) (d1 := 6) (i := 1) (el := 3) (h := ?_)
      refine p_rets2 rfl (res_cell eV_ oB_ F.agg44 F.ti44 rfl rfl) ⟨eV_, rfl⟩ (by simp only [confR, hc15, hb20, Bool.true_or, Bool.false_or, Bool.or_false, Bool.or_true, Bool.false_eq_true, ↓reduceIte, List.map_nil]; rfl)
    · -- slot 20 is false
      refine p_guardYes (h := ?_)
      refine p_move (h := ?_)
      refine p_guardYes (h := ?_)
      (first | refine p_fieldPtr (hf := F.fld29_5) (h := ?_) | refine p_fieldRef (hf := F.fld29_5) (h := ?_) | refine p_fieldRow (hf := F.fld29_5) (h := ?_))
      refine p_guardYes (h := ?_)
      (first | refine p_load (ht := F.leaf23) (h := ?_) | refine p_loadRef (ht := F.leaf23) (h := ?_))
      refine p_guardYes (h := ?_)
      refine p_len (ht := Try.underlying23) (h := ?_)
      refine p_guardYes (h := ?_)
      refine p_num (h := ?_)
      refine p_pick (h := ?_)
      refine p_end ?_
      refine p_splitC (s := 26) (ht := fun hc26 => ?_) (hf := fun hc26 => ?_)
      · refine p_condT (h := ?_)
        refine p_seq (p_region fun hf => ?_)
        refine p_build (hi := F.ti44) (hpl := F.pl44) (h := ?_)
        refine p_storeAll F.ti44 (h := ?_)
        refine p_assign (h := ?_)
        refine p_end ?_
        refine TrC.ret ?_
        refine p_cellNil (g1 := 0 + 1) (d1 := 6) (i := 1) (el := 3) (h := ?_)
        refine p_rets2 rfl (res_cell eV_ oB_ F.agg44 F.ti44 rfl rfl) ⟨eV_, rfl⟩ (by simp only [confR, hc15, hb20, hc26, Bool.true_or, Bool.false_or, Bool.or_false, Bool.or_true, Bool.false_eq_true, ↓reduceIte, List.map_nil]; rfl)
      · refine p_condF (h := ?_)
        refine p_skip ?_
        refine p_seq (p_region fun hf => ?_)
        refine p_move (h := ?_)
        refine p_buildSlice (ht := Try.underlying23) (hi := F.ti3) (h := ?_)
        refine p_build (hi := F.ti44) (hpl := F.pl44) (h := ?_)
        refine p_alloc (hi := F.ti44) (h := ?_)
        refine p_storeAll F.ti44 (h := ?_)
        refine p_end ?_
        refine p_seq ?_
        refine p_seq (p_region fun hf => ?_)
        refine p_move (h := ?_)
        refine p_len (ht := Try.underlying23) (h := ?_)
        refine p_move (h := ?_)
        refine p_end ?_
        refine p_renCell (g1 := 0 + 1 + 1 + 1 + 1 + 1) (d1 := 9) (i := 1) 56 (h := ?_)
        refine TrC.block ?_
        refine p_loop (fun st => ∃ (i r q : Nat), i ≤ sites.length ∧ (∀ j (hj : j < sites.length), j < i → (decide (sites[j] < 0) || decide ((G.sites.length : Int) ≤ sites[j])) = false) ∧ st.env 3 = .ptr (0 + 1) 3 0 ∧ st.env 6 = .ptr (0 + 1) 6 0 ∧ st.env 9 = .ptr q 9 0 ∧ st.env 31 = .sl 3 (sites.map iV) ∧ st.env 32 = iV sites.length ∧ st.env 33 = iV i ∧ st.obj (0 + 1) 3 = .cells 29 (graphL G) ∧ st.obj (0 + 1) 6 = .cells 44 [iV 0, .nil] ∧ st.obj q 9 = .cells 44 [iV 0, .row r 56 (i + 1)] ∧ st.obj r 56 = .row 3 ((wordAt G node sites i).map iV)) (fun st => sites.length - (st.env 33).toN) ?_ fun e ob g1 hI => ?_
        · exact ⟨0, _, _, by omega, fun j hj h => by omega, eV_, eV_, eV_, eV_, eV_, eV_, oB_, oB_, oB_, oB_⟩
        · obtain ⟨i, r, q, hi, hn, e3, e6, e9, e31, e32, e33, o3, o6, o9, o56⟩ := hI
          dsimp only at e3 e6 e9 e31 e32 e33 o3 o6 o9 o56
          have hE := (⟨e3, e6, e9, e31, e32, e33, o3, o6, o9, o56⟩ : _ ∧ _ ∧ _ ∧ _ ∧ _ ∧ _ ∧ _ ∧ _ ∧ _ ∧ _)
          refine p_seq (p_region fun hf => ?_)
          refine p_num (h := ?_)
          refine p_end ?_
          refine p_seq ?_
          refine p_splitC (s := 34) (ht := fun hc34 => ?_) (hf := fun hc34 => ?_)
          · refine p_condT (h := ?_)
            have hlt : i < sites.length := by simpa using hc34
            refine p_skip ?_
            refine p_seq ?_
            refine TrC.block ?_
            refine p_seq (p_region fun hf => ?_)
            refine p_idxMap (j := i) (ht := Try.underlying23) (hi := F.ti3) (hij := rfl) (hj := hlt) (h := ?_)
            (first | refine p_load (ht := F.leaf3) (h := ?_) | refine p_loadRef (ht := F.leaf3) (h := ?_))
            refine p_assign (h := ?_)
            refine p_end ?_
            refine p_seq ?_
            refine p_seq (p_region fun hf => ?_)
            refine p_move (h := ?_)
            refine p_num (h := ?_)
            refine p_move (h := ?_)
            refine p_split (s := 39) (ht := fun hb39 => ?_) (hf := fun hb39 => ?_)
            · -- slot 39 is true
              iterate 5 (refine p_guardNo (h := ?_))
              refine p_pick (h := ?_)
              refine p_end ?_
              refine p_condT (h := ?_)
              refine p_seq (p_region fun hf => ?_)
              refine p_build (hi := F.ti44) (hpl := F.pl44) (h := ?_)
              refine p_storeAll F.ti44 (h := ?_)
              refine p_assign (h := ?_)
              refine p_end ?_
              refine TrC.ret ?_
              refine p_cellNil (g1 := 0 + 1) (d1 := 6) (i := 1) (el := 3) (h := ?_)
              refine p_rets2 rfl (res_cell eV_ oB_ F.agg44 F.ti44 rfl rfl) ⟨eV_, rfl⟩ (by have hbad := conf_bad (G := G) (node := node) hlt (by rw [hb39]; rfl); simp only [confR, hc15, hb20, hc26, hbad, Bool.true_or, Bool.false_or, Bool.or_false, Bool.or_true, Bool.false_eq_true, ↓reduceIte, List.map_nil]; rfl)
            · -- slot 39 is false
              refine p_guardYes (h := ?_)
              refine p_move (h := ?_)
              refine p_guardYes (h := ?_)
              (first | refine p_fieldPtr (hf := F.fld29_7) (h := ?_) | refine p_fieldRef (hf := F.fld29_7) (h := ?_) | refine p_fieldRow (hf := F.fld29_7) (h := ?_))
              refine p_guardYes (h := ?_)
              (first | refine p_load (ht := F.leaf25) (h := ?_) | refine p_loadRef (ht := F.leaf25) (h := ?_))
              refine p_guardYes (h := ?_)
              refine p_len (ht := Try.underlying25) (h := ?_)
              refine p_guardYes (h := ?_)
              refine p_num (h := ?_)
              refine p_pick (h := ?_)
              refine p_end ?_
              refine p_splitC (s := 45) (ht := fun hc45 => ?_) (hf := fun hc45 => ?_)
              · refine p_condT (h := ?_)
                refine p_seq (p_region fun hf => ?_)
                refine p_build (hi := F.ti44) (hpl := F.pl44) (h := ?_)
                refine p_storeAll F.ti44 (h := ?_)
                refine p_assign (h := ?_)
                refine p_end ?_
                refine TrC.ret ?_
                refine p_cellNil (g1 := 0 + 1) (d1 := 6) (i := 1) (el := 3) (h := ?_)
                refine p_rets2 rfl (res_cell eV_ oB_ F.agg44 F.ti44 rfl rfl) ⟨eV_, rfl⟩ (by have hbad := conf_bad (G := G) (node := node) hlt (by rw [hb39, hc45]; rfl); simp only [confR, hc15, hb20, hc26, hbad, Bool.true_or, Bool.false_or, Bool.or_false, Bool.or_true, Bool.false_eq_true, ↓reduceIte, List.map_nil]; rfl)
              · refine p_condF (h := ?_)
                have hin := inB_of hb39 hc45
                refine p_skip ?_
                refine p_draw F.mixed fun hf => ?_
                (first | refine p_fieldPtr (hf := F.fld44_1) (h := ?_) | refine p_fieldRef (hf := F.fld44_1) (h := ?_) | refine p_fieldRow (hf := F.fld44_1) (h := ?_))
                (first | refine p_load (ht := F.leaf23) (h := ?_) | refine p_loadRef (ht := F.leaf23) (h := ?_))
                (first | refine p_fieldPtr (hf := F.fld29_7) (h := ?_) | refine p_fieldRef (hf := F.fld29_7) (h := ?_) | refine p_fieldRow (hf := F.fld29_7) (h := ?_))
                (first | refine p_load (ht := F.leaf25) (h := ?_) | refine p_loadRef (ht := F.leaf25) (h := ?_))
                refine p_move (h := ?_)
                refine p_idxMap (j := sites[i].toNat) (ht := Try.underlying25) (hi := F.ti54) (hij := inB_nat hin) (hj := inB_lt hin) (h := ?_)
                rw [siteAt_eq (inB_lt hin)]
                (first | refine p_fieldPtr (hf := F.fld54_3) (h := ?_) | refine p_fieldRef (hf := F.fld54_3) (h := ?_) | refine p_fieldRow (hf := F.fld54_3) (h := ?_))
                (first | refine p_load (ht := F.leaf3) (h := ?_) | refine p_loadRef (ht := F.leaf3) (h := ?_))
                refine p_buildSlice (ht := Try.underlying23) (hi := F.ti3) (h := ?_)
                refine p_append (k := i + 2) (ht := Try.underlying23) (hi := F.ti3) (hnl := word_len hi) (hy := by exact ⟨.inl oB_, rfl⟩) (hm := by have := word_len (G := G) (node := node) hi; simp only [List.length_cons, List.length_nil]; omega) (hlim := by omega) (h := ?_)
                (first | refine p_fieldPtr (hf := F.fld44_1) (h := ?_) | refine p_fieldRef (hf := F.fld44_1) (h := ?_) | refine p_fieldRow (hf := F.fld44_1) (h := ?_))
                refine p_store1 F.ti23 (h := ?_)
                refine p_endD ?_
                refine p_region fun hf => ?_
                refine p_add (r := ((i + 1 : Nat) : Int)) (hr := by omega) (hb := by omega) (h := ?_)
                refine p_move (h := ?_)
                refine p_end ?_
                refine p_some ?_
                refine ⟨⟨i + 1, _, _, hlt, fun j hj hji => ?_, eV_, eV_, eV_, eV_, eV_, eV_, oB_, oB_, oB_, ?_⟩, ?_⟩
                · rcases Nat.lt_succ_iff_lt_or_eq.1 hji with h | h
                  · exact hn j hj h
                  · subst h; rw [hb39, hc45]; rfl
                · rw [word_next hlt]; exact oB_
                · simp (decide := true) only [upd, e33, V.toN, ↓reduceIte]; omega
          · refine p_condF (h := ?_)
            have hie : i = sites.length := by simp at hc34; omega
            have hgood := conf_good (G := G) hie hn
            have hword : wordAt G node sites i = node :: sites.map (backAt G) := by rw [wordAt, hie, List.take_length]
            refine p_exit ?_
            refine p_seq ?_
            refine p_seq (p_region fun hf => ?_)
            (first | refine p_fieldPtr (hf := F.fld44_1) (h := ?_) | refine p_fieldRef (hf := F.fld44_1) (h := ?_) | refine p_fieldRow (hf := F.fld44_1) (h := ?_))
            (first | refine p_load (ht := F.leaf23) (h := ?_) | refine p_loadRef (ht := F.leaf23) (h := ?_))
            refine p_len (ht := Try.underlying23) (h := ?_)
            refine p_num (h := ?_)
            refine p_end ?_
            refine p_splitC (s := 62) (ht := fun hc62 => ?_) (hf := fun hc62 => ?_)
            · refine p_condT (h := ?_)
              refine p_seq (p_region fun hf => ?_)
              refine p_build (hi := F.ti44) (hpl := F.pl44) (h := ?_)
              refine p_storeAll F.ti44 (h := ?_)
              refine p_assign (h := ?_)
              refine p_end ?_
              refine TrC.ret ?_
              refine p_cellNil (g1 := 0 + 1) (d1 := 6) (i := 1) (el := 3) (h := ?_)
              refine p_rets2 rfl (res_cell eV_ oB_ F.agg44 F.ti44 rfl rfl) ⟨eV_, rfl⟩ (by have hlong : decide ((4096 : Int) < (node :: sites.map (backAt G)).length) = true := (by simp [hie] at hc62 ⊢ <;> omega); simp only [confR, hc15, hb20, hc26, hgood, hlong, Bool.true_or, Bool.false_or, Bool.or_false, Bool.or_true, Bool.false_eq_true, ↓reduceIte, List.map_nil]; rfl)
            · refine p_condF (h := ?_)
              refine p_skip ?_
              refine p_seq (p_region fun hf => ?_)
              (first | refine p_loadA (ht := F.agg44) (hi := F.ti44) (h := ?_) | refine p_loadRefA (ht := F.agg44) (hi := F.ti44) (h := ?_))
              refine p_storeAll F.ti44 (h := ?_)
              refine p_assign (h := ?_)
              refine p_end ?_
              refine TrC.ret ?_
              refine p_freeze (g1 := r) (d1 := 56) (h := ?_)
              refine p_cellSl (g1 := 0 + 1) (d1 := 6) (i := 1) (hn := word_len hi) (h := ?_)
              refine p_rets2 rfl (res_cell eV_ oB_ F.agg44 F.ti44 rfl rfl) ⟨eV_, rfl⟩ (by have hlong : decide ((4096 : Int) < (node :: sites.map (backAt G)).length) = false := (by simp [hie] at hc62 ⊢ <;> omega); simp only [confR, hc15, hb20, hc26, hgood, hlong, hword, Bool.true_or, Bool.false_or, Bool.or_false, Bool.or_true, Bool.false_eq_true, ↓reduceIte, List.map_nil]; rfl)

end Go.Proofs.Ytfjciangbmjlmaa
