/-
  The reference's Conf, walked: it answers as encode.Conf.
-/
import Derived.Test.YtfjciangbmjlmaaGp
set_option linter.unusedSimpArgs false
set_option linter.unusedVariables false
namespace Go.Proofs.Ytfjciangbmjlmaa
open Go.RowKit

theorem conf23 (G : Graph) (node : Int) (sites : List Int) (h1 : G.steps.length ≤ 1000000000) (h2 : G.points.length ≤ 1000000000) (h3 : G.sinks.length ≤ 1000000000) (h4 : sites.length ≤ 1000000000) (h5 : G.sites.length ≤ 1000000000) : FnC Try.prog 11 [graphV G, iV node, .sl 3 (sites.map iV)] (fun r => r = .tup [confV (confR G node sites).1, iV (confR G node sites).2]) := by
  refine FnC.of (fn := Try.f11) ⟨Try.func11, by kernel_rfl, rfl⟩ Try.ntmps11 (by simp) fun w0 S0 => ?_
  refine p_seq (p_region fun hf => ?_)
  refine p_box (h := ?_)
  refine p_alloc (hi := F.ti44) (h := ?_)
  refine p_assign (h := ?_)
  refine p_end ?_
  refine p_seq (p_region fun hf => ?_)
  (first | refine p_loadA (ht := F.agg29) (hi := F.ti29) (h := ?_) | refine p_loadRefA (ht := F.agg29) (hi := F.ti29) (h := ?_))
  refine p_call (hx := rfl) (hb := ⟨Try.func30, by kernel_rfl, rfl⟩) (hf := check21 G h1 h2 h3 h5) (h := ?_)
  refine p_assign (h := ?_)
  refine p_end ?_
  refine p_seq ?_
  refine p_seq (p_region fun hf => ?_)
  refine p_move (h := ?_)
  refine p_num (h := ?_)
  refine p_end ?_
  refine p_splitC (s := 14) (ht := fun hc14 => ?_) (hf := fun hc14 => ?_)
  · refine p_condT (h := ?_)
    refine p_seq (p_region fun hf => ?_)
    refine p_build (hi := F.ti44) (hpl := F.pl44) (h := ?_)
    refine p_move (h := ?_)
    refine p_storeAll F.ti44 (h := ?_)
    refine p_assign (h := ?_)
    refine p_end ?_
    refine TrC.ret ?_
    refine p_cellNil (g1 := 0 + 1) (d1 := 6) (i := 1) (el := 3) (h := ?_)
    refine p_rets2 rfl (res_cell eV_ oB_ F.agg44 F.ti44 rfl rfl) ⟨eV_, rfl⟩ (by simp only [confR, hc14, Bool.true_or, Bool.false_or, Bool.or_false, Bool.or_true, Bool.false_eq_true, ↓reduceIte, List.map_nil]; rfl)
  · refine p_condF (h := ?_)
    refine p_skip ?_
    refine p_seq ?_
    refine p_seq (p_region fun hf => ?_)
    refine p_move (h := ?_)
    refine p_num (h := ?_)
    refine p_move (h := ?_)
    refine p_split (s := 19) (ht := fun hb19 => ?_) (hf := fun hb19 => ?_)
    · -- slot 19 is true
      iterate 5 (refine p_guardNo (h := ?_))
      refine p_pick (h := ?_)
      refine p_end ?_
      refine p_condT (h := ?_)
      refine p_seq (p_region fun hf => ?_)
      refine p_build (hi := F.ti44) (hpl := F.pl44) (h := ?_)
      refine p_storeAll F.ti44 (h := ?_)
      refine p_assign (h := ?_)
      refine p_end ?_
      refine TrC.ret ?_
      refine p_cellNil (g1 := 0 + 1) (d1 := 6) (i := 1) (el := 3) (h := ?_)
      refine p_rets2 rfl (res_cell eV_ oB_ F.agg44 F.ti44 rfl rfl) ⟨eV_, rfl⟩ (by simp only [confR, hc14, hb19, Bool.true_or, Bool.false_or, Bool.or_false, Bool.or_true, Bool.false_eq_true, ↓reduceIte, List.map_nil]; rfl)
    · -- slot 19 is false
      refine p_guardYes (h := ?_)
      refine p_move (h := ?_)
      refine p_guardYes (h := ?_)
      (first | refine p_fieldPtr (hf := F.fld29_5) (h := ?_) | refine p_fieldRef (hf := F.fld29_5) (h := ?_) | refine p_fieldRow (hf := F.fld29_5) (h := ?_))
      refine p_guardYes (h := ?_)
      (first | refine p_load (ht := F.leaf23) (h := ?_) | refine p_loadRef (ht := F.leaf23) (h := ?_))
      refine p_guardYes (h := ?_)
      refine p_len (ht := Try.underlying23) (h := ?_)
      refine p_guardYes (h := ?_)
      refine p_num (h := ?_)
      refine p_pick (h := ?_)
      refine p_end ?_
      refine p_splitC (s := 25) (ht := fun hc25 => ?_) (hf := fun hc25 => ?_)
      · refine p_condT (h := ?_)
        refine p_seq (p_region fun hf => ?_)
        refine p_build (hi := F.ti44) (hpl := F.pl44) (h := ?_)
        refine p_storeAll F.ti44 (h := ?_)
        refine p_assign (h := ?_)
        refine p_end ?_
        refine TrC.ret ?_
        refine p_cellNil (g1 := 0 + 1) (d1 := 6) (i := 1) (el := 3) (h := ?_)
        refine p_rets2 rfl (res_cell eV_ oB_ F.agg44 F.ti44 rfl rfl) ⟨eV_, rfl⟩ (by simp only [confR, hc14, hb19, hc25, Bool.true_or, Bool.false_or, Bool.or_false, Bool.or_true, Bool.false_eq_true, ↓reduceIte, List.map_nil]; rfl)
      · refine p_condF (h := ?_)
        refine p_skip ?_
        refine p_seq (p_region fun hf => ?_)
        refine p_move (h := ?_)
        refine p_buildSlice (ht := Try.underlying23) (hi := F.ti3) (h := ?_)
        refine p_build (hi := F.ti44) (hpl := F.pl44) (h := ?_)
        refine p_alloc (hi := F.ti44) (h := ?_)
        refine p_storeAll F.ti44 (h := ?_)
        refine p_end ?_
        refine p_seq ?_
        refine p_seq (p_region fun hf => ?_)
        refine p_assign (h := ?_)
        refine p_end ?_
        refine p_renCell (g1 := 0 + 1 + 1 + 1 + 1 + 1) (d1 := 9) (i := 1) 64 (h := ?_)
        refine TrC.block ?_
        refine p_loop (fun st => ∃ (i r q : Nat), i ≤ sites.length ∧ (∀ j (hj : j < sites.length), j < i → (decide (sites[j] < 0) || decide ((G.sites.length : Int) ≤ sites[j])) = false) ∧ st.env 2 = .sl 3 (sites.map iV) ∧ st.env 3 = .ptr (0 + 1) 3 0 ∧ st.env 6 = .ptr (0 + 1) 6 0 ∧ st.env 9 = .ptr q 9 0 ∧ st.env 10 = iV i ∧ st.obj (0 + 1) 3 = .cells 29 (graphL G) ∧ st.obj (0 + 1) 6 = .cells 44 [iV 0, .nil] ∧ st.obj q 9 = .cells 44 [iV 0, .row r 64 (i + 1)] ∧ st.obj r 64 = .row 3 ((wordAt G node sites i).map iV)) (fun st => sites.length - (st.env 10).toN) ?_ fun e ob g1 hI => ?_
        · exact ⟨0, _, _, by omega, fun j hj h => by omega, eV_, eV_, eV_, eV_, eV_, oB_, oB_, oB_, oB_⟩
        · obtain ⟨i, r, q, hi, hn, e2, e3, e6, e9, e10, o3, o6, o9, o64⟩ := hI
          dsimp only at e2 e3 e6 e9 e10 o3 o6 o9 o64
          have hE := (⟨e2, e3, e6, e9, e10, o3, o6, o9, o64⟩ : _ ∧ _ ∧ _ ∧ _ ∧ _ ∧ _ ∧ _ ∧ _ ∧ _)
          refine p_seq ?_
          refine p_seq (p_region fun hf => ?_)
          refine p_move (h := ?_)
          refine p_move (h := ?_)
          refine p_len (ht := Try.underlying23) (h := ?_)
          refine p_num (h := ?_)
          refine p_end ?_
          refine p_splitC (s := 33) (ht := fun hc33 => ?_) (hf := fun hc33 => ?_)
          · refine p_condT (h := ?_)
            have hlt : i < sites.length := by simpa using hc33
            refine p_skip ?_
            refine p_seq ?_
            refine TrC.block ?_
            refine p_seq ?_
            refine p_seq (p_draw F.mixed fun hf => ?_)
            refine p_move (h := ?_)
            refine p_move (h := ?_)
            refine p_idxMap (j := i) (ht := Try.underlying23) (hi := F.ti3) (hij := rfl) (hj := hlt) (h := ?_)
            (first | refine p_load (ht := F.leaf3) (h := ?_) | refine p_loadRef (ht := F.leaf3) (h := ?_))
            refine p_num (h := ?_)
            refine p_move (h := ?_)
            refine p_split (s := 41) (ht := fun hb41 => ?_) (hf := fun hb41 => ?_)
            · -- slot 41 is true
              iterate 8 (refine p_guardNo (h := ?_))
              refine p_pick (h := ?_)
              refine p_endD ?_
              refine p_condT (h := ?_)
              refine p_seq (p_region fun hf => ?_)
              refine p_build (hi := F.ti44) (hpl := F.pl44) (h := ?_)
              refine p_storeAll F.ti44 (h := ?_)
              refine p_assign (h := ?_)
              refine p_end ?_
              refine TrC.ret ?_
              refine p_cellNil (g1 := 0 + 1) (d1 := 6) (i := 1) (el := 3) (h := ?_)
              refine p_rets2 rfl (res_cell eV_ oB_ F.agg44 F.ti44 rfl rfl) ⟨eV_, rfl⟩ (by have hbad := conf_bad (G := G) (node := node) hlt (by rw [hb41]; rfl); simp only [confR, hc14, hb19, hc25, hbad, Bool.true_or, Bool.false_or, Bool.or_false, Bool.or_true, Bool.false_eq_true, ↓reduceIte, List.map_nil]; rfl)
            · -- slot 41 is false
              refine p_guardYes (h := ?_)
              refine p_move (h := ?_)
              refine p_guardYes (h := ?_)
              refine p_move (h := ?_)
              refine p_guardYes (h := ?_)
              refine p_idxMap (j := i) (ht := Try.underlying23) (hi := F.ti3) (hij := rfl) (hj := hlt) (h := ?_)
              refine p_guardYes (h := ?_)
              (first | refine p_load (ht := F.leaf3) (h := ?_) | refine p_loadRef (ht := F.leaf3) (h := ?_))
              refine p_guardYes (h := ?_)
              (first | refine p_fieldPtr (hf := F.fld29_7) (h := ?_) | refine p_fieldRef (hf := F.fld29_7) (h := ?_) | refine p_fieldRow (hf := F.fld29_7) (h := ?_))
              refine p_guardYes (h := ?_)
              (first | refine p_load (ht := F.leaf25) (h := ?_) | refine p_loadRef (ht := F.leaf25) (h := ?_))
              refine p_guardYes (h := ?_)
              refine p_len (ht := Try.underlying25) (h := ?_)
              refine p_guardYes (h := ?_)
              refine p_num (h := ?_)
              refine p_pick (h := ?_)
              refine p_endD ?_
              refine p_splitC (s := 50) (ht := fun hc50 => ?_) (hf := fun hc50 => ?_)
              · refine p_condT (h := ?_)
                refine p_seq (p_region fun hf => ?_)
                refine p_build (hi := F.ti44) (hpl := F.pl44) (h := ?_)
                refine p_storeAll F.ti44 (h := ?_)
                refine p_assign (h := ?_)
                refine p_end ?_
                refine TrC.ret ?_
                refine p_cellNil (g1 := 0 + 1) (d1 := 6) (i := 1) (el := 3) (h := ?_)
                refine p_rets2 rfl (res_cell eV_ oB_ F.agg44 F.ti44 rfl rfl) ⟨eV_, rfl⟩ (by have hbad := conf_bad (G := G) (node := node) hlt (by rw [hb41, hc50]; rfl); simp only [confR, hc14, hb19, hc25, hbad, Bool.true_or, Bool.false_or, Bool.or_false, Bool.or_true, Bool.false_eq_true, ↓reduceIte, List.map_nil]; rfl)
              · refine p_condF (h := ?_)
                have hin := inB_of hb41 hc50
                refine p_skip ?_
                refine p_draw F.mixed fun hf => ?_
                (first | refine p_fieldPtr (hf := F.fld44_1) (h := ?_) | refine p_fieldRef (hf := F.fld44_1) (h := ?_) | refine p_fieldRow (hf := F.fld44_1) (h := ?_))
                (first | refine p_load (ht := F.leaf23) (h := ?_) | refine p_loadRef (ht := F.leaf23) (h := ?_))
                (first | refine p_fieldPtr (hf := F.fld29_7) (h := ?_) | refine p_fieldRef (hf := F.fld29_7) (h := ?_) | refine p_fieldRow (hf := F.fld29_7) (h := ?_))
                (first | refine p_load (ht := F.leaf25) (h := ?_) | refine p_loadRef (ht := F.leaf25) (h := ?_))
                refine p_move (h := ?_)
                refine p_move (h := ?_)
                refine p_idxMap (j := i) (ht := Try.underlying23) (hi := F.ti3) (hij := rfl) (hj := hlt) (h := ?_)
                (first | refine p_load (ht := F.leaf3) (h := ?_) | refine p_loadRef (ht := F.leaf3) (h := ?_))
                refine p_idxMap (j := sites[i].toNat) (ht := Try.underlying25) (hi := F.ti54) (hij := inB_nat hin) (hj := inB_lt hin) (h := ?_)
                rw [siteAt_eq (inB_lt hin)]
                (first | refine p_fieldPtr (hf := F.fld54_3) (h := ?_) | refine p_fieldRef (hf := F.fld54_3) (h := ?_) | refine p_fieldRow (hf := F.fld54_3) (h := ?_))
                (first | refine p_load (ht := F.leaf3) (h := ?_) | refine p_loadRef (ht := F.leaf3) (h := ?_))
                refine p_buildSlice (ht := Try.underlying23) (hi := F.ti3) (h := ?_)
                refine p_append (k := i + 2) (ht := Try.underlying23) (hi := F.ti3) (hnl := word_len hi) (hy := by exact ⟨.inl oB_, rfl⟩) (hm := by have := word_len (G := G) (node := node) hi; simp only [List.length_cons, List.length_nil]; omega) (hlim := by omega) (h := ?_)
                (first | refine p_fieldPtr (hf := F.fld44_1) (h := ?_) | refine p_fieldRef (hf := F.fld44_1) (h := ?_) | refine p_fieldRow (hf := F.fld44_1) (h := ?_))
                refine p_store1 F.ti23 (h := ?_)
                refine p_endD ?_
                refine p_region fun hf => ?_
                refine p_move (h := ?_)
                refine p_add (r := ((i + 1 : Nat) : Int)) (hr := by omega) (hb := by omega) (h := ?_)
                refine p_assign (h := ?_)
                refine p_end ?_
                refine p_some ?_
                refine ⟨⟨i + 1, _, _, hlt, fun j hj hji => ?_, eV_, eV_, eV_, eV_, eV_, oB_, oB_, oB_, ?_⟩, ?_⟩
                · rcases Nat.lt_succ_iff_lt_or_eq.1 hji with h | h
                  · exact hn j hj h
                  · subst h; rw [hb41, hc50]; rfl
                · rw [word_next hlt]; exact oB_
                · simp (decide := true) only [upd, e10, V.toN, ↓reduceIte]; omega
          · refine p_condF (h := ?_)
            have hie : i = sites.length := by simp at hc33; omega
            have hgood := conf_good (G := G) hie hn
            have hword : wordAt G node sites i = node :: sites.map (backAt G) := by rw [wordAt, hie, List.take_length]
            refine p_exit ?_
            refine p_seq ?_
            refine p_seq (p_region fun hf => ?_)
            (first | refine p_fieldPtr (hf := F.fld44_1) (h := ?_) | refine p_fieldRef (hf := F.fld44_1) (h := ?_) | refine p_fieldRow (hf := F.fld44_1) (h := ?_))
            (first | refine p_load (ht := F.leaf23) (h := ?_) | refine p_loadRef (ht := F.leaf23) (h := ?_))
            refine p_len (ht := Try.underlying23) (h := ?_)
            refine p_num (h := ?_)
            refine p_end ?_
            refine p_splitC (s := 69) (ht := fun hc69 => ?_) (hf := fun hc69 => ?_)
            · refine p_condT (h := ?_)
              refine p_seq (p_region fun hf => ?_)
              refine p_build (hi := F.ti44) (hpl := F.pl44) (h := ?_)
              refine p_storeAll F.ti44 (h := ?_)
              refine p_assign (h := ?_)
              refine p_end ?_
              refine TrC.ret ?_
              refine p_cellNil (g1 := 0 + 1) (d1 := 6) (i := 1) (el := 3) (h := ?_)
              refine p_rets2 rfl (res_cell eV_ oB_ F.agg44 F.ti44 rfl rfl) ⟨eV_, rfl⟩ (by have hlong : decide ((4096 : Int) < (node :: sites.map (backAt G)).length) = true := (by simp [hie] at hc69 ⊢ <;> omega); simp only [confR, hc14, hb19, hc25, hgood, hlong, Bool.true_or, Bool.false_or, Bool.or_false, Bool.or_true, Bool.false_eq_true, ↓reduceIte, List.map_nil]; rfl)
            · refine p_condF (h := ?_)
              refine p_skip ?_
              refine p_seq (p_region fun hf => ?_)
              (first | refine p_loadA (ht := F.agg44) (hi := F.ti44) (h := ?_) | refine p_loadRefA (ht := F.agg44) (hi := F.ti44) (h := ?_))
              refine p_storeAll F.ti44 (h := ?_)
              refine p_assign (h := ?_)
              refine p_end ?_
              refine TrC.ret ?_
              refine p_freeze (g1 := r) (d1 := 64) (h := ?_)
              refine p_cellSl (g1 := 0 + 1) (d1 := 6) (i := 1) (hn := word_len hi) (h := ?_)
              refine p_rets2 rfl (res_cell eV_ oB_ F.agg44 F.ti44 rfl rfl) ⟨eV_, rfl⟩ (by have hlong : decide ((4096 : Int) < (node :: sites.map (backAt G)).length) = false := (by simp [hie] at hc69 ⊢ <;> omega); simp only [confR, hc14, hb19, hc25, hgood, hlong, hword, Bool.true_or, Bool.false_or, Bool.or_false, Bool.or_true, Bool.false_eq_true, ↓reduceIte, List.map_nil]; rfl)

end Go.Proofs.Ytfjciangbmjlmaa
