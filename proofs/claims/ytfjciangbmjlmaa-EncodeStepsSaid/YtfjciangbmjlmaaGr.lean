/-
  The reference's Sites, walked: it answers as encode.Sites.
-/
import Derived.Test.YtfjciangbmjlmaaGq
set_option linter.unusedSimpArgs false
set_option linter.unusedVariables false
namespace Go.Proofs.Ytfjciangbmjlmaa
open Go.RowKit
theorem site_look (G : Graph) (u : Int) : siteR G u = if (lookB G u).isSome then (lookB G u).getD 0 else -1 := by
  have h := look_site G u G.sites.length (Nat.le_refl _)
  rw [List.take_length] at h
  rw [lookB, h, siteR, idx]
  split <;> rfl
theorem look_nonneg (G : Graph) (u : Int) : 0 ≤ (lookB G u).getD 0 := by
  have h := look_site G u G.sites.length (Nat.le_refl _)
  rw [lookB, h]
  split
  · simp
  · simp
theorem site_neg (G : Graph) (u : Int) : decide (siteR G u < 0) = !(lookB G u).isSome := by
  rw [site_look]
  have := look_nonneg G u
  cases h : (lookB G u).isSome
  · simp
  · simp; omega
theorem site_is {G : Graph} {u : Int} (h : decide (siteR G u < 0) = false) : siteR G u = (lookB G u).getD 0 := by
  rw [site_neg] at h
  rw [site_look, if_pos (by simpa using h)]
theorem drop_one {c : Conf} {i : Nat} (h : i < (c.w.drop 1).length) : ∃ h' : i + 1 < c.w.length, c.w[i + 1] = (c.w.drop 1)[i] := by
  have h2 : i + 1 < c.w.length := by simp at h; omega
  refine ⟨h2, ?_⟩
  rw [List.getElem_drop]
  congr 1
  omega

theorem sites23 (G : Graph) (c : Conf) (h1 : G.steps.length ≤ 1000000000) (h2 : G.points.length ≤ 1000000000) (h3 : G.sinks.length ≤ 1000000000) (h4 : G.sites.length ≤ 1000000000) : FnC Try.prog 15 [graphV G, confV c] (fun r => r = .tup [iV (sitesR G c).1, .sl 3 ((sitesR G c).2.1.map iV), iV (sitesR G c).2.2]) := by
  refine FnC.of (fn := Try.f15) ⟨Try.func15, by kernel_rfl, rfl⟩ Try.ntmps15 (by simp) fun w0 S0 => ?_
  refine p_seq (p_region fun hf => ?_)
  refine p_box (h := ?_)
  refine p_box (h := ?_)
  refine p_assign (h := ?_)
  refine p_assign (h := ?_)
  refine p_assign (h := ?_)
  refine p_end ?_
  refine p_seq (p_region fun hf => ?_)
  (first | refine p_loadA (ht := F.agg29) (hi := F.ti29) (h := ?_) | refine p_loadRefA (ht := F.agg29) (hi := F.ti29) (h := ?_))
  refine p_call (hx := rfl) (hb := ⟨Try.func30, by kernel_rfl, rfl⟩) (hf := check21 G h1 h2 h3 h4) (h := ?_)
  refine p_assign (h := ?_)
  refine p_end ?_
  refine p_seq ?_
  refine p_seq (p_region fun hf => ?_)
  refine p_move (h := ?_)
  refine p_num (h := ?_)
  refine p_end ?_
  refine p_splitC (s := 14) (ht := fun hc14 => ?_) (hf := fun hc14 => ?_)
  · refine p_condT (h := ?_)
    refine p_seq (p_region fun hf => ?_)
    refine p_move (h := ?_)
    refine p_assign (h := ?_)
    refine p_assign (h := ?_)
    refine p_assign (h := ?_)
    refine p_end ?_
    refine TrC.ret ?_
    refine p_nilSl (s := 5) (t := 3) (h := ?_)
    refine p_rets3 rfl ⟨eV_, rfl⟩ ⟨eV_, rfl⟩ ⟨eV_, rfl⟩ (by simp only [sitesR, hc14, Bool.true_or, Bool.false_or, Bool.or_false, Bool.or_true, Bool.false_eq_true, ↓reduceIte, List.map_nil])
  · refine p_condF (h := ?_)
    refine p_skip ?_
    refine p_seq ?_
    refine p_seq (p_draw F.mixed fun hf => ?_)
    (first | refine p_fieldPtr (hf := F.fld44_0) (h := ?_) | refine p_fieldRef (hf := F.fld44_0) (h := ?_) | refine p_fieldRow (hf := F.fld44_0) (h := ?_))
    (first | refine p_load (ht := F.leaf3) (h := ?_) | refine p_loadRef (ht := F.leaf3) (h := ?_))
    refine p_num (h := ?_)
    refine p_move (h := ?_)
    refine p_split (s := 19) (ht := fun hb19 => ?_) (hf := fun hb19 => ?_)
    · -- slot 19 is true
      iterate 4 (refine p_guardNo (h := ?_))
      refine p_pick (h := ?_)
      refine p_move (h := ?_)
      iterate 4 (refine p_guardNo (h := ?_))
      refine p_pick (h := ?_)
      refine p_move (h := ?_)
      iterate 5 (refine p_guardNo (h := ?_))
      refine p_pick (h := ?_)
      refine p_move (h := ?_)
      iterate 8 (refine p_guardNo (h := ?_))
      refine p_pick (h := ?_)
      refine p_endD ?_
      refine p_condT (h := ?_)
      refine p_seq (p_region fun hf => ?_)
      refine p_assign (h := ?_)
      refine p_assign (h := ?_)
      refine p_assign (h := ?_)
      refine p_end ?_
      refine TrC.ret ?_
      refine p_nilSl (s := 5) (t := 3) (h := ?_)
      refine p_rets3 rfl ⟨eV_, rfl⟩ ⟨eV_, rfl⟩ ⟨eV_, rfl⟩ (by simp only [sitesR, hc14, hb19, Bool.true_or, Bool.false_or, Bool.or_false, Bool.or_true, Bool.false_eq_true, ↓reduceIte, List.map_nil])
    · -- slot 19 is false
      refine p_guardYes (h := ?_)
      (first | refine p_fieldPtr (hf := F.fld44_1) (h := ?_) | refine p_fieldRef (hf := F.fld44_1) (h := ?_) | refine p_fieldRow (hf := F.fld44_1) (h := ?_))
      refine p_guardYes (h := ?_)
      (first | refine p_load (ht := F.leaf23) (h := ?_) | refine p_loadRef (ht := F.leaf23) (h := ?_))
      refine p_guardYes (h := ?_)
      refine p_len (ht := Try.underlying23) (h := ?_)
      refine p_guardYes (h := ?_)
      refine p_num (h := ?_)
      refine p_pick (h := ?_)
      refine p_move (h := ?_)
      refine p_split (s := 25) (ht := fun hb25 => ?_) (hf := fun hb25 => ?_)
      · -- slot 25 is true
        iterate 4 (refine p_guardNo (h := ?_))
        refine p_pick (h := ?_)
        refine p_move (h := ?_)
        iterate 5 (refine p_guardNo (h := ?_))
        refine p_pick (h := ?_)
        refine p_move (h := ?_)
        iterate 8 (refine p_guardNo (h := ?_))
        refine p_pick (h := ?_)
        refine p_endD ?_
        refine p_condT (h := ?_)
        refine p_seq (p_region fun hf => ?_)
        refine p_assign (h := ?_)
        refine p_assign (h := ?_)
        refine p_assign (h := ?_)
        refine p_end ?_
        refine TrC.ret ?_
        refine p_nilSl (s := 5) (t := 3) (h := ?_)
        refine p_rets3 rfl ⟨eV_, rfl⟩ ⟨eV_, rfl⟩ ⟨eV_, rfl⟩ (by simp only [sitesR, hc14, hb19, hb25, Bool.true_or, Bool.false_or, Bool.or_false, Bool.or_true, Bool.false_eq_true, ↓reduceIte, List.map_nil])
      · -- slot 25 is false
        refine p_guardYes (h := ?_)
        (first | refine p_fieldPtr (hf := F.fld44_1) (h := ?_) | refine p_fieldRef (hf := F.fld44_1) (h := ?_) | refine p_fieldRow (hf := F.fld44_1) (h := ?_))
        refine p_guardYes (h := ?_)
        (first | refine p_load (ht := F.leaf23) (h := ?_) | refine p_loadRef (ht := F.leaf23) (h := ?_))
        refine p_guardYes (h := ?_)
        refine p_len (ht := Try.underlying23) (h := ?_)
        refine p_guardYes (h := ?_)
        refine p_num (h := ?_)
        refine p_pick (h := ?_)
        refine p_move (h := ?_)
        refine p_split (s := 31) (ht := fun hb31 => ?_) (hf := fun hb31 => ?_)
        · -- slot 31 is true
          iterate 5 (refine p_guardNo (h := ?_))
          refine p_pick (h := ?_)
          refine p_move (h := ?_)
          iterate 8 (refine p_guardNo (h := ?_))
          refine p_pick (h := ?_)
          refine p_endD ?_
          refine p_condT (h := ?_)
          refine p_seq (p_region fun hf => ?_)
          refine p_assign (h := ?_)
          refine p_assign (h := ?_)
          refine p_assign (h := ?_)
          refine p_end ?_
          refine TrC.ret ?_
          refine p_nilSl (s := 5) (t := 3) (h := ?_)
          refine p_rets3 rfl ⟨eV_, rfl⟩ ⟨eV_, rfl⟩ ⟨eV_, rfl⟩ (by simp only [sitesR, hc14, hb19, hb25, hb31, Bool.true_or, Bool.false_or, Bool.or_false, Bool.or_true, Bool.false_eq_true, ↓reduceIte, List.map_nil])
        · -- slot 31 is false
          have hw : 0 < c.w.length := by simp at hb25; omega
          have hw2 : c.w.length ≤ 4096 := by simp at hb31; omega
          have hw3 : (c.w.drop 1).length ≤ 4096 := by simp; omega
          refine p_guardYes (h := ?_)
          (first | refine p_fieldPtr (hf := F.fld44_1) (h := ?_) | refine p_fieldRef (hf := F.fld44_1) (h := ?_) | refine p_fieldRow (hf := F.fld44_1) (h := ?_))
          refine p_guardYes (h := ?_)
          (first | refine p_load (ht := F.leaf23) (h := ?_) | refine p_loadRef (ht := F.leaf23) (h := ?_))
          refine p_guardYes (h := ?_)
          refine p_idxMap (j := 0) (ht := Try.underlying23) (hi := F.ti3) (hij := rfl) (hj := hw) (h := ?_)
          rw [w0_eq hw]
          refine p_guardYes (h := ?_)
          (first | refine p_load (ht := F.leaf3) (h := ?_) | refine p_loadRef (ht := F.leaf3) (h := ?_))
          refine p_guardYes (h := ?_)
          refine p_num (h := ?_)
          refine p_pick (h := ?_)
          refine p_move (h := ?_)
          refine p_split (s := 38) (ht := fun hb38 => ?_) (hf := fun hb38 => ?_)
          · -- slot 38 is true
            iterate 8 (refine p_guardNo (h := ?_))
            refine p_pick (h := ?_)
            refine p_endD ?_
            refine p_condT (h := ?_)
            refine p_seq (p_region fun hf => ?_)
            refine p_assign (h := ?_)
            refine p_assign (h := ?_)
            refine p_assign (h := ?_)
            refine p_end ?_
            refine TrC.ret ?_
            refine p_nilSl (s := 5) (t := 3) (h := ?_)
            refine p_rets3 rfl ⟨eV_, rfl⟩ ⟨eV_, rfl⟩ ⟨eV_, rfl⟩ (by simp only [sitesR, hc14, hb19, hb25, hb31, hb38, Bool.true_or, Bool.false_or, Bool.or_false, Bool.or_true, Bool.false_eq_true, ↓reduceIte, List.map_nil])
          · -- slot 38 is false
            refine p_guardYes (h := ?_)
            (first | refine p_fieldPtr (hf := F.fld44_1) (h := ?_) | refine p_fieldRef (hf := F.fld44_1) (h := ?_) | refine p_fieldRow (hf := F.fld44_1) (h := ?_))
            refine p_guardYes (h := ?_)
            (first | refine p_load (ht := F.leaf23) (h := ?_) | refine p_loadRef (ht := F.leaf23) (h := ?_))
            refine p_guardYes (h := ?_)
            refine p_idxMap (j := 0) (ht := Try.underlying23) (hi := F.ti3) (hij := rfl) (hj := hw) (h := ?_)
            rw [w0_eq hw]
            refine p_guardYes (h := ?_)
            (first | refine p_load (ht := F.leaf3) (h := ?_) | refine p_loadRef (ht := F.leaf3) (h := ?_))
            refine p_guardYes (h := ?_)
            (first | refine p_fieldPtr (hf := F.fld29_5) (h := ?_) | refine p_fieldRef (hf := F.fld29_5) (h := ?_) | refine p_fieldRow (hf := F.fld29_5) (h := ?_))
            refine p_guardYes (h := ?_)
            (first | refine p_load (ht := F.leaf23) (h := ?_) | refine p_loadRef (ht := F.leaf23) (h := ?_))
            refine p_guardYes (h := ?_)
            refine p_len (ht := Try.underlying23) (h := ?_)
            refine p_guardYes (h := ?_)
            refine p_num (h := ?_)
            refine p_pick (h := ?_)
            refine p_endD ?_
            refine p_splitC (s := 47) (ht := fun hc47 => ?_) (hf := fun hc47 => ?_)
            · refine p_condT (h := ?_)
              refine p_seq (p_region fun hf => ?_)
              refine p_assign (h := ?_)
              refine p_assign (h := ?_)
              refine p_assign (h := ?_)
              refine p_end ?_
              refine TrC.ret ?_
              refine p_nilSl (s := 5) (t := 3) (h := ?_)
              refine p_rets3 rfl ⟨eV_, rfl⟩ ⟨eV_, rfl⟩ ⟨eV_, rfl⟩ (by simp only [sitesR, hc14, hb19, hb25, hb31, hb38, hc47, Bool.true_or, Bool.false_or, Bool.or_false, Bool.or_true, Bool.false_eq_true, ↓reduceIte, List.map_nil])
            · refine p_condF (h := ?_)
              refine p_skip ?_
              refine p_seq (p_region fun hf => ?_)
              refine p_assign (h := ?_)
              refine p_end ?_
              refine p_seq ?_
              refine p_seq (p_region fun hf => ?_)
              refine p_assign (h := ?_)
              refine p_end ?_
              refine p_nilSlot (s := 8) (el := 3) 67 (h := ?_)
              refine TrC.block ?_
              refine p_loop (fun st => ∃ (i r : Nat), i ≤ (c.w.drop 1).length ∧ (∀ j (hj : j < (c.w.drop 1).length), j < i → (!(lookB G (c.w.drop 1)[j]).isSome) = false) ∧ st.env 2 = .ptr (0 + 1) 2 0 ∧ st.env 3 = .ptr (0 + 1) 3 0 ∧ st.env 8 = .row r 67 i ∧ st.env 9 = iV ((i + 1 : Nat) : Int) ∧ st.obj (0 + 1) 2 = .cells 29 (graphL G) ∧ st.obj (0 + 1) 3 = .cells 44 (confL c) ∧ st.obj r 67 = .row 3 ((sitesAt G c i).map iV)) (fun st => c.w.length - (st.env 9).toN) ?_ fun e ob g1 hI => ?_
              · exact ⟨0, _, by omega, fun j hj h => by omega, eV_, eV_, eV_, eV_, oB_, oB_, oB_⟩
              · obtain ⟨i, r, hi, hn, e2, e3, e8, e9, o2, o3, o67⟩ := hI
                dsimp only at e2 e3 e8 e9 o2 o3 o67
                have hE := (⟨e2, e3, e8, e9, o2, o3, o67⟩ : _ ∧ _ ∧ _ ∧ _ ∧ _ ∧ _ ∧ _)
                refine p_seq ?_
                refine p_seq (p_region fun hf => ?_)
                refine p_move (h := ?_)
                (first | refine p_fieldPtr (hf := F.fld44_1) (h := ?_) | refine p_fieldRef (hf := F.fld44_1) (h := ?_) | refine p_fieldRow (hf := F.fld44_1) (h := ?_))
                (first | refine p_load (ht := F.leaf23) (h := ?_) | refine p_loadRef (ht := F.leaf23) (h := ?_))
                refine p_len (ht := Try.underlying23) (h := ?_)
                refine p_num (h := ?_)
                refine p_end ?_
                refine p_splitC (s := 52) (ht := fun hc52 => ?_) (hf := fun hc52 => ?_)
                · refine p_condT (h := ?_)
                  have hlt : i < (c.w.drop 1).length := by simp at hc52 ⊢; omega
                  obtain ⟨hd1, hd2⟩ := drop_one hlt
                  refine p_skip ?_
                  refine p_seq ?_
                  refine TrC.block ?_
                  refine p_seq (p_draw F.mixed fun hf => ?_)
                  (first | refine p_loadA (ht := F.agg29) (hi := F.ti29) (h := ?_) | refine p_loadRefA (ht := F.agg29) (hi := F.ti29) (h := ?_))
                  (first | refine p_fieldPtr (hf := F.fld44_1) (h := ?_) | refine p_fieldRef (hf := F.fld44_1) (h := ?_) | refine p_fieldRow (hf := F.fld44_1) (h := ?_))
                  (first | refine p_load (ht := F.leaf23) (h := ?_) | refine p_loadRef (ht := F.leaf23) (h := ?_))
                  refine p_move (h := ?_)
                  refine p_idxMap (j := i + 1) (ht := Try.underlying23) (hi := F.ti3) (hij := rfl) (hj := hd1) (h := ?_)
                  rw [hd2]
                  (first | refine p_load (ht := F.leaf3) (h := ?_) | refine p_loadRef (ht := F.leaf3) (h := ?_))
                  refine p_call (hx := rfl) (hb := ⟨Try.func36, by kernel_rfl, rfl⟩) (hf := site23 G (c.w.drop 1)[i] h4) (h := ?_)
                  refine p_assign (h := ?_)
                  refine p_endD ?_
                  refine p_seq ?_
                  refine p_seq (p_region fun hf => ?_)
                  refine p_move (h := ?_)
                  refine p_num (h := ?_)
                  refine p_end ?_
                  refine p_splitC (s := 63) (ht := fun hc63 => ?_) (hf := fun hc63 => ?_)
                  · refine p_condT (h := ?_)
                    refine p_seq (p_region fun hf => ?_)
                    refine p_assign (h := ?_)
                    refine p_assign (h := ?_)
                    refine p_assign (h := ?_)
                    refine p_end ?_
                    refine TrC.ret ?_
                    refine p_nilSl (s := 5) (t := 3) (h := ?_)
                    refine p_rets3 rfl ⟨eV_, rfl⟩ ⟨eV_, rfl⟩ ⟨eV_, rfl⟩ (by have hbad := sites_bad hlt (by rw [← site_neg]; exact hc63); simp only [sitesR, hc14, hb19, hb25, hb31, hb38, hc47, hbad, Bool.true_or, Bool.false_or, Bool.or_false, Bool.or_true, Bool.false_eq_true, ↓reduceIte, List.map_nil])
                  · refine p_condF (h := ?_)
                    refine p_skip ?_
                    refine p_region fun hf => ?_
                    refine p_move (h := ?_)
                    refine p_move (h := ?_)
                    refine p_buildSlice (ht := Try.underlying23) (hi := F.ti3) (h := ?_)
                    refine p_append (k := i + 1) (ht := Try.underlying23) (hi := F.ti3) (hnl := sitesAt_len hi) (hy := by exact ⟨.inl oB_, rfl⟩) (hm := by have := sitesAt_len (G := G) hi; simp only [List.length_cons, List.length_nil]; omega) (hlim := by omega) (h := ?_)
                    refine p_assign (h := ?_)
                    refine p_end ?_
                    refine p_region fun hf => ?_
                    refine p_move (h := ?_)
                    refine p_add (r := ((i + 1 + 1 : Nat) : Int)) (hr := by omega) (hb := by omega) (h := ?_)
                    refine p_assign (h := ?_)
                    refine p_end ?_
                    refine p_some ?_
                    refine ⟨⟨i + 1, _, hlt, fun j hj hji => ?_, eV_, eV_, eV_, eV_, oB_, oB_, ?_⟩, ?_⟩
                    · rcases Nat.lt_succ_iff_lt_or_eq.1 hji with h | h
                      · exact hn j hj h
                      · subst h; rw [← site_neg]; exact hc63
                    · rw [sitesAt_next hlt, ← site_is hc63]; exact oB_
                    · simp (decide := true) only [upd, e9, V.toN, ↓reduceIte]; omega
                · refine p_condF (h := ?_)
                  have hie : i = (c.w.drop 1).length := by simp at hc52 hi ⊢; omega
                  have hgood := sites_good (G := G) hie hn
                  have hall : sitesAt G c i = (c.w.drop 1).map fun u => (lookB G u).getD 0 := by rw [sitesAt, hie, List.take_length]
                  refine p_exit ?_
                  refine p_seq (p_region fun hf => ?_)
                  (first | refine p_fieldPtr (hf := F.fld44_1) (h := ?_) | refine p_fieldRef (hf := F.fld44_1) (h := ?_) | refine p_fieldRow (hf := F.fld44_1) (h := ?_))
                  (first | refine p_load (ht := F.leaf23) (h := ?_) | refine p_loadRef (ht := F.leaf23) (h := ?_))
                  refine p_idxMap (j := 0) (ht := Try.underlying23) (hi := F.ti3) (hij := rfl) (hj := hw) (h := ?_)
                  rw [w0_eq hw]
                  (first | refine p_load (ht := F.leaf3) (h := ?_) | refine p_loadRef (ht := F.leaf3) (h := ?_))
                  refine p_move (h := ?_)
                  refine p_assign (h := ?_)
                  refine p_assign (h := ?_)
                  refine p_assign (h := ?_)
                  refine p_end ?_
                  refine TrC.ret ?_
                  refine p_freeze (g1 := r) (d1 := 67) (h := ?_)
                  refine p_toSl (s := 5) (hn := sitesAt_len hi) (h := ?_)
                  refine p_rets3 rfl ⟨eV_, rfl⟩ ⟨eV_, rfl⟩ ⟨eV_, rfl⟩ (by simp only [sitesR, hc14, hb19, hb25, hb31, hb38, hc47, hgood, hall, Bool.true_or, Bool.false_or, Bool.or_false, Bool.or_true, Bool.false_eq_true, ↓reduceIte, List.map_nil])

end Go.Proofs.Ytfjciangbmjlmaa
