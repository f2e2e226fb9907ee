/-
  encode.Sites, walked.
-/
import Derived.Test.YtfjciangbmjlmaaGg
set_option linter.unusedSimpArgs false
set_option linter.unusedVariables false
namespace Go.Proofs.Ytfjciangbmjlmaa
open Go.RowKit
def w0 (c : Conf) : Int := (c.w[0]?).getD 0
theorem w0_eq {c : Conf} (h : 0 < c.w.length) : c.w[0] = w0 c := by simp [w0, h]
def lookB (G : Graph) (u : Int) : Option Int := mget u (backsAt G G.sites.length)
def sitesR (G : Graph) (c : Conf) : Int × List Int × Int :=
  if decide (checkE G ≠ 0) then (0, [], checkE G)
  else if decide (c.p ≠ 0) || decide ((c.w.length : Int) < 1) || decide ((4096 : Int) < c.w.length) || decide (w0 c < 0) || decide ((G.of.length : Int) ≤ w0 c) then (0, [], 120)
  else if (c.w.drop 1).any fun u => !(lookB G u).isSome then (0, [], 120)
  else (w0 c, (c.w.drop 1).map fun u => (lookB G u).getD 0, 0)
def sitesAt (G : Graph) (c : Conf) (i : Nat) : List Int := ((c.w.drop 1).take i).map fun u => (lookB G u).getD 0
theorem sitesAt_len {G : Graph} {c : Conf} {i : Nat} (h : i ≤ (c.w.drop 1).length) : i = ((sitesAt G c i).map iV).length := by simp [sitesAt] at h ⊢; omega
theorem sitesAt_next {G : Graph} {c : Conf} {i : Nat} (h : i < (c.w.drop 1).length) : (sitesAt G c (i + 1)).map iV = (sitesAt G c i).map iV ++ [iV ((lookB G (c.w.drop 1)[i]).getD 0)] := by
  simp only [sitesAt, List.take_add_one, List.getElem?_eq_getElem h, Option.toList_some, List.map_append, List.map_cons, List.map_nil]
theorem sites_bad {G : Graph} {c : Conf} {i : Nat} (hi : i < (c.w.drop 1).length) (h : (!(lookB G (c.w.drop 1)[i]).isSome) = true) : ((c.w.drop 1).any fun u => !(lookB G u).isSome) = true := List.any_eq_true.2 ⟨_, List.getElem_mem hi, h⟩
theorem sites_good {G : Graph} {c : Conf} {i : Nat} (hi : i = (c.w.drop 1).length) (h : ∀ j (hj : j < (c.w.drop 1).length), j < i → (!(lookB G (c.w.drop 1)[j]).isSome) = false) : ((c.w.drop 1).any fun u => !(lookB G u).isSome) = false := by
  refine Bool.eq_false_iff.2 fun h1 => ?_
  obtain ⟨x, hx, hp⟩ := List.any_eq_true.1 h1
  obtain ⟨j, hj, rfl⟩ := List.mem_iff_getElem.1 hx
  rw [h j hj (by omega)] at hp; cases hp

theorem sitesF (G : Graph) (c : Conf) (h1 : G.steps.length ≤ 1000000000) (h2 : G.points.length ≤ 1000000000) (h3 : G.sinks.length ≤ 1000000000) (h4 : G.sites.length ≤ 1000000000) : FnC Try.prog 14 [graphV G, confV c] (fun r => r = .tup [iV (sitesR G c).1, .sl 3 ((sitesR G c).2.1.map iV), iV (sitesR G c).2.2]) := by
  refine FnC.of (fn := Try.f14) ⟨Try.func14, by kernel_rfl, rfl⟩ Try.ntmps14 (by simp) fun w0 S0 => ?_
  refine p_seq (p_region fun hf => ?_)
  refine p_box (h := ?_)
  refine p_box (h := ?_)
  refine p_assign (h := ?_)
  refine p_assign (h := ?_)
  refine p_assign (h := ?_)
  refine p_end ?_
  refine p_seq ?_
  refine p_seq (p_region fun hf => ?_)
  (first | refine p_loadA (ht := F.agg29) (hi := F.ti29) (h := ?_) | refine p_loadRefA (ht := F.agg29) (hi := F.ti29) (h := ?_))
  refine p_call (hx := rfl) (hb := ⟨Try.func29, by kernel_rfl, rfl⟩) (hf := check G h1 h2 h3) (h := ?_)
  refine p_assign (h := ?_)
  refine p_end ?_
  refine p_seq (p_region fun hf => ?_)
  refine p_move (h := ?_)
  refine p_num (h := ?_)
  refine p_end ?_
  refine p_splitC (s := 17) (ht := fun hc17 => ?_) (hf := fun hc17 => ?_)
  · refine p_condT (h := ?_)
    refine p_seq (p_region fun hf => ?_)
    refine p_move (h := ?_)
    refine p_assign (h := ?_)
    refine p_assign (h := ?_)
    refine p_assign (h := ?_)
    refine p_end ?_
    refine TrC.ret ?_
    refine p_nilSl (s := 5) (t := 3) (h := ?_)
    refine p_rets3 rfl ⟨eV_, rfl⟩ ⟨eV_, rfl⟩ ⟨eV_, rfl⟩ (by simp only [sitesR, hc17, Bool.true_or, Bool.false_or, Bool.or_false, Bool.or_true, Bool.false_eq_true, ↓reduceIte, List.map_nil])
  · refine p_condF (h := ?_)
    refine p_skip ?_
    refine p_seq ?_
    refine p_seq (p_draw F.mixed fun hf => ?_)
    (first | refine p_fieldPtr (hf := F.fld44_0) (h := ?_) | refine p_fieldRef (hf := F.fld44_0) (h := ?_) | refine p_fieldRow (hf := F.fld44_0) (h := ?_))
    (first | refine p_load (ht := F.leaf3) (h := ?_) | refine p_loadRef (ht := F.leaf3) (h := ?_))
    refine p_num (h := ?_)
    refine p_move (h := ?_)
    refine p_split (s := 22) (ht := fun hb22 => ?_) (hf := fun hb22 => ?_)
    · -- slot 22 is true
      iterate 4 (refine p_guardNo (h := ?_))
      refine p_pick (h := ?_)
      refine p_move (h := ?_)
      iterate 4 (refine p_guardNo (h := ?_))
      refine p_pick (h := ?_)
      refine p_move (h := ?_)
      iterate 5 (refine p_guardNo (h := ?_))
      refine p_pick (h := ?_)
      refine p_move (h := ?_)
      iterate 8 (refine p_guardNo (h := ?_))
      refine p_pick (h := ?_)
      refine p_endD ?_
      refine p_condT (h := ?_)
      refine p_seq (p_region fun hf => ?_)
      refine p_assign (h := ?_)
      refine p_assign (h := ?_)
      refine p_assign (h := ?_)
      refine p_end ?_
      refine TrC.ret ?_
      refine p_nilSl (s := 5) (t := 3) (h := ?_)
      refine p_rets3 rfl ⟨eV_, rfl⟩ ⟨eV_, rfl⟩ ⟨eV_, rfl⟩ (by simp only [sitesR, hc17, hb22, Bool.true_or, Bool.false_or, Bool.or_false, Bool.or_true, Bool.false_eq_true, ↓reduceIte, List.map_nil])
    · -- slot 22 is false
      refine p_guardYes (h := ?_)
      (first | refine p_fieldPtr (hf := F.fld44_1) (h := ?_) | refine p_fieldRef (hf := F.fld44_1) (h := ?_) | refine p_fieldRow (hf := F.fld44_1) (h := ?_))
      refine p_guardYes (h := ?_)
      (first | refine p_load (ht := F.leaf23) (h := ?_) | refine p_loadRef (ht := F.leaf23) (h := ?_))
      refine p_guardYes (h := ?_)
      refine p_len (ht := Try.underlying23) (h := ?_)
      refine p_guardYes (h := ?_)
      refine p_num (h := ?_)
      refine p_pick (h := ?_)
      refine p_move (h := ?_)
      refine p_split (s := 28) (ht := fun hb28 => ?_) (hf := fun hb28 => ?_)
      · -- slot 28 is true
        iterate 4 (refine p_guardNo (h := ?_))
        refine p_pick (h := ?_)
        refine p_move (h := ?_)
        iterate 5 (refine p_guardNo (h := ?_))
        refine p_pick (h := ?_)
        refine p_move (h := ?_)
        iterate 8 (refine p_guardNo (h := ?_))
        refine p_pick (h := ?_)
        refine p_endD ?_
        refine p_condT (h := ?_)
        refine p_seq (p_region fun hf => ?_)
        refine p_assign (h := ?_)
        refine p_assign (h := ?_)
        refine p_assign (h := ?_)
        refine p_end ?_
        refine TrC.ret ?_
        refine p_nilSl (s := 5) (t := 3) (h := ?_)
        refine p_rets3 rfl ⟨eV_, rfl⟩ ⟨eV_, rfl⟩ ⟨eV_, rfl⟩ (by simp only [sitesR, hc17, hb22, hb28, Bool.true_or, Bool.false_or, Bool.or_false, Bool.or_true, Bool.false_eq_true, ↓reduceIte, List.map_nil])
      · -- slot 28 is false
        refine p_guardYes (h := ?_)
        (first | refine p_fieldPtr (hf := F.fld44_1) (h := ?_) | refine p_fieldRef (hf := F.fld44_1) (h := ?_) | refine p_fieldRow (hf := F.fld44_1) (h := ?_))
        refine p_guardYes (h := ?_)
        (first | refine p_load (ht := F.leaf23) (h := ?_) | refine p_loadRef (ht := F.leaf23) (h := ?_))
        refine p_guardYes (h := ?_)
        refine p_len (ht := Try.underlying23) (h := ?_)
        refine p_guardYes (h := ?_)
        refine p_num (h := ?_)
        refine p_pick (h := ?_)
        refine p_move (h := ?_)
        refine p_split (s := 34) (ht := fun hb34 => ?_) (hf := fun hb34 => ?_)
        · -- slot 34 is true
          iterate 5 (refine p_guardNo (h := ?_))
          refine p_pick (h := ?_)
          refine p_move (h := ?_)
          iterate 8 (refine p_guardNo (h := ?_))
          refine p_pick (h := ?_)
          refine p_endD ?_
          refine p_condT (h := ?_)
          refine p_seq (p_region fun hf => ?_)
          refine p_assign (h := ?_)
          refine p_assign (h := ?_)
          refine p_assign (h := ?_)
          refine p_end ?_
          refine TrC.ret ?_
          refine p_nilSl (s := 5) (t := 3) (h := ?_)
          refine p_rets3 rfl ⟨eV_, rfl⟩ ⟨eV_, rfl⟩ ⟨eV_, rfl⟩ (by simp only [sitesR, hc17, hb22, hb28, hb34, Bool.true_or, Bool.false_or, Bool.or_false, Bool.or_true, Bool.false_eq_true, ↓reduceIte, List.map_nil])
        · -- slot 34 is false
          have hw : 0 < c.w.length := by simp at hb28; omega
          have hw2 : c.w.length ≤ 4096 := by simp at hb34; omega
          have hw3 : (c.w.drop 1).length ≤ 4096 := by simp; omega
          refine p_guardYes (h := ?_)
          (first | refine p_fieldPtr (hf := F.fld44_1) (h := ?_) | refine p_fieldRef (hf := F.fld44_1) (h := ?_) | refine p_fieldRow (hf := F.fld44_1) (h := ?_))
          refine p_guardYes (h := ?_)
          (first | refine p_load (ht := F.leaf23) (h := ?_) | refine p_loadRef (ht := F.leaf23) (h := ?_))
          refine p_guardYes (h := ?_)
          refine p_idxMap (j := 0) (ht := Try.underlying23) (hi := F.ti3) (hij := rfl) (hj := hw) (h := ?_)
          rw [w0_eq hw]
          refine p_guardYes (h := ?_)
          (first | refine p_load (ht := F.leaf3) (h := ?_) | refine p_loadRef (ht := F.leaf3) (h := ?_))
          refine p_guardYes (h := ?_)
          refine p_num (h := ?_)
          refine p_pick (h := ?_)
          refine p_move (h := ?_)
          refine p_split (s := 41) (ht := fun hb41 => ?_) (hf := fun hb41 => ?_)
          · -- slot 41 is true
            iterate 8 (refine p_guardNo (h := ?_))
            refine p_pick (h := ?_)
            refine p_endD ?_
            refine p_condT (h := ?_)
            refine p_seq (p_region fun hf => ?_)
            refine p_assign (h := ?_)
            refine p_assign (h := ?_)
            refine p_assign (h := ?_)
            refine p_end ?_
            refine TrC.ret ?_
            refine p_nilSl (s := 5) (t := 3) (h := ?_)
            refine p_rets3 rfl ⟨eV_, rfl⟩ ⟨eV_, rfl⟩ ⟨eV_, rfl⟩ (by simp only [sitesR, hc17, hb22, hb28, hb34, hb41, Bool.true_or, Bool.false_or, Bool.or_false, Bool.or_true, Bool.false_eq_true, ↓reduceIte, List.map_nil])
          · -- slot 41 is false
            refine p_guardYes (h := ?_)
            (first | refine p_fieldPtr (hf := F.fld44_1) (h := ?_) | refine p_fieldRef (hf := F.fld44_1) (h := ?_) | refine p_fieldRow (hf := F.fld44_1) (h := ?_))
            refine p_guardYes (h := ?_)
            (first | refine p_load (ht := F.leaf23) (h := ?_) | refine p_loadRef (ht := F.leaf23) (h := ?_))
            refine p_guardYes (h := ?_)
            refine p_idxMap (j := 0) (ht := Try.underlying23) (hi := F.ti3) (hij := rfl) (hj := hw) (h := ?_)
            rw [w0_eq hw]
            refine p_guardYes (h := ?_)
            (first | refine p_load (ht := F.leaf3) (h := ?_) | refine p_loadRef (ht := F.leaf3) (h := ?_))
            refine p_guardYes (h := ?_)
            (first | refine p_fieldPtr (hf := F.fld29_5) (h := ?_) | refine p_fieldRef (hf := F.fld29_5) (h := ?_) | refine p_fieldRow (hf := F.fld29_5) (h := ?_))
            refine p_guardYes (h := ?_)
            (first | refine p_load (ht := F.leaf23) (h := ?_) | refine p_loadRef (ht := F.leaf23) (h := ?_))
            refine p_guardYes (h := ?_)
            refine p_len (ht := Try.underlying23) (h := ?_)
            refine p_guardYes (h := ?_)
            refine p_num (h := ?_)
            refine p_pick (h := ?_)
            refine p_endD ?_
            refine p_splitC (s := 50) (ht := fun hc50 => ?_) (hf := fun hc50 => ?_)
            · refine p_condT (h := ?_)
              refine p_seq (p_region fun hf => ?_)
              refine p_assign (h := ?_)
              refine p_assign (h := ?_)
              refine p_assign (h := ?_)
              refine p_end ?_
              refine TrC.ret ?_
              refine p_nilSl (s := 5) (t := 3) (h := ?_)
              refine p_rets3 rfl ⟨eV_, rfl⟩ ⟨eV_, rfl⟩ ⟨eV_, rfl⟩ (by simp only [sitesR, hc17, hb22, hb28, hb34, hb41, hc50, Bool.true_or, Bool.false_or, Bool.or_false, Bool.or_true, Bool.false_eq_true, ↓reduceIte, List.map_nil])
            · refine p_condF (h := ?_)
              refine p_skip ?_
              refine p_seq (p_region fun hf => ?_)
              (first | refine p_loadA (ht := F.agg29) (hi := F.ti29) (h := ?_) | refine p_loadRefA (ht := F.agg29) (hi := F.ti29) (h := ?_))
              refine p_call (hx := rfl) (hb := ⟨Try.func35, by kernel_rfl, rfl⟩) (hf := backs G h4) (h := ?_)
              refine p_assign (h := ?_)
              refine p_end ?_
              refine p_seq (p_region fun hf => ?_)
              refine p_assign (h := ?_)
              refine p_end ?_
              refine p_seq ?_
              refine p_seq (p_region fun hf => ?_)
              (first | refine p_fieldPtr (hf := F.fld44_1) (h := ?_) | refine p_fieldRef (hf := F.fld44_1) (h := ?_) | refine p_fieldRow (hf := F.fld44_1) (h := ?_))
              (first | refine p_load (ht := F.leaf23) (h := ?_) | refine p_loadRef (ht := F.leaf23) (h := ?_))
              refine p_partLo (l := 1) (ys := (c.w.drop 1).map iV) (ht := Try.underlying23) (hi := F.ti3) (hl := by simp; omega) (hys := by rw [List.map_drop]) (h := ?_)
              refine p_len (ht := Try.underlying23) (h := ?_)
              refine p_move (h := ?_)
              refine p_end ?_
              refine p_nilSlot (s := 9) (el := 3) 72 (h := ?_)
              refine TrC.block ?_
              refine p_loop (fun st => ∃ (i r : Nat), i ≤ (c.w.drop 1).length ∧ (∀ j (hj : j < (c.w.drop 1).length), j < i → (!(lookB G (c.w.drop 1)[j]).isSome) = false) ∧ st.env 3 = .ptr (0 + 1) 3 0 ∧ st.env 8 = .mp (intsI (backsAt G G.sites.length)) ∧ st.env 9 = .row r 72 i ∧ st.env 55 = .sl 3 ((c.w.drop 1).map iV) ∧ st.env 56 = iV (c.w.drop 1).length ∧ st.env 57 = iV i ∧ st.obj (0 + 1) 3 = .cells 44 (confL c) ∧ st.obj r 72 = .row 3 ((sitesAt G c i).map iV)) (fun st => (c.w.drop 1).length - (st.env 57).toN) ?_ fun e ob g1 hI => ?_
              · exact ⟨0, _, by omega, fun j hj h => by omega, eV_, eV_, eV_, eV_, eV_, eV_, oB_, oB_⟩
              · obtain ⟨i, r, hi, hn, e3, e8, e9, e55, e56, e57, o3, o72⟩ := hI
                dsimp only at e3 e8 e9 e55 e56 e57 o3 o72
                have hE := (⟨e3, e8, e9, e55, e56, e57, o3, o72⟩ : _ ∧ _ ∧ _ ∧ _ ∧ _ ∧ _ ∧ _ ∧ _)
                refine p_seq (p_region fun hf => ?_)
                refine p_num (h := ?_)
                refine p_end ?_
                refine p_seq ?_
                refine p_splitC (s := 58) (ht := fun hc58 => ?_) (hf := fun hc58 => ?_)
                · refine p_condT (h := ?_)
                  have hlt : i < (c.w.drop 1).length := by simp only [decide_eq_true_eq] at hc58; omega
                  refine p_skip ?_
                  refine p_seq ?_
                  refine TrC.block ?_
                  refine p_seq (p_region fun hf => ?_)
                  refine p_idxMap (j := i) (ht := Try.underlying23) (hi := F.ti3) (hij := rfl) (hj := hlt) (h := ?_)
                  (first | refine p_load (ht := F.leaf3) (h := ?_) | refine p_loadRef (ht := F.leaf3) (h := ?_))
                  refine p_assign (h := ?_)
                  refine p_end ?_
                  refine p_seq (p_region fun hf => ?_)
                  refine p_move (h := ?_)
                  refine p_move (h := ?_)
                  refine p_lookRead (k := .int (c.w.drop 1)[i]) (ht := Try.underlying102) (hi := F.ti3) (hk := rfl) (hf := by exact Try.underlying3) (hv := look_int _ _) (h := ?_)
                  refine p_move (h := ?_)
                  refine p_extract (h := ?_)
                  refine p_extract (h := ?_)
                  refine p_assign (h := ?_)
                  refine p_assign (h := ?_)
                  refine p_end ?_
                  refine p_seq ?_
                  refine p_seq (p_region fun hf => ?_)
                  refine p_move (h := ?_)
                  refine p_not (h := ?_)
                  refine p_end ?_
                  refine p_splitC (s := 68) (ht := fun hc68 => ?_) (hf := fun hc68 => ?_)
                  · refine p_condT (h := ?_)
                    refine p_seq (p_region fun hf => ?_)
                    refine p_assign (h := ?_)
                    refine p_assign (h := ?_)
                    refine p_assign (h := ?_)
                    refine p_end ?_
                    refine TrC.ret ?_
                    refine p_nilSl (s := 5) (t := 3) (h := ?_)
                    refine p_rets3 rfl ⟨eV_, rfl⟩ ⟨eV_, rfl⟩ ⟨eV_, rfl⟩ (by have hbad := sites_bad hlt hc68; simp only [sitesR, hc17, hb22, hb28, hb34, hb41, hc50, hbad, Bool.true_or, Bool.false_or, Bool.or_false, Bool.or_true, Bool.false_eq_true, ↓reduceIte, List.map_nil])
                  · refine p_condF (h := ?_)
                    refine p_skip ?_
                    refine p_region fun hf => ?_
                    refine p_move (h := ?_)
                    refine p_move (h := ?_)
                    refine p_buildSlice (ht := Try.underlying23) (hi := F.ti3) (h := ?_)
                    refine p_append (k := i + 1) (ht := Try.underlying23) (hi := F.ti3) (hnl := sitesAt_len hi) (hy := by exact ⟨.inl oB_, rfl⟩) (hm := by have := sitesAt_len (G := G) hi; simp only [List.length_cons, List.length_nil]; omega) (hlim := by omega) (h := ?_)
                    refine p_assign (h := ?_)
                    refine p_end ?_
                    refine p_region fun hf => ?_
                    refine p_add (r := ((i + 1 : Nat) : Int)) (hr := by omega) (hb := by omega) (h := ?_)
                    refine p_move (h := ?_)
                    refine p_end ?_
                    refine p_some ?_
                    refine ⟨⟨i + 1, _, hlt, fun j hj hji => ?_, eV_, eV_, eV_, eV_, eV_, eV_, oB_, ?_⟩, ?_⟩
                    · rcases Nat.lt_succ_iff_lt_or_eq.1 hji with h | h
                      · exact hn j hj h
                      · subst h; exact hc68
                    · rw [sitesAt_next hlt]; exact oB_
                    · simp (decide := true) only [upd, e57, V.toN, ↓reduceIte]; omega
                · refine p_condF (h := ?_)
                  have hie : i = (c.w.drop 1).length := by simp only [decide_eq_false_iff_not] at hc58; omega
                  have hgood := sites_good (G := G) hie hn
                  have hall : sitesAt G c i = (c.w.drop 1).map fun u => (lookB G u).getD 0 := by rw [sitesAt, hie, List.take_length]
                  refine p_exit ?_
                  refine p_seq (p_region fun hf => ?_)
                  (first | refine p_fieldPtr (hf := F.fld44_1) (h := ?_) | refine p_fieldRef (hf := F.fld44_1) (h := ?_) | refine p_fieldRow (hf := F.fld44_1) (h := ?_))
                  (first | refine p_load (ht := F.leaf23) (h := ?_) | refine p_loadRef (ht := F.leaf23) (h := ?_))
                  refine p_idxMap (j := 0) (ht := Try.underlying23) (hi := F.ti3) (hij := rfl) (hj := hw) (h := ?_)
                  rw [w0_eq hw]
                  (first | refine p_load (ht := F.leaf3) (h := ?_) | refine p_loadRef (ht := F.leaf3) (h := ?_))
                  refine p_move (h := ?_)
                  refine p_assign (h := ?_)
                  refine p_assign (h := ?_)
                  refine p_assign (h := ?_)
                  refine p_end ?_
                  refine TrC.ret ?_
                  refine p_freeze (g1 := r) (d1 := 72) (h := ?_)
                  refine p_toSl (s := 5) (hn := sitesAt_len hi) (h := ?_)
                  refine p_rets3 rfl ⟨eV_, rfl⟩ ⟨eV_, rfl⟩ ⟨eV_, rfl⟩ (by simp only [sitesR, hc17, hb22, hb28, hb34, hb41, hc50, hgood, hall, Bool.true_or, Bool.false_or, Bool.or_false, Bool.or_true, Bool.false_eq_true, ↓reduceIte, List.map_nil])

end Go.Proofs.Ytfjciangbmjlmaa
