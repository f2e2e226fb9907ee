/-
  EncodeConfs, walked: it answers true for every graph, node, sites and configuration.
-/
import Derived.Test.YtfjciangbmjlmaaGl
import Derived.Test.YtfjciangbmjlmaaGr
set_option linter.unusedSimpArgs false
set_option linter.unusedVariables false
namespace Go.Proofs.Ytfjciangbmjlmaa
open Go.RowKit
theorem sites_len (G : Graph) (c : Conf) : (sitesR G c).2.1.length ≤ c.w.length := by
  unfold sitesR; (repeat' split) <;> simp
theorem sameConf_refl (c : Conf) : sameConfR c c = true := by simp [sameConfR, intsR]
theorem ints_refl (l : List Int) : intsR l l = true := by simp [intsR]

theorem encodeConfs (G : Graph) (node : Int) (sites : List Int) (c : Conf) : FnC Try.prog 4 [graphV G, iV node, .sl 3 (sites.map iV), confV c] (fun r => r = .bool true) := by
  refine FnC.of (fn := Try.f4) ⟨Try.func4, by kernel_rfl, rfl⟩ Try.ntmps4 (by simp) fun w0 S0 => ?_
  refine p_seq (p_region fun hf => ?_)
  refine p_box (h := ?_)
  refine p_box (h := ?_)
  refine p_assign (h := ?_)
  refine p_end ?_
  refine p_seq ?_
  refine p_seq (p_region fun hf => ?_)
  (first | refine p_loadA (ht := F.agg29) (hi := F.ti29) (h := ?_) | refine p_loadRefA (ht := F.agg29) (hi := F.ti29) (h := ?_))
  refine p_call (hx := rfl) (hb := ⟨Try.func7, by kernel_rfl, rfl⟩) (hf := small G) (h := ?_)
  refine p_not (h := ?_)
  refine p_end ?_
  refine p_splitC (s := 21) (ht := fun hc21 => ?_) (hf := fun hc21 => ?_)
  · refine p_condT (h := ?_)
    refine p_seq (p_region fun hf => ?_)
    refine p_call (hx := rfl) (hb := ⟨Try.func8, by kernel_rfl, rfl⟩) (hf := alive) (h := ?_)
    refine p_assign (h := ?_)
    refine p_end ?_
    refine TrC.ret ?_
    refine p_ret1 (hp := by rfl)
  · refine p_condF (h := ?_)
    have hs := small_bounds hc21
    refine p_skip ?_
    refine p_join (fun st => ∃ s' : List Int, s'.length ≤ 5000 ∧ st.env 1 = iV node ∧ st.env 2 = .sl 3 (s'.map iV) ∧ st.env 4 = .ptr (0 + 1) 4 0 ∧ st.env 7 = .ptr (0 + 1) 7 0 ∧ st.obj (0 + 1) 4 = .cells 29 (graphL G) ∧ st.obj (0 + 1) 7 = .cells 44 [iV c.p, .sl 3 (c.w.map iV)]) ?_ fun e ob gJ2 hJ => ?_
    ·
      refine p_seq (p_region fun hf => ?_)
      refine p_move (h := ?_)
      refine p_len (ht := Try.underlying23) (h := ?_)
      refine p_num (h := ?_)
      refine p_end ?_
      refine p_splitC (s := 25) (ht := fun hc25 => ?_) (hf := fun hc25 => ?_)
      · refine p_condT (h := ?_)
        refine p_region fun hf => ?_
        refine p_move (h := ?_)
        refine p_partHi (l := 5000) (ys := (sites.take 5000).map iV) (ht := Try.underlying23) (hi := F.ti3) (hl := by simp at hc25; simp; omega) (hys := by rw [List.map_take]) (h := ?_)
        refine p_assign (h := ?_)
        refine p_end ?_
        refine p_some ?_
        exact ⟨sites.take 5000, by simp; omega, eV_, eV_, eV_, eV_, oB_, oB_⟩
      · refine p_condF (h := ?_)
        refine p_skip ?_
        refine p_some ?_
        exact ⟨sites, by simp at hc25; omega, eV_, eV_, eV_, eV_, oB_, oB_⟩
    · obtain ⟨s', hl, e1, e2, e4, e7, o4, o7⟩ := hJ
      dsimp only at e1 e2 e4 e7 o4 o7
      have hE := (⟨e1, e2, e4, e7, o4, o7⟩ : _ ∧ _ ∧ _ ∧ _ ∧ _ ∧ _)
      refine p_join (fun st => ∃ c' : Conf, c'.w.length ≤ 5000 ∧ st.env 1 = iV node ∧ st.env 2 = .sl 3 (s'.map iV) ∧ st.env 4 = .ptr (0 + 1) 4 0 ∧ st.env 7 = .ptr (0 + 1) 7 0 ∧ st.obj (0 + 1) 4 = .cells 29 (graphL G) ∧ st.obj (0 + 1) 7 = .cells 44 [iV c'.p, .sl 3 (c'.w.map iV)]) ?_ fun e ob gJ3 hJ => ?_
      ·
        refine p_seq (p_region fun hf => ?_)
        (first | refine p_fieldPtr (hf := F.fld44_1) (h := ?_) | refine p_fieldRef (hf := F.fld44_1) (h := ?_) | refine p_fieldRow (hf := F.fld44_1) (h := ?_))
        (first | refine p_load (ht := F.leaf23) (h := ?_) | refine p_loadRef (ht := F.leaf23) (h := ?_))
        refine p_len (ht := Try.underlying23) (h := ?_)
        refine p_num (h := ?_)
        refine p_end ?_
        refine p_splitC (s := 31) (ht := fun hc31 => ?_) (hf := fun hc31 => ?_)
        · refine p_condT (h := ?_)
          refine p_region fun hf => ?_
          (first | refine p_fieldPtr (hf := F.fld44_1) (h := ?_) | refine p_fieldRef (hf := F.fld44_1) (h := ?_) | refine p_fieldRow (hf := F.fld44_1) (h := ?_))
          (first | refine p_load (ht := F.leaf23) (h := ?_) | refine p_loadRef (ht := F.leaf23) (h := ?_))
          refine p_partHi (l := 5000) (ys := (c.w.take 5000).map iV) (ht := Try.underlying23) (hi := F.ti3) (hl := by simp at hc31; simp; omega) (hys := by rw [List.map_take]) (h := ?_)
          (first | refine p_fieldPtr (hf := F.fld44_1) (h := ?_) | refine p_fieldRef (hf := F.fld44_1) (h := ?_) | refine p_fieldRow (hf := F.fld44_1) (h := ?_))
          refine p_store1 F.ti23 (h := ?_)
          refine p_end ?_
          refine p_some ?_
          exact ⟨⟨c.p, c.w.take 5000⟩, by simp; omega, eV_, eV_, eV_, eV_, oB_, oB_⟩
        · refine p_condF (h := ?_)
          refine p_skip ?_
          refine p_some ?_
          exact ⟨c, by simp at hc31; omega, eV_, eV_, eV_, eV_, oB_, oB_⟩
      · obtain ⟨c', hl2, f1, f2, f4, f7, p4, p7⟩ := hJ
        dsimp only at f1 f2 f4 f7 p4 p7
        have hE := (⟨f1, f2, f4, f7, p4, p7⟩ : _ ∧ _ ∧ _ ∧ _ ∧ _ ∧ _)
        refine p_seq (p_region fun hf => ?_)
        (first | refine p_loadA (ht := F.agg29) (hi := F.ti29) (h := ?_) | refine p_loadRefA (ht := F.agg29) (hi := F.ti29) (h := ?_))
        refine p_move (h := ?_)
        refine p_move (h := ?_)
        refine p_call (hx := rfl) (hb := ⟨Try.func10, by kernel_rfl, rfl⟩) (hf := conf G node s' hs.1 hs.2.1 hs.2.2.1 (by omega)) (h := ?_)
        refine p_move (h := ?_)
        refine p_extract (h := ?_)
        refine p_extract (h := ?_)
        refine p_alloc (hi := F.ti44) (h := ?_)
        refine p_storeAll F.ti44 (h := ?_)
        refine p_assign (h := ?_)
        refine p_end ?_
        refine p_seq (p_region fun hf => ?_)
        (first | refine p_loadA (ht := F.agg29) (hi := F.ti29) (h := ?_) | refine p_loadRefA (ht := F.agg29) (hi := F.ti29) (h := ?_))
        refine p_move (h := ?_)
        refine p_move (h := ?_)
        refine p_call (hx := rfl) (hb := ⟨Try.func11, by kernel_rfl, rfl⟩) (hf := conf23 G node s' hs.1 hs.2.1 hs.2.2.1 (by omega) hs.2.2.2) (h := ?_)
        refine p_move (h := ?_)
        refine p_extract (h := ?_)
        refine p_extract (h := ?_)
        refine p_alloc (hi := F.ti44) (h := ?_)
        refine p_storeAll F.ti44 (h := ?_)
        refine p_assign (h := ?_)
        refine p_end ?_
        refine p_seq (p_region fun hf => ?_)
        (first | refine p_loadA (ht := F.agg29) (hi := F.ti29) (h := ?_) | refine p_loadRefA (ht := F.agg29) (hi := F.ti29) (h := ?_))
        (first | refine p_loadA (ht := F.agg44) (hi := F.ti44) (h := ?_) | refine p_loadRefA (ht := F.agg44) (hi := F.ti44) (h := ?_))
        refine p_call (hx := rfl) (hb := ⟨Try.func14, by kernel_rfl, rfl⟩) (hf := sitesF G c' hs.1 hs.2.1 hs.2.2.1 hs.2.2.2) (h := ?_)
        refine p_move (h := ?_)
        refine p_extract (h := ?_)
        refine p_extract (h := ?_)
        refine p_extract (h := ?_)
        refine p_assign (h := ?_)
        refine p_assign (h := ?_)
        refine p_assign (h := ?_)
        refine p_end ?_
        refine p_seq (p_region fun hf => ?_)
        (first | refine p_loadA (ht := F.agg29) (hi := F.ti29) (h := ?_) | refine p_loadRefA (ht := F.agg29) (hi := F.ti29) (h := ?_))
        (first | refine p_loadA (ht := F.agg44) (hi := F.ti44) (h := ?_) | refine p_loadRefA (ht := F.agg44) (hi := F.ti44) (h := ?_))
        refine p_call (hx := rfl) (hb := ⟨Try.func15, by kernel_rfl, rfl⟩) (hf := sites23 G c' hs.1 hs.2.1 hs.2.2.1 hs.2.2.2) (h := ?_)
        refine p_move (h := ?_)
        refine p_extract (h := ?_)
        refine p_extract (h := ?_)
        refine p_extract (h := ?_)
        refine p_assign (h := ?_)
        refine p_assign (h := ?_)
        refine p_assign (h := ?_)
        refine p_end ?_
        refine p_seq (p_region fun hf => ?_)
        (first | refine p_loadA (ht := F.agg44) (hi := F.ti44) (h := ?_) | refine p_loadRefA (ht := F.agg44) (hi := F.ti44) (h := ?_))
        (first | refine p_loadA (ht := F.agg44) (hi := F.ti44) (h := ?_) | refine p_loadRefA (ht := F.agg44) (hi := F.ti44) (h := ?_))
        refine p_call (hx := rfl) (hb := ⟨Try.func13, by kernel_rfl, rfl⟩) (hf := sameConf (confR G node s').1 (confR G node s').1 (by have := conf_len G node s'; omega)) (h := ?_)
        refine p_move (h := ?_)
        refine p_split (s := 67) (ht := fun hb67 => ?_) (hf := fun hb67 => ?_)
        · -- slot 67 is true
          refine p_guardYes (h := ?_)
          refine p_move (h := ?_)
          refine p_guardYes (h := ?_)
          refine p_move (h := ?_)
          refine p_guardYes (h := ?_)
          refine p_num (h := ?_)
          refine p_pick (h := ?_)
          refine p_move (h := ?_)
          refine p_split (s := 72) (ht := fun hb72 => ?_) (hf := fun hb72 => ?_)
          · -- slot 72 is true
            refine p_guardYes (h := ?_)
            refine p_move (h := ?_)
            refine p_guardYes (h := ?_)
            refine p_move (h := ?_)
            refine p_guardYes (h := ?_)
            refine p_num (h := ?_)
            refine p_pick (h := ?_)
            refine p_move (h := ?_)
            refine p_split (s := 77) (ht := fun hb77 => ?_) (hf := fun hb77 => ?_)
            · -- slot 77 is true
              refine p_guardYes (h := ?_)
              refine p_move (h := ?_)
              refine p_guardYes (h := ?_)
              refine p_move (h := ?_)
              refine p_guardYes (h := ?_)
              refine p_call (hx := rfl) (hb := ⟨Try.func16, by kernel_rfl, rfl⟩) (hf := ints (sitesR G c').2.1 (sitesR G c').2.1 (by have := sites_len G c'; omega)) (h := ?_)
              refine p_pick (h := ?_)
              refine p_move (h := ?_)
              refine p_split (s := 82) (ht := fun hb82 => ?_) (hf := fun hb82 => ?_)
              · -- slot 82 is true
                refine p_guardYes (h := ?_)
                refine p_move (h := ?_)
                refine p_guardYes (h := ?_)
                refine p_move (h := ?_)
                refine p_guardYes (h := ?_)
                refine p_num (h := ?_)
                refine p_pick (h := ?_)
                refine p_move (h := ?_)
                refine p_split (s := 87) (ht := fun hb87 => ?_) (hf := fun hb87 => ?_)
                · -- slot 87 is true
                  refine p_guardYes (h := ?_)
                  refine p_call (hx := rfl) (hb := ⟨Try.func8, by kernel_rfl, rfl⟩) (hf := alive) (h := ?_)
                  refine p_pick (h := ?_)
                  refine p_assign (h := ?_)
                  refine p_end ?_
                  refine TrC.ret ?_
                  refine p_ret1 (hp := by rfl)
                · exact absurd hb87 (by simp)
              · exact absurd hb82 (by rw [ints_refl]; decide)
            · exact absurd hb77 (by simp)
          · exact absurd hb72 (by simp)
        · exact absurd hb67 (by rw [sameConf_refl]; decide)
end Go.Proofs.Ytfjciangbmjlmaa
