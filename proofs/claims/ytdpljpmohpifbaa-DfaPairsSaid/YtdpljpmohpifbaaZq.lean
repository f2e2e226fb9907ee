/-
  DfaSets, walked: it answers true for all automata and all words.
-/
import Derived.Test.YtdpljpmohpifbaaZp
set_option linter.unusedSimpArgs false
set_option linter.unusedVariables false
namespace Go.Proofs.Ytdpljpmohpifbaa
open Go.RowKit
namespace Dfa
theorem runR_in {d : Dfa} {w : List Int} (h : d.err = 0) (hw : d.fitsW w) : d.runR w = ((d.run 0 w : Int), d.takes w, 0) := by
  have h1 : w.any d.offW = false := by
    rw [List.any_eq_false]; intro x hx; have := hw x hx; simp [offW]; omega
  simp only [runR, h, h1, Bool.false_eq_true, ↓reduceIte, ne_eq, not_true_eq_false, decide_false]
theorem runR_err {d : Dfa} {w : List Int} (h : d.err = 0) (he : decide ((d.runR w).2.2 ≠ 0) = false) : d.fitsW w := by
  simp only [runR, h, Bool.false_eq_true, ↓reduceIte, ne_eq, not_true_eq_false, decide_false] at he
  cases h1 : w.any d.offW with
  | true => rw [h1, if_pos rfl] at he; cases he
  | false =>
    rw [List.any_eq_false] at h1
    intro x hx
    exact off_in (by simpa using h1 x hx)
theorem err_zero {d : Dfa} (h : decide (d.err ≠ 0) = false) : d.err = 0 := by simpa using h
theorem notR_runs {d : Dfa} (h : d.Ok) (hsm : (!d.smallD) = false) {w : List Int} (hw : d.fitsW w) : d.notR.fits ∧ (d.notR.runR w).2 = (!d.takes w, 0) := by
  obtain ⟨h1, h2, h3⟩ := leastR_ok h.flip
  obtain ⟨s1, s2⟩ := small_n hsm h
  refine ⟨leastR_fits h.flip, ?_⟩
  have hg : d.flip.leastR.good = true := by
    refine ok_good h1 ?_
    have h4 : (d.flip.n : Int) ≤ 24 := by have : d.flip.n = d.n := rfl; omega
    have h5 : (d.flip.leastR.n : Int) * d.flip.leastR.sym ≤ 24 * 6 := Int.mul_le_mul (by omega) (by rw [h3]; exact s2) (by rw [h3]; exact h.sym0) (by omega)
    omega
  rw [notR, runR_in (good_err hg) (by intro x hx; rw [h3]; exact hw x hx), least_takes h.flip hw, flip_takes h hw]
theorem joinR_runs {a b : Dfa} (ha : a.Ok) (hb : b.Ok) (hs : a.sym = b.sym) (h1 : (!a.smallD) = false) (h2 : (!b.smallD) = false) (both : Bool) {w : List Int} (hw : a.fitsW w) : (joinR a b both).fits ∧ ((joinR a b both).runR w).2 = (both && a.takes w && b.takes w || !both && (a.takes w || b.takes w), 0) := by
  obtain ⟨j1, j2, j3, j4⟩ := join_ok ha hb hs h1 h2 both
  obtain ⟨a1, a2, a3⟩ := leastR_ok ha
  obtain ⟨b1, b2, b3⟩ := leastR_ok hb
  have hp := pairs_takes a1 b1 (by rw [a3, b3, hs]) both (w := w) (by intro x hx; rw [a3]; exact hw x hx)
  have hps : (pairsR a.leastR b.leastR both).sym = a.sym := by rw [← j4, joinR, (leastR_ok j1).2.2]
  refine ⟨leastR_fits j1, ?_⟩
  rw [runR_in (good_err j3) (by intro x hx; rw [j4]; exact hw x hx), joinR, least_takes j1 (by intro x hx; rw [hps]; exact hw x hx), hp, least_takes ha hw, least_takes hb (by intro x hx; rw [← hs]; exact hw x hx)]
end Dfa

theorem dfaSets (a b : Dfa) (w : List Int) : FnC Try.prog 7 [dfaV a, dfaV b, .sl 3 (w.map iV)] (fun r => r = .bool true) := by
  refine FnC.of (fn := Try.f7) ⟨Try.func7, by kernel_rfl, rfl⟩ Try.ntmps7 (by simp) fun w0 S0 => ?_
  refine p_seq (p_region fun hf => ?_)
  refine p_box (h := ?_)
  refine p_box (h := ?_)
  refine p_assign (h := ?_)
  refine p_end ?_
  refine p_seq ?_
  refine p_seq (p_region fun hf => ?_)
  (first | refine p_loadA (ht := F.agg25) (hi := F.ti25) (h := ?_) | refine p_loadRefA (ht := F.agg25) (hi := F.ti25) (h := ?_))
  refine p_call (hx := rfl) (hb := ⟨Try.func8, by kernel_rfl, rfl⟩) (hf := small09 a) (h := ?_)
  refine p_not (h := ?_)
  refine p_move (h := ?_)
  refine p_split (s := 31) (ht := fun hb31 => ?_) (hf := fun hb31 => ?_)
  · -- slot 31 is true
    iterate 3 (refine p_guardNo (h := ?_))
    refine p_pick (h := ?_)
    refine p_move (h := ?_)
    iterate 3 (refine p_guardNo (h := ?_))
    refine p_pick (h := ?_)
    refine p_move (h := ?_)
    iterate 3 (refine p_guardNo (h := ?_))
    refine p_pick (h := ?_)
    refine p_move (h := ?_)
    iterate 5 (refine p_guardNo (h := ?_))
    refine p_pick (h := ?_)
    refine p_move (h := ?_)
    iterate 3 (refine p_guardNo (h := ?_))
    refine p_pick (h := ?_)
    refine p_end ?_
    refine p_condT (h := ?_)
    refine p_seq (p_region fun hf => ?_)
    refine p_call (hx := rfl) (hb := ⟨Try.func9, by kernel_rfl, rfl⟩) (hf := alive09) (h := ?_)
    refine p_assign (h := ?_)
    refine p_end ?_
    refine TrC.ret ?_
    refine p_ret1 (hp := by rfl)
  · -- slot 31 is false
    refine p_guardYes (h := ?_)
    (first | refine p_loadA (ht := F.agg25) (hi := F.ti25) (h := ?_) | refine p_loadRefA (ht := F.agg25) (hi := F.ti25) (h := ?_))
    refine p_guardYes (h := ?_)
    refine p_call (hx := rfl) (hb := ⟨Try.func8, by kernel_rfl, rfl⟩) (hf := small09 b) (h := ?_)
    refine p_guardYes (h := ?_)
    refine p_not (h := ?_)
    refine p_pick (h := ?_)
    refine p_move (h := ?_)
    refine p_split (s := 36) (ht := fun hb36 => ?_) (hf := fun hb36 => ?_)
    · -- slot 36 is true
      iterate 3 (refine p_guardNo (h := ?_))
      refine p_pick (h := ?_)
      refine p_move (h := ?_)
      iterate 3 (refine p_guardNo (h := ?_))
      refine p_pick (h := ?_)
      refine p_move (h := ?_)
      iterate 5 (refine p_guardNo (h := ?_))
      refine p_pick (h := ?_)
      refine p_move (h := ?_)
      iterate 3 (refine p_guardNo (h := ?_))
      refine p_pick (h := ?_)
      refine p_end ?_
      refine p_condT (h := ?_)
      refine p_seq (p_region fun hf => ?_)
      refine p_call (hx := rfl) (hb := ⟨Try.func9, by kernel_rfl, rfl⟩) (hf := alive09) (h := ?_)
      refine p_assign (h := ?_)
      refine p_end ?_
      refine TrC.ret ?_
      refine p_ret1 (hp := by rfl)
    · -- slot 36 is false
      refine p_guardYes (h := ?_)
      (first | refine p_loadA (ht := F.agg25) (hi := F.ti25) (h := ?_) | refine p_loadRefA (ht := F.agg25) (hi := F.ti25) (h := ?_))
      refine p_guardYes (h := ?_)
      refine p_call (hx := rfl) (hb := ⟨Try.func22, by kernel_rfl, rfl⟩) (hf := checkR a (Dfa.small_fits hb31)) (h := ?_)
      refine p_guardYes (h := ?_)
      refine p_num (h := ?_)
      refine p_pick (h := ?_)
      refine p_move (h := ?_)
      refine p_split (s := 41) (ht := fun hb41 => ?_) (hf := fun hb41 => ?_)
      · -- slot 41 is true
        iterate 3 (refine p_guardNo (h := ?_))
        refine p_pick (h := ?_)
        refine p_move (h := ?_)
        iterate 5 (refine p_guardNo (h := ?_))
        refine p_pick (h := ?_)
        refine p_move (h := ?_)
        iterate 3 (refine p_guardNo (h := ?_))
        refine p_pick (h := ?_)
        refine p_end ?_
        refine p_condT (h := ?_)
        refine p_seq (p_region fun hf => ?_)
        refine p_call (hx := rfl) (hb := ⟨Try.func9, by kernel_rfl, rfl⟩) (hf := alive09) (h := ?_)
        refine p_assign (h := ?_)
        refine p_end ?_
        refine TrC.ret ?_
        refine p_ret1 (hp := by rfl)
      · -- slot 41 is false
        refine p_guardYes (h := ?_)
        (first | refine p_loadA (ht := F.agg25) (hi := F.ti25) (h := ?_) | refine p_loadRefA (ht := F.agg25) (hi := F.ti25) (h := ?_))
        refine p_guardYes (h := ?_)
        refine p_call (hx := rfl) (hb := ⟨Try.func22, by kernel_rfl, rfl⟩) (hf := checkR b (Dfa.small_fits hb36)) (h := ?_)
        refine p_guardYes (h := ?_)
        refine p_num (h := ?_)
        refine p_pick (h := ?_)
        refine p_move (h := ?_)
        refine p_split (s := 46) (ht := fun hb46 => ?_) (hf := fun hb46 => ?_)
        · -- slot 46 is true
          iterate 5 (refine p_guardNo (h := ?_))
          refine p_pick (h := ?_)
          refine p_move (h := ?_)
          iterate 3 (refine p_guardNo (h := ?_))
          refine p_pick (h := ?_)
          refine p_end ?_
          refine p_condT (h := ?_)
          refine p_seq (p_region fun hf => ?_)
          refine p_call (hx := rfl) (hb := ⟨Try.func9, by kernel_rfl, rfl⟩) (hf := alive09) (h := ?_)
          refine p_assign (h := ?_)
          refine p_end ?_
          refine TrC.ret ?_
          refine p_ret1 (hp := by rfl)
        · -- slot 46 is false
          refine p_guardYes (h := ?_)
          (first | refine p_fieldPtr (hf := F.fld25_0) (h := ?_) | refine p_fieldRef (hf := F.fld25_0) (h := ?_) | refine p_fieldRow (hf := F.fld25_0) (h := ?_))
          refine p_guardYes (h := ?_)
          (first | refine p_load (ht := F.leaf3) (h := ?_) | refine p_loadRef (ht := F.leaf3) (h := ?_))
          refine p_guardYes (h := ?_)
          (first | refine p_fieldPtr (hf := F.fld25_0) (h := ?_) | refine p_fieldRef (hf := F.fld25_0) (h := ?_) | refine p_fieldRow (hf := F.fld25_0) (h := ?_))
          refine p_guardYes (h := ?_)
          (first | refine p_load (ht := F.leaf3) (h := ?_) | refine p_loadRef (ht := F.leaf3) (h := ?_))
          refine p_guardYes (h := ?_)
          refine p_num (h := ?_)
          refine p_pick (h := ?_)
          refine p_move (h := ?_)
          refine p_split (s := 53) (ht := fun hb53 => ?_) (hf := fun hb53 => ?_)
          · -- slot 53 is true
            iterate 3 (refine p_guardNo (h := ?_))
            refine p_pick (h := ?_)
            refine p_end ?_
            refine p_condT (h := ?_)
            refine p_seq (p_region fun hf => ?_)
            refine p_call (hx := rfl) (hb := ⟨Try.func9, by kernel_rfl, rfl⟩) (hf := alive09) (h := ?_)
            refine p_assign (h := ?_)
            refine p_end ?_
            refine TrC.ret ?_
            refine p_ret1 (hp := by rfl)
          · -- slot 53 is false
            refine p_guardYes (h := ?_)
            refine p_move (h := ?_)
            refine p_guardYes (h := ?_)
            refine p_len (ht := Try.underlying26) (h := ?_)
            refine p_guardYes (h := ?_)
            refine p_num (h := ?_)
            refine p_pick (h := ?_)
            refine p_end ?_
            refine p_splitC (s := 57) (ht := fun hc57 => ?_) (hf := fun hc57 => ?_)
            · refine p_condT (h := ?_)
              refine p_seq (p_region fun hf => ?_)
              refine p_call (hx := rfl) (hb := ⟨Try.func9, by kernel_rfl, rfl⟩) (hf := alive09) (h := ?_)
              refine p_assign (h := ?_)
              refine p_end ?_
              refine TrC.ret ?_
              refine p_ret1 (hp := by rfl)
            · refine p_condF (h := ?_)
              have hl : w.length ≤ 1000000000 := by simp at hc57; omega
              refine p_skip ?_
              refine p_seq (p_region fun hf => ?_)
              (first | refine p_loadA (ht := F.agg25) (hi := F.ti25) (h := ?_) | refine p_loadRefA (ht := F.agg25) (hi := F.ti25) (h := ?_))
              refine p_move (h := ?_)
              refine p_call (hx := rfl) (hb := ⟨Try.func11, by kernel_rfl, rfl⟩) (hf := runRef a (Dfa.small_fits hb31) w hl) (h := ?_)
              refine p_move (h := ?_)
              refine p_extract (h := ?_)
              refine p_extract (h := ?_)
              refine p_extract (h := ?_)
              refine p_assign (h := ?_)
              refine p_assign (h := ?_)
              refine p_assign (h := ?_)
              refine p_end ?_
              refine p_seq (p_region fun hf => ?_)
              (first | refine p_loadA (ht := F.agg25) (hi := F.ti25) (h := ?_) | refine p_loadRefA (ht := F.agg25) (hi := F.ti25) (h := ?_))
              refine p_move (h := ?_)
              refine p_call (hx := rfl) (hb := ⟨Try.func11, by kernel_rfl, rfl⟩) (hf := runRef b (Dfa.small_fits hb36) w hl) (h := ?_)
              refine p_move (h := ?_)
              refine p_extract (h := ?_)
              refine p_extract (h := ?_)
              refine p_extract (h := ?_)
              refine p_assign (h := ?_)
              refine p_assign (h := ?_)
              refine p_assign (h := ?_)
              refine p_end ?_
              refine p_seq ?_
              refine p_seq (p_region fun hf => ?_)
              refine p_move (h := ?_)
              refine p_num (h := ?_)
              refine p_end ?_
              refine p_splitC (s := 74) (ht := fun hc74 => ?_) (hf := fun hc74 => ?_)
              · refine p_condT (h := ?_)
                refine p_seq (p_region fun hf => ?_)
                refine p_call (hx := rfl) (hb := ⟨Try.func9, by kernel_rfl, rfl⟩) (hf := alive09) (h := ?_)
                refine p_assign (h := ?_)
                refine p_end ?_
                refine TrC.ret ?_
                refine p_ret1 (hp := by rfl)
              · refine p_condF (h := ?_)
                have hoka := Dfa.ok_err hb41
                have hokb := Dfa.ok_err hb46
                have hs : a.sym = b.sym := by simpa using hb53
                have hea := Dfa.err_zero hb41
                have heb := Dfa.err_zero hb46
                have hask : decide (Dfa.askedE a b ≠ 0) = false := by simp [Dfa.askedE, hea, heb, hs]
                have hw : a.fitsW w := Dfa.runR_err hea hc74
                have hx : (a.runR w).2.1 = a.takes w := by rw [Dfa.runR_in hea hw]
                have hy : (b.runR w).2.1 = b.takes w := by rw [Dfa.runR_in heb (by intro x hx; rw [← hs]; exact hw x hx)]
                have hN : Dfa.fits (if decide (a.err ≠ 0) then Dfa.zero else a.notR) ∧ (Dfa.runR (if decide (a.err ≠ 0) then Dfa.zero else a.notR) w).2 = (!a.takes w, 0) := by rw [hb41]; exact Dfa.notR_runs hoka hb31 hw
                have hB : Dfa.fits (if decide (Dfa.askedE a b ≠ 0) then Dfa.zero else Dfa.joinR a b true) ∧ (Dfa.runR (if decide (Dfa.askedE a b ≠ 0) then Dfa.zero else Dfa.joinR a b true) w).2 = (a.takes w && b.takes w, 0) := by rw [hask]; have := Dfa.joinR_runs hoka hokb hs hb31 hb36 true hw; simpa using this
                have hQ : Dfa.fits (if decide (Dfa.askedE a b ≠ 0) then Dfa.zero else Dfa.joinR a b false) ∧ (Dfa.runR (if decide (Dfa.askedE a b ≠ 0) then Dfa.zero else Dfa.joinR a b false) w).2 = (a.takes w || b.takes w, 0) := by rw [hask]; have := Dfa.joinR_runs hoka hokb hs hb31 hb36 false hw; simpa using this
                refine p_skip ?_
                refine p_seq (p_region fun hf => ?_)
                (first | refine p_loadA (ht := F.agg25) (hi := F.ti25) (h := ?_) | refine p_loadRefA (ht := F.agg25) (hi := F.ti25) (h := ?_))
                refine p_call (hx := rfl) (hb := ⟨Try.func19, by kernel_rfl, rfl⟩) (hf := Not09 a (Dfa.small_fits hb31)) (h := ?_)
                refine p_move (h := ?_)
                refine p_extract (h := ?_)
                refine p_extract (h := ?_)
                refine p_alloc (hi := F.ti25) (h := ?_)
                refine p_storeAll F.ti25 (h := ?_)
                refine p_assign (h := ?_)
                refine p_end ?_
                refine p_seq (p_region fun hf => ?_)
                (first | refine p_loadA (ht := F.agg25) (hi := F.ti25) (h := ?_) | refine p_loadRefA (ht := F.agg25) (hi := F.ti25) (h := ?_))
                (first | refine p_loadA (ht := F.agg25) (hi := F.ti25) (h := ?_) | refine p_loadRefA (ht := F.agg25) (hi := F.ti25) (h := ?_))
                refine p_call (hx := rfl) (hb := ⟨Try.func26, by kernel_rfl, rfl⟩) (hf := both09 a b hb31 hb36) (h := ?_)
                refine p_move (h := ?_)
                refine p_extract (h := ?_)
                refine p_extract (h := ?_)
                refine p_alloc (hi := F.ti25) (h := ?_)
                refine p_storeAll F.ti25 (h := ?_)
                refine p_assign (h := ?_)
                refine p_end ?_
                refine p_seq (p_region fun hf => ?_)
                (first | refine p_loadA (ht := F.agg25) (hi := F.ti25) (h := ?_) | refine p_loadRefA (ht := F.agg25) (hi := F.ti25) (h := ?_))
                (first | refine p_loadA (ht := F.agg25) (hi := F.ti25) (h := ?_) | refine p_loadRefA (ht := F.agg25) (hi := F.ti25) (h := ?_))
                refine p_call (hx := rfl) (hb := ⟨Try.func28, by kernel_rfl, rfl⟩) (hf := either09 a b hb31 hb36) (h := ?_)
                refine p_move (h := ?_)
                refine p_extract (h := ?_)
                refine p_extract (h := ?_)
                refine p_alloc (hi := F.ti25) (h := ?_)
                refine p_storeAll F.ti25 (h := ?_)
                refine p_assign (h := ?_)
                refine p_end ?_
                refine p_seq ?_
                refine p_seq (p_region fun hf => ?_)
                refine p_move (h := ?_)
                refine p_num (h := ?_)
                refine p_move (h := ?_)
                refine p_isW (s := 95) (b := false) (hc := by exact hb41) (h := ?_)
                refine p_guardYes (h := ?_)
                refine p_move (h := ?_)
                refine p_guardYes (h := ?_)
                refine p_num (h := ?_)
                refine p_pick (h := ?_)
                refine p_move (h := ?_)
                refine p_isW (s := 99) (b := false) (hc := by exact hask) (h := ?_)
                refine p_guardYes (h := ?_)
                refine p_move (h := ?_)
                refine p_guardYes (h := ?_)
                refine p_num (h := ?_)
                refine p_pick (h := ?_)
                refine p_end ?_
                refine p_isC (s := 102) (b := false) (hc := by exact hask) (h := ?_)
                refine p_condF (h := ?_)
                refine p_skip ?_
                refine p_seq (p_region fun hf => ?_)
                (first | refine p_loadA (ht := F.agg25) (hi := F.ti25) (h := ?_) | refine p_loadRefA (ht := F.agg25) (hi := F.ti25) (h := ?_))
                refine p_move (h := ?_)
                refine p_call (hx := rfl) (hb := ⟨Try.func10, by kernel_rfl, rfl⟩) (hf := run09 (if decide (a.err ≠ 0) then Dfa.zero else a.notR) hN.1 w hl) (h := ?_)
                refine p_move (h := ?_)
                refine p_extract (h := ?_)
                refine p_extract (h := ?_)
                refine p_extract (h := ?_)
                refine p_assign (h := ?_)
                refine p_assign (h := ?_)
                refine p_assign (h := ?_)
                refine p_end ?_
                refine p_seq (p_region fun hf => ?_)
                (first | refine p_loadA (ht := F.agg25) (hi := F.ti25) (h := ?_) | refine p_loadRefA (ht := F.agg25) (hi := F.ti25) (h := ?_))
                refine p_move (h := ?_)
                refine p_call (hx := rfl) (hb := ⟨Try.func10, by kernel_rfl, rfl⟩) (hf := run09 (if decide (Dfa.askedE a b ≠ 0) then Dfa.zero else Dfa.joinR a b true) hB.1 w hl) (h := ?_)
                refine p_move (h := ?_)
                refine p_extract (h := ?_)
                refine p_extract (h := ?_)
                refine p_extract (h := ?_)
                refine p_assign (h := ?_)
                refine p_assign (h := ?_)
                refine p_assign (h := ?_)
                refine p_end ?_
                refine p_seq (p_region fun hf => ?_)
                (first | refine p_loadA (ht := F.agg25) (hi := F.ti25) (h := ?_) | refine p_loadRefA (ht := F.agg25) (hi := F.ti25) (h := ?_))
                refine p_move (h := ?_)
                refine p_call (hx := rfl) (hb := ⟨Try.func10, by kernel_rfl, rfl⟩) (hf := run09 (if decide (Dfa.askedE a b ≠ 0) then Dfa.zero else Dfa.joinR a b false) hQ.1 w hl) (h := ?_)
                refine p_move (h := ?_)
                refine p_extract (h := ?_)
                refine p_extract (h := ?_)
                refine p_extract (h := ?_)
                refine p_assign (h := ?_)
                refine p_assign (h := ?_)
                refine p_assign (h := ?_)
                refine p_end ?_
                refine p_seq (p_region fun hf => ?_)
                refine p_move (h := ?_)
                refine p_num (h := ?_)
                refine p_move (h := ?_)
                refine p_isW (s := 126) (b := true) (hc := by rw [hN.2]; rfl) (h := ?_)
                refine p_guardYes (h := ?_)
                refine p_move (h := ?_)
                refine p_guardYes (h := ?_)
                refine p_num (h := ?_)
                refine p_pick (h := ?_)
                refine p_move (h := ?_)
                refine p_isW (s := 130) (b := true) (hc := by rw [hB.2]; rfl) (h := ?_)
                refine p_guardYes (h := ?_)
                refine p_move (h := ?_)
                refine p_guardYes (h := ?_)
                refine p_num (h := ?_)
                refine p_pick (h := ?_)
                refine p_move (h := ?_)
                refine p_isW (s := 134) (b := true) (hc := by rw [hQ.2]; rfl) (h := ?_)
                refine p_guardYes (h := ?_)
                refine p_move (h := ?_)
                refine p_guardYes (h := ?_)
                refine p_move (h := ?_)
                refine p_guardYes (h := ?_)
                refine p_not (h := ?_)
                refine p_guardYes (h := ?_)
                refine p_eqB (ht := Try.underlying4) (h := ?_)
                refine p_pick (h := ?_)
                refine p_move (h := ?_)
                refine p_isW (s := 140) (b := true) (hc := by rw [hN.2, hx]; simp) (h := ?_)
                refine p_guardYes (h := ?_)
                refine p_move (h := ?_)
                refine p_guardYes (h := ?_)
                refine p_move (h := ?_)
                refine p_guardYes (h := ?_)
                refine p_move (h := ?_)
                refine p_split (s := 143) (ht := fun hb143 => ?_) (hf := fun hb143 => ?_)
                · -- slot 143 is true
                  refine p_guardYes (h := ?_)
                  refine p_move (h := ?_)
                  refine p_guardYes (h := ?_)
                  refine p_pick (h := ?_)
                  refine p_guardYes (h := ?_)
                  refine p_eqB (ht := Try.underlying4) (h := ?_)
                  refine p_pick (h := ?_)
                  refine p_move (h := ?_)
                  refine p_isW (s := 148) (b := true) (hc := by (rw [hB.2]; simp_all)) (h := ?_)
                  refine p_guardYes (h := ?_)
                  refine p_move (h := ?_)
                  refine p_guardYes (h := ?_)
                  refine p_move (h := ?_)
                  refine p_guardYes (h := ?_)
                  refine p_move (h := ?_)
                  refine p_split (s := 151) (ht := fun hb151 => ?_) (hf := fun hb151 => ?_)
                  · -- slot 151 is true
                    refine p_guardNo (h := ?_)
                    refine p_guardYes (h := ?_)
                    refine p_pick (h := ?_)
                    refine p_guardYes (h := ?_)
                    refine p_eqB (ht := Try.underlying4) (h := ?_)
                    refine p_pick (h := ?_)
                    refine p_move (h := ?_)
                    refine p_isW (s := 156) (b := true) (hc := by (rw [hQ.2]; simp_all)) (h := ?_)
                    refine p_guardYes (h := ?_)
                    refine p_call (hx := rfl) (hb := ⟨Try.func9, by kernel_rfl, rfl⟩) (hf := alive09) (h := ?_)
                    refine p_pick (h := ?_)
                    refine p_assign (h := ?_)
                    refine p_end ?_
                    refine TrC.ret ?_
                    refine p_ret1 (hp := by rfl)
                  · -- slot 151 is false
                    refine p_guardYes (h := ?_)
                    refine p_move (h := ?_)
                    refine p_guardYes (h := ?_)
                    refine p_pick (h := ?_)
                    refine p_guardYes (h := ?_)
                    refine p_eqB (ht := Try.underlying4) (h := ?_)
                    refine p_pick (h := ?_)
                    refine p_move (h := ?_)
                    refine p_isW (s := 156) (b := true) (hc := by (rw [hQ.2]; simp_all)) (h := ?_)
                    refine p_guardYes (h := ?_)
                    refine p_call (hx := rfl) (hb := ⟨Try.func9, by kernel_rfl, rfl⟩) (hf := alive09) (h := ?_)
                    refine p_pick (h := ?_)
                    refine p_assign (h := ?_)
                    refine p_end ?_
                    refine TrC.ret ?_
                    refine p_ret1 (hp := by rfl)
                · -- slot 143 is false
                  refine p_guardNo (h := ?_)
                  refine p_guardYes (h := ?_)
                  refine p_pick (h := ?_)
                  refine p_guardYes (h := ?_)
                  refine p_eqB (ht := Try.underlying4) (h := ?_)
                  refine p_pick (h := ?_)
                  refine p_move (h := ?_)
                  refine p_isW (s := 148) (b := true) (hc := by (rw [hB.2]; simp_all)) (h := ?_)
                  refine p_guardYes (h := ?_)
                  refine p_move (h := ?_)
                  refine p_guardYes (h := ?_)
                  refine p_move (h := ?_)
                  refine p_guardYes (h := ?_)
                  refine p_move (h := ?_)
                  refine p_split (s := 151) (ht := fun hb151 => ?_) (hf := fun hb151 => ?_)
                  · -- slot 151 is true
                    refine p_guardNo (h := ?_)
                    refine p_guardYes (h := ?_)
                    refine p_pick (h := ?_)
                    refine p_guardYes (h := ?_)
                    refine p_eqB (ht := Try.underlying4) (h := ?_)
                    refine p_pick (h := ?_)
                    refine p_move (h := ?_)
                    refine p_isW (s := 156) (b := true) (hc := by (rw [hQ.2]; simp_all)) (h := ?_)
                    refine p_guardYes (h := ?_)
                    refine p_call (hx := rfl) (hb := ⟨Try.func9, by kernel_rfl, rfl⟩) (hf := alive09) (h := ?_)
                    refine p_pick (h := ?_)
                    refine p_assign (h := ?_)
                    refine p_end ?_
                    refine TrC.ret ?_
                    refine p_ret1 (hp := by rfl)
                  · -- slot 151 is false
                    refine p_guardYes (h := ?_)
                    refine p_move (h := ?_)
                    refine p_guardYes (h := ?_)
                    refine p_pick (h := ?_)
                    refine p_guardYes (h := ?_)
                    refine p_eqB (ht := Try.underlying4) (h := ?_)
                    refine p_pick (h := ?_)
                    refine p_move (h := ?_)
                    refine p_isW (s := 156) (b := true) (hc := by (rw [hQ.2]; simp_all)) (h := ?_)
                    refine p_guardYes (h := ?_)
                    refine p_call (hx := rfl) (hb := ⟨Try.func9, by kernel_rfl, rfl⟩) (hf := alive09) (h := ?_)
                    refine p_pick (h := ?_)
                    refine p_assign (h := ?_)
                    refine p_end ?_
                    refine TrC.ret ?_
                    refine p_ret1 (hp := by rfl)

end Go.Proofs.Ytdpljpmohpifbaa
