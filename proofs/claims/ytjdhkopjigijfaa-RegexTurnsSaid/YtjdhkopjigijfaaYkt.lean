import Derived.Test.YtjdhkopjigijfaaXw
import Derived.Test.YtjdhkopjigijfaaYcp
/-
  A word cut to what is looked at.
-/
set_option linter.unusedSimpArgs false
set_option linter.unusedVariables false
set_option maxHeartbeats 4000000
namespace Go.Proofs.Ytjdhkopjigijfaa
open Go.RowKit
attribute [local irreducible] Wk Tr
def cutL (w : List ByteArray) : List ByteArray := if 10 < w.length then w.take 10 else w
theorem cutL_len (w : List ByteArray) : (cutL w).length ≤ 10 := by
  unfold cutL
  split
  · rw [List.length_take]; omega
  · omega

theorem cutP (w : List ByteArray) (hw : w.length ≤ 17592186044416) : FnC Try.prog 13 [.sl 9 (w.map V.str)] (fun r => r = .sl 9 ((cutL w).map V.str)) := by
  refine FnC.of (fn := Try.f13) ⟨Try.func13, by kernel_rfl, rfl⟩ Try.ntmps13 (by simp) fun w0 S0 => ?_
  refine p_go ?_
  refine p_splitC (s := 5) (ht := fun hc5 => ?_) (hf := fun hc5 => ?_)
  · have h10 : 10 < w.length := by have := hc5; simp at this; omega
    refine p_go fun hf => ?_
    refine p_partHi (l := 10) (ys := (w.take 10).map V.str) (ht := Try.underlying34) (hi := F.ti9.h) (hl := by simp; omega) (hys := by rw [List.map_take]) (h := ?_)
    refine p_go ?_
    refine p_ret1 (hp := by rw [cutL, if_pos h10])
  · have h10 : ¬ 10 < w.length := by have := hc5; simp at this; omega
    refine p_go ?_
    refine p_ret1 (hp := by rw [cutL, if_neg h10])

end Go.Proofs.Ytjdhkopjigijfaa
/-
  RegexTurns: its law as a contract.
-/
set_option linter.unusedSimpArgs false
set_option linter.unusedVariables false
set_option maxHeartbeats 4000000
namespace Go.Proofs.Ytjdhkopjigijfaa
open Go.RowKit
attribute [local irreducible] Wk Tr
theorem zero_sm' : zeroR.Sm := .mk (by simp [zeroR, Rx.kids]) (by simp [zeroR, Rx.kids])
theorem tu_sm' {x : Rx} (h : x.Sm) : (tuX x).Sm := by
  unfold tuX; split
  · exact tn_sm x h
  · exact zero_sm'

theorem regexTurns (x : Rx) (hx : x.Sm) (w : List ByteArray) (hw : w.length ≤ 17592186044416) : FnC Try.prog 6 [rxA x, .sl 9 (w.map V.str)] (fun r => r = .bool true) := by
  refine FnC.of (fn := Try.f6) ⟨Try.func6, by kernel_rfl, rfl⟩ Try.ntmps6 (by simp) fun w0 S0 => ?_
  obtain ⟨w1, hw1⟩ : ∃ w1, w1 = cutL w := ⟨_, rfl⟩
  have hwl : w1.length ≤ 10 := hw1 ▸ cutL_len w
  refine p_go fun hf => ?_
  refine p_call (hx := rfl) (hb := ⟨Try.func13, by kernel_rfl, rfl⟩) (hf := (show FnC Try.prog 13 [.sl 9 (w.map V.str)] (fun r => r = .sl 9 (w1.map V.str)) from hw1 ▸ cutP w hw)) (h := ?_)
  refine p_go fun hf => ?_
  refine p_call (hx := rfl) (hb := ⟨Try.func19, by kernel_rfl, rfl⟩) (hf := tuP x hx) (h := ?_)
  refine p_go ?_
  refine p_splitC (s := 26) (ht := fun hc26 => ?_) (hf := fun hc26 => ?_)
  · have he : errE x ≠ 0 := by simpa using hc26
    have hz : tuX x = zeroR := by rw [tuX, if_neg he]
    refine p_go fun hf => ?_
    refine p_build (hi := F.ti25.h) (hpl := F.pl25.h) (h := ?_)
    refine p_aggNilW (s := 28) (i := 2) (el := 25) (h := ?_)
    refine p_call (hx := rfl) (hb := ⟨Try.func11, by kernel_rfl, rfl⟩) (hf := sameR (tuX x) (tu_sm' hx) zeroR zero_sm') (h := ?_)
    refine p_go fun hf => ?_
    refine p_split (s := 30) (ht := fun hb30 => ?_) (hf := fun hb30 => ?_)
    · -- slot 30 is true
      refine p_go fun hf => ?_
      refine p_call (hx := rfl) (hb := ⟨Try.func12, by kernel_rfl, rfl⟩) (hf := alive07) (h := ?_)
      refine p_go ?_
      refine p_ret1 (hp := by rfl)
    · exact absurd hb30 (by rw [hz, eqB_self]; simp)
  · have he : errE x = 0 := by simpa using hc26
    have hE1 := mt_err he (w := w1) (by omega)
    have hE2 := mt_err (tu_err he) (w := w1.reverse) (by rw [List.length_reverse]; omega)
    have hE3 := tu_err he
    have hM := mt_tu he w1
    refine p_go ?_
    refine p_nilSl (s := 7) (t := 9) (h := ?_)
    refine p_loopK [1, 2, 5] [(0 + 1, 2), (0 + 1 + 1 + 1, 5)] (fun st => ∃ i : Nat, (i ≤ w1.length) ∧ st.env 7 = .sl 9 ((w1.take i).reverse.map V.str) ∧ st.env 8 = inV i) (fun st => w1.length - (st.env 8).toN) ?_ fun e ob g1 hK hO hI => ?_
    · exact ⟨0, by omega, eV_, eV_⟩
    · obtain ⟨i, hi, e7, e8⟩ := hI
      dsimp only at e7 e8
      simp only [valsE, List.cons.injEq, and_true] at hK
      simp only [valsO, List.cons.injEq, and_true] at hO
      have hE := (⟨hK, hO, e7, e8⟩ : _ ∧ _ ∧ _ ∧ _)
      refine p_go ?_
      refine p_splitC (s := 36) (ht := fun hc36 => ?_) (hf := fun hc36 => ?_)
      · have hlt : i < w1.length := by simpa using hc36
        have hst : (w1.take (i + 1)).reverse = [w1[i]] ++ (w1.take i).reverse := by rw [List.take_add_one, List.getElem?_eq_getElem hlt, List.reverse_append]; rfl
        refine p_go fun hf => ?_
        refine p_idxMap (j := i) (ht := Try.underlying34) (hi := F.ti9.h) (hij := rfl) (hj := hlt) (h := ?_)
        refine p_go fun hf => ?_
        refine p_buildSlice (ht := Try.underlying34) (hi := F.ti9.h) (h := ?_)
        refine p_go fun hf => ?_
        refine p_append (ht := Try.underlying34) (hi := F.ti9.h) (hu := eV_) (u := .sl 9 ((w1.take i).reverse.map V.str)) (ys := (w1.take i).reverse.map V.str) (hy := .inl ⟨rfl, rfl⟩) (hnl := by simp) (k := i + 1) (hm := by simp; omega) (hlim := by omega) (h := ?_)
        refine p_assign (h := ?_)
        refine p_end ?_
        refine p_region fun hf => ?_
        refine p_move (h := ?_)
        refine p_bare ?_
        refine p_frzS (s := 7) eV_ oB_ (by simp; omega) ?_
        refine p_lastOp (h := ?_)
        refine p_add (r := ((i + 1 : Nat) : Int)) (hr := (by first | omega | (simp only [decide_eq_true_eq, decide_eq_false_iff_not, Bool.or_eq_false_iff, Bool.and_eq_true, Bool.not_eq_true', Bool.not_eq_false'] at *; omega))) (hb := (by first | omega | (simp only [decide_eq_true_eq, decide_eq_false_iff_not, Bool.or_eq_false_iff, Bool.and_eq_true, Bool.not_eq_true', Bool.not_eq_false'] at *; omega))) (h := ?_)
        refine p_go ?_
        refine p_some ?_
        refine ⟨⟨(by simp (decide := true) only [valsE, evE, upd, cv, args0, argsFrom, List.length_map, ↓reduceIte, hE] <;> rfl), (by simp (decide := true) only [valsO, updO, upd, true_and, and_true, false_and, and_false, ↓reduceIte, hE] <;> rfl)⟩, ⟨i + 1, hlt, by rw [hst, List.map_append]; exact eV_, eV_⟩, ?_⟩
        simp (decide := true) only [upd, e8, V.toN, ↓reduceIte]; omega
      · have hge : ¬ i < w1.length := by simpa using hc36
        have htk : w1.take i = w1 := List.take_of_length_le (by omega)
        rw [htk] at e7
        have hE := (⟨hK, hO, e7, e8⟩ : _ ∧ _ ∧ _ ∧ _)
        refine p_go fun hf => ?_
        refine p_call (hx := rfl) (hb := ⟨Try.func14, by kernel_rfl, rfl⟩) (hf := matchP x hx w1 (by omega)) (h := ?_)
        refine p_go fun hf => ?_
        refine p_call (hx := rfl) (hb := ⟨Try.func14, by kernel_rfl, rfl⟩) (hf := matchP (tuX x) (tu_sm' hx) w1.reverse (by rw [List.length_reverse]; omega)) (h := ?_)
        refine p_go fun hf => ?_
        refine p_call (hx := rfl) (hb := ⟨Try.func19, by kernel_rfl, rfl⟩) (hf := tuP (tuX x) (tu_sm' hx)) (h := ?_)
        refine p_go fun hf => ?_
        refine p_split (s := 73) (ht := fun hb73 => ?_) (hf := fun hb73 => ?_)
        · have hF : False := by rw [hE1, hE2, hE3] at hb73; simp at hb73
          exact hF.elim
        · -- slot 73 is false
          refine p_go fun hf => ?_
          refine p_neB (ht := Try.underlying4) (h := ?_)
          refine p_go fun hf => ?_
          refine p_split (s := 78) (ht := fun hb78 => ?_) (hf := fun hb78 => ?_)
          · have hF : False := by rw [hM] at hb78; simp at hb78
            exact hF.elim
          · -- slot 78 is false
            refine p_go fun hf => ?_
            refine p_call (hx := rfl) (hb := ⟨Try.func11, by kernel_rfl, rfl⟩) (hf := sameR (tuX (tuX x)) (tu_sm' (tu_sm' hx)) x hx) (h := ?_)
            refine p_go ?_
            refine p_splitC (s := 83) (ht := fun hc83 => ?_) (hf := fun hc83 => ?_)
            · have hF : False := by rw [tu_tu he, eqB_self] at hc83; simp at hc83
              exact hF.elim
            · refine p_go fun hf => ?_
              refine p_buildSlice (ht := Try.underlying23) (hi := F.ti25.h) (h := ?_)
              refine p_build (hi := F.ti25.h) (hpl := F.pl25.h) (h := ?_)
              refine p_alloc (hi := F.ti25.h) (h := ?_)
              refine p_storeAll F.ti25.h (h := ?_)
              refine p_end ?_
              refine p_freeze (g1 := g1 + 1 + 1 + 1 + 1 + 1 + 1) (d1 := 85) (t := 25) (xs := [x].map rxV) (by rw [List.map_singleton, rxV_eq]; exact oB_) ?_
              refine p_cellSl (g1 := g1 + 1 + 1 + 1 + 1 + 1 + 1) (d1 := 15) (i := 2) (g2 := g1 + 1 + 1 + 1 + 1 + 1 + 1) (d2 := 85) (hn := by simp) (h := ?_)
              refine p_go fun hf => ?_
              refine p_call (hx := rfl) (hb := ⟨Try.func20, by kernel_rfl, rfl⟩) (hf := checkRE (notX x) (not_sm hx)) (h := ?_)
              refine p_go ?_
              refine p_splitC (s := 89) (ht := fun hc89 => ?_) (hf := fun hc89 => ?_)
              · have hn : errE (notX x) ≠ 0 := by simpa using hc89
                refine p_go fun hf => ?_
                refine p_call (hx := rfl) (hb := ⟨Try.func12, by kernel_rfl, rfl⟩) (hf := alive07) (h := ?_)
                refine p_go ?_
                refine p_ret1 (hp := by rfl)
              · have hn : errE (notX x) = 0 := by simpa using hc89
                have hE4 := mt_err hn (w := w1) (by omega)
                have hM2 := mt_not he hn (w := w1) (by omega)
                refine p_go fun hf => ?_
                refine p_call (hx := rfl) (hb := ⟨Try.func14, by kernel_rfl, rfl⟩) (hf := matchP (notX x) (not_sm hx) w1 (by omega)) (h := ?_)
                refine p_go fun hf => ?_
                refine p_split (s := 99) (ht := fun hb99 => ?_) (hf := fun hb99 => ?_)
                · -- slot 99 is true
                  refine p_go fun hf => ?_
                  refine p_eqB (ht := Try.underlying4) (h := ?_)
                  refine p_go fun hf => ?_
                  refine p_split (s := 105) (ht := fun hb105 => ?_) (hf := fun hb105 => ?_)
                  · -- slot 105 is true
                    refine p_go fun hf => ?_
                    refine p_call (hx := rfl) (hb := ⟨Try.func12, by kernel_rfl, rfl⟩) (hf := alive07) (h := ?_)
                    refine p_go ?_
                    refine p_ret1 (hp := by rfl)
                  · exact absurd hb105 (by rw [hM2]; simp)
                · exact absurd hb99 (by rw [hE4]; simp)
end Go.Proofs.Ytjdhkopjigijfaa
