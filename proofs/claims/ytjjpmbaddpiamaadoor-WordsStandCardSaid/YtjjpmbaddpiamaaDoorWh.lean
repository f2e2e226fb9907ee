/-
  The law WordsStand.
-/
import Derived.Test.YtjjpmbaddpiamaaDoorWg
set_option linter.unusedSimpArgs false
set_option linter.unusedVariables false
set_option maxHeartbeats 4000000
namespace Go.Proofs.YtjjpmbaddpiamaaDoor
open Go.RowKit
attribute [local irreducible] Wk Tr
theorem drop_at {α : Type} {bs : List α} {i : Nat} (h : i < bs.length) : bs.drop i = bs[i] :: bs.drop (i + 1) := List.drop_eq_getElem_cons h

theorem wordsStandP (s : ByteArray) (hs : s.size ≤ 140737488355328) : FnC Tryd.prog 3 [.str s] (fun r => r = .bool true) := by
  refine FnC.of (fn := Tryd.f3) ⟨Tryd.func3, by kernel_rfl, rfl⟩ Tryd.ntmps3 (by simp) fun w0 S0 => ?_
  refine p_goJ ?_
  refine p_seq ?_
  refine p_goJ fun hf => ?_
  refine p_call (hx := rfl) (hb := ⟨Tryd.func6, by kernel_rfl, rfl⟩) (hf := awakeP) (h := ?_)
  refine p_goJ ?_
  refine p_splitC (s := 16) (ht := fun hc16 => ?_) (hf := fun hc16 => ?_)
  · have hF : False := by simp at hc16
    exact hF.elim
  · refine p_goJ ?_
    refine p_joinK [] [] (fun st => ∃ u : ByteArray, (u.size ≤ 20000) ∧ st.env 0 = .str u) ?_ fun e ob gS2 hK hO hI => ?_
    ·
      refine p_goJ ?_
      refine p_splitC (s := 19) (ht := fun hc19 => ?_) (hf := fun hc19 => ?_)
      · refine p_goJ fun hf => ?_
        refine p_strHead (h' := 20000) (hh := by simp at hc19; omega) (h := ?_)
        refine p_goJ ?_
        refine p_some ?_
        refine ⟨⟨(by simp (decide := true) only [valsE, evE, upd, cv, args0, argsFrom, List.length_map, ↓reduceIte, hE] <;> rfl), (by simp (decide := true) only [valsO, updO, upd, true_and, and_true, false_and, and_false, ↓reduceIte, hE] <;> rfl)⟩, s.extract 0 20000, (by rw [sz_ext s (by simp at hc19; omega)]; omega), eV_⟩
      · refine p_goJ ?_
        refine p_some ?_
        refine ⟨⟨(by simp (decide := true) only [valsE, evE, upd, cv, args0, argsFrom, List.length_map, ↓reduceIte, hE] <;> rfl), (by simp (decide := true) only [valsO, updO, upd, true_and, and_true, false_and, and_false, ↓reduceIte, hE] <;> rfl)⟩, s, (by simp at hc19; omega), eV_⟩
    · obtain ⟨u, hu, e0⟩ := hI
      dsimp only at e0
      have hE := e0
      refine p_goJ fun hf => ?_
      refine p_callP ([]) (hf := splitP u (by omega)) (hg := by simp) (hos := by simp) (hp := fun x9 o9 h9 hg9 hlw9 hos9 hR9 => hR9.elim) (h := fun r o1 h1 hg1 hlw1 hos1 hR1 => ?_)
      obtain rfl := hR1
      obtain ⟨acc, q9, hT⟩ : ∃ acc q9, tks u = (acc, q9) := ⟨_, _, rfl⟩
      have hLa := tks_laid u
      rw [hT] at hLa
      rcases q9 with _ | q9
      · rw [splitV_ok hT]
        refine p_goJ ?_
        refine p_seq ?_
        refine p_goJ ?_
        refine p_seq ?_
        refine p_goJ ?_
        refine p_loopK [0, 3] [] (fun st => ∃ (i last : Nat), (i ≤ acc.length) ∧ (Laid u last (acc.drop i)) ∧ st.env 7 = iV last ∧ st.env 8 = iV i) (fun st => acc.length - (st.env 8).toN) ?_ fun e ob g1 hK hO hI => ?_
        · exact ⟨0, 0, by omega, hLa, eV_, eV_⟩
        · obtain ⟨i, last, hi, hL, e7, e8⟩ := hI
          dsimp only at e7 e8
          simp only [valsE, List.cons.injEq, and_true] at hK
          have hE := (⟨hK, e7, e8⟩ : _ ∧ _ ∧ _)
          refine p_seq ?_
          refine p_goJ ?_
          refine p_splitC (s := 41) (ht := fun hc41 => ?_) (hf := fun hc41 => ?_)
          · have hlt : i < acc.length := by simp at hc41; omega
            rw [drop_at hlt] at hL
            obtain ⟨p, hp1, hp2, hp3, hp4, hp5, hp6, hL2⟩ := hL
            obtain ⟨k9, x, ln, cl, hacc⟩ : ∃ k x ln cl, acc[i] = ⟨k, x, ln, cl⟩ := ⟨_, _, _, _, rfl⟩
            rw [hacc] at hp2 hp3 hp4 hp5 hp6 hL2
            dsimp only at hp2 hp3 hp4 hp5 hp6 hL2
            subst hp5
            subst hp6
            have hst := st_le u p
            have hln := ln_le u p
            refine p_goJ ?_
            refine p_seq ?_
            refine p_goJ fun hf => ?_
            refine p_idxMap (j := i) (ht := Tryd.underlying23) (hi := F.ti29.h) (hij := rfl) (hj := hlt) (h := ?_)
            rw [hacc]
            refine p_goJ fun hf => ?_
            refine p_call (hx := rfl) (hb := ⟨Tryd.func8, by kernel_rfl, rfl⟩) (hf := beginP u p (by omega) (by omega)) (h := ?_)
            refine p_goJ ?_
            refine p_seq ?_
            refine p_goJ fun hf => ?_
            refine p_split (s := 59) (ht := fun hb59 => ?_) (hf := fun hb59 => ?_)
            · have hF : False := by simp at hb59; omega
              exact hF.elim
            · -- slot 59 is false
              refine p_goJ fun hf => ?_
              refine p_sub (r := ((u.size - stN u p : Nat) : Int)) (hr := by omega) (hb := by omega) (h := ?_)
              refine p_goJ ?_
              refine p_splitC (s := 67) (ht := fun hc67 => ?_) (hf := fun hc67 => ?_)
              · have hF : False := by simp at hc67; omega
                exact hF.elim
              · refine p_goJ fun hf => ?_
                refine p_add (r := ((p + 1 : Nat) : Int)) (hr := (by first | omega | (simp only [decide_eq_true_eq, decide_eq_false_iff_not, Bool.or_eq_false_iff, Bool.and_eq_true, Bool.not_eq_true', Bool.not_eq_false'] at *; omega))) (hb := (by first | omega | (simp only [decide_eq_true_eq, decide_eq_false_iff_not, Bool.or_eq_false_iff, Bool.and_eq_true, Bool.not_eq_true', Bool.not_eq_false'] at *; omega))) (h := ?_)
                refine p_sub (r := ((p : Nat) : Int)) (hr := by omega) (hb := by omega) (h := ?_)
                refine p_goJ ?_
                refine p_seq ?_
                refine p_goJ fun hf => ?_
                refine p_split (s := 76) (ht := fun hb76 => ?_) (hf := fun hb76 => ?_)
                · have hF : False := by simp at hb76; omega
                  exact hF.elim
                · -- slot 76 is false
                  refine p_goJ fun hf => ?_
                  refine p_sub (r := ((u.size - p : Nat) : Int)) (hr := by omega) (hb := by omega) (h := ?_)
                  refine p_goJ fun hf => ?_
                  refine p_split (s := 86) (ht := fun hb86 => ?_) (hf := fun hb86 => ?_)
                  · have hF : False := by simp at hb86; omega
                    exact hF.elim
                  · -- slot 86 is false
                    refine p_goJ fun hf => ?_
                    refine p_strOp (h := ?_)
                    refine p_goJ fun hf => ?_
                    refine p_split (s := 91) (ht := fun hb91 => ?_) (hf := fun hb91 => ?_)
                    · have hF : False := by simp at hb91; subst hb91; exact absurd hp2 (by decide)
                      exact hF.elim
                    · -- slot 91 is false
                      refine p_goJ fun hf => ?_
                      refine p_add (r := ((p + x.size : Nat) : Int)) (hr := (by first | omega | (simp only [decide_eq_true_eq, decide_eq_false_iff_not, Bool.or_eq_false_iff, Bool.and_eq_true, Bool.not_eq_true', Bool.not_eq_false'] at *; omega))) (hb := (by first | omega | (simp only [decide_eq_true_eq, decide_eq_false_iff_not, Bool.or_eq_false_iff, Bool.and_eq_true, Bool.not_eq_true', Bool.not_eq_false'] at *; omega))) (h := ?_)
                      refine p_goJ fun hf => ?_
                      refine p_strCut (l := p) (h' := p + x.size) (hl := by omega) (hh := by omega) (h := ?_)
                      refine p_goJ fun hf => ?_
                      refine p_strOp (h := ?_)
                      refine p_goJ ?_
                      refine p_splitC (s := 103) (ht := fun hc103 => ?_) (hf := fun hc103 => ?_)
                      · have hF : False := by rw [← hp4] at hc103; simp at hc103
                        exact hF.elim
                      · refine p_goJ fun hf => ?_
                        refine p_call (hx := rfl) (hb := ⟨Tryd.func9, by kernel_rfl, rfl⟩) (hf := placeP u p (by omega) (by omega)) (h := ?_)
                        refine p_goJ ?_
                        refine p_seq ?_
                        refine p_goJ ?_
                        refine p_splitC (s := 124) (ht := fun hc124 => ?_) (hf := fun hc124 => ?_)
                        · have hF : False := by simp at hc124
                          exact hF.elim
                        · refine p_goJ fun hf => ?_
                          refine p_add (r := ((p + x.size : Nat) : Int)) (hr := (by first | omega | (simp only [decide_eq_true_eq, decide_eq_false_iff_not, Bool.or_eq_false_iff, Bool.and_eq_true, Bool.not_eq_true', Bool.not_eq_false'] at *; omega))) (hb := (by first | omega | (simp only [decide_eq_true_eq, decide_eq_false_iff_not, Bool.or_eq_false_iff, Bool.and_eq_true, Bool.not_eq_true', Bool.not_eq_false'] at *; omega))) (h := ?_)
                          refine p_goJ fun hf => ?_
                          refine p_add (r := ((i + 1 : Nat) : Int)) (hr := (by first | omega | (simp only [decide_eq_true_eq, decide_eq_false_iff_not, Bool.or_eq_false_iff, Bool.and_eq_true, Bool.not_eq_true', Bool.not_eq_false'] at *; omega))) (hb := (by first | omega | (simp only [decide_eq_true_eq, decide_eq_false_iff_not, Bool.or_eq_false_iff, Bool.and_eq_true, Bool.not_eq_true', Bool.not_eq_false'] at *; omega))) (h := ?_)
                          refine p_goJ ?_
                          refine p_some ?_
                          refine ⟨⟨(by simp (decide := true) only [valsE, evE, upd, cv, args0, argsFrom, List.length_map, ↓reduceIte, hE] <;> rfl), (by simp (decide := true) only [valsO, updO, upd, true_and, and_true, false_and, and_false, ↓reduceIte, hE] <;> rfl)⟩, ⟨i + 1, p + x.size, hlt, hL2, eV_, eV_⟩, ?_⟩
                          simp (decide := true) only [upd, e8, V.toN, ↓reduceIte]; omega
          · refine p_goJ ?_
            refine p_ret1 (hp := by rfl)
      · rw [splitV_bad hT]
        refine p_goJ ?_
        refine p_seq ?_
        refine p_goJ ?_
        refine p_ret1 (hp := by rfl)
end Go.Proofs.YtjjpmbaddpiamaaDoor
