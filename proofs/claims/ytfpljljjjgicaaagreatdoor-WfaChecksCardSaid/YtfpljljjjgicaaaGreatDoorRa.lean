/-
  The reference's automata: which may be, what is asked.
-/
import Derived.Test.YtfpljljjjgicaaaGreatDoorWz
set_option maxHeartbeats 4000000
set_option linter.unusedSimpArgs false
set_option linter.unusedVariables false
namespace Go.Proofs.YtfpljljjjgicaaaGreatDoor
open Go.RowKit
attribute [local irreducible] Wk Tr
abbrev lastF (l : List Int) (i : Nat) : Int := if i = 0 then -1 else l.getD (i - 1) 0
theorem finOk_drop {a : Aut} {i : Nat} (h : i < a.fin.length) : finOk a (lastF a.fin i) (a.fin.drop i) = (inS a a.fin[i] && !decide (a.fin[i] ≤ lastF a.fin i) && finOk a (lastF a.fin (i + 1)) (a.fin.drop (i + 1))) := by
  rw [List.drop_eq_getElem_cons h, finOk]
  simp only [lastF, Nat.add_sub_cancel, Nat.add_one_ne_zero, ↓reduceIte, getD_at h]
theorem fin_first {a : Aut} {x : Int} (h : inS a x = true) : decide (x ≤ -1) = false := by simp [inS] at h; simp; omega
theorem rstate (a : Aut) (x : Int) : FnC Tryz.prog 40 [autV a, iV x] (fun r => r = .bool (inS a x)) := by
  refine FnC.of (fn := Tryz.f40) ⟨Tryz.func40, by kernel_rfl, rfl⟩ Tryz.ntmps40 (by simp) fun w0 S0 => ?_
  refine p_go ?_
  refine p_ret1 (hp := by rfl)
theorem rcheck10 (a : Aut) (ha : a.Sm) : FnC Tryz.prog 11 [autV a] (fun r => r = iV (checkE10 a)) := by
  refine FnC.of (fn := Tryz.f11) ⟨Tryz.func11, by kernel_rfl, rfl⟩ Tryz.ntmps11 (by simp) fun w0 S0 => ?_
  have hfl := ha.fin
  have htl := ha.trs
  refine p_go fun hf => ?_
  refine p_call (hx := rfl) (hb := ⟨Tryz.func39, by kernel_rfl, rfl⟩) (hf := rspace a.sp ha.sp) (h := ?_)
  refine p_go ?_
  refine p_splitC (s := 12) (ht := fun hc12 => ?_) (hf := fun hc12 => ?_)
  · refine p_go ?_
    refine p_ret1 (hp := by have h12 : spE a.sp ≠ 0 := (by simpa using hc12); rw [checkE10, if_pos h12])
  · have h12 : spE a.sp = 0 := by simpa using hc12
    refine p_go ?_
    refine p_splitC (s := 17) (ht := fun hc17 => ?_) (hf := fun hc17 => ?_)
    · refine p_go ?_
      refine p_ret1 (hp := by have h17 : (65536 : Int) < a.trs.length := (by simpa using hc17); rw [checkE10, if_neg (by simp [h12]), if_pos h17])
    · have h17 : ¬ (65536 : Int) < a.trs.length := by simpa using hc17
      refine p_go ?_
      refine p_splitC (s := 35) (ht := fun hc35 => ?_) (hf := fun hc35 => ?_)
      · refine p_go ?_
        refine p_ret1 (hp := by rw [checkE10, if_neg (by simp [h12]), if_neg h17, if_pos (by exact hc35)])
      · refine p_go ?_
        refine p_loopK [1] [(0 + 1, 1)] (fun st => ∃ i : Nat, (i ≤ a.fin.length) ∧ (finOk a (-1) a.fin = finOk a (lastF a.fin i) (a.fin.drop i)) ∧ st.env 4 = iV i) (fun st => a.fin.length - (st.env 4).toN) ?_ fun e ob g1 hK hO hI => ?_
        · exact ⟨0, by omega, rfl, eV_⟩
        · obtain ⟨i, hi, hs, e4⟩ := hI
          dsimp only at e4
          simp only [valsE, List.cons.injEq, and_true] at hK
          simp only [valsO, List.cons.injEq, and_true] at hO
          have hE := (⟨hK, hO, e4⟩ : _ ∧ _ ∧ _)
          refine p_go ?_
          refine p_splitC (s := 40) (ht := fun hc40 => ?_) (hf := fun hc40 => ?_)
          · have hlt : i < a.fin.length := by simpa using hc40
            have hdr := finOk_drop hlt
            refine p_go fun hf => ?_
            refine p_idxMap (j := i) (ht := Tryz.underlying26) (hi := F.ti3.h) (hij := rfl) (hj := hlt) (h := ?_)
            refine p_go fun hf => ?_
            refine p_call (hx := rfl) (hb := ⟨Tryz.func40, by kernel_rfl, rfl⟩) (hf := rstate a a.fin[i]) (h := ?_)
            refine p_go fun hf => ?_
            refine p_split (s := 51) (ht := fun hb51 => ?_) (hf := fun hb51 => ?_)
            · -- slot 51 is true
              refine p_go ?_
              refine p_ret1 (hp := by rw [checkE10, if_neg (by simp [h12]), if_neg h17, if_neg (by rw [show dimBad a = false from hc35]; decide), if_pos (by rw [hs, hdr, bnt hb51]; rfl)])
            · have hin := bnf hb51
              refine p_go fun hf => ?_
              refine p_split (s := 54) (ht := fun hb54 => ?_) (hf := fun hb54 => ?_)
              · have hi0 : 0 < i := by simpa using hb54
                have hla : lastF a.fin i = a.fin[i - 1]'(by omega) := by rw [lastF, if_neg (by omega), getD_at]
                refine p_go fun hf => ?_
                refine p_idxMap (j := i) (ht := Tryz.underlying26) (hi := F.ti3.h) (hij := rfl) (hj := hlt) (h := ?_)
                refine p_go fun hf => ?_
                refine p_sub (hr := rfl) (hb := by omega) (h := ?_)
                refine p_go fun hf => ?_
                refine p_idxMap (j := i - 1) (ht := Tryz.underlying26) (hi := F.ti3.h) (hij := by omega) (hj := by omega) (h := ?_)
                refine p_go ?_
                refine p_splitC (s := 68) (ht := fun hc68 => ?_) (hf := fun hc68 => ?_)
                · refine p_go ?_
                  refine p_ret1 (hp := by rw [checkE10, if_neg (by simp [h12]), if_neg h17, if_neg (by rw [show dimBad a = false from hc35]; decide), if_pos (by rw [hs, hdr, hla, show decide (a.fin[i] ≤ a.fin[i - 1]) = true from hc68, hin]; rfl)])
                · refine p_go fun hf => ?_
                  refine p_add (r := ((i + 1 : Nat) : Int)) (hr := (by first | omega | (simp only [decide_eq_true_eq, decide_eq_false_iff_not, Bool.or_eq_false_iff, Bool.and_eq_true, Bool.not_eq_true', Bool.not_eq_false'] at *; omega))) (hb := (by first | omega | (simp only [decide_eq_true_eq, decide_eq_false_iff_not, Bool.or_eq_false_iff, Bool.and_eq_true, Bool.not_eq_true', Bool.not_eq_false'] at *; omega))) (h := ?_)
                  refine p_go ?_
                  refine p_some ?_
                  refine ⟨⟨(by simp (decide := true) only [valsE, evE, upd, cv, args0, argsFrom, List.length_map, ↓reduceIte, hE] <;> rfl), (by simp (decide := true) only [valsO, updO, upd, true_and, and_true, false_and, and_false, ↓reduceIte, hE] <;> rfl)⟩, ⟨i + 1, hlt, by rw [hs, hdr, hin, hla, show decide (a.fin[i] ≤ a.fin[i - 1]) = false from hc68]; rfl, eV_⟩, ?_⟩
                  simp (decide := true) only [upd, e4, V.toN, ↓reduceIte]; omega
              · have hi0 : i = 0 := by have := hb54; simp at this; omega
                have hl1 : lastF a.fin i = -1 := if_pos hi0
                refine p_go fun hf => ?_
                refine p_add (r := ((i + 1 : Nat) : Int)) (hr := (by first | omega | (simp only [decide_eq_true_eq, decide_eq_false_iff_not, Bool.or_eq_false_iff, Bool.and_eq_true, Bool.not_eq_true', Bool.not_eq_false'] at *; omega))) (hb := (by first | omega | (simp only [decide_eq_true_eq, decide_eq_false_iff_not, Bool.or_eq_false_iff, Bool.and_eq_true, Bool.not_eq_true', Bool.not_eq_false'] at *; omega))) (h := ?_)
                refine p_go ?_
                refine p_some ?_
                refine ⟨⟨(by simp (decide := true) only [valsE, evE, upd, cv, args0, argsFrom, List.length_map, ↓reduceIte, hE] <;> rfl), (by simp (decide := true) only [valsO, updO, upd, true_and, and_true, false_and, and_false, ↓reduceIte, hE] <;> rfl)⟩, ⟨i + 1, hlt, by rw [hs, hdr, hl1, fin_first hin, hin]; rfl, eV_⟩, ?_⟩
                simp (decide := true) only [upd, e4, V.toN, ↓reduceIte]; omega
          · have hge : a.fin.length ≤ i := by simpa using hc40
            have hfin : finOk a (-1) a.fin = true := by rw [hs, List.drop_eq_nil_of_le hge]; rfl
            refine p_go ?_
            refine p_loopK [1] [(0 + 1, 1)] (fun st => ∃ i : Nat, (i ≤ a.trs.length) ∧ (∀ j (hj : j < a.trs.length), j < i → trBad a a.trs[j] = false) ∧ st.env 5 = iV i) (fun st => a.trs.length - (st.env 5).toN) ?_ fun e ob g2 hK hO hI => ?_
            · exact ⟨0, by omega, fun j hj h => absurd h (by omega), eV_⟩
            · obtain ⟨i, hi2, hp, e5⟩ := hI
              dsimp only at e5
              simp only [valsE, List.cons.injEq, and_true] at hK
              simp only [valsO, List.cons.injEq, and_true] at hO
              have hE := (⟨hK, hO, e5⟩ : _ ∧ _ ∧ _)
              refine p_go ?_
              refine p_splitC (s := 73) (ht := fun hc73 => ?_) (hf := fun hc73 => ?_)
              · have hlt : i < a.trs.length := by simpa using hc73
                refine p_go fun hf => ?_
                refine p_idxMap (j := i) (ht := Tryz.underlying27) (hi := F.ti39.h) (hij := rfl) (hj := hlt) (h := ?_)
                refine p_go fun hf => ?_
                refine p_call (hx := rfl) (hb := ⟨Tryz.func40, by kernel_rfl, rfl⟩) (hf := rstate a a.trs[i].frm) (h := ?_)
                refine p_go fun hf => ?_
                refine p_split (s := 86) (ht := fun hb86 => ?_) (hf := fun hb86 => ?_)
                · -- slot 86 is true
                  refine p_go ?_
                  refine p_ret1 (hp := by rw [checkE10, if_neg (by simp [h12]), if_neg h17, if_neg (by rw [show dimBad a = false from hc35]; decide), if_neg (by rw [hfin]; decide), if_pos (any_hit (p := trBad a) hlt (tr_bad1 hb86))])
                · -- slot 86 is false
                  refine p_go fun hf => ?_
                  refine p_call (hx := rfl) (hb := ⟨Tryz.func40, by kernel_rfl, rfl⟩) (hf := rstate a a.trs[i].to) (h := ?_)
                  refine p_go ?_
                  refine p_splitC (s := 104) (ht := fun hc104 => ?_) (hf := fun hc104 => ?_)
                  · refine p_go ?_
                    refine p_ret1 (hp := by rw [checkE10, if_neg (by simp [h12]), if_neg h17, if_neg (by rw [show dimBad a = false from hc35]; decide), if_neg (by rw [hfin]; decide), if_pos (any_hit (p := trBad a) hlt (tr_bad2 hb86 hc104))])
                  · refine p_go fun hf => ?_
                    refine p_add (r := ((i + 1 : Nat) : Int)) (hr := (by first | omega | (simp only [decide_eq_true_eq, decide_eq_false_iff_not, Bool.or_eq_false_iff, Bool.and_eq_true, Bool.not_eq_true', Bool.not_eq_false'] at *; omega))) (hb := (by first | omega | (simp only [decide_eq_true_eq, decide_eq_false_iff_not, Bool.or_eq_false_iff, Bool.and_eq_true, Bool.not_eq_true', Bool.not_eq_false'] at *; omega))) (h := ?_)
                    refine p_go ?_
                    refine p_some ?_
                    refine ⟨⟨(by simp (decide := true) only [valsE, evE, upd, cv, args0, argsFrom, List.length_map, ↓reduceIte, hE] <;> rfl), (by simp (decide := true) only [valsO, updO, upd, true_and, and_true, false_and, and_false, ↓reduceIte, hE] <;> rfl)⟩, ⟨i + 1, hlt, none_next (p := trBad a) (tr_good hb86 hc104) hp, eV_⟩, ?_⟩
                    simp (decide := true) only [upd, e5, V.toN, ↓reduceIte]; omega
              · have hge2 : a.trs.length ≤ i := by simpa using hc73
                have htr := any_not (p := trBad a) hge2 hp
                refine p_go ?_
                refine p_loopK [1] [(0 + 1, 1)] (fun st => ∃ i : Nat, (i ≤ a.trs.length) ∧ (∀ j (hj : j < a.trs.length), j < i → decide (checkedW a.sp [a.trs[j].w] ≠ 0) = false) ∧ st.env 7 = iV i) (fun st => a.trs.length - (st.env 7).toN) ?_ fun e ob g3 hK hO hI => ?_
                · exact ⟨0, by omega, fun j hj h => absurd h (by omega), eV_⟩
                · obtain ⟨i, hi3, hq, e7⟩ := hI
                  dsimp only at e7
                  simp only [valsE, List.cons.injEq, and_true] at hK
                  simp only [valsO, List.cons.injEq, and_true] at hO
                  have hE := (⟨hK, hO, e7⟩ : _ ∧ _ ∧ _)
                  refine p_go ?_
                  refine p_splitC (s := 109) (ht := fun hc109 => ?_) (hf := fun hc109 => ?_)
                  · have hlt : i < a.trs.length := by simpa using hc109
                    refine p_go fun hf => ?_
                    refine p_idxMap (j := i) (ht := Tryz.underlying27) (hi := F.ti39.h) (hij := rfl) (hj := hlt) (h := ?_)
                    refine p_go fun hf => ?_
                    refine p_call (hx := rfl) (hb := ⟨Tryz.func41, by kernel_rfl, rfl⟩) (hf := rcheck a.sp a.trs[i].w ha.sp (ha.w _ (List.getElem_mem hlt))) (h := ?_)
                    refine p_go ?_
                    refine p_splitC (s := 121) (ht := fun hc121 => ?_) (hf := fun hc121 => ?_)
                    · refine p_go ?_
                      refine p_ret1 (hp := by rw [checkE10, if_neg (by simp [h12]), if_neg h17, if_neg (by rw [show dimBad a = false from hc35]; decide), if_neg (by rw [hfin]; decide), if_neg (by rw [htr]; decide), if_pos (any_hit (p := fun (t : Trn) => decide (checkedW a.sp [t.w] ≠ 0)) hlt hc121)]; rfl)
                    · refine p_go fun hf => ?_
                      refine p_add (r := ((i + 1 : Nat) : Int)) (hr := (by first | omega | (simp only [decide_eq_true_eq, decide_eq_false_iff_not, Bool.or_eq_false_iff, Bool.and_eq_true, Bool.not_eq_true', Bool.not_eq_false'] at *; omega))) (hb := (by first | omega | (simp only [decide_eq_true_eq, decide_eq_false_iff_not, Bool.or_eq_false_iff, Bool.and_eq_true, Bool.not_eq_true', Bool.not_eq_false'] at *; omega))) (h := ?_)
                      refine p_go ?_
                      refine p_some ?_
                      refine ⟨⟨(by simp (decide := true) only [valsE, evE, upd, cv, args0, argsFrom, List.length_map, ↓reduceIte, hE] <;> rfl), (by simp (decide := true) only [valsO, updO, upd, true_and, and_true, false_and, and_false, ↓reduceIte, hE] <;> rfl)⟩, ⟨i + 1, hlt, none_next (p := fun (t : Trn) => decide (checkedW a.sp [t.w] ≠ 0)) hc121 hq, eV_⟩, ?_⟩
                      simp (decide := true) only [upd, e7, V.toN, ↓reduceIte]; omega
                  · have hge3 : a.trs.length ≤ i := by simpa using hc109
                    have hwt := any_not (p := fun (t : Trn) => decide (checkedW a.sp [t.w] ≠ 0)) hge3 hq
                    refine p_go ?_
                    refine p_ret1 (hp := by rw [checkE10, if_neg (by simp [h12]), if_neg h17, if_neg (by rw [show dimBad a = false from hc35]; decide), if_neg (by rw [hfin]; decide), if_neg (by rw [htr]; decide), if_neg (by rw [hwt]; decide)])
theorem rZero10 (s : Sp) (hs : spOk s = true) : FnC Tryz.prog 24 [spA s] (fun r => r = wtA (zeroW s)) := by
  refine FnC.of (fn := Tryz.f24) ⟨Tryz.func24, by kernel_rfl, rfl⟩ Tryz.ntmps24 (by simp) fun w0 S0 => ?_
  refine p_go fun hf => ?_
  refine p_call (hx := rfl) (hb := ⟨Tryz.func58, by kernel_rfl, rfl⟩) (hf := rZeroC s hs (spOk_len hs)) (h := ?_)
  refine p_go ?_
  refine p_r1 (hp := by rfl)
end Go.Proofs.YtfpljljjjgicaaaGreatDoor
