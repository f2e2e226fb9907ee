import Derived.Test.YtfpljljjjgicaaaGreatDoorWz
/-
  The reference's automata: which may be, what is asked.
-/
set_option maxHeartbeats 4000000
set_option linter.unusedSimpArgs false
set_option linter.unusedVariables false
namespace Go.Proofs.YtfpljljjjgicaaaGreatDoor
open Go.RowKit
attribute [local irreducible] Wk Tr
abbrev lastF (l : List Int) (i : Nat) : Int := if i = 0 then -1 else l.getD (i - 1) 0
theorem finOk_drop {a : Aut} {i : Nat} (h : i < a.fin.length) : finOk a (lastF a.fin i) (a.fin.drop i) = (inS a a.fin[i] && !decide (a.fin[i] ≤ lastF a.fin i) && finOk a (lastF a.fin (i + 1)) (a.fin.drop (i + 1))) := by
  rw [List.drop_eq_getElem_cons h, finOk]
  simp only [lastF, Nat.add_sub_cancel, Nat.add_one_ne_zero, ↓reduceIte, getD_at h]
theorem inS_bad (a : Aut) (x : Int) : (!inS a x) = badS a x := by simp only [inS, badS, Bool.not_and, Int.not_le, ← decide_not, Int.not_lt]
theorem fin_first {a : Aut} {x : Int} (h : inS a x = true) : decide (x ≤ -1) = false := by simp [inS] at h; simp; omega

theorem rstate (a : Aut) (x : Int) : FnC Tryz.prog 40 [autV a, iV x] (fun r => r = .bool (inS a x)) := by
  refine FnC.of (fn := Tryz.f40) ⟨Tryz.func40, by kernel_rfl, rfl⟩ Tryz.ntmps40 (by simp) fun w0 S0 => ?_
  refine p_go ?_
  refine p_ret1 (hp := by rfl)

theorem rcheck10 (a : Aut) (ha : a.Sm) : FnC Tryz.prog 11 [autV a] (fun r => r = iV (checkE10 a)) := by
  refine FnC.of (fn := Tryz.f11) ⟨Tryz.func11, by kernel_rfl, rfl⟩ Tryz.ntmps11 (by simp) fun w0 S0 => ?_
  have hfl := ha.fin
  have htl := ha.trs
  refine p_go fun hf => ?_
  refine p_call (hx := rfl) (hb := ⟨Tryz.func39, by kernel_rfl, rfl⟩) (hf := rspace a.sp ha.sp) (h := ?_)
  refine p_go ?_
  refine p_splitC (s := 12) (ht := fun hc12 => ?_) (hf := fun hc12 => ?_)
  · refine p_go ?_
    refine p_ret1 (hp := by have h12 : spE a.sp ≠ 0 := (by simpa using hc12); rw [checkE10, if_pos h12])
  · have h12 : spE a.sp = 0 := by simpa using hc12
    refine p_go ?_
    refine p_splitC (s := 17) (ht := fun hc17 => ?_) (hf := fun hc17 => ?_)
    · refine p_go ?_
      refine p_ret1 (hp := by have h17 : (65536 : Int) < a.trs.length := (by simpa using hc17); rw [checkE10, if_neg (by simp [h12]), if_pos h17])
    · have h17 : ¬ (65536 : Int) < a.trs.length := by simpa using hc17
      refine p_go ?_
      refine p_splitC (s := 35) (ht := fun hc35 => ?_) (hf := fun hc35 => ?_)
      · refine p_go ?_
        refine p_ret1 (hp := by rw [checkE10, if_neg (by simp [h12]), if_neg h17, if_pos (by exact hc35)])
      · refine p_go ?_
        refine p_loopK [1] [(0 + 1, 1)] (fun st => ∃ i : Nat, (i ≤ a.fin.length) ∧ (finOk a (-1) a.fin = finOk a (lastF a.fin i) (a.fin.drop i)) ∧ st.env 4 = iV i) (fun st => a.fin.length - (st.env 4).toN) ?_ fun e ob g1 hK hO hI => ?_
        · exact ⟨0, by omega, rfl, eV_⟩
        · obtain ⟨i, hi, hs, e4⟩ := hI
          dsimp only at e4
          simp only [valsE, List.cons.injEq, and_true] at hK
          simp only [valsO, List.cons.injEq, and_true] at hO
          have hE := (⟨hK, hO, e4⟩ : _ ∧ _ ∧ _)
          refine p_go ?_
          refine p_splitC (s := 40) (ht := fun hc40 => ?_) (hf := fun hc40 => ?_)
          · have hlt : i < a.fin.length := by simpa using hc40
            have hdr := finOk_drop hlt
            refine p_go fun hf => ?_
            refine p_idxMap (j := i) (ht := Tryz.underlying26) (hi := F.ti3.h) (hij := rfl) (hj := hlt) (h := ?_)
            refine p_go fun hf => ?_
            refine p_call (hx := rfl) (hb := ⟨Tryz.func40, by kernel_rfl, rfl⟩) (hf := rstate a a.fin[i]) (h := ?_)
            refine p_go fun hf => ?_
            refine p_split (s := 51) (ht := fun hb51 => ?_) (hf := fun hb51 => ?_)
            · -- slot 51 is true
              refine p_go ?_
              refine p_ret1 (hp := by rw [checkE10, if_neg (by simp [h12]), if_neg h17, if_neg (by rw [show dimBad a = false from hc35]; decide), if_pos (by rw [hs, hdr, bnt hb51]; rfl)])
            · have hin := bnf hb51
              refine p_go fun hf => ?_
              refine p_split (s := 54) (ht := fun hb54 => ?_) (hf := fun hb54 => ?_)
              · have hi0 : 0 < i := by simpa using hb54
                have hla : lastF a.fin i = a.fin[i - 1]'(by omega) := by rw [lastF, if_neg (by omega), getD_at]
                refine p_go fun hf => ?_
                refine p_idxMap (j := i) (ht := Tryz.underlying26) (hi := F.ti3.h) (hij := rfl) (hj := hlt) (h := ?_)
                refine p_go fun hf => ?_
                refine p_sub (hr := rfl) (hb := by omega) (h := ?_)
                refine p_go fun hf => ?_
                refine p_idxMap (j := i - 1) (ht := Tryz.underlying26) (hi := F.ti3.h) (hij := by omega) (hj := by omega) (h := ?_)
                refine p_go ?_
                refine p_splitC (s := 68) (ht := fun hc68 => ?_) (hf := fun hc68 => ?_)
                · refine p_go ?_
                  refine p_ret1 (hp := by rw [checkE10, if_neg (by simp [h12]), if_neg h17, if_neg (by rw [show dimBad a = false from hc35]; decide), if_pos (by rw [hs, hdr, hla, show decide (a.fin[i] ≤ a.fin[i - 1]) = true from hc68, hin]; rfl)])
                · refine p_go fun hf => ?_
                  refine p_add (r := ((i + 1 : Nat) : Int)) (hr := (by first | omega | (simp only [decide_eq_true_eq, decide_eq_false_iff_not, Bool.or_eq_false_iff, Bool.and_eq_true, Bool.not_eq_true', Bool.not_eq_false'] at *; omega))) (hb := (by first | omega | (simp only [decide_eq_true_eq, decide_eq_false_iff_not, Bool.or_eq_false_iff, Bool.and_eq_true, Bool.not_eq_true', Bool.not_eq_false'] at *; omega))) (h := ?_)
                  refine p_go ?_
                  refine p_some ?_
                  refine ⟨⟨(by simp (decide := true) only [valsE, evE, upd, cv, args0, argsFrom, List.length_map, ↓reduceIte, hE] <;> rfl), (by simp (decide := true) only [valsO, updO, upd, true_and, and_true, false_and, and_false, ↓reduceIte, hE] <;> rfl)⟩, ⟨i + 1, hlt, by rw [hs, hdr, hin, hla, show decide (a.fin[i] ≤ a.fin[i - 1]) = false from hc68]; rfl, eV_⟩, ?_⟩
                  simp (decide := true) only [upd, e4, V.toN, ↓reduceIte]; omega
              · have hi0 : i = 0 := by have := hb54; simp at this; omega
                have hl1 : lastF a.fin i = -1 := if_pos hi0
                refine p_go fun hf => ?_
                refine p_add (r := ((i + 1 : Nat) : Int)) (hr := (by first | omega | (simp only [decide_eq_true_eq, decide_eq_false_iff_not, Bool.or_eq_false_iff, Bool.and_eq_true, Bool.not_eq_true', Bool.not_eq_false'] at *; omega))) (hb := (by first | omega | (simp only [decide_eq_true_eq, decide_eq_false_iff_not, Bool.or_eq_false_iff, Bool.and_eq_true, Bool.not_eq_true', Bool.not_eq_false'] at *; omega))) (h := ?_)
                refine p_go ?_
                refine p_some ?_
                refine ⟨⟨(by simp (decide := true) only [valsE, evE, upd, cv, args0, argsFrom, List.length_map, ↓reduceIte, hE] <;> rfl), (by simp (decide := true) only [valsO, updO, upd, true_and, and_true, false_and, and_false, ↓reduceIte, hE] <;> rfl)⟩, ⟨i + 1, hlt, by rw [hs, hdr, hl1, fin_first hin, hin]; rfl, eV_⟩, ?_⟩
                simp (decide := true) only [upd, e4, V.toN, ↓reduceIte]; omega
          · have hge : a.fin.length ≤ i := by simpa using hc40
            have hfin : finOk a (-1) a.fin = true := by rw [hs, List.drop_eq_nil_of_le hge]; rfl
            refine p_go ?_
            refine p_loopK [1] [(0 + 1, 1)] (fun st => ∃ i : Nat, (i ≤ a.trs.length) ∧ (∀ j (hj : j < a.trs.length), j < i → trBad a a.trs[j] = false) ∧ st.env 5 = iV i) (fun st => a.trs.length - (st.env 5).toN) ?_ fun e ob g2 hK hO hI => ?_
            · exact ⟨0, by omega, fun j hj h => absurd h (by omega), eV_⟩
            · obtain ⟨i, hi2, hp, e5⟩ := hI
              dsimp only at e5
              simp only [valsE, List.cons.injEq, and_true] at hK
              simp only [valsO, List.cons.injEq, and_true] at hO
              have hE := (⟨hK, hO, e5⟩ : _ ∧ _ ∧ _)
              refine p_go ?_
              refine p_splitC (s := 73) (ht := fun hc73 => ?_) (hf := fun hc73 => ?_)
              · have hlt : i < a.trs.length := by simpa using hc73
                refine p_go fun hf => ?_
                refine p_idxMap (j := i) (ht := Tryz.underlying27) (hi := F.ti39.h) (hij := rfl) (hj := hlt) (h := ?_)
                refine p_go fun hf => ?_
                refine p_call (hx := rfl) (hb := ⟨Tryz.func40, by kernel_rfl, rfl⟩) (hf := rstate a a.trs[i].frm) (h := ?_)
                refine p_go fun hf => ?_
                refine p_split (s := 86) (ht := fun hb86 => ?_) (hf := fun hb86 => ?_)
                · -- slot 86 is true
                  refine p_go ?_
                  refine p_ret1 (hp := by rw [checkE10, if_neg (by simp [h12]), if_neg h17, if_neg (by rw [show dimBad a = false from hc35]; decide), if_neg (by rw [hfin]; decide), if_pos (any_hit (p := trBad a) hlt (tr_bad1 hb86))])
                · -- slot 86 is false
                  refine p_go fun hf => ?_
                  refine p_call (hx := rfl) (hb := ⟨Tryz.func40, by kernel_rfl, rfl⟩) (hf := rstate a a.trs[i].to) (h := ?_)
                  refine p_go ?_
                  refine p_splitC (s := 104) (ht := fun hc104 => ?_) (hf := fun hc104 => ?_)
                  · refine p_go ?_
                    refine p_ret1 (hp := by rw [checkE10, if_neg (by simp [h12]), if_neg h17, if_neg (by rw [show dimBad a = false from hc35]; decide), if_neg (by rw [hfin]; decide), if_pos (any_hit (p := trBad a) hlt (tr_bad2 hb86 hc104))])
                  · refine p_go fun hf => ?_
                    refine p_add (r := ((i + 1 : Nat) : Int)) (hr := (by first | omega | (simp only [decide_eq_true_eq, decide_eq_false_iff_not, Bool.or_eq_false_iff, Bool.and_eq_true, Bool.not_eq_true', Bool.not_eq_false'] at *; omega))) (hb := (by first | omega | (simp only [decide_eq_true_eq, decide_eq_false_iff_not, Bool.or_eq_false_iff, Bool.and_eq_true, Bool.not_eq_true', Bool.not_eq_false'] at *; omega))) (h := ?_)
                    refine p_go ?_
                    refine p_some ?_
                    refine ⟨⟨(by simp (decide := true) only [valsE, evE, upd, cv, args0, argsFrom, List.length_map, ↓reduceIte, hE] <;> rfl), (by simp (decide := true) only [valsO, updO, upd, true_and, and_true, false_and, and_false, ↓reduceIte, hE] <;> rfl)⟩, ⟨i + 1, hlt, none_next (p := trBad a) (tr_good hb86 hc104) hp, eV_⟩, ?_⟩
                    simp (decide := true) only [upd, e5, V.toN, ↓reduceIte]; omega
              · have hge2 : a.trs.length ≤ i := by simpa using hc73
                have htr := any_not (p := trBad a) hge2 hp
                refine p_go ?_
                refine p_loopK [1] [(0 + 1, 1)] (fun st => ∃ i : Nat, (i ≤ a.trs.length) ∧ (∀ j (hj : j < a.trs.length), j < i → decide (checkedW a.sp [a.trs[j].w] ≠ 0) = false) ∧ st.env 7 = iV i) (fun st => a.trs.length - (st.env 7).toN) ?_ fun e ob g3 hK hO hI => ?_
                · exact ⟨0, by omega, fun j hj h => absurd h (by omega), eV_⟩
                · obtain ⟨i, hi3, hq, e7⟩ := hI
                  dsimp only at e7
                  simp only [valsE, List.cons.injEq, and_true] at hK
                  simp only [valsO, List.cons.injEq, and_true] at hO
                  have hE := (⟨hK, hO, e7⟩ : _ ∧ _ ∧ _)
                  refine p_go ?_
                  refine p_splitC (s := 109) (ht := fun hc109 => ?_) (hf := fun hc109 => ?_)
                  · have hlt : i < a.trs.length := by simpa using hc109
                    refine p_go fun hf => ?_
                    refine p_idxMap (j := i) (ht := Tryz.underlying27) (hi := F.ti39.h) (hij := rfl) (hj := hlt) (h := ?_)
                    refine p_go fun hf => ?_
                    refine p_call (hx := rfl) (hb := ⟨Tryz.func41, by kernel_rfl, rfl⟩) (hf := rcheck a.sp a.trs[i].w ha.sp (ha.w _ (List.getElem_mem hlt))) (h := ?_)
                    refine p_go ?_
                    refine p_splitC (s := 121) (ht := fun hc121 => ?_) (hf := fun hc121 => ?_)
                    · refine p_go ?_
                      refine p_ret1 (hp := by rw [checkE10, if_neg (by simp [h12]), if_neg h17, if_neg (by rw [show dimBad a = false from hc35]; decide), if_neg (by rw [hfin]; decide), if_neg (by rw [htr]; decide), if_pos (any_hit (p := fun (t : Trn) => decide (checkedW a.sp [t.w] ≠ 0)) hlt hc121)]; rfl)
                    · refine p_go fun hf => ?_
                      refine p_add (r := ((i + 1 : Nat) : Int)) (hr := (by first | omega | (simp only [decide_eq_true_eq, decide_eq_false_iff_not, Bool.or_eq_false_iff, Bool.and_eq_true, Bool.not_eq_true', Bool.not_eq_false'] at *; omega))) (hb := (by first | omega | (simp only [decide_eq_true_eq, decide_eq_false_iff_not, Bool.or_eq_false_iff, Bool.and_eq_true, Bool.not_eq_true', Bool.not_eq_false'] at *; omega))) (h := ?_)
                      refine p_go ?_
                      refine p_some ?_
                      refine ⟨⟨(by simp (decide := true) only [valsE, evE, upd, cv, args0, argsFrom, List.length_map, ↓reduceIte, hE] <;> rfl), (by simp (decide := true) only [valsO, updO, upd, true_and, and_true, false_and, and_false, ↓reduceIte, hE] <;> rfl)⟩, ⟨i + 1, hlt, none_next (p := fun (t : Trn) => decide (checkedW a.sp [t.w] ≠ 0)) hc121 hq, eV_⟩, ?_⟩
                      simp (decide := true) only [upd, e7, V.toN, ↓reduceIte]; omega
                  · have hge3 : a.trs.length ≤ i := by simpa using hc109
                    have hwt := any_not (p := fun (t : Trn) => decide (checkedW a.sp [t.w] ≠ 0)) hge3 hq
                    refine p_go ?_
                    refine p_ret1 (hp := by rw [checkE10, if_neg (by simp [h12]), if_neg h17, if_neg (by rw [show dimBad a = false from hc35]; decide), if_neg (by rw [hfin]; decide), if_neg (by rw [htr]; decide), if_neg (by rw [hwt]; decide)])

theorem rZero10 (s : Sp) (hs : spOk s = true) : FnC Tryz.prog 24 [spA s] (fun r => r = wtA (zeroW s)) := by
  refine FnC.of (fn := Tryz.f24) ⟨Tryz.func24, by kernel_rfl, rfl⟩ Tryz.ntmps24 (by simp) fun w0 S0 => ?_
  refine p_go fun hf => ?_
  refine p_call (hx := rfl) (hb := ⟨Tryz.func58, by kernel_rfl, rfl⟩) (hf := rZeroC s hs (spOk_len hs)) (h := ?_)
  refine p_go ?_
  refine p_r1 (hp := by rfl)

theorem rOne10 (s : Sp) (hs : spOk s = true) : FnC Tryz.prog 51 [spA s] (fun r => r = wtA (oneW s)) := by
  refine FnC.of (fn := Tryz.f51) ⟨Tryz.func51, by kernel_rfl, rfl⟩ Tryz.ntmps51 (by simp) fun w0 S0 => ?_
  refine p_go fun hf => ?_
  refine p_call (hx := rfl) (hb := ⟨Tryz.func84, by kernel_rfl, rfl⟩) (hf := rOneC s hs (spOk_len hs)) (h := ?_)
  refine p_go ?_
  refine p_r1 (hp := by rfl)

theorem rext10 {s : Sp} (back : Bool) {a b : Wt} (hs : spOk s = true) (ha : isB s a = true) (hb : isB s b = true) : FnC Tryz.prog 52 [spA s, .bool back, wtA a, wtA b] (fun r => r = wtA (Ext s back a b)) := by
  refine FnC.of (fn := Tryz.f52) ⟨Tryz.func52, by kernel_rfl, rfl⟩ Tryz.ntmps52 (by simp) fun w0 S0 => ?_
  refine p_go ?_
  refine p_splitC (s := 9) (ht := fun hc9 => ?_) (hf := fun hc9 => ?_)
  · refine p_go fun hf => ?_
    refine p_call (hx := rfl) (hb := ⟨Tryz.func85, by kernel_rfl, rfl⟩) (hf := rthenC hs hb ha) (h := ?_)
    refine p_go ?_
    refine p_r1 (hp := by rw [Ext, if_pos hc9])
  · refine p_go fun hf => ?_
    refine p_call (hx := rfl) (hb := ⟨Tryz.func85, by kernel_rfl, rfl⟩) (hf := rthenC hs ha hb) (h := ?_)
    refine p_go ?_
    refine p_r1 (hp := by rw [Ext, if_neg (by rw [hc9]; decide)])

theorem rfinal (a : Aut) (x : Int) (hl : a.fin.length ≤ 17592186044416) : FnC Tryz.prog 53 [autV a, iV x] (fun r => r = .bool (decide (x ∈ a.fin))) := by
  refine FnC.of (fn := Tryz.f53) ⟨Tryz.func53, by kernel_rfl, rfl⟩ Tryz.ntmps53 (by simp) fun w0 S0 => ?_
  refine p_go ?_
  refine p_loopK [1, 2] [(0 + 1, 2)] (fun st => ∃ i : Nat, (i ≤ a.fin.length) ∧ (∀ j (hj : j < a.fin.length), j < i → decide (a.fin[j] = x) = false) ∧ st.env 5 = iV i) (fun st => a.fin.length - (st.env 5).toN) ?_ fun e ob g1 hK hO hI => ?_
  · exact ⟨0, by omega, fun j hj h => absurd h (by omega), eV_⟩
  · obtain ⟨i, hi, hp, e5⟩ := hI
    dsimp only at e5
    simp only [valsE, List.cons.injEq, and_true] at hK
    simp only [valsO, List.cons.injEq, and_true] at hO
    have hE := (⟨hK, hO, e5⟩ : _ ∧ _ ∧ _)
    refine p_go ?_
    refine p_splitC (s := 10) (ht := fun hc10 => ?_) (hf := fun hc10 => ?_)
    · have hlt : i < a.fin.length := by simpa using hc10
      refine p_go fun hf => ?_
      refine p_idxMap (j := i) (ht := Tryz.underlying26) (hi := F.ti3.h) (hij := rfl) (hj := hlt) (h := ?_)
      refine p_go ?_
      refine p_splitC (s := 19) (ht := fun hc19 => ?_) (hf := fun hc19 => ?_)
      · refine p_go ?_
        refine p_ret1 (hp := by have h19 : a.fin[i] = x := (by simpa using hc19); have hm : x ∈ a.fin := (by rw [← h19]; exact List.getElem_mem hlt); simp [hm])
      · refine p_go fun hf => ?_
        refine p_add (r := ((i + 1 : Nat) : Int)) (hr := (by first | omega | (simp only [decide_eq_true_eq, decide_eq_false_iff_not, Bool.or_eq_false_iff, Bool.and_eq_true, Bool.not_eq_true', Bool.not_eq_false'] at *; omega))) (hb := (by first | omega | (simp only [decide_eq_true_eq, decide_eq_false_iff_not, Bool.or_eq_false_iff, Bool.and_eq_true, Bool.not_eq_true', Bool.not_eq_false'] at *; omega))) (h := ?_)
        refine p_go ?_
        refine p_some ?_
        refine ⟨⟨(by simp (decide := true) only [valsE, evE, upd, cv, args0, argsFrom, List.length_map, ↓reduceIte, hE] <;> rfl), (by simp (decide := true) only [valsO, updO, upd, true_and, and_true, false_and, and_false, ↓reduceIte, hE] <;> rfl)⟩, ⟨i + 1, hlt, none_next (p := fun y => decide (y = x)) hc19 hp, eV_⟩, ?_⟩
        simp (decide := true) only [upd, e5, V.toN, ↓reduceIte]; omega
    · have hge : a.fin.length ≤ i := by simpa using hc10
      have hno := any_not (p := fun y => decide (y = x)) hge hp
      refine p_go ?_
      refine p_ret1 (hp := by have hm : ¬ x ∈ a.fin := (fun h => by have := List.any_eq_false.1 hno x h; simp at this); simp [hm])

theorem rasked (a : Aut) (frm w : List Int) (ha : a.Sm) (hf : frm.length ≤ 17592186044416) (hw : w.length ≤ 17592186044416) : FnC Tryz.prog 43 [autV a, .sl 3 (frm.map iV), .sl 3 (w.map iV)] (fun r => r = iV (askedE a frm w)) := by
  refine FnC.of (fn := Tryz.f43) ⟨Tryz.func43, by kernel_rfl, rfl⟩ Tryz.ntmps43 (by simp) fun w0 S0 => ?_
  refine p_go fun hf => ?_
  refine p_call (hx := rfl) (hb := ⟨Tryz.func11, by kernel_rfl, rfl⟩) (hf := rcheck10 a ha) (h := ?_)
  refine p_go ?_
  refine p_splitC (s := 13) (ht := fun hc13 => ?_) (hf := fun hc13 => ?_)
  · refine p_go ?_
    refine p_ret1 (hp := by have h1 : checkE10 a ≠ 0 := (by simpa using hc13); rw [askedE, if_pos h1])
  · have h0 : checkE10 a = 0 := by simpa using hc13
    refine p_go ?_
    refine p_loopK [1, 2, 3] [(0 + 1, 3)] (fun st => ∃ i : Nat, (i ≤ frm.length) ∧ (∀ j (hj : j < frm.length), j < i → badS a frm[j] = false) ∧ st.env 8 = iV i) (fun st => frm.length - (st.env 8).toN) ?_ fun e ob g1 hK hO hI => ?_
    · exact ⟨0, by omega, fun j hj h => by omega, eV_⟩
    · obtain ⟨i, hi, hp, e8⟩ := hI
      dsimp only at e8
      simp only [valsE, List.cons.injEq, and_true] at hK
      simp only [valsO, List.cons.injEq, and_true] at hO
      have hE := (⟨hK, hO, e8⟩ : _ ∧ _ ∧ _)
      refine p_go ?_
      refine p_splitC (s := 18) (ht := fun hc18 => ?_) (hf := fun hc18 => ?_)
      · have hlt : i < frm.length := by simpa using hc18
        refine p_go fun hf => ?_
        refine p_idxMap (j := i) (ht := Tryz.underlying26) (hi := F.ti3.h) (hij := rfl) (hj := hlt) (h := ?_)
        refine p_go fun hf => ?_
        refine p_call (hx := rfl) (hb := ⟨Tryz.func40, by kernel_rfl, rfl⟩) (hf := rstate a frm[i]) (h := ?_)
        refine p_go ?_
        refine p_splitC (s := 27) (ht := fun hc27 => ?_) (hf := fun hc27 => ?_)
        · refine p_go ?_
          refine p_ret1 (hp := by rw [askedE, if_neg (by rw [h0]; decide), any_hit (p := badS a) hlt (by rw [← inS_bad]; exact hc27)]; rfl)
        · refine p_go fun hf => ?_
          refine p_add (r := ((i + 1 : Nat) : Int)) (hr := (by first | omega | (simp only [decide_eq_true_eq, decide_eq_false_iff_not, Bool.or_eq_false_iff, Bool.and_eq_true, Bool.not_eq_true', Bool.not_eq_false'] at *; omega))) (hb := (by first | omega | (simp only [decide_eq_true_eq, decide_eq_false_iff_not, Bool.or_eq_false_iff, Bool.and_eq_true, Bool.not_eq_true', Bool.not_eq_false'] at *; omega))) (h := ?_)
          refine p_go ?_
          refine p_some ?_
          refine ⟨⟨(by simp (decide := true) only [valsE, evE, upd, cv, args0, argsFrom, List.length_map, ↓reduceIte, hE] <;> rfl), (by simp (decide := true) only [valsO, updO, upd, true_and, and_true, false_and, and_false, ↓reduceIte, hE] <;> rfl)⟩, ⟨i + 1, hlt, none_next (p := badS a) (by rw [← inS_bad]; exact hc27) hp, eV_⟩, ?_⟩
          simp (decide := true) only [upd, e8, V.toN, ↓reduceIte]; omega
      · have hS : frm.any (badS a) = false := any_not (by simpa using hc18) hp
        refine p_go ?_
        refine p_loopK [2, 3] [(0 + 1, 3)] (fun st => ∃ i : Nat, (i ≤ w.length) ∧ (∀ j (hj : j < w.length), j < i → badY a w[j] = false) ∧ st.env 9 = iV i) (fun st => w.length - (st.env 9).toN) ?_ fun e ob g2 hK hO hI => ?_
        · exact ⟨0, by omega, fun j hj h => by omega, eV_⟩
        · obtain ⟨i, hi, hq, e9⟩ := hI
          dsimp only at e9
          simp only [valsE, List.cons.injEq, and_true] at hK
          simp only [valsO, List.cons.injEq, and_true] at hO
          have hE := (⟨hK, hO, e9⟩ : _ ∧ _ ∧ _)
          refine p_go ?_
          refine p_splitC (s := 31) (ht := fun hc31 => ?_) (hf := fun hc31 => ?_)
          · have hlt : i < w.length := by simpa using hc31
            refine p_go fun hf => ?_
            refine p_idxMap (j := i) (ht := Tryz.underlying26) (hi := F.ti3.h) (hij := rfl) (hj := hlt) (h := ?_)
            refine p_go fun hf => ?_
            refine p_split (s := 39) (ht := fun hb39 => ?_) (hf := fun hb39 => ?_)
            · -- slot 39 is true
              refine p_go ?_
              refine p_ret1 (hp := by rw [askedE, if_neg (by rw [h0]; decide), hS, any_hit (p := badY a) hlt (by rw [badY, show decide (w[i] < 0) = true from hb39]; rfl)]; rfl)
            · -- slot 39 is false
              refine p_go fun hf => ?_
              refine p_idxMap (j := i) (ht := Tryz.underlying26) (hi := F.ti3.h) (hij := rfl) (hj := hlt) (h := ?_)
              refine p_go ?_
              refine p_splitC (s := 47) (ht := fun hc47 => ?_) (hf := fun hc47 => ?_)
              · refine p_go ?_
                refine p_ret1 (hp := by rw [askedE, if_neg (by rw [h0]; decide), hS, any_hit (p := badY a) hlt (by rw [badY, show decide (a.symbols ≤ w[i]) = true from hc47, Bool.or_true])]; rfl)
              · refine p_go fun hf => ?_
                refine p_add (r := ((i + 1 : Nat) : Int)) (hr := (by first | omega | (simp only [decide_eq_true_eq, decide_eq_false_iff_not, Bool.or_eq_false_iff, Bool.and_eq_true, Bool.not_eq_true', Bool.not_eq_false'] at *; omega))) (hb := (by first | omega | (simp only [decide_eq_true_eq, decide_eq_false_iff_not, Bool.or_eq_false_iff, Bool.and_eq_true, Bool.not_eq_true', Bool.not_eq_false'] at *; omega))) (h := ?_)
                refine p_go ?_
                refine p_some ?_
                refine ⟨⟨(by simp (decide := true) only [valsE, evE, upd, cv, args0, argsFrom, List.length_map, ↓reduceIte, hE] <;> rfl), (by simp (decide := true) only [valsO, updO, upd, true_and, and_true, false_and, and_false, ↓reduceIte, hE] <;> rfl)⟩, ⟨i + 1, hlt, none_next (p := badY a) (by rw [badY, show decide (w[i] < 0) = false from hb39]; exact hc47) hq, eV_⟩, ?_⟩
                simp (decide := true) only [upd, e9, V.toN, ↓reduceIte]; omega
          · have hY : w.any (badY a) = false := any_not (by simpa using hc31) hq
            refine p_go ?_
            refine p_ret1 (hp := by rw [askedE, if_neg (by rw [h0]; decide), hS, hY]; rfl)

end Go.Proofs.YtfpljljjjgicaaaGreatDoor
/-
  The reference's automata: ends, rest, still.
-/
set_option maxHeartbeats 4000000
set_option linter.unusedSimpArgs false
set_option linter.unusedVariables false
namespace Go.Proofs.YtfpljljjjgicaaaGreatDoor
open Go.RowKit
attribute [local irreducible] Wk Tr
abbrev endR (a : Aut) (j : Nat) : Wt := if ((j : Int) ∈ a.fin) then oneW a.sp else zeroW a.sp
theorem ends_fold {a : Aut} (z u : Wt) : ∀ (l : List Int) (L : List Wt) (n : Nat), L.length = n → (∀ x ∈ l, 0 ≤ x ∧ x < (n : Int)) → l.foldl (fun l s => l.set s.toNat u) L = (List.range n).map fun (j : Nat) => if (j : Int) ∈ l then u else L.getD j z
  | [], L, n, hL, _ => by
    refine List.ext_getElem (by simp [hL]) fun j h1 h2 => ?_
    have h1' : j < L.length := h1
    simp only [List.foldl_nil, List.getElem_map, List.getElem_range, List.not_mem_nil, if_false]
    exact (getD_at h1').symm
  | x :: l, L, n, hL, h => by
    rw [List.foldl_cons, ends_fold (a := a) z u l _ n (by simpa using hL) (fun y hy => h y (List.mem_cons_of_mem _ hy))]
    refine List.map_congr_left fun j hj => ?_
    rw [List.mem_range] at hj
    have hx := h x (List.mem_cons_self ..)
    by_cases h1 : (j : Int) ∈ l
    · simp [h1]
    · by_cases h2 : (j : Int) = x
      · have h3 : x.toNat = j := by omega
        rw [if_neg h1, if_pos (by rw [h2]; exact List.mem_cons_self ..), h3, getD_at (by simp; omega)]
        simp
      · have h3 : ¬ x.toNat = j := by omega
        rw [if_neg h1, if_neg (by simp only [List.mem_cons, not_or]; exact ⟨h2, h1⟩), getD_at (by simp; omega), getD_at (by omega), List.getElem_set_ne h3]
theorem endsW_is {a : Aut} (ha : a.Ok) : endsW a = (List.range a.states.toNat).map (endR a) := by
  rw [endsW, ends_fold (a := a) (zeroW a.sp) (oneW a.sp) a.fin _ a.states.toNat (by simp) (fun x hx => by have := ha.fin x hx; omega)]
  refine List.map_congr_left fun j hj => ?_
  rw [List.mem_range] at hj
  rw [getD_at (by simpa using hj)]
  simp

theorem rends (a : Aut) (ha : a.Ok) (hl : a.fin.length ≤ 17592186044416) : FnO Tryz.prog 45 [autV a] 37 ((endsW a).map wtV) (fun g d => .row g d a.states.toNat) := by
  refine FnO.of (fn := Tryz.f45) ⟨Tryz.func45, by kernel_rfl, rfl⟩ Tryz.ntmps45 (by simp) fun w0 S0 => ?_
  have hst := ha.st
  refine p_go ?_
  refine p_nilSlot (s := 3) (el := 37) 900 (h := ?_)
  refine p_loopK [1] [(0 + 1, 1)] (fun st => ∃ (i r : Nat), (i ≤ a.states.toNat) ∧ st.env 3 = .row r 900 i ∧ st.env 4 = iV i ∧ st.obj r 900 = .row 37 (((List.range i).map (endR a)).map wtV)) (fun st => a.states.toNat - (st.env 4).toN) ?_ fun e ob g1 hK hO hI => ?_
  · exact ⟨0, _, by omega, eV_, eV_, oB_⟩
  · obtain ⟨i, r, hi, e3, e4, o900⟩ := hI
    dsimp only at e3 e4 o900
    simp only [valsE, List.cons.injEq, and_true] at hK
    simp only [valsO, List.cons.injEq, and_true] at hO
    have hE := (⟨hK, hO, e3, e4, o900⟩ : _ ∧ _ ∧ _ ∧ _ ∧ _)
    refine p_go ?_
    refine p_splitC (s := 8) (ht := fun hc8 => ?_) (hf := fun hc8 => ?_)
    · have hlt : i < a.states.toNat := by have := hc8; simp at this; omega
      refine p_go fun hf => ?_
      refine p_call (hx := rfl) (hb := ⟨Tryz.func53, by kernel_rfl, rfl⟩) (hf := rfinal a i hl) (h := ?_)
      refine p_go ?_
      refine p_splitC (s := 13) (ht := fun hc13 => ?_) (hf := fun hc13 => ?_)
      · refine p_go fun hf => ?_
        refine p_call (hx := rfl) (hb := ⟨Tryz.func51, by kernel_rfl, rfl⟩) (hf := rOne10 a.sp ha.sp) (h := ?_)
        refine p_buildSlice (ht := Tryz.underlying35) (hi := F.ti37.h) (h := ?_)
        refine p_append (k := i + 1) (ht := Tryz.underlying35) (hi := F.ti37.h) (hnl := by simp) (hy := by exact ⟨.inl oB_, rfl⟩) (hm := by simp) (hlim := by omega) (h := ?_)
        refine p_go fun hf => ?_
        refine p_bare ?_
        refine p_renSlot (s := 3) 900 (h := ?_)
        refine p_lastOp (h := ?_)
        refine p_add (r := ((i + 1 : Nat) : Int)) (hr := (by first | omega | (simp only [decide_eq_true_eq, decide_eq_false_iff_not, Bool.or_eq_false_iff, Bool.and_eq_true, Bool.not_eq_true', Bool.not_eq_false'] at *; omega))) (hb := (by first | omega | (simp only [decide_eq_true_eq, decide_eq_false_iff_not, Bool.or_eq_false_iff, Bool.and_eq_true, Bool.not_eq_true', Bool.not_eq_false'] at *; omega))) (h := ?_)
        refine p_go ?_
        refine p_some ?_
        have hn : endR a i = oneW a.sp := if_pos (by simpa using hc13)
        refine ⟨⟨(by simp (decide := true) only [valsE, evE, upd, cv, args0, argsFrom, List.length_map, ↓reduceIte, hE] <;> rfl), (by simp (decide := true) only [valsO, updO, upd, true_and, and_true, false_and, and_false, ↓reduceIte, hE] <;> rfl)⟩, ⟨i + 1, _, hlt, eV_, eV_, by refine Eq.trans oB_ ?_; rw [List.range_succ, List.map_append, List.map_append, List.map_cons, List.map_nil, hn, List.map_cons, List.map_nil, wtV_eq]⟩, ?_⟩
        simp (decide := true) only [upd, e4, V.toN, ↓reduceIte]; omega
      · refine p_go fun hf => ?_
        refine p_call (hx := rfl) (hb := ⟨Tryz.func24, by kernel_rfl, rfl⟩) (hf := rZero10 a.sp ha.sp) (h := ?_)
        refine p_buildSlice (ht := Tryz.underlying35) (hi := F.ti37.h) (h := ?_)
        refine p_append (k := i + 1) (ht := Tryz.underlying35) (hi := F.ti37.h) (hnl := by simp) (hy := by exact ⟨.inl oB_, rfl⟩) (hm := by simp) (hlim := by omega) (h := ?_)
        refine p_go fun hf => ?_
        refine p_bare ?_
        refine p_renSlot (s := 3) 900 (h := ?_)
        refine p_lastOp (h := ?_)
        refine p_add (r := ((i + 1 : Nat) : Int)) (hr := (by first | omega | (simp only [decide_eq_true_eq, decide_eq_false_iff_not, Bool.or_eq_false_iff, Bool.and_eq_true, Bool.not_eq_true', Bool.not_eq_false'] at *; omega))) (hb := (by first | omega | (simp only [decide_eq_true_eq, decide_eq_false_iff_not, Bool.or_eq_false_iff, Bool.and_eq_true, Bool.not_eq_true', Bool.not_eq_false'] at *; omega))) (h := ?_)
        refine p_go ?_
        refine p_some ?_
        have hn : endR a i = zeroW a.sp := if_neg (by simpa using hc13)
        refine ⟨⟨(by simp (decide := true) only [valsE, evE, upd, cv, args0, argsFrom, List.length_map, ↓reduceIte, hE] <;> rfl), (by simp (decide := true) only [valsO, updO, upd, true_and, and_true, false_and, and_false, ↓reduceIte, hE] <;> rfl)⟩, ⟨i + 1, _, hlt, eV_, eV_, by refine Eq.trans oB_ ?_; rw [List.range_succ, List.map_append, List.map_append, List.map_cons, List.map_nil, hn, List.map_cons, List.map_nil, wtV_eq]⟩, ?_⟩
        simp (decide := true) only [upd, e4, V.toN, ↓reduceIte]; omega
    · have hge : a.states.toNat ≤ i := by have := hc8; simp at this; omega
      obtain rfl : i = a.states.toNat := by omega
      refine p_go ?_
      refine p_retO1 r 900 rfl (by rw [endsW_is ha]; exact oB_) eV_ (Ren.row _)

theorem rrest (a : Aut) (ha : a.Ok) (back : Bool) (sym : Int) (l : List Wt) (hv : Vals a l) : FnO Tryz.prog 46 [autV a, .bool back, iV sym, .sl 37 (l.map wtV)] 37 ((restW a back sym l).map wtV) (fun g d => .row g d a.states.toNat) := by
  refine FnO.of (fn := Tryz.f46) ⟨Tryz.func46, by kernel_rfl, rfl⟩ Tryz.ntmps46 (by simp) fun w0 S0 => ?_
  have hst := ha.st
  have hmany := ha.many
  have hlv := hv.len
  refine p_go ?_
  refine p_nilSlot (s := 9) (el := 37) 24 (h := ?_)
  refine p_loopK [1, 2, 3, 4] [(0 + 1, 4)] (fun st => ∃ (i r : Nat), (i ≤ a.states.toNat) ∧ st.env 9 = .row r 24 i ∧ st.env 10 = iV i ∧ st.obj r 24 = .row 37 ((List.replicate i (zeroW a.sp)).map wtV)) (fun st => a.states.toNat - (st.env 10).toN) ?_ fun e ob g1 hK hO hI => ?_
  · exact ⟨0, _, by omega, eV_, eV_, oB_⟩
  · obtain ⟨i, r, hi, e9, e10, o24⟩ := hI
    dsimp only at e9 e10 o24
    simp only [valsE, List.cons.injEq, and_true] at hK
    simp only [valsO, List.cons.injEq, and_true] at hO
    have hE := (⟨hK, hO, e9, e10, o24⟩ : _ ∧ _ ∧ _ ∧ _ ∧ _)
    refine p_go ?_
    refine p_splitC (s := 16) (ht := fun hc16 => ?_) (hf := fun hc16 => ?_)
    · have hlt : i < a.states.toNat := by have := hc16; simp at this; omega
      refine p_go fun hf => ?_
      refine p_call (hx := rfl) (hb := ⟨Tryz.func24, by kernel_rfl, rfl⟩) (hf := rZero10 a.sp ha.sp) (h := ?_)
      refine p_buildSlice (ht := Tryz.underlying35) (hi := F.ti37.h) (h := ?_)
      refine p_append (k := i + 1) (ht := Tryz.underlying35) (hi := F.ti37.h) (hnl := by simp) (hy := by exact ⟨.inl oB_, rfl⟩) (hm := by simp) (hlim := by omega) (h := ?_)
      refine p_go fun hf => ?_
      refine p_add (r := ((i + 1 : Nat) : Int)) (hr := (by first | omega | (simp only [decide_eq_true_eq, decide_eq_false_iff_not, Bool.or_eq_false_iff, Bool.and_eq_true, Bool.not_eq_true', Bool.not_eq_false'] at *; omega))) (hb := (by first | omega | (simp only [decide_eq_true_eq, decide_eq_false_iff_not, Bool.or_eq_false_iff, Bool.and_eq_true, Bool.not_eq_true', Bool.not_eq_false'] at *; omega))) (h := ?_)
      refine p_go ?_
      refine p_some ?_
      refine ⟨⟨(by simp (decide := true) only [valsE, evE, upd, cv, args0, argsFrom, List.length_map, ↓reduceIte, hE] <;> rfl), (by simp (decide := true) only [valsO, updO, upd, true_and, and_true, false_and, and_false, ↓reduceIte, hE] <;> rfl)⟩, ⟨i + 1, _, hlt, eV_, eV_, by refine Eq.trans oB_ ?_; rw [List.replicate_succ', List.map_append, List.map_cons, List.map_nil, wtV_eq]⟩, ?_⟩
      simp (decide := true) only [upd, e10, V.toN, ↓reduceIte]; omega
    · have hge : a.states.toNat ≤ i := by have := hc16; simp at this; omega
      obtain rfl : i = a.states.toNat := by omega
      refine p_go ?_
      refine p_loopK [1, 2, 3, 4, 9] [(0 + 1, 4)] (fun st => ∃ i : Nat, (i ≤ a.trs.length) ∧ st.env 11 = iV i ∧ st.obj r 24 = .row 37 (((a.trs.take i).foldl (stepR a back sym l) (List.replicate a.states.toNat (zeroW a.sp))).map wtV)) (fun st => a.trs.length - (st.env 11).toN) ?_ fun e ob g2 hK hO hI => ?_
      · exact ⟨0, by omega, eV_, oB_⟩
      · obtain ⟨i, hi2, e11, o24⟩ := hI
        dsimp only at e11 o24
        simp only [valsE, List.cons.injEq, and_true] at hK
        simp only [valsO, List.cons.injEq, and_true] at hO
        have hE := (⟨hK, hO, e11, o24⟩ : _ ∧ _ ∧ _ ∧ _)
        refine p_go ?_
        refine p_splitC (s := 29) (ht := fun hc29 => ?_) (hf := fun hc29 => ?_)
        · have hlt : i < a.trs.length := by simpa using hc29
          have hm := List.getElem_mem hlt
          obtain ⟨b1, b2, _⟩ := ha.trs _ hm
          have hVM := restW_fold (back := back) (sym := sym) ha hv (a.trs.take i) (List.replicate a.states.toNat (zeroW a.sp)) (fun t ht => List.mem_of_mem_take ht) (zeros_vals ha)
          have hl1 := hVM.len
          have hf1 : a.trs[i].frm.toNat < ((a.trs.take i).foldl (stepR a back sym l) (List.replicate a.states.toNat (zeroW a.sp))).length := by omega
          have ht1 : a.trs[i].to.toNat < l.length := by omega
          refine p_go fun hf => ?_
          refine p_idxMap (j := i) (ht := Tryz.underlying27) (hi := F.ti39.h) (hij := rfl) (hj := hlt) (h := ?_)
          refine p_go ?_
          refine p_splitC (s := 40) (ht := fun hc40 => ?_) (hf := fun hc40 => ?_)
          · refine p_go fun hf => ?_
            refine p_idxRowN (a.trs[i].frm.toNat) (ht := Tryz.underlying35) (hi := F.ti37.h) (hij := by omega) (hlt := by omega) (h := ?_)
            refine p_loadRowAM (ht := F.agg37.h) (hi := F.ti37.h) (hj := by omega) (hl := wtV_cells _) (h := ?_)
            refine p_go fun hf => ?_
            refine p_idxMap (j := a.trs[i].to.toNat) (ht := Tryz.underlying35) (hi := F.ti37.h) (hij := by omega) (hj := ht1) (h := ?_)
            rw [wtV_cells]
            refine p_go fun hf => ?_
            refine p_call (hx := rfl) (hb := ⟨Tryz.func52, by kernel_rfl, rfl⟩) (hf := rext10 back ha.sp (ha.w _ hm) (hv.ok _ (List.getElem_mem ht1))) (h := ?_)
            refine p_call (hx := rfl) (hb := ⟨Tryz.func69, by kernel_rfl, rfl⟩) (hf := reitherC ha.sp (hVM.ok _ (List.getElem_mem hf1)) (Ext_ok ha.sp (ha.w _ hm) (hv.ok _ (List.getElem_mem ht1)))) (h := ?_)
            refine p_idxRowN (a.trs[i].frm.toNat) (ht := Tryz.underlying35) (hi := F.ti37.h) (hij := by omega) (hlt := by omega) (h := ?_)
            refine p_storeRow (hi := F.ti37.h) (hc := TI.cells F.ti37.h) (hlt := by simpa using hf1) (hl := .inr ⟨_, rfl⟩) (hro := rfl) (hsz := rfl) (h := ?_)
            rw [set_wtx]
            refine p_go fun hf => ?_
            refine p_add (r := ((i + 1 : Nat) : Int)) (hr := (by first | omega | (simp only [decide_eq_true_eq, decide_eq_false_iff_not, Bool.or_eq_false_iff, Bool.and_eq_true, Bool.not_eq_true', Bool.not_eq_false'] at *; omega))) (hb := (by first | omega | (simp only [decide_eq_true_eq, decide_eq_false_iff_not, Bool.or_eq_false_iff, Bool.and_eq_true, Bool.not_eq_true', Bool.not_eq_false'] at *; omega))) (h := ?_)
            refine p_go ?_
            refine p_some ?_
            refine ⟨⟨(by simp (decide := true) only [valsE, evE, upd, cv, args0, argsFrom, List.length_map, ↓reduceIte, hE] <;> rfl), (by simp (decide := true) only [valsO, updO, upd, true_and, and_true, false_and, and_false, ↓reduceIte, hE] <;> rfl)⟩, ⟨i + 1, hlt, eV_, by rw [fold_snoc _ _ hlt, stepR]; first | (rw [if_pos (by simpa using hc40), getD_at hf1, getD_at ht1]; exact oB_) | (rw [if_neg (by simpa using hc40)]; exact oB_)⟩, ?_⟩
            simp (decide := true) only [upd, e11, V.toN, ↓reduceIte]; omega
          · refine p_go fun hf => ?_
            refine p_add (r := ((i + 1 : Nat) : Int)) (hr := (by first | omega | (simp only [decide_eq_true_eq, decide_eq_false_iff_not, Bool.or_eq_false_iff, Bool.and_eq_true, Bool.not_eq_true', Bool.not_eq_false'] at *; omega))) (hb := (by first | omega | (simp only [decide_eq_true_eq, decide_eq_false_iff_not, Bool.or_eq_false_iff, Bool.and_eq_true, Bool.not_eq_true', Bool.not_eq_false'] at *; omega))) (h := ?_)
            refine p_go ?_
            refine p_some ?_
            refine ⟨⟨(by simp (decide := true) only [valsE, evE, upd, cv, args0, argsFrom, List.length_map, ↓reduceIte, hE] <;> rfl), (by simp (decide := true) only [valsO, updO, upd, true_and, and_true, false_and, and_false, ↓reduceIte, hE] <;> rfl)⟩, ⟨i + 1, hlt, eV_, by rw [fold_snoc _ _ hlt, stepR]; first | (rw [if_pos (by simpa using hc40), getD_at hf1, getD_at ht1]; exact oB_) | (rw [if_neg (by simpa using hc40)]; exact oB_)⟩, ?_⟩
            simp (decide := true) only [upd, e11, V.toN, ↓reduceIte]; omega
        · have hge2 : a.trs.length ≤ i := by simpa using hc29
          refine p_go ?_
          refine p_retO1 r 24 rfl (by rw [restW, ← List.take_of_length_le hge2]; exact oB_) eV_ (Ren.row _)

def cntR (any : Bool) (t : Trn) : Bool := !(decide (0 ≤ t.sym) && !any)
theorem cntR_sil : cntR false = sil := by
  funext t
  simp only [cntR, sil, Bool.not_false, Bool.and_true, ← decide_not, Int.not_le]
theorem cntR_all : cntR true = fun _ => true := by
  funext t
  simp [cntR]

theorem rstill (a : Aut) (ha : a.Ok) (back any : Bool) (L0 L1 : List Wt) (k0 : Nat) (hv : Vals a L0) (hg : growT a back (cntR any) k0 L0 = some L1) (q : Nat) : FnE Tryz.prog 44 [autV a, .bool back, .bool any, .row q 900 a.states.toNat] q 900 (.row 37 (L0.map wtV)) (.row 37 (L1.map wtV)) (.row q 900 a.states.toNat) := by
  refine FnE.of (fn := Tryz.f44) ⟨Tryz.func44, by kernel_rfl, rfl⟩ Tryz.ntmps44 (by simp) fun w0 S0 l ob0 g0 K hrow hgl hK0 => ?_
  have hmany := ha.many
  refine p_go ?_
  refine p_loopN [1, 2, 3, 4] [(g0 + 1, 4)] (fun n st => ∃ (L : List Wt) (more : Bool), Vals a L ∧ (more = true → growT a back (cntR any) n L = some L1) ∧ (more = false → L = L1) ∧ Low g0 q 900 ob0 st.obj ∧ g0 ≤ st.gen ∧ st.env 9 = .bool more ∧ st.obj q 900 = .row 37 (L.map wtV)) k0 ?_ fun n e ob g1 hK hO hI => ?_
  · exact ⟨L0, true, hv, fun _ => hg, fun h => (by cases h), (by (try dsimp only); repeat (first | exact hlow | exact Low.refl | refine Low.up ?_ (by omega) | refine Low.row ?_)), by first | (dsimp only; omega) | omega, eV_, by exact Eq.trans oB_ hrow⟩
  · obtain ⟨L, more, hV0, hT, hF, hlow, hgen, e9, o900⟩ := hI
    dsimp only at e9 o900 hlow hgen
    simp only [valsE, List.cons.injEq, and_true] at hK
    simp only [valsO, List.cons.injEq, and_true] at hO
    have hE := (⟨hK, hO, e9, o900⟩ : _ ∧ _ ∧ _ ∧ _)
    refine p_go ?_
    refine p_splitC (s := 13) (ht := fun hc13 => ?_) (hf := fun hc13 => ?_)
    · refine p_go ?_
      refine p_loopK [1, 2, 3, 4] [(g0 + 1, 4)] (fun st => ∃ (i : Nat) (M : List Wt) (more2 : Bool), (i ≤ a.trs.length) ∧ ((a.trs.take i).foldl (stepG a back (cntR any)) (L, false) = (M, more2)) ∧ (Vals a M) ∧ (Low g0 q 900 ob0 st.obj) ∧ (g0 ≤ st.gen) ∧ st.env 9 = .bool more2 ∧ st.env 10 = iV i ∧ st.obj q 900 = .row 37 (M.map wtV)) (fun st => a.trs.length - (st.env 10).toN) ?_ fun e ob g2 hK hO hI => ?_
      · exact ⟨0, L, false, by omega, rfl, hV0, (by (try dsimp only); repeat (first | exact hlow | exact Low.refl | refine Low.up ?_ (by omega) | refine Low.row ?_)), by first | (dsimp only; omega) | omega, eV_, eV_, oB_⟩
      · obtain ⟨i, M, more2, hi, hfd, hV, hlow, hgen2, e9, e10, o900⟩ := hI
        dsimp only at e9 e10 o900
        simp only [valsE, List.cons.injEq, and_true] at hK
        simp only [valsO, List.cons.injEq, and_true] at hO
        have hE := (⟨hK, hO, e9, e10, o900⟩ : _ ∧ _ ∧ _ ∧ _ ∧ _)
        dsimp only at hlow hgen2
        refine p_go ?_
        refine p_splitC (s := 18) (ht := fun hc18 => ?_) (hf := fun hc18 => ?_)
        · have hlt : i < a.trs.length := by simpa using hc18
          have hm := List.getElem_mem hlt
          obtain ⟨hvn, hf1, ht1, hv1, hv2, hnw⟩ := hV.new (back := back) ha hm
          obtain ⟨b1, b2, _⟩ := ha.trs _ hm
          have hlen := hV.len
          rw [hnw] at hvn
          refine p_go fun hf => ?_
          refine p_idxMap (j := i) (ht := Tryz.underlying27) (hi := F.ti39.h) (hij := rfl) (hj := hlt) (h := ?_)
          refine p_go ?_
          refine p_splitC (s := 32) (ht := fun hc32 => ?_) (hf := fun hc32 => ?_)
          · have hcn : ¬ cntR any a.trs[i] = true := by rw [cntR, hc32]; decide
            refine p_go fun hf => ?_
            refine p_add (r := ((i + 1 : Nat) : Int)) (hr := (by first | omega | (simp only [decide_eq_true_eq, decide_eq_false_iff_not, Bool.or_eq_false_iff, Bool.and_eq_true, Bool.not_eq_true', Bool.not_eq_false'] at *; omega))) (hb := (by first | omega | (simp only [decide_eq_true_eq, decide_eq_false_iff_not, Bool.or_eq_false_iff, Bool.and_eq_true, Bool.not_eq_true', Bool.not_eq_false'] at *; omega))) (h := ?_)
            refine p_go ?_
            refine p_some ?_
            refine ⟨⟨(by simp (decide := true) only [valsE, evE, upd, cv, args0, argsFrom, List.length_map, ↓reduceIte, hE] <;> rfl), (by simp (decide := true) only [valsO, updO, upd, true_and, and_true, false_and, and_false, ↓reduceIte, hE] <;> rfl)⟩, ⟨i + 1, M, more2, hlt, by rw [fold_snoc _ _ hlt, hfd, stepG, if_neg hcn], hV, (by (try dsimp only); repeat (first | exact hlow | exact Low.refl | refine Low.up ?_ (by omega) | refine Low.row ?_)), by first | (dsimp only; omega) | omega, eV_, eV_, oB_⟩, ?_⟩
            simp (decide := true) only [upd, e10, V.toN, ↓reduceIte]; omega
          · have hcn : cntR any a.trs[i] = true := by rw [cntR, hc32]; rfl
            refine p_go fun hf => ?_
            refine p_idxRowN (a.trs[i].frm.toNat) (ht := Tryz.underlying35) (hi := F.ti37.h) (hij := by omega) (hlt := by omega) (h := ?_)
            refine p_loadRowAM (ht := F.agg37.h) (hi := F.ti37.h) (hj := by omega) (hl := wtV_cells _) (h := ?_)
            refine p_go fun hf => ?_
            refine p_idxRowN (a.trs[i].to.toNat) (ht := Tryz.underlying35) (hi := F.ti37.h) (hij := by omega) (hlt := by omega) (h := ?_)
            refine p_loadRowAM (ht := F.agg37.h) (hi := F.ti37.h) (hj := by omega) (hl := wtV_cells _) (h := ?_)
            refine p_call (hx := rfl) (hb := ⟨Tryz.func52, by kernel_rfl, rfl⟩) (hf := rext10 back ha.sp (ha.w _ hm) hv2) (h := ?_)
            refine p_call (hx := rfl) (hb := ⟨Tryz.func69, by kernel_rfl, rfl⟩) (hf := reitherC ha.sp hv1 (Ext_ok ha.sp (ha.w _ hm) hv2)) (h := ?_)
            refine p_go fun hf => ?_
            refine p_idxRowN (a.trs[i].frm.toNat) (ht := Tryz.underlying35) (hi := F.ti37.h) (hij := by omega) (hlt := by omega) (h := ?_)
            refine p_loadRowAM (ht := F.agg37.h) (hi := F.ti37.h) (hj := by omega) (hl := wtV_cells _) (h := ?_)
            refine p_call (hx := rfl) (hb := ⟨Tryz.func16, by kernel_rfl, rfl⟩) (hf := rsameB ha.sp hvn hv1) (h := ?_)
            refine p_go ?_
            refine p_splitC (s := 59) (ht := fun hc59 => ?_) (hf := fun hc59 => ?_)
            · refine p_go fun hf => ?_
              refine p_idxRowN (a.trs[i].frm.toNat) (ht := Tryz.underlying35) (hi := F.ti37.h) (hij := by omega) (hlt := by omega) (h := ?_)
              refine p_storeRow (hi := F.ti37.h) (hc := TI.cells F.ti37.h) (hlt := by simpa using hf1) (hl := .inr ⟨_, rfl⟩) (hro := rfl) (hsz := rfl) (h := ?_)
              rw [set_wtx, ← hnw]
              refine p_go fun hf => ?_
              refine p_add (r := ((i + 1 : Nat) : Int)) (hr := (by first | omega | (simp only [decide_eq_true_eq, decide_eq_false_iff_not, Bool.or_eq_false_iff, Bool.and_eq_true, Bool.not_eq_true', Bool.not_eq_false'] at *; omega))) (hb := (by first | omega | (simp only [decide_eq_true_eq, decide_eq_false_iff_not, Bool.or_eq_false_iff, Bool.and_eq_true, Bool.not_eq_true', Bool.not_eq_false'] at *; omega))) (h := ?_)
              refine p_go ?_
              refine p_some ?_
              have hns : sameW (newW a back M a.trs[i]) (M.getD a.trs[i].frm.toNat wt0) = false := by rw [hnw, getD_at hf1]; simpa using hc59
              refine ⟨⟨(by simp (decide := true) only [valsE, evE, upd, cv, args0, argsFrom, List.length_map, ↓reduceIte, hE] <;> rfl), (by simp (decide := true) only [valsO, updO, upd, true_and, and_true, false_and, and_false, ↓reduceIte, hE] <;> rfl)⟩, ⟨i + 1, M.set a.trs[i].frm.toNat (newW a back M a.trs[i]), true, hlt, by rw [fold_snoc _ _ hlt, hfd, stepG, if_pos hcn, if_neg (by rw [hns]; decide)], hV.set (by rw [hnw]; exact hvn) _, (by (try dsimp only); repeat (first | exact hlow | exact Low.refl | refine Low.up ?_ (by omega) | refine Low.row ?_)), by first | (dsimp only; omega) | omega, eV_, eV_, oB_⟩, ?_⟩
              simp (decide := true) only [upd, e10, V.toN, ↓reduceIte]; omega
            · refine p_go fun hf => ?_
              refine p_add (r := ((i + 1 : Nat) : Int)) (hr := (by first | omega | (simp only [decide_eq_true_eq, decide_eq_false_iff_not, Bool.or_eq_false_iff, Bool.and_eq_true, Bool.not_eq_true', Bool.not_eq_false'] at *; omega))) (hb := (by first | omega | (simp only [decide_eq_true_eq, decide_eq_false_iff_not, Bool.or_eq_false_iff, Bool.and_eq_true, Bool.not_eq_true', Bool.not_eq_false'] at *; omega))) (h := ?_)
              refine p_go ?_
              refine p_some ?_
              have hns : sameW (newW a back M a.trs[i]) (M.getD a.trs[i].frm.toNat wt0) = true := by rw [hnw, getD_at hf1]; simpa using hc59
              refine ⟨⟨(by simp (decide := true) only [valsE, evE, upd, cv, args0, argsFrom, List.length_map, ↓reduceIte, hE] <;> rfl), (by simp (decide := true) only [valsO, updO, upd, true_and, and_true, false_and, and_false, ↓reduceIte, hE] <;> rfl)⟩, ⟨i + 1, M, more2, hlt, by rw [fold_snoc _ _ hlt, hfd, stepG, if_pos hcn, if_pos hns], hV, (by (try dsimp only); repeat (first | exact hlow | exact Low.refl | refine Low.up ?_ (by omega) | refine Low.row ?_)), by first | (dsimp only; omega) | omega, eV_, eV_, oB_⟩, ?_⟩
              simp (decide := true) only [upd, e10, V.toN, ↓reduceIte]; omega
        · have hge : a.trs.length ≤ i := by simpa using hc18
          have hrd : roundG a back (cntR any) L = (M, more2) := by rw [← hfd, List.take_of_length_le hge]; rfl
          refine p_go ?_
          refine p_some ?_
          refine ⟨⟨(by simp (decide := true) only [valsE, evE, upd, cv, args0, argsFrom, List.length_map, ↓reduceIte, hE] <;> rfl), (by simp (decide := true) only [valsO, updO, upd, true_and, and_true, false_and, and_false, ↓reduceIte, hE] <;> rfl)⟩, ?_⟩
          have hT' := hT hc13
          cases n with
          | zero => cases hT'
          | succ n =>
            refine loopN_next (I := fun n st => ∃ (L : List Wt) (more : Bool), Vals a L ∧ (more = true → growT a back (cntR any) n L = some L1) ∧ (more = false → L = L1) ∧ Low g0 q 900 ob0 st.obj ∧ g0 ≤ st.gen ∧ st.env 9 = .bool more ∧ st.obj q 900 = .row 37 (L.map wtV)) (m := n) ?_ (Nat.lt_succ_self n)
            refine ⟨M, more2, hV, fun h => ?_, fun h => ?_, (by (try dsimp only); repeat (first | exact hlow | exact Low.refl | refine Low.up ?_ (by omega) | refine Low.row ?_)), by first | (dsimp only; omega) | omega, eV_, oB_⟩
            · rw [growT, hrd, if_pos h] at hT'; exact hT'
            · rw [growT, hrd, if_neg (fun e => by rw [show more2 = true from e] at h; cases h)] at hT'; exact Option.some.inj hT'
    · refine p_go ?_
      have hLL := hF hc13
      subst hLL
      refine p_retE1 (v := .row q 900 a.states.toNat) rfl eV_ (hK0 _ _ (by first | (dsimp only; omega) | omega) (by (try dsimp only); repeat (first | exact hlow | exact Low.refl | refine Low.up ?_ (by omega) | refine Low.row ?_)) oB_)

end Go.Proofs.YtfpljljjjgicaaaGreatDoor
/-
  The reference's automata: Value, Total.
-/
set_option maxHeartbeats 4000000
set_option linter.unusedSimpArgs false
set_option linter.unusedVariables false
namespace Go.Proofs.YtfpljljjjgicaaaGreatDoor
open Go.RowKit
attribute [local irreducible] Wk Tr
theorem rasked_nil (a : Aut) (frm : List Int) (ha : a.Sm) (hf : frm.length ≤ 17592186044416) : FnC Tryz.prog 43 [autV a, .sl 3 (frm.map iV), .nil] (fun r => r = iV (askedE a frm [])) := fun w S cs hG hS hc => rasked a frm [] ha hf (by decide) w S cs hG hS (by
  match cs, hc with
  | [c1, c2, c3], hc =>
    simp only [VRs] at hc ⊢
    refine ⟨hc.1, hc.2.1, ?_, trivial⟩
    have h3 := hc.2.2.1
    rw [VR, RL] at h3
    rw [VR, RL]
    exact ⟨none, 0, h3, Nat.le_refl _, .inl rfl⟩
  | [], hc => simp [VRs] at hc
  | [_], hc => simp [VRs] at hc
  | [_, _], hc => simp [VRs] at hc
  | _ :: _ :: _ :: _ :: _, hc => simp [VRs] at hc)
theorem growR {a : Aut} {back any : Bool} {cnt : Trn → Bool} {l : List Wt} (hc : cntR any = cnt) (ha : a.Ok) (hv : Vals a l) : growT a back (cntR any) (rankV a l + 1) l = some (growV a back cnt l) := by
  rw [hc]; exact (growV_is ha hv).1

theorem rvalue_bad (a : Aut) (back : Bool) (frm : Int) (w : List Int) (ha : a.Sm) (hw : w.length ≤ 17592186044416) (hb : askedE a [frm] w ≠ 0) : FnC Tryz.prog 13 [autV a, .bool back, iV frm, .sl 3 (w.map iV)] (fun r => r = .tup [wtA wt0, iV (askedE a [frm] w)]) := by
  refine FnC.of (fn := Tryz.f13) ⟨Tryz.func13, by kernel_rfl, rfl⟩ Tryz.ntmps13 (by simp) fun w0 S0 => ?_
  refine p_go fun hf => ?_
  refine p_buildSlice (ht := Tryz.underlying26) (hi := F.ti3.h) (h := ?_)
  refine p_go fun hf => ?_
  refine p_callRow (vs := [autV a, .sl 3 ([frm].map iV), .sl 3 (w.map iV)]) (0 + 1 + 1) 15 (hb := ⟨Tryz.func43, by kernel_rfl, rfl⟩) (hvs := by simp [V.frz]) (hf := rasked a [frm] w ha (by simp) hw) (h := ?_)
  refine p_go ?_
  refine p_isC (s := 19) (b := true) (hc := by simpa using hb) (h := ?_)
  refine p_go fun hf => ?_
  refine p_build (hi := F.ti37.h) (hpl := F.pl37.h) (h := ?_)
  refine p_go ?_
  refine p_cellNil (g1 := 0 + 1) (d1 := 8) (i := 3) (el := 30) (h := ?_)
  refine p_cellNil (g1 := 0 + 1) (d1 := 8) (i := 4) (el := 90) (h := ?_)
  refine p_cellNil (g1 := 0 + 1) (d1 := 8) (i := 5) (el := 37) (h := ?_)
  refine p_r2 (hp := by rfl)

theorem rtotal_bad (a : Aut) (back : Bool) (frm : Int) (ha : a.Sm) (hb : askedE a [frm] [] ≠ 0) : FnC Tryz.prog 15 [autV a, .bool back, iV frm] (fun r => r = .tup [wtA wt0, iV (askedE a [frm] [])]) := by
  refine FnC.of (fn := Tryz.f15) ⟨Tryz.func15, by kernel_rfl, rfl⟩ Tryz.ntmps15 (by simp) fun w0 S0 => ?_
  refine p_go fun hf => ?_
  refine p_buildSlice (ht := Tryz.underlying26) (hi := F.ti3.h) (h := ?_)
  refine p_callRow (vs := [autV a, .sl 3 ([frm].map iV), .nil]) (0 + 1 + 1) 11 (hb := ⟨Tryz.func43, by kernel_rfl, rfl⟩) (hvs := by simp [V.frz]) (hf := rasked_nil a [frm] ha (by simp)) (h := ?_)
  refine p_go ?_
  refine p_isC (s := 14) (b := true) (hc := by simpa using hb) (h := ?_)
  refine p_go fun hf => ?_
  refine p_build (hi := F.ti37.h) (hpl := F.pl37.h) (h := ?_)
  refine p_go ?_
  refine p_cellNil (g1 := 0 + 1) (d1 := 6) (i := 3) (el := 30) (h := ?_)
  refine p_cellNil (g1 := 0 + 1) (d1 := 6) (i := 4) (el := 90) (h := ?_)
  refine p_cellNil (g1 := 0 + 1) (d1 := 6) (i := 5) (el := 37) (h := ?_)
  refine p_r2 (hp := by rfl)

theorem rvalue_ok (a : Aut) (back : Bool) (frm : Int) (w : List Int) (ha : a.Sm) (hw : w.length ≤ 17592186044416) (hb : askedE a [frm] w = 0) : FnC Tryz.prog 13 [autV a, .bool back, iV frm, .sl 3 (w.map iV)] (fun r => r = .tup [wtA ((valV a back w).getD frm.toNat wt0), iV 0]) := by
  refine FnC.of (fn := Tryz.f13) ⟨Tryz.func13, by kernel_rfl, rfl⟩ Tryz.ntmps13 (by simp) fun w0 S0 => ?_
  obtain ⟨hok, hfr, _⟩ := askedE_ok hb
  have hf0 := hfr frm (by simp)
  have hst := hok.st
  have hmany := hok.many
  refine p_go fun hf => ?_
  refine p_buildSlice (ht := Tryz.underlying26) (hi := F.ti3.h) (h := ?_)
  refine p_go fun hf => ?_
  refine p_callRow (vs := [autV a, .sl 3 ([frm].map iV), .sl 3 (w.map iV)]) (0 + 1 + 1) 15 (hb := ⟨Tryz.func43, by kernel_rfl, rfl⟩) (hvs := by simp [V.frz]) (hf := rasked a [frm] w ha (by simp) hw) (h := ?_)
  refine p_go ?_
  refine p_isC (s := 19) (b := false) (hc := by simpa using hb) (h := ?_)
  refine (p_condF (h := ?_))
  refine (TrC.skip ?_)
  (repeat (first | with_reducible refine Tr.then_normal ?_ | with_reducible refine Tr.block_normal ?_ | with_reducible refine Tr.then_exit ?_ | with_reducible refine Tr.block_exit_same ?_ | with_reducible refine Tr.block_exit_other (by decide) ?_ | with_reducible refine Tr.then_ret ?_ | with_reducible refine Tr.block_ret ?_))
  refine p_seq (p_drawLast 4 (h := fun hf => ?_))
  refine p_go fun hf => ?_
  refine p_callOD 25 (hb := ⟨Tryz.func45, by kernel_rfl, rfl⟩) (hf := rends a hok ha.fin) (h := ?_)
  refine p_go ?_
  refine p_renSlot (s := 25) 900 (h := ?_)
  refine p_lastOp (h := ?_)
  refine p_callE [(0 + 1, 4), (0 + 1, 8)] (hf := rstill a hok back false (endsW a) _ _ (ends_vals hok) (growR cntR_sil hok (ends_vals hok)) _) (hg := Nat.le_refl _) (hos := by simp) (h := fun ob g1 hgl hO o900 => ?_)
  simp only [valsO, List.cons.injEq, and_true] at hO
  have hE := (⟨hO, o900⟩ : _ ∧ _)
  refine p_go fun hf => ?_
  refine p_sub (r := ((w.length : Int) - 1)) (hr := by simp) (hb := by omega) (h := ?_)
  refine p_go ?_
  refine p_loopK [1, 2, 3, 4, 8] [(0 + 1, 4), (0 + 1, 8)] (fun st => ∃ (m q : Nat), m ≤ w.length ∧ q ≤ st.gen ∧ st.env 11 = .row q 900 a.states.toNat ∧ st.env 12 = iV ((m : Int) - 1) ∧ st.obj q 900 = .row 37 ((valV a back (w.drop m)).map wtV)) (fun st => left1 (st.env 12)) ?_ fun e ob gI hK hO hI => ?_
  · exact ⟨w.length, 0 + 1 + 1 + 1 + 1, Nat.le_refl _, by dsimp only; omega, eV_, eV_, by rw [List.drop_length]; exact oB_⟩
  · obtain ⟨m, q, hm, hq, e11, e12, oR⟩ := hI
    dsimp only at hq e11 e12 oR
    simp only [valsE, List.cons.injEq, and_true] at hK
    simp only [valsO, List.cons.injEq, and_true] at hO
    have hE := (⟨hK, hO, e11, e12, oR⟩ : _ ∧ _ ∧ _ ∧ _ ∧ _)
    have hvl := valV_vals (back := back) hok (w.drop m)
    have hlen := hvl.len
    refine p_go ?_
    refine p_cond (ht := fun hc => ?_) (hf := fun hc => ?_)
    · obtain ⟨m, rfl⟩ : ∃ k, m = k + 1 := ⟨m - 1, by have : 0 ≤ (m : Int) - 1 := (by simpa using hc); omega⟩
      have hmw : m < w.length := by omega
      refine (TrC.skip ?_)
      (repeat (first | with_reducible refine Tr.then_normal ?_ | with_reducible refine Tr.block_normal ?_ | with_reducible refine Tr.then_exit ?_ | with_reducible refine Tr.block_exit_same ?_ | with_reducible refine Tr.block_exit_other (by decide) ?_ | with_reducible refine Tr.then_ret ?_ | with_reducible refine Tr.block_ret ?_))
      refine (p_seq ?_)
      refine (TrC.block ?_)
      refine p_freeze (g1 := q) (d1 := 900) (h := ?_)
      refine p_toSl (s := 11) (hn := by simp; omega) (h := ?_)
      refine p_drawLast 10 (h := fun hf => ?_)
      refine p_go fun hf => ?_
      refine p_idxMap (j := m) (ht := Tryz.underlying26) (hi := F.ti3.h) (hij := by omega) (hj := hmw) (h := ?_)
      refine p_go fun hf => ?_
      refine p_callOD 43 (hb := ⟨Tryz.func46, by kernel_rfl, rfl⟩) (hf := rrest a hok back w[m] (valV a back (w.drop (m + 1))) hvl) (h := ?_)
      refine p_go ?_
      refine p_renSlot (s := 43) 900 (h := ?_)
      refine p_lastOp (h := ?_)
      refine p_callE [(0 + 1, 4), (0 + 1, 8)] (hf := rstill a hok back false (restW a back w[m] (valV a back (w.drop (m + 1)))) _ _ (restW_vals hok hvl) (growR cntR_sil hok (restW_vals hok hvl)) _) (hg := Nat.le_refl _) (hos := by simp) (h := fun obC gC hglC hOC o900 => ?_)
      simp only [valsO, List.cons.injEq, and_true] at hOC
      have hE := (⟨hK, hOC, e11, e12, o900⟩ : _ ∧ _ ∧ _ ∧ _ ∧ _)
      refine p_go fun hf => ?_
      refine p_sub (r := ((m : Int) - 1)) (hr := by omega) (hb := by omega) (h := ?_)
      refine p_go ?_
      refine p_some ?_
      refine ⟨⟨(by simp (decide := true) only [valsE, evE, upd, cv, args0, argsFrom, List.length_map, ↓reduceIte, hE] <;> rfl), (by simp (decide := true) only [valsO, updO, upd, true_and, and_true, false_and, and_false, ↓reduceIte, hE] <;> rfl)⟩, ⟨m, gI + 1 + 1, by omega, by dsimp only; omega, eV_, eV_, by rw [List.drop_eq_getElem_cons hmw, valV]; exact oB_⟩, ?_⟩
      simp (decide := true) only [upd, e12, left1, ↓reduceIte]; omega
    · obtain rfl : m = 0 := by simp at hc; omega
      have hft : frm.toNat < (valV a back (w.drop 0)).length := by omega
      refine p_go fun hf => ?_
      refine p_idxRowN (frm.toNat) (ht := Tryz.underlying35) (hi := F.ti37.h) (hij := by omega) (hlt := by omega) (h := ?_)
      refine p_loadRowAM (ht := F.agg37.h) (hi := F.ti37.h) (hj := hft) (hl := wtV_cells _) (h := ?_)
      refine p_go ?_
      refine p_r2 (hp := by rw [← getD_at hft]; rfl)

theorem rtotal_ok (a : Aut) (back : Bool) (frm : Int) (ha : a.Sm) (hb : askedE a [frm] [] = 0) : FnC Tryz.prog 15 [autV a, .bool back, iV frm] (fun r => r = .tup [wtA ((growV a back (fun _ => true) (endsW a)).getD frm.toNat wt0), iV 0]) := by
  refine FnC.of (fn := Tryz.f15) ⟨Tryz.func15, by kernel_rfl, rfl⟩ Tryz.ntmps15 (by simp) fun w0 S0 => ?_
  obtain ⟨hok, hfr, _⟩ := askedE_ok hb
  have hf0 := hfr frm (by simp)
  have hst := hok.st
  have hmany := hok.many
  refine p_go fun hf => ?_
  refine p_buildSlice (ht := Tryz.underlying26) (hi := F.ti3.h) (h := ?_)
  refine p_callRow (vs := [autV a, .sl 3 ([frm].map iV), .nil]) (0 + 1 + 1) 11 (hb := ⟨Tryz.func43, by kernel_rfl, rfl⟩) (hvs := by simp [V.frz]) (hf := rasked_nil a [frm] ha (by simp)) (h := ?_)
  refine p_go ?_
  refine p_isC (s := 14) (b := false) (hc := by simpa using hb) (h := ?_)
  refine (p_condF (h := ?_))
  refine (TrC.skip ?_)
  (repeat (first | with_reducible refine Tr.then_normal ?_ | with_reducible refine Tr.block_normal ?_ | with_reducible refine Tr.then_exit ?_ | with_reducible refine Tr.block_exit_same ?_ | with_reducible refine Tr.block_exit_other (by decide) ?_ | with_reducible refine Tr.then_ret ?_ | with_reducible refine Tr.block_ret ?_))
  have hvg := (growV_is (back := back) (cnt := fun _ => true) hok (ends_vals hok)).2
  have hlen := hvg.len
  have hft : frm.toNat < (growV a back (fun _ => true) (endsW a)).length := by omega
  refine p_seq (p_drawFlo 4 (h := fun hf => ?_))
  refine p_go fun hf => ?_
  refine p_callOD 20 (hb := ⟨Tryz.func45, by kernel_rfl, rfl⟩) (hf := rends a hok ha.fin) (h := ?_)
  refine p_flo ?_ ?_
  · refine p_go fun hf => ?_
    refine p_floEnd (h := ?_)
    refine p_renSlot (s := 20) 900 (h := ?_)
    refine p_lastOp (h := ?_)
    refine p_callE [(0 + 1, 3), (0 + 1, 6)] (hf := rstill a hok back true (endsW a) _ _ (ends_vals hok) (growR cntR_all hok (ends_vals hok)) _) (hg := Nat.le_refl _) (hos := by simp) (h := fun ob g1 hgl hO o900 => ?_)
    simp only [valsO, List.cons.injEq, and_true] at hO
    have hE := (⟨hO, o900⟩ : _ ∧ _)
    refine p_idxRowN (frm.toNat) (ht := Tryz.underlying35) (hi := F.ti37.h) (hij := by omega) (hlt := by omega) (h := ?_)
    refine p_loadRowAM (ht := F.agg37.h) (hi := F.ti37.h) (hj := hft) (hl := wtV_cells _) (h := ?_)
    refine p_go ?_
    refine p_r2 (hp := by rw [← getD_at hft])
  · refine p_renSlot (s := 20) 900 (h := ?_)
    refine p_lastOp (h := ?_)
    refine p_callE [(0 + 1, 3), (0 + 1, 6)] (hf := rstill a hok back true (endsW a) _ _ (ends_vals hok) (growR cntR_all hok (ends_vals hok)) _) (hg := Nat.le_refl _) (hos := by simp) (h := fun ob g1 hgl hO o900 => ?_)
    simp only [valsO, List.cons.injEq, and_true] at hO
    have hE := (⟨hO, o900⟩ : _ ∧ _)
    refine p_go fun hf => ?_
    refine p_idxRowN (frm.toNat) (ht := Tryz.underlying35) (hi := F.ti37.h) (hij := by omega) (hlt := by omega) (h := ?_)
    refine p_loadRowAM (ht := F.agg37.h) (hi := F.ti37.h) (hj := hft) (hl := wtV_cells _) (h := ?_)
    refine p_go ?_
    refine p_r2 (hp := by rw [← getD_at hft])

end Go.Proofs.YtfpljljjjgicaaaGreatDoor
