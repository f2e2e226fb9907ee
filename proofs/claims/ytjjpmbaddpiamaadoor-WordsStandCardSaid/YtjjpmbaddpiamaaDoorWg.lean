/-
  Where lines begin, lines and columns of places; each token of a text stands where it says: the law's function.
-/
import Derived.Test.YtjjpmbaddpiamaaDoorWf
set_option linter.unusedSimpArgs false
set_option linter.unusedVariables false
set_option maxHeartbeats 4000000
namespace Go.Proofs.YtjjpmbaddpiamaaDoor
open Go.RowKit
attribute [local irreducible] Wk Tr
theorem countOne (s : ByteArray) : FnC Tryd.prog 18 [.str s, .str ⟨#[10]⟩] (fun r => r = iV (Lib.countByte s.data.toList 10 : Nat)) := by
  refine FnC.lib [.string s, .string ⟨#[10]⟩] (fun w S cs hc => ?_) fun w hg => ?_
  · match cs, hc with
    | [x, y], hc => simp only [VRs, VR, RL, and_true] at hc; rw [hc.1, hc.2]
  · refine (Tryd.strings_Count_one s 10 w).mono ?_
    rintro e w' ⟨rfl, rfl⟩
    exact ⟨_, _, rfl, Below.refl _ _, fun S => (by simp only [RV, RU, RL]), rfl⟩
theorem lastOne (s : ByteArray) (hs : s.size < 4611686018427387904) : FnC Tryd.prog 19 [.str s, .int .u8 10] (fun r => r = iV (Lib.lastIndexByte s 10)) := by
  refine FnC.lib [.string s, .int .u8 10] (fun w S cs hc => ?_) fun w hg => ?_
  · match cs, hc with
    | [x, y], hc => simp only [VRs, VR, RL, and_true] at hc; rw [hc.1, hc.2]
  · refine (Tryd.strings_LastIndexByte s 10 hs w).mono ?_
    rintro e w' ⟨rfl, rfl⟩
    exact ⟨_, _, rfl, Below.refl _ _, fun S => (by simp only [RV, RU, RL]), rfl⟩
def awT : ByteArray := ⟨#[120, 49, 32, 61, 32, 45, 51, 59, 32, 35, 32, 110, 111, 10, 32, 97, 45, 62, 98]⟩
abbrev awL : List Tok := [⟨1, ⟨#[120, 49]⟩, 1, 1⟩, ⟨3, ⟨#[61]⟩, 1, 4⟩, ⟨2, ⟨#[45, 51]⟩, 1, 6⟩, ⟨3, ⟨#[59]⟩, 1, 8⟩, ⟨1, ⟨#[97]⟩, 2, 2⟩, ⟨3, ⟨#[45, 62]⟩, 2, 3⟩, ⟨1, ⟨#[98]⟩, 2, 5⟩]
theorem aw_tks : tks awT = (awL, none) := by kernel_rfl
theorem aw_split : FnP Tryd.prog 7 [.str awT] [] [] (fun r vs => r = .tup [.sl 29 (awL.map tokV), iV 0, iV 0, iV 0]) (fun v vs => False) := (splitP awT (by decide)).mono (fun r vs h => by rw [h, splitV_ok aw_tks]) fun _ _ h => h

theorem placeP (s : ByteArray) (p : Nat) (hp : p ≤ s.size) (hs : s.size < 4611686018427387904) : FnC Tryd.prog 9 [.str s, iV p] (fun r => r = .tup [iV (lnN s p), iV (p - stN s p + 1 : Nat), iV 0]) := by
  refine FnC.of (fn := Tryd.f9) ⟨Tryd.func9, by kernel_rfl, rfl⟩ Tryd.ntmps9 (by simp) fun w0 S0 => ?_
  refine p_go ?_
  refine p_splitC (s := 15) (ht := fun hc15 => ?_) (hf := fun hc15 => ?_)
  · have hF : False := by simp at hc15; omega
    exact hF.elim
  · refine p_go fun hf => ?_
    refine p_strHead (h' := p) (hh := hp) (h := ?_)
    refine p_go fun hf => ?_
    refine p_call (hx := rfl) (hb := ⟨Tryd.func18, by kernel_rfl, rfl⟩) (hf := countOne (s.extract 0 p)) (h := ?_)
    refine p_add (r := ((lnN s p : Nat) : Int)) (hr := by have := count_ln s p hp; rw [ext0_list, Lib.countByte]; omega) (hb := by have := ln_le s p; omega) (h := ?_)
    refine p_go fun hf => ?_
    refine p_call (hx := rfl) (hb := ⟨Tryd.func19, by kernel_rfl, rfl⟩) (hf := lastOne (s.extract 0 p) (by rw [sz_ext s hp]; omega)) (h := ?_)
    refine p_sub (r := ((p - stN s p + 1 : Nat) : Int)) (hr := by rw [last_st s hp]; have := st_le s p; omega) (hb := by have := st_le s p; omega) (h := ?_)
    refine p_go ?_
    refine p_r3 (hp := by rfl)

theorem beginP (s : ByteArray) (p : Nat) (hp : p ≤ s.size) (hs : s.size < 4611686018427387904) : FnC Tryd.prog 8 [.str s, iV (lnN s p)] (fun r => r = iV (stN s p)) := by
  refine FnC.of (fn := Tryd.f8) ⟨Tryd.func8, by kernel_rfl, rfl⟩ Tryd.ntmps8 (by simp) fun w0 S0 => ?_
  have hstp := st_le s p
  have hsl := st_ln s p
  refine p_go ?_
  refine p_loopK [0, 1] [] (fun st => ∃ i : Nat, (i ≤ stN s p) ∧ st.env 5 = iV (lnN s i) ∧ st.env 6 = iV i) (fun st => s.size + 1 - (st.env 6).toN) ?_ fun e ob g1 hK hO hI => ?_
  · exact ⟨0, by omega, by rw [lnN]; exact eV_, eV_⟩
  · obtain ⟨i, hi, e5, e6⟩ := hI
    dsimp only at e5 e6
    simp only [valsE, List.cons.injEq, and_true] at hK
    have hE := (⟨hK, e5, e6⟩ : _ ∧ _ ∧ _)
    refine p_go ?_
    refine p_splitC (s := 10) (ht := fun hc10 => ?_) (hf := fun hc10 => ?_)
    · have hln := ln_le s i
      refine p_go fun hf => ?_
      refine p_split (s := 16) (ht := fun hb16 => ?_) (hf := fun hb16 => ?_)
      · have hat : i = stN s p := by
          have h1 : lnN s i = lnN s p := by simp at hb16; omega
          refine Nat.le_antisymm hi (Nat.le_of_not_lt fun h => ?_)
          have := st_before s h
          omega
        refine p_go fun hf => ?_
        refine p_split (s := 19) (ht := fun hb19 => ?_) (hf := fun hb19 => ?_)
        · -- slot 19 is true
          refine p_go ?_
          refine p_ret1 (hp := by rw [hat])
        · have hi0 : ¬ i = 0 := by simp at hb19; omega
          refine p_go fun hf => ?_
          refine p_sub (r := ((i - 1 : Nat) : Int)) (hr := by omega) (hb := by omega) (h := ?_)
          refine p_go fun hf => ?_
          refine p_idxB (i - 1) (hj := by omega) (h := ?_)
          refine p_go ?_
          refine p_splitC (s := 26) (ht := fun hc26 => ?_) (hf := fun hc26 => ?_)
          · refine p_go ?_
            refine p_ret1 (hp := by rw [hat])
          · have hF : False := by rw [← hat] at hsl; exact hsl.2.elim hi0 (fun h => by rw [h] at hc26; simp at hc26)
            exact hF.elim
      · have hlt : i < stN s p := by
          refine Nat.lt_of_le_of_ne hi fun h => ?_
          rw [h, hsl.1] at hb16
          simp at hb16
        refine p_go fun hf => ?_
        refine p_split (s := 32) (ht := fun hb32 => ?_) (hf := fun hb32 => ?_)
        · have hlz : i < s.size := by omega
          refine p_go fun hf => ?_
          refine p_idxB (i) (hj := hlz) (h := ?_)
          refine p_go ?_
          refine p_splitC (s := 37) (ht := fun hc37 => ?_) (hf := fun hc37 => ?_)
          · have h10 : bt s i = 10 := by simpa using hc37
            refine p_go fun hf => ?_
            refine p_add (r := ((lnN s i + 1 : Nat) : Int)) (hr := (by first | omega | (simp only [decide_eq_true_eq, decide_eq_false_iff_not, Bool.or_eq_false_iff, Bool.and_eq_true, Bool.not_eq_true', Bool.not_eq_false'] at *; omega))) (hb := (by first | omega | (simp only [decide_eq_true_eq, decide_eq_false_iff_not, Bool.or_eq_false_iff, Bool.and_eq_true, Bool.not_eq_true', Bool.not_eq_false'] at *; omega))) (h := ?_)
            refine p_go fun hf => ?_
            refine p_add (r := ((i + 1 : Nat) : Int)) (hr := (by first | omega | (simp only [decide_eq_true_eq, decide_eq_false_iff_not, Bool.or_eq_false_iff, Bool.and_eq_true, Bool.not_eq_true', Bool.not_eq_false'] at *; omega))) (hb := (by first | omega | (simp only [decide_eq_true_eq, decide_eq_false_iff_not, Bool.or_eq_false_iff, Bool.and_eq_true, Bool.not_eq_true', Bool.not_eq_false'] at *; omega))) (h := ?_)
            refine p_go ?_
            refine p_some ?_
            refine ⟨⟨(by simp (decide := true) only [valsE, evE, upd, cv, args0, argsFrom, List.length_map, ↓reduceIte, hE] <;> rfl), (by simp (decide := true) only [valsO, updO, upd, true_and, and_true, false_and, and_false, ↓reduceIte, hE] <;> rfl)⟩, ⟨i + 1, by omega, by rw [lnN, if_pos h10]; exact eV_, eV_⟩, ?_⟩
            simp (decide := true) only [upd, e6, V.toN, ↓reduceIte]; omega
          · have h10 : ¬ bt s i = 10 := by simpa using hc37
            refine p_go fun hf => ?_
            refine p_add (r := ((i + 1 : Nat) : Int)) (hr := (by first | omega | (simp only [decide_eq_true_eq, decide_eq_false_iff_not, Bool.or_eq_false_iff, Bool.and_eq_true, Bool.not_eq_true', Bool.not_eq_false'] at *; omega))) (hb := (by first | omega | (simp only [decide_eq_true_eq, decide_eq_false_iff_not, Bool.or_eq_false_iff, Bool.and_eq_true, Bool.not_eq_true', Bool.not_eq_false'] at *; omega))) (h := ?_)
            refine p_go ?_
            refine p_some ?_
            refine ⟨⟨(by simp (decide := true) only [valsE, evE, upd, cv, args0, argsFrom, List.length_map, ↓reduceIte, hE] <;> rfl), (by simp (decide := true) only [valsO, updO, upd, true_and, and_true, false_and, and_false, ↓reduceIte, hE] <;> rfl)⟩, ⟨i + 1, by omega, by rw [lnN, if_neg h10]; exact eV_, eV_⟩, ?_⟩
            simp (decide := true) only [upd, e6, V.toN, ↓reduceIte]; omega
        · have hF : False := by simp at hb32; omega
          exact hF.elim
    · have hF : False := by simp at hc10; omega
      exact hF.elim
theorem awakeP  : FnC Tryd.prog 6 [] (fun r => r = .bool true) := by
  refine FnC.of (fn := Tryd.f6) ⟨Tryd.func6, by kernel_rfl, rfl⟩ Tryd.ntmps6 (by simp) fun w0 S0 => ?_
  refine p_go fun hf => ?_
  refine p_callP ([]) (hf := aw_split) (hg := by simp) (hos := by simp) (hp := fun x9 o9 h9 hg9 hlw9 hos9 hR9 => hR9.elim) (h := fun r o1 h1 hg1 hlw1 hos1 hR1 => ?_)
  obtain rfl := hR1
  refine p_go fun hf => ?_
  refine p_split (s := 18) (ht := fun hb18 => ?_) (hf := fun hb18 => ?_)
  · -- slot 18 is true
    refine p_go fun hf => ?_
    refine p_idxMap (j := 2) (ht := Tryd.underlying23) (hi := F.ti29.h) (hij := rfl) (hj := by decide) (h := ?_)
    refine p_go fun hf => ?_
    refine p_strOp (h := ?_)
    refine p_go fun hf => ?_
    refine p_split (s := 25) (ht := fun hb25 => ?_) (hf := fun hb25 => ?_)
    · -- slot 25 is true
      refine p_go fun hf => ?_
      refine p_idxMap (j := 2) (ht := Tryd.underlying23) (hi := F.ti29.h) (hij := rfl) (hj := by decide) (h := ?_)
      refine p_go fun hf => ?_
      refine p_split (s := 32) (ht := fun hb32 => ?_) (hf := fun hb32 => ?_)
      · -- slot 32 is true
        refine p_go fun hf => ?_
        refine p_idxMap (j := 5) (ht := Tryd.underlying23) (hi := F.ti29.h) (hij := rfl) (hj := by decide) (h := ?_)
        refine p_go fun hf => ?_
        refine p_strOp (h := ?_)
        refine p_go fun hf => ?_
        refine p_split (s := 39) (ht := fun hb39 => ?_) (hf := fun hb39 => ?_)
        · -- slot 39 is true
          refine p_go fun hf => ?_
          refine p_idxMap (j := 5) (ht := Tryd.underlying23) (hi := F.ti29.h) (hij := rfl) (hj := by decide) (h := ?_)
          refine p_go fun hf => ?_
          refine p_split (s := 46) (ht := fun hb46 => ?_) (hf := fun hb46 => ?_)
          · -- slot 46 is true
            refine p_go fun hf => ?_
            refine p_idxMap (j := 5) (ht := Tryd.underlying23) (hi := F.ti29.h) (hij := rfl) (hj := by decide) (h := ?_)
            refine p_go ?_
            refine p_ret1 (hp := by rfl)
          · exact absurd hb46 (by decide)
        · exact absurd hb39 (by decide)
      · exact absurd hb32 (by decide)
    · exact absurd hb25 (by decide)
  · exact absurd hb18 (by decide)
end Go.Proofs.YtjjpmbaddpiamaaDoor
