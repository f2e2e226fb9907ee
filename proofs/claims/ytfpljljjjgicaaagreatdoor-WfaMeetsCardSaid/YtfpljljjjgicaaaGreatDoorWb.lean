/-
  Words of 64 bits: functions of package bits and of its reference.
-/
import Derived.Test.YtfpljljjjgicaaaGreatDoorWa
set_option maxHeartbeats 4000000
set_option linter.unusedSimpArgs false
set_option linter.unusedVariables false
namespace Go.Proofs.YtfpljljjjgicaaaGreatDoor
open Go.RowKit
attribute [local irreducible] Wk Tr
def badN (n : Int) : Bool := decide (n < 0) || decide (64 < n)
/-- The first n things. -/
def fullB (n : Int) : BitVec 64 := BitVec.allOnes 64 >>> (64 - n).toNat
theorem fullB_bit (n : Int) (i : Nat) (hi : i < 64) (hn : 0 ≤ n) : (fullB n).getLsbD i = decide ((i : Int) < n) := by
  simp only [fullB, BitVec.getLsbD_ushiftRight, BitVec.getLsbD_allOnes]
  exact decide_eq_decide.2 (by omega)
theorem allOnesN : ((18446744073709551615 : Int)) = ((BitVec.allOnes 64).toNat : Int) := by decide
theorem wrapu {n : Int} (h0 : 0 ≤ n) (h1 : n ≤ 64) : IntKind.u64.wrap n = ((n.toNat : Nat) : Int) := by
  simp only [IntKind.wrap, IntKind.signed, IntKind.bits, Bool.false_and, Bool.false_eq_true, ↓reduceIte]; omega
/-- The least thing of a set. -/
def lowB (s : BitVec 64) : Nat := ((List.range 64).find? (s.getLsbD ·)).getD 64
theorem lowB_spec {s : BitVec 64} (h : s ≠ 0) : lowB s < 64 ∧ s.getLsbD (lowB s) = true ∧ ∀ j, j < lowB s → s.getLsbD j = false := by
  unfold lowB
  cases hf : (List.range 64).find? (s.getLsbD ·) with
  | none =>
    rw [List.find?_eq_none] at hf
    refine absurd (BitVec.eq_of_getLsbD_eq fun i hi => ?_) h
    have := hf i (List.mem_range.2 hi)
    simpa using this
  | some k =>
    rw [List.find?_range_eq_some] at hf
    obtain ⟨h1, h2, h3⟩ := hf
    exact ⟨List.mem_range.1 h2, h1, fun j hj => by simpa using h3 j hj⟩
theorem lowB_iff {s : BitVec 64} {k : Nat} (hk : k < 64) (h1 : s.getLsbD k = true) (h2 : ∀ j, j < k → s.getLsbD j = false) : lowB s = k := by
  have h : s ≠ 0 := fun h => by subst h; simp at h1
  obtain ⟨h3, h4, h5⟩ := lowB_spec h
  rcases Nat.lt_trichotomy (lowB s) k with h6 | h6 | h6
  · rw [h2 _ h6] at h4; cases h4
  · exact h6
  · rw [h5 _ h6] at h1; cases h1
theorem low_and {s : BitVec 64} (h : s ≠ 0) : s &&& -s = BitVec.twoPow 64 (lowB s) := by
  obtain ⟨h1, h2, h3⟩ := lowB_spec h
  refine BitVec.eq_of_getLsbD_eq fun i hi => ?_
  rw [BitVec.getLsbD_and, BitVec.getLsbD_neg, BitVec.getLsbD_twoPow]
  by_cases hik : i = lowB s
  · subst hik
    have : ¬ ∃ j, j < lowB s ∧ s.getLsbD j = true := fun ⟨j, h4, h5⟩ => by rw [h3 j h4] at h5; cases h5
    simp [h2, this, hi]
  · have hne : decide (lowB s = i) = false := by simp; omega
    rw [hne, Bool.and_false]
    by_cases hlt : i < lowB s
    · rw [h3 i hlt]; rfl
    · have : ∃ j, j < i ∧ s.getLsbD j = true := ⟨_, by omega, h2⟩
      simp [this, hi]
/-- A bit's worth. -/
def worth (n : Int) : BitVec 64 := 1#64 <<< n.toNat
theorem worth_step (j : Nat) : 1#64 <<< (j + 1) = (1#64 <<< j) * BitVec.ofInt 64 2 := by
  apply BitVec.eq_of_toNat_eq
  simp [BitVec.toNat_shiftLeft, BitVec.toNat_mul, Nat.shiftLeft_eq, Nat.pow_succ]
theorem worth_two (n : Int) : worth n = BitVec.twoPow 64 n.toNat := by simp [worth, BitVec.twoPow]
theorem worth_ne {n : Int} (h : n < 64) : worth n ≠ 0 := by
  intro h1
  have h2 : (worth n).getLsbD n.toNat = true := by
    rw [worth_two, BitVec.getLsbD_twoPow]; simp; omega
  rw [h1] at h2; simp at h2
def hasB (s : BitVec 64) (i : Int) : Bool := decide (0 ≤ i) && decide (i < 64) && s.getLsbD i.toNat
theorem has_is {s : BitVec 64} {i : Int} (h0 : 0 ≤ i) (h1 : i < 64) : decide (s / worth i % BitVec.ofInt 64 2 = BitVec.ofInt 64 1) = s.getLsbD i.toNat := by
  have h2 : (worth i).toNat = 2 ^ i.toNat := by
    rw [worth, BitVec.toNat_shiftLeft, Nat.shiftLeft_eq]
    have : 2 ^ i.toNat < 2 ^ 64 := Nat.pow_lt_pow_right (by decide) (by omega)
    simp; omega
  rw [BitVec.getLsbD, Nat.testBit_eq_decide_div_mod_eq, ← h2]
  refine decide_eq_decide.2 ⟨fun h => ?_, fun h => BitVec.eq_of_toNat_eq ?_⟩
  · have := congrArg BitVec.toNat h
    simpa [BitVec.toNat_umod, BitVec.toNat_udiv] using this
  · simpa [BitVec.toNat_umod, BitVec.toNat_udiv] using h
theorem fullB_eq (n : Nat) (h : n ≤ 64) : fullB n = (1#64 <<< n) - 1 := by
  have : ∀ k : Fin 65, fullB (k.val : Int) = (1#64 <<< k.val) - 1 := by decide
  exact this ⟨n, by omega⟩
theorem fullB_step (i : Nat) (h : i < 64) : fullB i + worth i = fullB ((i + 1 : Nat) : Int) := by
  have : ∀ k : Fin 64, fullB (k.val : Int) + worth k.val = fullB ((k.val + 1 : Nat) : Int) := by decide
  exact this ⟨i, h⟩
def deb : List Int := [0, 1, 56, 2, 57, 49, 28, 3, 61, 58, 42, 50, 38, 29, 17, 4, 62, 47, 59, 36, 45, 43, 51, 22, 53, 39, 33, 30, 24, 18, 12, 5, 63, 55, 48, 27, 60, 41, 37, 16, 46, 35, 44, 21, 52, 32, 23, 11, 54, 26, 40, 15, 34, 20, 31, 10, 25, 14, 19, 9, 13, 8, 7, 6]
theorem deb_mem {s : BitVec 64} (hs : ¬ s = BitVec.ofInt 64 0) : ((⟨0, ((((s &&& -s) * BitVec.ofInt 64 285870213051353865) >>> 58).toNat : Int).toNat, none⟩, .int .u8 (lowB s)) : Addr × Value) ∈ globTab := by
  have h : s ≠ 0 := hs
  rw [low_and h, Int.toNat_natCast]
  have h1 := (lowB_spec h).1
  have h2 : ∀ k : Fin 64, deb[((BitVec.twoPow 64 k.val * BitVec.ofInt 64 285870213051353865) >>> 58).toNat]? = some (k.val : Int) := by decide
  have h3 := h2 ⟨_, h1⟩
  have h4 : globTab = deb.mapIdx (fun i n => (⟨0, i, none⟩, .int .u8 n)) := rfl
  rw [h4, List.mem_mapIdx]
  obtain ⟨h5, h6⟩ := List.getElem?_eq_some_iff.1 h3
  exact ⟨_, h5, by rw [h6]⟩
theorem deb_lt (x : BitVec 64) : ((x >>> 58).toNat : Int) < 64 := by
  have := x.isLt
  rw [BitVec.toNat_ushiftRight, Nat.shiftRight_eq_div_pow]; omega
theorem wrap_low (s : BitVec 64) (h : s ≠ 0) : IntKind.i64.wrap (lowB s : Int) = lowB s := IntWalk.i64_in _ (by have := (lowB_spec h).1; omega)

theorem bitsFull (n : Int) (hn : -9223372036854775808 ≤ n ∧ n ≤ 9223372036854775807) : FnC Tryz.prog 164 [iV n] (fun r => r = .tup [bV (if badN n then 0 else fullB n), iV (if badN n then 10 else 0)]) := by
  refine FnC.of (fn := Tryz.f164) ⟨Tryz.func164, by kernel_rfl, rfl⟩ Tryz.ntmps164 (by simp) fun w0 S0 => ?_
  refine p_go ?_
  refine p_splitC (s := 9) (ht := fun hc9 => ?_) (hf := fun hc9 => ?_)
  · refine p_go ?_
    refine p_r2 (hp := by simp [badN, fullB, hc9])
  · refine p_go fun hf => ?_
    refine p_sub (r := 64 - n) (hr := rfl) (hb := by simp [badN] at *; omega) (h := ?_)
    refine p_conv (hs := Tryz.underlying3) (ht := Tryz.underlying123) (h := ?_)
    refine p_shrB (hp := allOnesN) (n := (64 - n).toNat) (hq := wrapu (by simp at hc9; omega) (by simp at hc9; omega)) (h := ?_)
    refine p_go ?_
    refine p_r2 (hp := by simp [badN, fullB, hc9])

theorem ctz (s : BitVec 64) : FnC Tryz.prog 181 [bV s] (fun r => r = iV (lowB s)) := by
  refine FnC.of (fn := Tryz.f181) ⟨Tryz.func181, by kernel_rfl, rfl⟩ Tryz.ntmps181 (by simp) fun w0 S0 => ?_
  refine p_go ?_
  refine p_splitC (s := 4) (ht := fun hc4 => ?_) (hf := fun hc4 => ?_)
  · refine p_go ?_
    refine p_ret1 (hp := by simp at hc4; subst hc4; rfl)
  · refine p_go fun hf => ?_
    refine p_negB (h := ?_)
    refine p_go fun hf => ?_
    refine p_shrB (n := 58) (h := ?_)
    refine p_idxGlob Tryz.underlying201 (h0 := by omega) (hlt := deb_lt _) (h := ?_)
    refine p_loadGlob (hv := deb_mem (by simpa using hc4)) (h := ?_)
    refine p_conv (hs := Tryz.underlying5) (ht := Tryz.underlying3) (h := ?_)
    refine p_go ?_
    refine p_ret1 (hp := by rw [wrap_low s (by simpa using hc4)])

theorem worth01 (n : Int) (hn : n ≤ 1000000) : FnC Tryz.prog 146 [iV n] (fun r => r = bV (worth n)) := by
  refine FnC.of (fn := Tryz.f146) ⟨Tryz.func146, by kernel_rfl, rfl⟩ Tryz.ntmps146 (by simp) fun w0 S0 => ?_
  refine p_go ?_
  refine p_loopK [] [] (fun st => ∃ j : Nat, (j ≤ n.toNat) ∧ st.env 0 = iV (n - j) ∧ st.env 3 = bV (1#64 <<< j)) (fun st => (st.env 0).toN) ?_ fun e ob g1 hK hO hI => ?_
  · exact ⟨0, by omega, by rw [Int.natCast_zero, Int.sub_zero]; exact eV_, eV_⟩
  · obtain ⟨j, hj, e0, e3⟩ := hI
    dsimp only at e0 e3
    have hE := (⟨e0, e3⟩ : _ ∧ _)
    refine p_go ?_
    refine p_splitC (s := 5) (ht := fun hc5 => ?_) (hf := fun hc5 => ?_)
    · refine p_go fun hf => ?_
      refine p_sub (p := n - j) (q := 1) (r := n - (j + 1 : Nat)) (hr := by omega) (hb := by simp at hc5; omega) (h := ?_)
      refine p_go ?_
      refine p_some ?_
      refine ⟨⟨(by simp (decide := true) only [valsE, evE, upd, cv, args0, argsFrom, List.length_map, ↓reduceIte, hE] <;> rfl), (by simp (decide := true) only [valsO, updO, upd, true_and, and_true, false_and, and_false, ↓reduceIte, hE] <;> rfl)⟩, ⟨j + 1, by simp at hc5; omega, eV_, by rw [worth_step]; exact eV_⟩, ?_⟩
      simp (decide := true) only [upd, e0, V.toN, ↓reduceIte]; simp at hc5; omega
    · refine p_go ?_
      refine p_ret1 (hp := by rw [worth, show n.toNat = j by simp at hc5; omega])

theorem has01 (s : BitVec 64) (i : Int) : FnC Tryz.prog 148 [bV s, iV i] (fun r => r = .bool (hasB s i)) := by
  refine FnC.of (fn := Tryz.f148) ⟨Tryz.func148, by kernel_rfl, rfl⟩ Tryz.ntmps148 (by simp) fun w0 S0 => ?_
  refine p_go fun hf => ?_
  refine p_split (s := 11) (ht := fun hb11 => ?_) (hf := fun hb11 => ?_)
  · -- slot 11 is true
    refine p_go fun hf => ?_
    refine p_call (hx := rfl) (hb := ⟨Tryz.func146, by kernel_rfl, rfl⟩) (hf := worth01 i (by simp at hb11; omega)) (h := ?_)
    refine p_go fun hf => ?_
    refine p_quoB (h0 := worth_ne (by simp at hb11; omega)) (h := ?_)
    refine p_go fun hf => ?_
    refine p_remB (h0 := by decide) (h := ?_)
    refine p_go ?_
    refine p_ret1 (hp := by simp at hb11; rw [has_is hb11.1 hb11.2]; simp [hasB, hb11])
  · -- slot 11 is false
    refine p_go ?_
    refine p_ret1 (hp := by rw [hasB, hb11]; rfl)

theorem full01 (n : Int) : FnC Tryz.prog 168 [iV n] (fun r => r = .tup [bV (if badN n then 0 else fullB n), iV (if badN n then 10 else 0)]) := by
  refine FnC.of (fn := Tryz.f168) ⟨Tryz.func168, by kernel_rfl, rfl⟩ Tryz.ntmps168 (by simp) fun w0 S0 => ?_
  refine p_go ?_
  refine p_splitC (s := 11) (ht := fun hc11 => ?_) (hf := fun hc11 => ?_)
  · refine p_go ?_
    refine p_r2 (hp := by simp [badN, hc11])
  · refine p_go ?_
    refine p_loopK [0] [] (fun st => ∃ i : Nat, (i ≤ n.toNat) ∧ st.env 4 = bV (fullB i) ∧ st.env 5 = iV i) (fun st => n.toNat - (st.env 5).toN) ?_ fun e ob g1 hK hO hI => ?_
    · exact ⟨0, by omega, eV_, eV_⟩
    · obtain ⟨i, hi, e4, e5⟩ := hI
      dsimp only at e4 e5
      simp only [valsE, List.cons.injEq, and_true] at hK
      have hE := (⟨hK, e4, e5⟩ : _ ∧ _ ∧ _)
      refine p_go ?_
      refine p_splitC (s := 14) (ht := fun hc14 => ?_) (hf := fun hc14 => ?_)
      · refine p_go fun hf => ?_
        refine p_call (hx := rfl) (hb := ⟨Tryz.func146, by kernel_rfl, rfl⟩) (hf := worth01 i (by first | omega | (simp only [decide_eq_true_eq, decide_eq_false_iff_not, Bool.or_eq_false_iff, Bool.and_eq_true, Bool.not_eq_true', Bool.not_eq_false'] at *; omega))) (h := ?_)
        refine p_go fun hf => ?_
        refine p_add (r := ((i + 1 : Nat) : Int)) (hr := (by first | omega | (simp only [decide_eq_true_eq, decide_eq_false_iff_not, Bool.or_eq_false_iff, Bool.and_eq_true, Bool.not_eq_true', Bool.not_eq_false'] at *; omega))) (hb := (by first | omega | (simp only [decide_eq_true_eq, decide_eq_false_iff_not, Bool.or_eq_false_iff, Bool.and_eq_true, Bool.not_eq_true', Bool.not_eq_false'] at *; omega))) (h := ?_)
        refine p_go ?_
        refine p_some ?_
        refine ⟨⟨(by simp (decide := true) only [valsE, evE, upd, cv, args0, argsFrom, List.length_map, ↓reduceIte, hE] <;> rfl), (by simp (decide := true) only [valsO, updO, upd, true_and, and_true, false_and, and_false, ↓reduceIte, hE] <;> rfl)⟩, ⟨i + 1, by simp at hc14; omega, by rw [← fullB_step i (by simp at hc14 hc11; omega)]; exact eV_, eV_⟩, ?_⟩
        simp (decide := true) only [upd, e5, V.toN, ↓reduceIte]; simp at hc14; omega
      · refine p_go ?_
        refine p_r2 (hp := by have h1 : badN n = false := hc11; simp at hc14 hc11; have h2 : ((i : Nat) : Int) = n := (by omega); simp [h1, h2])

theorem maskC (n : Int) (hn : 0 ≤ n ∧ n ≤ 64) : FnC Tryz.prog 175 [iV n] (fun r => r = bV (fullB n)) := by
  refine FnC.of (fn := Tryz.f175) ⟨Tryz.func175, by kernel_rfl, rfl⟩ Tryz.ntmps175 (by simp) fun w0 S0 => ?_
  refine p_go ?_
  refine p_splitC (s := 4) (ht := fun hc4 => ?_) (hf := fun hc4 => ?_)
  · refine p_go ?_
    refine p_ret1 (hp := by simp at hc4; rw [show n = 64 by omega]; rfl)
  · refine p_go fun hf => ?_
    refine p_shlB (n := n.toNat) (hq := by omega) (h := ?_)
    refine p_go ?_
    refine p_ret1 (hp := by rw [show fullB n = (1#64 <<< n.toNat) - 1 by rw [← fullB_eq _ (by omega), Int.toNat_of_nonneg hn.1]]; rfl)

end Go.Proofs.YtfpljljjjgicaaaGreatDoor
