/-
  dfa's Within, and DfaOne, walked: it answers true for all automata.
-/
import Derived.Test.YtdpljpmohpifbaaZw
set_option linter.unusedSimpArgs false
set_option linter.unusedVariables false
namespace Go.Proofs.Ytdpljpmohpifbaa
open Go.RowKit
namespace Dfa
def withinE (a b : Dfa) : (Bool × List Int) × Int := if decide (askedE a b ≠ 0) then ((false, []), askedE a b) else ((!(firstR (pairsR a b.notR true)).2, (firstR (pairsR a b.notR true)).1), 0)
theorem small_prod {a b : Dfa} (ha : a.Ok) (hb : b.Ok) (h1 : (!a.smallD) = false) (h2 : (!b.smallD) = false) : a.n * b.n ≤ 1024 := by
  have s1 := small_n h1 ha
  have s2 := small_n h2 hb
  have : a.n * b.n ≤ 24 * 24 := Nat.mul_le_mul (by omega) (by omega)
  omega
theorem notR_good {d : Dfa} (h : d.Ok) (hsm : (!d.smallD) = false) : d.notR.err = 0 := by
  obtain ⟨h1, h2, h3⟩ := leastR_ok h.flip
  obtain ⟨s1, s2⟩ := small_n hsm h
  refine good_err (ok_good h1 ?_)
  have h4 : (d.flip.n : Int) ≤ 24 := by have : d.flip.n = d.n := rfl; omega
  have h5 : (d.flip.leastR.n : Int) * d.flip.leastR.sym ≤ 24 * 6 := Int.mul_le_mul (by omega) (by rw [h3]; exact s2) (by rw [h3]; exact h.sym0) (by omega)
  show (d.flip.leastR.n : Int) * d.flip.leastR.sym ≤ 65536
  omega
end Dfa

theorem within09 (a b : Dfa) (h1 : (!a.smallD) = false) (h2 : (!b.smallD) = false) : FnC Try.prog 25 [dfaV a, dfaV b] (fun r => r = .tup [.bool (Dfa.withinE a b).1.1, .sl 3 ((Dfa.withinE a b).1.2.map iV), iV (Dfa.withinE a b).2]) := by
  refine FnC.of (fn := Try.f25) ⟨Try.func25, by kernel_rfl, rfl⟩ Try.ntmps25 (by simp) fun w0 S0 => ?_
  refine p_seq (p_region fun hf => ?_)
  refine p_box (h := ?_)
  refine p_box (h := ?_)
  refine p_assign (h := ?_)
  refine p_assign (h := ?_)
  refine p_assign (h := ?_)
  refine p_end ?_
  refine p_seq ?_
  refine p_seq (p_region fun hf => ?_)
  (first | refine p_loadA (ht := F.agg25) (hi := F.ti25) (h := ?_) | refine p_loadRefA (ht := F.agg25) (hi := F.ti25) (h := ?_))
  (first | refine p_loadA (ht := F.agg25) (hi := F.ti25) (h := ?_) | refine p_loadRefA (ht := F.agg25) (hi := F.ti25) (h := ?_))
  refine p_call (hx := rfl) (hb := ⟨Try.func42, by kernel_rfl, rfl⟩) (hf := asked09 a b (Dfa.small_fits h1) (Dfa.small_fits h2)) (h := ?_)
  refine p_assign (h := ?_)
  refine p_end ?_
  refine p_seq (p_region fun hf => ?_)
  refine p_move (h := ?_)
  refine p_num (h := ?_)
  refine p_end ?_
  refine p_splitC (s := 14) (ht := fun hc14 => ?_) (hf := fun hc14 => ?_)
  · refine p_condT (h := ?_)
    refine p_seq (p_region fun hf => ?_)
    refine p_move (h := ?_)
    refine p_assign (h := ?_)
    refine p_assign (h := ?_)
    refine p_assign (h := ?_)
    refine p_end ?_
    refine TrC.ret ?_
    refine p_nilSl (s := 5) (t := 3) (h := ?_)
    refine p_rets3 rfl ⟨eV_, rfl⟩ ⟨eV_, rfl⟩ ⟨eV_, rfl⟩ (by simp only [Dfa.withinE, hc14, ↓reduceIte]; rfl)
  · refine p_condF (h := ?_)
    have hok := Dfa.asked_ok hc14
    have hw := Dfa.within_ok hok.1 hok.2.1 hok.2.2 (Dfa.small_prod hok.1 hok.2.1 h1 h2)
    refine p_skip ?_
    refine p_seq (p_draw F.mixed fun hf => ?_)
    (first | refine p_loadA (ht := F.agg25) (hi := F.ti25) (h := ?_) | refine p_loadRefA (ht := F.agg25) (hi := F.ti25) (h := ?_))
    (first | refine p_loadA (ht := F.agg25) (hi := F.ti25) (h := ?_) | refine p_loadRefA (ht := F.agg25) (hi := F.ti25) (h := ?_))
    refine p_call (hx := rfl) (hb := ⟨Try.func35, by kernel_rfl, rfl⟩) (hf := not09 b hok.2.1) (h := ?_)
    refine p_call (hx := rfl) (hb := ⟨Try.func43, by kernel_rfl, rfl⟩) (hf := pairs09 a b.notR hok.1 hw.1 hw.2.1.symm hw.2.2.1 true) (h := ?_)
    refine p_call (hx := rfl) (hb := ⟨Try.func31, by kernel_rfl, rfl⟩) (hf := shortest09 _ hw.2.2.2.1) (h := ?_)
    refine p_move (h := ?_)
    refine p_extract (h := ?_)
    refine p_extract (h := ?_)
    refine p_assign (h := ?_)
    refine p_assign (h := ?_)
    refine p_endD ?_
    refine p_seq (p_region fun hf => ?_)
    refine p_move (h := ?_)
    refine p_not (h := ?_)
    refine p_move (h := ?_)
    refine p_assign (h := ?_)
    refine p_assign (h := ?_)
    refine p_assign (h := ?_)
    refine p_end ?_
    refine TrC.ret ?_
    refine p_rets3 rfl ⟨eV_, rfl⟩ ⟨eV_, rfl⟩ ⟨eV_, rfl⟩ (by simp only [Dfa.withinE, hc14, Bool.false_eq_true, ↓reduceIte])

theorem dfaOne (a b : Dfa) : FnC Try.prog 5 [dfaV a, dfaV b] (fun r => r = .bool true) := by
  refine FnC.of (fn := Try.f5) ⟨Try.func5, by kernel_rfl, rfl⟩ Try.ntmps5 (by simp) fun w0 S0 => ?_
  refine p_seq (p_region fun hf => ?_)
  refine p_box (h := ?_)
  refine p_box (h := ?_)
  refine p_assign (h := ?_)
  refine p_end ?_
  refine p_seq ?_
  refine p_seq (p_region fun hf => ?_)
  (first | refine p_loadA (ht := F.agg25) (hi := F.ti25) (h := ?_) | refine p_loadRefA (ht := F.agg25) (hi := F.ti25) (h := ?_))
  refine p_call (hx := rfl) (hb := ⟨Try.func8, by kernel_rfl, rfl⟩) (hf := small09 a) (h := ?_)
  refine p_not (h := ?_)
  refine p_move (h := ?_)
  refine p_split (s := 22) (ht := fun hb22 => ?_) (hf := fun hb22 => ?_)
  · -- slot 22 is true
    iterate 3 (refine p_guardNo (h := ?_))
    refine p_pick (h := ?_)
    refine p_move (h := ?_)
    iterate 3 (refine p_guardNo (h := ?_))
    refine p_pick (h := ?_)
    refine p_move (h := ?_)
    iterate 3 (refine p_guardNo (h := ?_))
    refine p_pick (h := ?_)
    refine p_move (h := ?_)
    iterate 5 (refine p_guardNo (h := ?_))
    refine p_pick (h := ?_)
    refine p_end ?_
    refine p_condT (h := ?_)
    refine p_seq (p_region fun hf => ?_)
    refine p_call (hx := rfl) (hb := ⟨Try.func9, by kernel_rfl, rfl⟩) (hf := alive09) (h := ?_)
    refine p_assign (h := ?_)
    refine p_end ?_
    refine TrC.ret ?_
    refine p_ret1 (hp := by rfl)
  · -- slot 22 is false
    refine p_guardYes (h := ?_)
    (first | refine p_loadA (ht := F.agg25) (hi := F.ti25) (h := ?_) | refine p_loadRefA (ht := F.agg25) (hi := F.ti25) (h := ?_))
    refine p_guardYes (h := ?_)
    refine p_call (hx := rfl) (hb := ⟨Try.func8, by kernel_rfl, rfl⟩) (hf := small09 b) (h := ?_)
    refine p_guardYes (h := ?_)
    refine p_not (h := ?_)
    refine p_pick (h := ?_)
    refine p_move (h := ?_)
    refine p_split (s := 27) (ht := fun hb27 => ?_) (hf := fun hb27 => ?_)
    · -- slot 27 is true
      iterate 3 (refine p_guardNo (h := ?_))
      refine p_pick (h := ?_)
      refine p_move (h := ?_)
      iterate 3 (refine p_guardNo (h := ?_))
      refine p_pick (h := ?_)
      refine p_move (h := ?_)
      iterate 5 (refine p_guardNo (h := ?_))
      refine p_pick (h := ?_)
      refine p_end ?_
      refine p_condT (h := ?_)
      refine p_seq (p_region fun hf => ?_)
      refine p_call (hx := rfl) (hb := ⟨Try.func9, by kernel_rfl, rfl⟩) (hf := alive09) (h := ?_)
      refine p_assign (h := ?_)
      refine p_end ?_
      refine TrC.ret ?_
      refine p_ret1 (hp := by rfl)
    · -- slot 27 is false
      refine p_guardYes (h := ?_)
      (first | refine p_loadA (ht := F.agg25) (hi := F.ti25) (h := ?_) | refine p_loadRefA (ht := F.agg25) (hi := F.ti25) (h := ?_))
      refine p_guardYes (h := ?_)
      refine p_call (hx := rfl) (hb := ⟨Try.func22, by kernel_rfl, rfl⟩) (hf := checkR a (Dfa.small_fits hb22)) (h := ?_)
      refine p_guardYes (h := ?_)
      refine p_num (h := ?_)
      refine p_pick (h := ?_)
      refine p_move (h := ?_)
      refine p_split (s := 32) (ht := fun hb32 => ?_) (hf := fun hb32 => ?_)
      · -- slot 32 is true
        iterate 3 (refine p_guardNo (h := ?_))
        refine p_pick (h := ?_)
        refine p_move (h := ?_)
        iterate 5 (refine p_guardNo (h := ?_))
        refine p_pick (h := ?_)
        refine p_end ?_
        refine p_condT (h := ?_)
        refine p_seq (p_region fun hf => ?_)
        refine p_call (hx := rfl) (hb := ⟨Try.func9, by kernel_rfl, rfl⟩) (hf := alive09) (h := ?_)
        refine p_assign (h := ?_)
        refine p_end ?_
        refine TrC.ret ?_
        refine p_ret1 (hp := by rfl)
      · -- slot 32 is false
        refine p_guardYes (h := ?_)
        (first | refine p_loadA (ht := F.agg25) (hi := F.ti25) (h := ?_) | refine p_loadRefA (ht := F.agg25) (hi := F.ti25) (h := ?_))
        refine p_guardYes (h := ?_)
        refine p_call (hx := rfl) (hb := ⟨Try.func22, by kernel_rfl, rfl⟩) (hf := checkR b (Dfa.small_fits hb27)) (h := ?_)
        refine p_guardYes (h := ?_)
        refine p_num (h := ?_)
        refine p_pick (h := ?_)
        refine p_move (h := ?_)
        refine p_split (s := 37) (ht := fun hb37 => ?_) (hf := fun hb37 => ?_)
        · -- slot 37 is true
          iterate 5 (refine p_guardNo (h := ?_))
          refine p_pick (h := ?_)
          refine p_end ?_
          refine p_condT (h := ?_)
          refine p_seq (p_region fun hf => ?_)
          refine p_call (hx := rfl) (hb := ⟨Try.func9, by kernel_rfl, rfl⟩) (hf := alive09) (h := ?_)
          refine p_assign (h := ?_)
          refine p_end ?_
          refine TrC.ret ?_
          refine p_ret1 (hp := by rfl)
        · -- slot 37 is false
          refine p_guardYes (h := ?_)
          (first | refine p_fieldPtr (hf := F.fld25_0) (h := ?_) | refine p_fieldRef (hf := F.fld25_0) (h := ?_) | refine p_fieldRow (hf := F.fld25_0) (h := ?_))
          refine p_guardYes (h := ?_)
          (first | refine p_load (ht := F.leaf3) (h := ?_) | refine p_loadRef (ht := F.leaf3) (h := ?_))
          refine p_guardYes (h := ?_)
          (first | refine p_fieldPtr (hf := F.fld25_0) (h := ?_) | refine p_fieldRef (hf := F.fld25_0) (h := ?_) | refine p_fieldRow (hf := F.fld25_0) (h := ?_))
          refine p_guardYes (h := ?_)
          (first | refine p_load (ht := F.leaf3) (h := ?_) | refine p_loadRef (ht := F.leaf3) (h := ?_))
          refine p_guardYes (h := ?_)
          refine p_num (h := ?_)
          refine p_pick (h := ?_)
          refine p_end ?_
          refine p_splitC (s := 43) (ht := fun hc43 => ?_) (hf := fun hc43 => ?_)
          · refine p_condT (h := ?_)
            refine p_seq (p_region fun hf => ?_)
            refine p_call (hx := rfl) (hb := ⟨Try.func9, by kernel_rfl, rfl⟩) (hf := alive09) (h := ?_)
            refine p_assign (h := ?_)
            refine p_end ?_
            refine TrC.ret ?_
            refine p_ret1 (hp := by rfl)
          · refine p_condF (h := ?_)
            have hoka := Dfa.ok_err hb32
            have hokb := Dfa.ok_err hb37
            have hs : a.sym = b.sym := by simpa using hc43
            have hea := Dfa.err_zero hb32
            have heb := Dfa.err_zero hb37
            have hpn := Dfa.small_prod hoka hokb hb22 hb27
            have hpn' : b.n * a.n ≤ 1024 := by rw [Nat.mul_comm]; exact hpn
            have hab : decide (Dfa.askedE a b ≠ 0) = false := by simp [Dfa.askedE, hea, heb, hs]
            have hba : decide (Dfa.askedE b a ≠ 0) = false := by simp [Dfa.askedE, hea, heb, hs]
            have hwa : (Dfa.withinE a b).1.1 = Dfa.withinB a b ∧ (Dfa.withinE a b).2 = 0 := by simp only [Dfa.withinE, hab, Bool.false_eq_true, ↓reduceIte]; exact ⟨rfl, trivial⟩
            have hwb : (Dfa.withinE b a).1.1 = Dfa.withinB b a ∧ (Dfa.withinE b a).2 = 0 := by simp only [Dfa.withinE, hba, Bool.false_eq_true, ↓reduceIte]; exact ⟨rfl, trivial⟩
            have hNa : (if decide (a.err ≠ 0) then Dfa.zero else a.notR) = a.notR := by rw [hb32]; rfl
            have hLa : (if decide (a.err ≠ 0) then Dfa.zero else a.leastR) = a.leastR := by rw [hb32]; rfl
            have hLb : (if decide (b.err ≠ 0) then Dfa.zero else b.leastR) = b.leastR := by rw [hb37]; rfl
            have hng := Dfa.notR_good hoka hb22
            have hnok := (Dfa.leastR_ok hoka.flip).1
            have hna : Dfa.err (if decide (a.err ≠ 0) then Dfa.zero else a.notR) = 0 := by rw [hNa]; exact hng
            have hnf : Dfa.fits (if decide (a.err ≠ 0) then Dfa.zero else a.notR) := by rw [hNa]; exact Dfa.leastR_fits hoka.flip
            have hM : (if decide ((if decide (a.err ≠ 0) then Dfa.zero else a.notR).err ≠ 0) then Dfa.zero else (if decide (a.err ≠ 0) then Dfa.zero else a.notR).notR) = a.leastR := by rw [hNa, hng]; exact Dfa.not_not hoka
            have hlf : Dfa.fits (if decide (a.err ≠ 0) then Dfa.zero else a.leastR) := by rw [hLa]; exact Dfa.leastR_fits hoka
            have hmf : Dfa.fits (if decide ((if decide (a.err ≠ 0) then Dfa.zero else a.notR).err ≠ 0) then Dfa.zero else (if decide (a.err ≠ 0) then Dfa.zero else a.notR).notR) := by rw [hM]; exact Dfa.leastR_fits hoka
            have hNN : (if decide ((if decide (a.err ≠ 0) then Dfa.zero else a.notR).err ≠ 0) then Dfa.zero else (if decide (a.err ≠ 0) then Dfa.zero else a.notR).notR) = (if decide (a.err ≠ 0) then Dfa.zero else a.leastR) := by rw [hM, hLa]
            refine p_skip ?_
            refine p_seq (p_region fun hf => ?_)
            (first | refine p_loadA (ht := F.agg25) (hi := F.ti25) (h := ?_) | refine p_loadRefA (ht := F.agg25) (hi := F.ti25) (h := ?_))
            refine p_call (hx := rfl) (hb := ⟨Try.func17, by kernel_rfl, rfl⟩) (hf := Least09 a (Dfa.small_fits hb22)) (h := ?_)
            refine p_move (h := ?_)
            refine p_extract (h := ?_)
            refine p_extract (h := ?_)
            refine p_alloc (hi := F.ti25) (h := ?_)
            refine p_storeAll F.ti25 (h := ?_)
            refine p_assign (h := ?_)
            refine p_end ?_
            refine p_seq (p_region fun hf => ?_)
            (first | refine p_loadA (ht := F.agg25) (hi := F.ti25) (h := ?_) | refine p_loadRefA (ht := F.agg25) (hi := F.ti25) (h := ?_))
            refine p_call (hx := rfl) (hb := ⟨Try.func17, by kernel_rfl, rfl⟩) (hf := Least09 b (Dfa.small_fits hb27)) (h := ?_)
            refine p_move (h := ?_)
            refine p_extract (h := ?_)
            refine p_extract (h := ?_)
            refine p_alloc (hi := F.ti25) (h := ?_)
            refine p_storeAll F.ti25 (h := ?_)
            refine p_assign (h := ?_)
            refine p_end ?_
            refine p_seq (p_region fun hf => ?_)
            (first | refine p_loadA (ht := F.agg25) (hi := F.ti25) (h := ?_) | refine p_loadRefA (ht := F.agg25) (hi := F.ti25) (h := ?_))
            (first | refine p_loadA (ht := F.agg25) (hi := F.ti25) (h := ?_) | refine p_loadRefA (ht := F.agg25) (hi := F.ti25) (h := ?_))
            refine p_call (hx := rfl) (hb := ⟨Try.func25, by kernel_rfl, rfl⟩) (hf := within09 a b hb22 hb27) (h := ?_)
            refine p_move (h := ?_)
            refine p_extract (h := ?_)
            refine p_extract (h := ?_)
            refine p_extract (h := ?_)
            refine p_assign (h := ?_)
            refine p_assign (h := ?_)
            refine p_assign (h := ?_)
            refine p_end ?_
            refine p_seq (p_region fun hf => ?_)
            (first | refine p_loadA (ht := F.agg25) (hi := F.ti25) (h := ?_) | refine p_loadRefA (ht := F.agg25) (hi := F.ti25) (h := ?_))
            (first | refine p_loadA (ht := F.agg25) (hi := F.ti25) (h := ?_) | refine p_loadRefA (ht := F.agg25) (hi := F.ti25) (h := ?_))
            refine p_call (hx := rfl) (hb := ⟨Try.func25, by kernel_rfl, rfl⟩) (hf := within09 b a hb27 hb22) (h := ?_)
            refine p_move (h := ?_)
            refine p_extract (h := ?_)
            refine p_extract (h := ?_)
            refine p_extract (h := ?_)
            refine p_assign (h := ?_)
            refine p_assign (h := ?_)
            refine p_assign (h := ?_)
            refine p_end ?_
            refine p_seq (p_region fun hf => ?_)
            (first | refine p_loadA (ht := F.agg25) (hi := F.ti25) (h := ?_) | refine p_loadRefA (ht := F.agg25) (hi := F.ti25) (h := ?_))
            refine p_call (hx := rfl) (hb := ⟨Try.func19, by kernel_rfl, rfl⟩) (hf := Not09 a (Dfa.small_fits hb22)) (h := ?_)
            refine p_move (h := ?_)
            refine p_extract (h := ?_)
            refine p_extract (h := ?_)
            refine p_alloc (hi := F.ti25) (h := ?_)
            refine p_storeAll F.ti25 (h := ?_)
            refine p_assign (h := ?_)
            refine p_end ?_
            refine p_seq (p_region fun hf => ?_)
            (first | refine p_loadA (ht := F.agg25) (hi := F.ti25) (h := ?_) | refine p_loadRefA (ht := F.agg25) (hi := F.ti25) (h := ?_))
            refine p_call (hx := rfl) (hb := ⟨Try.func19, by kernel_rfl, rfl⟩) (hf := Not09 _ hnf) (h := ?_)
            refine p_move (h := ?_)
            refine p_extract (h := ?_)
            refine p_extract (h := ?_)
            refine p_alloc (hi := F.ti25) (h := ?_)
            refine p_storeAll F.ti25 (h := ?_)
            refine p_assign (h := ?_)
            refine p_end ?_
            refine p_seq (p_region fun hf => ?_)
            refine p_move (h := ?_)
            refine p_num (h := ?_)
            refine p_move (h := ?_)
            refine p_isW (s := 81) (b := true) (hc := by rw [hea]; rfl) (h := ?_)
            refine p_guardYes (h := ?_)
            refine p_move (h := ?_)
            refine p_guardYes (h := ?_)
            refine p_num (h := ?_)
            refine p_pick (h := ?_)
            refine p_move (h := ?_)
            refine p_isW (s := 85) (b := true) (hc := by rw [heb]; rfl) (h := ?_)
            refine p_guardYes (h := ?_)
            refine p_move (h := ?_)
            refine p_guardYes (h := ?_)
            refine p_num (h := ?_)
            refine p_pick (h := ?_)
            refine p_move (h := ?_)
            refine p_isW (s := 89) (b := true) (hc := by rw [hwa.2]; rfl) (h := ?_)
            refine p_guardYes (h := ?_)
            refine p_move (h := ?_)
            refine p_guardYes (h := ?_)
            refine p_num (h := ?_)
            refine p_pick (h := ?_)
            refine p_move (h := ?_)
            refine p_isW (s := 93) (b := true) (hc := by rw [hwb.2]; rfl) (h := ?_)
            refine p_guardYes (h := ?_)
            refine p_move (h := ?_)
            refine p_guardYes (h := ?_)
            refine p_num (h := ?_)
            refine p_pick (h := ?_)
            refine p_move (h := ?_)
            refine p_isW (s := 97) (b := true) (hc := by rw [hea]; rfl) (h := ?_)
            refine p_guardYes (h := ?_)
            refine p_move (h := ?_)
            refine p_guardYes (h := ?_)
            refine p_num (h := ?_)
            refine p_pick (h := ?_)
            refine p_move (h := ?_)
            refine p_isW (s := 101) (b := true) (hc := by rw [hna]; rfl) (h := ?_)
            refine p_guardYes (h := ?_)
            refine p_move (h := ?_)
            refine p_guardYes (h := ?_)
            refine p_move (h := ?_)
            refine p_split (s := 103) (ht := fun hb103 => ?_) (hf := fun hb103 => ?_)
            · -- slot 103 is true
              refine p_guardYes (h := ?_)
              refine p_move (h := ?_)
              refine p_guardYes (h := ?_)
              refine p_pick (h := ?_)
              refine p_guardYes (h := ?_)
              (first | refine p_loadA (ht := F.agg25) (hi := F.ti25) (h := ?_) | refine p_loadRefA (ht := F.agg25) (hi := F.ti25) (h := ?_))
              refine p_guardYes (h := ?_)
              (first | refine p_loadA (ht := F.agg25) (hi := F.ti25) (h := ?_) | refine p_loadRefA (ht := F.agg25) (hi := F.ti25) (h := ?_))
              refine p_guardYes (h := ?_)
              refine p_call (hx := rfl) (hb := ⟨Try.func23, by kernel_rfl, rfl⟩) (hf := sameRef _ _ hlf) (h := ?_)
              refine p_guardYes (h := ?_)
              refine p_eqB (ht := Try.underlying4) (h := ?_)
              refine p_pick (h := ?_)
              refine p_move (h := ?_)
              refine p_isW (s := 111) (b := true) (hc := by (rw [hLa, hLb, ← Dfa.both_within hoka hokb hs hpn]; simp_all)) (h := ?_)
              refine p_guardYes (h := ?_)
              (first | refine p_loadA (ht := F.agg25) (hi := F.ti25) (h := ?_) | refine p_loadRefA (ht := F.agg25) (hi := F.ti25) (h := ?_))
              refine p_guardYes (h := ?_)
              (first | refine p_loadA (ht := F.agg25) (hi := F.ti25) (h := ?_) | refine p_loadRefA (ht := F.agg25) (hi := F.ti25) (h := ?_))
              refine p_guardYes (h := ?_)
              refine p_call (hx := rfl) (hb := ⟨Try.func23, by kernel_rfl, rfl⟩) (hf := sameRef _ _ hmf) (h := ?_)
              refine p_pick (h := ?_)
              refine p_move (h := ?_)
              refine p_isW (s := 116) (b := true) (hc := by rw [hNN]; exact sameD_refl _) (h := ?_)
              refine p_guardYes (h := ?_)
              refine p_call (hx := rfl) (hb := ⟨Try.func9, by kernel_rfl, rfl⟩) (hf := alive09) (h := ?_)
              refine p_pick (h := ?_)
              refine p_assign (h := ?_)
              refine p_end ?_
              refine TrC.ret ?_
              refine p_ret1 (hp := by rfl)
            · -- slot 103 is false
              refine p_guardNo (h := ?_)
              refine p_guardYes (h := ?_)
              refine p_pick (h := ?_)
              refine p_guardYes (h := ?_)
              (first | refine p_loadA (ht := F.agg25) (hi := F.ti25) (h := ?_) | refine p_loadRefA (ht := F.agg25) (hi := F.ti25) (h := ?_))
              refine p_guardYes (h := ?_)
              (first | refine p_loadA (ht := F.agg25) (hi := F.ti25) (h := ?_) | refine p_loadRefA (ht := F.agg25) (hi := F.ti25) (h := ?_))
              refine p_guardYes (h := ?_)
              refine p_call (hx := rfl) (hb := ⟨Try.func23, by kernel_rfl, rfl⟩) (hf := sameRef _ _ hlf) (h := ?_)
              refine p_guardYes (h := ?_)
              refine p_eqB (ht := Try.underlying4) (h := ?_)
              refine p_pick (h := ?_)
              refine p_move (h := ?_)
              refine p_isW (s := 111) (b := true) (hc := by (rw [hLa, hLb, ← Dfa.both_within hoka hokb hs hpn]; simp_all)) (h := ?_)
              refine p_guardYes (h := ?_)
              (first | refine p_loadA (ht := F.agg25) (hi := F.ti25) (h := ?_) | refine p_loadRefA (ht := F.agg25) (hi := F.ti25) (h := ?_))
              refine p_guardYes (h := ?_)
              (first | refine p_loadA (ht := F.agg25) (hi := F.ti25) (h := ?_) | refine p_loadRefA (ht := F.agg25) (hi := F.ti25) (h := ?_))
              refine p_guardYes (h := ?_)
              refine p_call (hx := rfl) (hb := ⟨Try.func23, by kernel_rfl, rfl⟩) (hf := sameRef _ _ hmf) (h := ?_)
              refine p_pick (h := ?_)
              refine p_move (h := ?_)
              refine p_isW (s := 116) (b := true) (hc := by rw [hNN]; exact sameD_refl _) (h := ?_)
              refine p_guardYes (h := ?_)
              refine p_call (hx := rfl) (hb := ⟨Try.func9, by kernel_rfl, rfl⟩) (hf := alive09) (h := ?_)
              refine p_pick (h := ?_)
              refine p_assign (h := ?_)
              refine p_end ?_
              refine TrC.ret ?_
              refine p_ret1 (hp := by rfl)

end Go.Proofs.Ytdpljpmohpifbaa
