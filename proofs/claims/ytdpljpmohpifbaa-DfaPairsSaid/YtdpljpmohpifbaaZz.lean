/-
  The reference's Both, Either and Within, and DfaPairs, walked: it answers true for all automata.
-/
import Derived.Test.YtdpljpmohpifbaaZy
set_option linter.unusedSimpArgs false
set_option linter.unusedVariables false
namespace Go.Proofs.Ytdpljpmohpifbaa
open Go.RowKit
namespace Dfa
theorem err_90 {d : Dfa} (h : decide (d.err ≠ 0) = true) : d.err = 90 := by
  rw [err] at h ⊢
  split at h <;> simp_all
theorem within_least {a b : Dfa} (ha : a.Ok) (hb : b.Ok) (hs : a.sym = b.sym) (hn : a.n * b.n ≤ 1024) : (firstR (pairsR a.leastR b.notR true)) = firstR (pairsR a b.notR true) := by
  obtain ⟨o1, o2, o3, o4, o5⟩ := within_ok ha hb hs hn
  obtain ⟨l1, l2, l3⟩ := leastR_ok ha
  have hn2 : a.leastR.n * b.n ≤ 1024 := Nat.le_trans (Nat.mul_le_mul_right _ l2) hn
  obtain ⟨q1, q2, q3, q4, q5⟩ := within_ok l1 hb (by rw [l3, hs]) hn2
  refine first_same q4 o4 (by rw [q5, o5, l3]) fun w hw => ?_
  have hw1 : a.fitsW w := fun x hx => by rw [← l3, ← q5]; exact hw x hx
  have hw2 : a.leastR.fitsW w := fun x hx => by rw [l3]; exact hw1 x hx
  rw [within_takes l1 hb (by rw [l3, hs]) hw2, within_takes ha hb hs hw1, least_takes ha hw1]
end Dfa

theorem twoRef (a b : Dfa) (ha : a.fits) (hb : b.fits) : FnC Try.prog 46 [dfaV a, dfaV b] (fun r => r = iV (Dfa.askedE a b)) := by
  refine FnC.of (fn := Try.f46) ⟨Try.func46, by kernel_rfl, rfl⟩ Try.ntmps46 (by simp) fun w0 S0 => ?_
  refine p_seq (p_region fun hf => ?_)
  refine p_box (h := ?_)
  refine p_box (h := ?_)
  refine p_assign (h := ?_)
  refine p_end ?_
  refine p_seq ?_
  refine p_seq (p_region fun hf => ?_)
  (first | refine p_loadA (ht := F.agg25) (hi := F.ti25) (h := ?_) | refine p_loadRefA (ht := F.agg25) (hi := F.ti25) (h := ?_))
  refine p_call (hx := rfl) (hb := ⟨Try.func22, by kernel_rfl, rfl⟩) (hf := checkR a ha) (h := ?_)
  refine p_num (h := ?_)
  refine p_move (h := ?_)
  refine p_split (s := 8) (ht := fun hb8 => ?_) (hf := fun hb8 => ?_)
  · -- slot 8 is true
    iterate 3 (refine p_guardNo (h := ?_))
    refine p_pick (h := ?_)
    refine p_end ?_
    refine p_condT (h := ?_)
    refine p_seq (p_region fun hf => ?_)
    refine p_assign (h := ?_)
    refine p_end ?_
    refine TrC.ret ?_
    refine p_ret1 (hp := by simp only [Dfa.askedE, hb8, ↓reduceIte]; rw [Dfa.err_90 hb8])
  · -- slot 8 is false
    refine p_guardYes (h := ?_)
    (first | refine p_loadA (ht := F.agg25) (hi := F.ti25) (h := ?_) | refine p_loadRefA (ht := F.agg25) (hi := F.ti25) (h := ?_))
    refine p_guardYes (h := ?_)
    refine p_call (hx := rfl) (hb := ⟨Try.func22, by kernel_rfl, rfl⟩) (hf := checkR b hb) (h := ?_)
    refine p_guardYes (h := ?_)
    refine p_num (h := ?_)
    refine p_pick (h := ?_)
    refine p_end ?_
    refine p_splitC (s := 12) (ht := fun hc12 => ?_) (hf := fun hc12 => ?_)
    · refine p_condT (h := ?_)
      refine p_seq (p_region fun hf => ?_)
      refine p_assign (h := ?_)
      refine p_end ?_
      refine TrC.ret ?_
      refine p_ret1 (hp := by simp only [Dfa.askedE, hb8, hc12, Bool.false_eq_true, ↓reduceIte]; rw [Dfa.err_90 hc12])
    · refine p_condF (h := ?_)
      refine p_skip ?_
      refine p_seq ?_
      refine p_seq (p_region fun hf => ?_)
      (first | refine p_fieldPtr (hf := F.fld25_0) (h := ?_) | refine p_fieldRef (hf := F.fld25_0) (h := ?_) | refine p_fieldRow (hf := F.fld25_0) (h := ?_))
      (first | refine p_load (ht := F.leaf3) (h := ?_) | refine p_loadRef (ht := F.leaf3) (h := ?_))
      (first | refine p_fieldPtr (hf := F.fld25_0) (h := ?_) | refine p_fieldRef (hf := F.fld25_0) (h := ?_) | refine p_fieldRow (hf := F.fld25_0) (h := ?_))
      (first | refine p_load (ht := F.leaf3) (h := ?_) | refine p_loadRef (ht := F.leaf3) (h := ?_))
      refine p_num (h := ?_)
      refine p_end ?_
      refine p_splitC (s := 17) (ht := fun hc17 => ?_) (hf := fun hc17 => ?_)
      · refine p_condT (h := ?_)
        refine p_seq (p_region fun hf => ?_)
        refine p_assign (h := ?_)
        refine p_end ?_
        refine TrC.ret ?_
        refine p_ret1 (hp := by simp only [Dfa.askedE, hb8, hc12, hc17, Bool.false_eq_true, ↓reduceIte])
      · refine p_condF (h := ?_)
        refine p_skip ?_
        refine p_seq (p_region fun hf => ?_)
        refine p_assign (h := ?_)
        refine p_end ?_
        refine TrC.ret ?_
        refine p_ret1 (hp := by simp only [Dfa.askedE, hb8, hc12, hc17, Bool.false_eq_true, ↓reduceIte])

theorem madeRef (a b : Dfa) (h1 : (!a.smallD) = false) (h2 : (!b.smallD) = false) (both : Bool) : FnC Try.prog 45 [dfaV a, dfaV b, .bool both] (fun r => r = .tup [dfaV (if decide (Dfa.askedE a b ≠ 0) then Dfa.zero else Dfa.joinR a b both), iV (Dfa.askedE a b)]) := by
  refine FnC.of (fn := Try.f45) ⟨Try.func45, by kernel_rfl, rfl⟩ Try.ntmps45 (by simp) fun w0 S0 => ?_
  refine p_seq (p_region fun hf => ?_)
  refine p_box (h := ?_)
  refine p_box (h := ?_)
  refine p_alloc (hi := F.ti25) (h := ?_)
  refine p_assign (h := ?_)
  refine p_end ?_
  refine p_seq (p_region fun hf => ?_)
  (first | refine p_loadA (ht := F.agg25) (hi := F.ti25) (h := ?_) | refine p_loadRefA (ht := F.agg25) (hi := F.ti25) (h := ?_))
  (first | refine p_loadA (ht := F.agg25) (hi := F.ti25) (h := ?_) | refine p_loadRefA (ht := F.agg25) (hi := F.ti25) (h := ?_))
  refine p_call (hx := rfl) (hb := ⟨Try.func46, by kernel_rfl, rfl⟩) (hf := twoRef a b (Dfa.small_fits h1) (Dfa.small_fits h2)) (h := ?_)
  refine p_assign (h := ?_)
  refine p_end ?_
  refine p_seq ?_
  refine p_seq (p_region fun hf => ?_)
  refine p_move (h := ?_)
  refine p_num (h := ?_)
  refine p_end ?_
  refine p_splitC (s := 14) (ht := fun hc14 => ?_) (hf := fun hc14 => ?_)
  · refine p_condT (h := ?_)
    refine p_seq (p_region fun hf => ?_)
    refine p_build (hi := F.ti25) (hpl := F.pl25) (h := ?_)
    refine p_move (h := ?_)
    refine p_storeAll F.ti25 (h := ?_)
    refine p_assign (h := ?_)
    refine p_end ?_
    refine TrC.ret ?_
    refine p_cellNil (g1 := 0 + 1) (d1 := 6) (i := 1) (el := 26) (h := ?_)
    refine p_cellNil (g1 := 0 + 1) (d1 := 6) (i := 2) (el := 4) (h := ?_)
    refine p_rets2 rfl (res_cell eV_ oB_ F.agg25 F.ti25 rfl rfl) ⟨eV_, rfl⟩ (by simp only [hc14, ↓reduceIte]; rfl)
  · refine p_condF (h := ?_)
    have hok := Dfa.asked_ok hc14
    have hj := Dfa.join_ok hok.1 hok.2.1 hok.2.2 h1 h2 both
    have hprod : a.leastR.n * b.leastR.n ≤ 1024 := Nat.le_trans (Nat.mul_le_mul (Dfa.leastR_ok hok.1).2.1 (Dfa.leastR_ok hok.2.1).2.1) (Dfa.small_prod hok.1 hok.2.1 h1 h2)
    refine p_skip ?_
    refine p_seq (p_draw F.mixed fun hf => ?_)
    (first | refine p_loadA (ht := F.agg25) (hi := F.ti25) (h := ?_) | refine p_loadRefA (ht := F.agg25) (hi := F.ti25) (h := ?_))
    refine p_call (hx := rfl) (hb := ⟨Try.func34, by kernel_rfl, rfl⟩) (hf := leastRef a hok.1) (h := ?_)
    (first | refine p_loadA (ht := F.agg25) (hi := F.ti25) (h := ?_) | refine p_loadRefA (ht := F.agg25) (hi := F.ti25) (h := ?_))
    refine p_call (hx := rfl) (hb := ⟨Try.func34, by kernel_rfl, rfl⟩) (hf := leastRef b hok.2.1) (h := ?_)
    refine p_move (h := ?_)
    refine p_call (hx := rfl) (hb := ⟨Try.func47, by kernel_rfl, rfl⟩) (hf := productRef a.leastR b.leastR (Dfa.leastR_ok hok.1).1 (Dfa.leastR_ok hok.2.1).1 (by rw [(Dfa.leastR_ok hok.1).2.2, (Dfa.leastR_ok hok.2.1).2.2, hok.2.2]) hprod both) (h := ?_)
    refine p_call (hx := rfl) (hb := ⟨Try.func34, by kernel_rfl, rfl⟩) (hf := leastRef _ hj.1) (h := ?_)
    refine p_alloc (hi := F.ti25) (h := ?_)
    refine p_storeAll F.ti25 (h := ?_)
    refine p_endD ?_
    refine p_seq ?_
    refine p_seq (p_region fun hf => ?_)
    (first | refine p_loadA (ht := F.agg25) (hi := F.ti25) (h := ?_) | refine p_loadRefA (ht := F.agg25) (hi := F.ti25) (h := ?_))
    refine p_call (hx := rfl) (hb := ⟨Try.func22, by kernel_rfl, rfl⟩) (hf := checkR _ (Dfa.leastR_fits hj.1)) (h := ?_)
    refine p_num (h := ?_)
    refine p_end ?_
    refine p_isC (s := 26) (b := false) (hc := by have h := Dfa.good_err hj.2.2.1; rw [Dfa.joinR] at h; rw [h]; rfl) (h := ?_)
    refine p_condF (h := ?_)
    refine p_skip ?_
    refine p_seq (p_region fun hf => ?_)
    (first | refine p_loadA (ht := F.agg25) (hi := F.ti25) (h := ?_) | refine p_loadRefA (ht := F.agg25) (hi := F.ti25) (h := ?_))
    refine p_storeAll F.ti25 (h := ?_)
    refine p_assign (h := ?_)
    refine p_end ?_
    refine TrC.ret ?_
    refine p_rets2 rfl (res_cell eV_ oB_ F.agg25 F.ti25 rfl rfl) ⟨eV_, rfl⟩ (by simp only [hc14, Bool.false_eq_true, ↓reduceIte]; simp at hc14; rw [hc14]; rfl)

theorem bothRef (a b : Dfa) (h1 : (!a.smallD) = false) (h2 : (!b.smallD) = false) : FnC Try.prog 27 [dfaV a, dfaV b] (fun r => r = .tup [dfaV (if decide (Dfa.askedE a b ≠ 0) then Dfa.zero else Dfa.joinR a b true), iV (Dfa.askedE a b)]) := by
  refine FnC.of (fn := Try.f27) ⟨Try.func27, by kernel_rfl, rfl⟩ Try.ntmps27 (by simp) fun w0 S0 => ?_
  refine p_seq (p_region fun hf => ?_)
  refine p_box (h := ?_)
  refine p_box (h := ?_)
  refine p_alloc (hi := F.ti25) (h := ?_)
  refine p_assign (h := ?_)
  refine p_end ?_
  refine p_seq (p_region fun hf => ?_)
  (first | refine p_loadA (ht := F.agg25) (hi := F.ti25) (h := ?_) | refine p_loadRefA (ht := F.agg25) (hi := F.ti25) (h := ?_))
  (first | refine p_loadA (ht := F.agg25) (hi := F.ti25) (h := ?_) | refine p_loadRefA (ht := F.agg25) (hi := F.ti25) (h := ?_))
  refine p_call (hx := rfl) (hb := ⟨Try.func45, by kernel_rfl, rfl⟩) (hf := madeRef a b h1 h2 true) (h := ?_)
  refine p_extract (h := ?_)
  refine p_extract (h := ?_)
  refine p_storeAll F.ti25 (h := ?_)
  refine p_assign (h := ?_)
  refine p_end ?_
  refine TrC.ret ?_
  refine p_rets2 rfl (res_cell eV_ oB_ F.agg25 F.ti25 rfl rfl) ⟨eV_, rfl⟩ (by rfl)

theorem eitherRef (a b : Dfa) (h1 : (!a.smallD) = false) (h2 : (!b.smallD) = false) : FnC Try.prog 29 [dfaV a, dfaV b] (fun r => r = .tup [dfaV (if decide (Dfa.askedE a b ≠ 0) then Dfa.zero else Dfa.joinR a b false), iV (Dfa.askedE a b)]) := by
  refine FnC.of (fn := Try.f29) ⟨Try.func29, by kernel_rfl, rfl⟩ Try.ntmps29 (by simp) fun w0 S0 => ?_
  refine p_seq (p_region fun hf => ?_)
  refine p_box (h := ?_)
  refine p_box (h := ?_)
  refine p_alloc (hi := F.ti25) (h := ?_)
  refine p_assign (h := ?_)
  refine p_end ?_
  refine p_seq (p_region fun hf => ?_)
  (first | refine p_loadA (ht := F.agg25) (hi := F.ti25) (h := ?_) | refine p_loadRefA (ht := F.agg25) (hi := F.ti25) (h := ?_))
  (first | refine p_loadA (ht := F.agg25) (hi := F.ti25) (h := ?_) | refine p_loadRefA (ht := F.agg25) (hi := F.ti25) (h := ?_))
  refine p_call (hx := rfl) (hb := ⟨Try.func45, by kernel_rfl, rfl⟩) (hf := madeRef a b h1 h2 false) (h := ?_)
  refine p_extract (h := ?_)
  refine p_extract (h := ?_)
  refine p_storeAll F.ti25 (h := ?_)
  refine p_assign (h := ?_)
  refine p_end ?_
  refine TrC.ret ?_
  refine p_rets2 rfl (res_cell eV_ oB_ F.agg25 F.ti25 rfl rfl) ⟨eV_, rfl⟩ (by rfl)

theorem withinRef (a b : Dfa) (h1 : (!a.smallD) = false) (h2 : (!b.smallD) = false) : FnC Try.prog 30 [dfaV a, dfaV b] (fun r => r = .tup [.bool (Dfa.withinE a b).1.1, .sl 3 ((Dfa.withinE a b).1.2.map iV), iV (Dfa.withinE a b).2]) := by
  refine FnC.of (fn := Try.f30) ⟨Try.func30, by kernel_rfl, rfl⟩ Try.ntmps30 (by simp) fun w0 S0 => ?_
  refine p_seq (p_region fun hf => ?_)
  refine p_box (h := ?_)
  refine p_box (h := ?_)
  refine p_assign (h := ?_)
  refine p_assign (h := ?_)
  refine p_assign (h := ?_)
  refine p_end ?_
  refine p_seq (p_region fun hf => ?_)
  (first | refine p_loadA (ht := F.agg25) (hi := F.ti25) (h := ?_) | refine p_loadRefA (ht := F.agg25) (hi := F.ti25) (h := ?_))
  (first | refine p_loadA (ht := F.agg25) (hi := F.ti25) (h := ?_) | refine p_loadRefA (ht := F.agg25) (hi := F.ti25) (h := ?_))
  refine p_call (hx := rfl) (hb := ⟨Try.func46, by kernel_rfl, rfl⟩) (hf := twoRef a b (Dfa.small_fits h1) (Dfa.small_fits h2)) (h := ?_)
  refine p_assign (h := ?_)
  refine p_end ?_
  refine p_seq ?_
  refine p_seq (p_region fun hf => ?_)
  refine p_move (h := ?_)
  refine p_num (h := ?_)
  refine p_end ?_
  refine p_splitC (s := 16) (ht := fun hc16 => ?_) (hf := fun hc16 => ?_)
  · refine p_condT (h := ?_)
    refine p_seq (p_region fun hf => ?_)
    refine p_move (h := ?_)
    refine p_assign (h := ?_)
    refine p_assign (h := ?_)
    refine p_assign (h := ?_)
    refine p_end ?_
    refine TrC.ret ?_
    refine p_nilSl (s := 5) (t := 3) (h := ?_)
    refine p_rets3 rfl ⟨eV_, rfl⟩ ⟨eV_, rfl⟩ ⟨eV_, rfl⟩ (by simp only [Dfa.withinE, hc16, ↓reduceIte]; rfl)
  · refine p_condF (h := ?_)
    have hok := Dfa.asked_ok hc16
    have hpn := Dfa.small_prod hok.1 hok.2.1 h1 h2
    have hw := Dfa.within_ok hok.1 hok.2.1 hok.2.2 hpn
    have hl := Dfa.leastR_ok hok.1
    have hpr : a.leastR.n * b.notR.n ≤ 1024 := Nat.le_trans (Nat.mul_le_mul_right _ hl.2.1) hw.2.2.1
    have heb : b.err = 0 := by
      cases hd : decide (b.err ≠ 0) with
      | false => exact Dfa.err_zero hd
      | true =>
        cases hd2 : decide (a.err ≠ 0) with
        | true => simp only [Dfa.askedE, hd2, ↓reduceIte] at hc16; cases hc16
        | false => simp only [Dfa.askedE, hd2, hd, Bool.false_eq_true, ↓reduceIte] at hc16; cases hc16
    have hnb : (if decide (b.err ≠ 0) then Dfa.zero else b.notR) = b.notR := by rw [heb]; rfl
    have hq : (Dfa.pairsR a.leastR b.notR true).Ok := (Dfa.pairs_ok hl.1 hw.1 (by rw [hl.2.2]; exact hw.2.1.symm) hpr true).1
    have hwl := Dfa.within_least hok.1 hok.2.1 hok.2.2 hpn
    refine p_skip ?_
    refine p_seq (p_region fun hf => ?_)
    (first | refine p_loadA (ht := F.agg25) (hi := F.ti25) (h := ?_) | refine p_loadRefA (ht := F.agg25) (hi := F.ti25) (h := ?_))
    refine p_call (hx := rfl) (hb := ⟨Try.func20, by kernel_rfl, rfl⟩) (hf := NotRef b (Dfa.small_fits h2)) (h := ?_)
    refine p_move (h := ?_)
    refine p_extract (h := ?_)
    refine p_extract (h := ?_)
    refine p_alloc (hi := F.ti25) (h := ?_)
    refine p_storeAll F.ti25 (h := ?_)
    refine p_assign (h := ?_)
    refine p_end ?_
    refine p_seq (p_draw F.mixed fun hf => ?_)
    (first | refine p_loadA (ht := F.agg25) (hi := F.ti25) (h := ?_) | refine p_loadRefA (ht := F.agg25) (hi := F.ti25) (h := ?_))
    refine p_call (hx := rfl) (hb := ⟨Try.func34, by kernel_rfl, rfl⟩) (hf := leastRef a hok.1) (h := ?_)
    (first | refine p_loadA (ht := F.agg25) (hi := F.ti25) (h := ?_) | refine p_loadRefA (ht := F.agg25) (hi := F.ti25) (h := ?_))
    refine p_call (hx := rfl) (hb := ⟨Try.func47, by kernel_rfl, rfl⟩) (hf := productRef a.leastR (if decide (b.err ≠ 0) then Dfa.zero else b.notR) hl.1 (by rw [hnb]; exact hw.1) (by rw [hnb, hl.2.2]; exact hw.2.1.symm) (by rw [hnb]; exact hpr) true) (h := ?_)
    refine p_call (hx := rfl) (hb := ⟨Try.func32, by kernel_rfl, rfl⟩) (hf := firstRef _ (by rw [hnb]; exact hq)) (h := ?_)
    refine p_move (h := ?_)
    refine p_extract (h := ?_)
    refine p_extract (h := ?_)
    refine p_assign (h := ?_)
    refine p_assign (h := ?_)
    refine p_endD ?_
    refine p_seq (p_region fun hf => ?_)
    refine p_move (h := ?_)
    refine p_not (h := ?_)
    refine p_move (h := ?_)
    refine p_assign (h := ?_)
    refine p_assign (h := ?_)
    refine p_assign (h := ?_)
    refine p_end ?_
    refine TrC.ret ?_
    refine p_rets3 rfl ⟨eV_, rfl⟩ ⟨eV_, rfl⟩ ⟨eV_, rfl⟩ (by simp only [Dfa.withinE, hc16, Bool.false_eq_true, ↓reduceIte]; rw [hnb, hwl])

namespace Dfa
theorem withinE_len (a b : Dfa) (h1 : (!a.smallD) = false) (h2 : (!b.smallD) = false) : (withinE a b).1.2.length ≤ 1000000000 := by
  rw [withinE]
  cases hd : decide (askedE a b ≠ 0) with
  | true => exact Nat.zero_le _
  | false =>
    obtain ⟨k1, k2, k3⟩ := asked_ok hd
    exact Nat.le_trans (firstF_len _ (within_ok k1 k2 k3 (small_prod k1 k2 h1 h2)).2.2.2.1 _ _) (by decide)
theorem join_fits {a b : Dfa} (h1 : (!a.smallD) = false) (h2 : (!b.smallD) = false) (both : Bool) : (if decide (askedE a b ≠ 0) then zero else joinR a b both).fits := by
  cases hd : decide (askedE a b ≠ 0) with
  | true => exact zero_fits
  | false =>
    obtain ⟨k1, k2, k3⟩ := asked_ok hd
    exact leastR_fits (join_ok k1 k2 k3 h1 h2 both).1
end Dfa

theorem dfaPairs (a b : Dfa) : FnC Try.prog 6 [dfaV a, dfaV b] (fun r => r = .bool true) := by
  refine FnC.of (fn := Try.f6) ⟨Try.func6, by kernel_rfl, rfl⟩ Try.ntmps6 (by simp) fun w0 S0 => ?_
  refine p_seq (p_region fun hf => ?_)
  refine p_box (h := ?_)
  refine p_box (h := ?_)
  refine p_assign (h := ?_)
  refine p_end ?_
  refine p_seq ?_
  refine p_seq (p_region fun hf => ?_)
  (first | refine p_loadA (ht := F.agg25) (hi := F.ti25) (h := ?_) | refine p_loadRefA (ht := F.agg25) (hi := F.ti25) (h := ?_))
  refine p_call (hx := rfl) (hb := ⟨Try.func8, by kernel_rfl, rfl⟩) (hf := small09 a) (h := ?_)
  refine p_not (h := ?_)
  refine p_move (h := ?_)
  refine p_split (s := 22) (ht := fun hb22 => ?_) (hf := fun hb22 => ?_)
  · -- slot 22 is true
    iterate 3 (refine p_guardNo (h := ?_))
    refine p_pick (h := ?_)
    refine p_end ?_
    refine p_condT (h := ?_)
    refine p_seq (p_region fun hf => ?_)
    refine p_call (hx := rfl) (hb := ⟨Try.func9, by kernel_rfl, rfl⟩) (hf := alive09) (h := ?_)
    refine p_assign (h := ?_)
    refine p_end ?_
    refine TrC.ret ?_
    refine p_ret1 (hp := by rfl)
  · -- slot 22 is false
    refine p_guardYes (h := ?_)
    (first | refine p_loadA (ht := F.agg25) (hi := F.ti25) (h := ?_) | refine p_loadRefA (ht := F.agg25) (hi := F.ti25) (h := ?_))
    refine p_guardYes (h := ?_)
    refine p_call (hx := rfl) (hb := ⟨Try.func8, by kernel_rfl, rfl⟩) (hf := small09 b) (h := ?_)
    refine p_guardYes (h := ?_)
    refine p_not (h := ?_)
    refine p_pick (h := ?_)
    refine p_end ?_
    refine p_splitC (s := 26) (ht := fun hc26 => ?_) (hf := fun hc26 => ?_)
    · refine p_condT (h := ?_)
      refine p_seq (p_region fun hf => ?_)
      refine p_call (hx := rfl) (hb := ⟨Try.func9, by kernel_rfl, rfl⟩) (hf := alive09) (h := ?_)
      refine p_assign (h := ?_)
      refine p_end ?_
      refine TrC.ret ?_
      refine p_ret1 (hp := by rfl)
    · refine p_condF (h := ?_)
      refine p_skip ?_
      refine p_seq (p_region fun hf => ?_)
      (first | refine p_loadA (ht := F.agg25) (hi := F.ti25) (h := ?_) | refine p_loadRefA (ht := F.agg25) (hi := F.ti25) (h := ?_))
      (first | refine p_loadA (ht := F.agg25) (hi := F.ti25) (h := ?_) | refine p_loadRefA (ht := F.agg25) (hi := F.ti25) (h := ?_))
      refine p_call (hx := rfl) (hb := ⟨Try.func26, by kernel_rfl, rfl⟩) (hf := both09 a b hb22 hc26) (h := ?_)
      refine p_move (h := ?_)
      refine p_extract (h := ?_)
      refine p_extract (h := ?_)
      refine p_alloc (hi := F.ti25) (h := ?_)
      refine p_storeAll F.ti25 (h := ?_)
      refine p_assign (h := ?_)
      refine p_end ?_
      refine p_seq (p_region fun hf => ?_)
      (first | refine p_loadA (ht := F.agg25) (hi := F.ti25) (h := ?_) | refine p_loadRefA (ht := F.agg25) (hi := F.ti25) (h := ?_))
      (first | refine p_loadA (ht := F.agg25) (hi := F.ti25) (h := ?_) | refine p_loadRefA (ht := F.agg25) (hi := F.ti25) (h := ?_))
      refine p_call (hx := rfl) (hb := ⟨Try.func27, by kernel_rfl, rfl⟩) (hf := bothRef a b hb22 hc26) (h := ?_)
      refine p_move (h := ?_)
      refine p_extract (h := ?_)
      refine p_extract (h := ?_)
      refine p_alloc (hi := F.ti25) (h := ?_)
      refine p_storeAll F.ti25 (h := ?_)
      refine p_assign (h := ?_)
      refine p_end ?_
      refine p_seq (p_region fun hf => ?_)
      (first | refine p_loadA (ht := F.agg25) (hi := F.ti25) (h := ?_) | refine p_loadRefA (ht := F.agg25) (hi := F.ti25) (h := ?_))
      (first | refine p_loadA (ht := F.agg25) (hi := F.ti25) (h := ?_) | refine p_loadRefA (ht := F.agg25) (hi := F.ti25) (h := ?_))
      refine p_call (hx := rfl) (hb := ⟨Try.func28, by kernel_rfl, rfl⟩) (hf := either09 a b hb22 hc26) (h := ?_)
      refine p_move (h := ?_)
      refine p_extract (h := ?_)
      refine p_extract (h := ?_)
      refine p_alloc (hi := F.ti25) (h := ?_)
      refine p_storeAll F.ti25 (h := ?_)
      refine p_assign (h := ?_)
      refine p_end ?_
      refine p_seq (p_region fun hf => ?_)
      (first | refine p_loadA (ht := F.agg25) (hi := F.ti25) (h := ?_) | refine p_loadRefA (ht := F.agg25) (hi := F.ti25) (h := ?_))
      (first | refine p_loadA (ht := F.agg25) (hi := F.ti25) (h := ?_) | refine p_loadRefA (ht := F.agg25) (hi := F.ti25) (h := ?_))
      refine p_call (hx := rfl) (hb := ⟨Try.func29, by kernel_rfl, rfl⟩) (hf := eitherRef a b hb22 hc26) (h := ?_)
      refine p_move (h := ?_)
      refine p_extract (h := ?_)
      refine p_extract (h := ?_)
      refine p_alloc (hi := F.ti25) (h := ?_)
      refine p_storeAll F.ti25 (h := ?_)
      refine p_assign (h := ?_)
      refine p_end ?_
      refine p_seq (p_region fun hf => ?_)
      (first | refine p_loadA (ht := F.agg25) (hi := F.ti25) (h := ?_) | refine p_loadRefA (ht := F.agg25) (hi := F.ti25) (h := ?_))
      (first | refine p_loadA (ht := F.agg25) (hi := F.ti25) (h := ?_) | refine p_loadRefA (ht := F.agg25) (hi := F.ti25) (h := ?_))
      refine p_call (hx := rfl) (hb := ⟨Try.func25, by kernel_rfl, rfl⟩) (hf := within09 a b hb22 hc26) (h := ?_)
      refine p_move (h := ?_)
      refine p_extract (h := ?_)
      refine p_extract (h := ?_)
      refine p_extract (h := ?_)
      refine p_assign (h := ?_)
      refine p_assign (h := ?_)
      refine p_assign (h := ?_)
      refine p_end ?_
      refine p_seq (p_region fun hf => ?_)
      (first | refine p_loadA (ht := F.agg25) (hi := F.ti25) (h := ?_) | refine p_loadRefA (ht := F.agg25) (hi := F.ti25) (h := ?_))
      (first | refine p_loadA (ht := F.agg25) (hi := F.ti25) (h := ?_) | refine p_loadRefA (ht := F.agg25) (hi := F.ti25) (h := ?_))
      refine p_call (hx := rfl) (hb := ⟨Try.func30, by kernel_rfl, rfl⟩) (hf := withinRef a b hb22 hc26) (h := ?_)
      refine p_move (h := ?_)
      refine p_extract (h := ?_)
      refine p_extract (h := ?_)
      refine p_extract (h := ?_)
      refine p_assign (h := ?_)
      refine p_assign (h := ?_)
      refine p_assign (h := ?_)
      refine p_end ?_
      refine p_seq (p_region fun hf => ?_)
      (first | refine p_loadA (ht := F.agg25) (hi := F.ti25) (h := ?_) | refine p_loadRefA (ht := F.agg25) (hi := F.ti25) (h := ?_))
      (first | refine p_loadA (ht := F.agg25) (hi := F.ti25) (h := ?_) | refine p_loadRefA (ht := F.agg25) (hi := F.ti25) (h := ?_))
      refine p_call (hx := rfl) (hb := ⟨Try.func23, by kernel_rfl, rfl⟩) (hf := sameRef _ _ (Dfa.join_fits hb22 hc26 true)) (h := ?_)
      refine p_move (h := ?_)
      refine p_isW (s := 69) (b := true) (hc := by exact sameD_refl _) (h := ?_)
      refine p_guardYes (h := ?_)
      refine p_move (h := ?_)
      refine p_guardYes (h := ?_)
      refine p_move (h := ?_)
      refine p_guardYes (h := ?_)
      refine p_num (h := ?_)
      refine p_pick (h := ?_)
      refine p_move (h := ?_)
      refine p_isW (s := 74) (b := true) (hc := by simp) (h := ?_)
      refine p_guardYes (h := ?_)
      (first | refine p_loadA (ht := F.agg25) (hi := F.ti25) (h := ?_) | refine p_loadRefA (ht := F.agg25) (hi := F.ti25) (h := ?_))
      refine p_guardYes (h := ?_)
      (first | refine p_loadA (ht := F.agg25) (hi := F.ti25) (h := ?_) | refine p_loadRefA (ht := F.agg25) (hi := F.ti25) (h := ?_))
      refine p_guardYes (h := ?_)
      refine p_call (hx := rfl) (hb := ⟨Try.func23, by kernel_rfl, rfl⟩) (hf := sameRef _ _ (Dfa.join_fits hb22 hc26 false)) (h := ?_)
      refine p_pick (h := ?_)
      refine p_move (h := ?_)
      refine p_isW (s := 79) (b := true) (hc := by exact sameD_refl _) (h := ?_)
      refine p_guardYes (h := ?_)
      refine p_move (h := ?_)
      refine p_guardYes (h := ?_)
      refine p_move (h := ?_)
      refine p_guardYes (h := ?_)
      refine p_num (h := ?_)
      refine p_pick (h := ?_)
      refine p_move (h := ?_)
      refine p_isW (s := 84) (b := true) (hc := by simp) (h := ?_)
      refine p_guardYes (h := ?_)
      refine p_move (h := ?_)
      refine p_guardYes (h := ?_)
      refine p_move (h := ?_)
      refine p_guardYes (h := ?_)
      refine p_eqB (ht := Try.underlying4) (h := ?_)
      refine p_pick (h := ?_)
      refine p_move (h := ?_)
      refine p_isW (s := 89) (b := true) (hc := by simp) (h := ?_)
      refine p_guardYes (h := ?_)
      refine p_move (h := ?_)
      refine p_guardYes (h := ?_)
      refine p_move (h := ?_)
      refine p_guardYes (h := ?_)
      refine p_call (hx := rfl) (hb := ⟨Try.func16, by kernel_rfl, rfl⟩) (hf := sameI _ _ (Dfa.withinE_len a b hb22 hc26)) (h := ?_)
      refine p_pick (h := ?_)
      refine p_move (h := ?_)
      refine p_isW (s := 94) (b := true) (hc := by simp) (h := ?_)
      refine p_guardYes (h := ?_)
      refine p_move (h := ?_)
      refine p_guardYes (h := ?_)
      refine p_move (h := ?_)
      refine p_guardYes (h := ?_)
      refine p_num (h := ?_)
      refine p_pick (h := ?_)
      refine p_move (h := ?_)
      refine p_isW (s := 99) (b := true) (hc := by simp) (h := ?_)
      refine p_guardYes (h := ?_)
      refine p_call (hx := rfl) (hb := ⟨Try.func9, by kernel_rfl, rfl⟩) (hf := alive09) (h := ?_)
      refine p_pick (h := ?_)
      refine p_assign (h := ?_)
      refine p_end ?_
      refine TrC.ret ?_
      refine p_ret1 (hp := by rfl)

end Go.Proofs.Ytdpljpmohpifbaa
