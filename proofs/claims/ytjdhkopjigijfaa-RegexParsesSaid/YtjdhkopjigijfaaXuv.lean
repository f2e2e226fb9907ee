import Derived.Test.YtjdhkopjigijfaaXt
/-
  The reference's Parse.
-/
set_option linter.unusedSimpArgs false
set_option linter.unusedVariables false
set_option maxHeartbeats 4000000
namespace Go.Proofs.Ytjdhkopjigijfaa
open Go.RowKit
attribute [local irreducible] Wk Tr
theorem partsR (s : ByteArray) (hs : s.size ≤ 10000) (q : Nat) : ∀ f,
    (∀ i o d, i ≤ s.size → o ≤ i → 5 * (s.size - i) + 4 ≤ f → TxtC 31 s q i o d (pAlt s f i o d) (fun a b => a = b)) ∧
    (∀ i o d, i ≤ s.size → o ≤ i → 5 * (s.size - i) + 3 ≤ f → TxtC 58 s q i o d (pRow s f (bl s i) o d) (fun a b => a = b)) ∧
    (∀ i o d, i ≤ s.size → o ≤ i → 5 * (s.size - i) + 2 ≤ f → TxtC 82 s q i o d (pFac s f i o d) (fun a b => a = b)) ∧
    (∀ i o d, i ≤ s.size → o ≤ i → 5 * (s.size - i) + 1 ≤ f → TxtC 104 s q i o d (pAtom s f i o d) (fun a b => bl s a = bl s b)) := by
  intro f
  induction f using Nat.strongRecOn with
  | _ f ih =>
    cases f with
    | zero => exact ⟨fun i o d _ _ h => absurd h (by omega), fun i o d _ _ h => absurd h (by omega), fun i o d _ _ h => absurd h (by omega), fun i o d _ _ h => absurd h (by omega)⟩
    | succ f =>
      refine ⟨fun i o d hi ho hf => ?_, fun i o d hi ho hf => ?_, fun i o d hi ho hf => ?_, fun i o d hi ho hf => ?_⟩
      · exact altR_gen s hs q f i o d hi ho hf fun f' i' o' d' h1 h2 h3 h4 => (ih f' (by omega)).2.1 i' o' d' h2 h3 h4
      · exact rowR_gen s hs q f i o d hi ho hf fun f' i' o' d' h1 h2 h3 h4 => (ih f' (by omega)).2.2.1 i' o' d' h2 h3 h4
      · have h1 := tks_le (c := 33) hi
        exact facR_gen s hs q f i o d hi ho ((ih f (by omega)).2.2.2 _ o d h1.2 (by omega) (by omega))
      · refine atomR_gen s hs q f i o d hi ho fun ht => ?_
        have hlt := tkB_lt ht
        obtain ⟨f', rfl⟩ : ∃ f', f = f' + 1 := ⟨f - 1, by omega⟩
        refine parR_gen s hs q f' i o d hi ho ht fun d' hd => ?_
        subst hd
        exact (ih (f' + 1) (by omega)).1 (i + 1) (o + 1) _ hlt (by omega) (by omega)

theorem parseR (s : ByteArray) (hsl : s.size ≤ 4611686018427387904) : FnC Try.prog 10 [.str s] (fun r => r = parO s) := by
  refine FnC.of (fn := Try.f10) ⟨Try.func10, by kernel_rfl, rfl⟩ Try.ntmps10 (by simp) fun w0 S0 => ?_
  refine p_go ?_
  refine p_splitC (s := 9) (ht := fun hc9 => ?_) (hf := fun hc9 => ?_)
  · have hn : 10000 < s.size := by have h := hc9; simp at h; omega
    refine p_go fun hf => ?_
    refine p_build (hi := F.ti25.h) (hpl := F.pl25.h) (h := ?_)
    refine p_storeAll F.ti25.h (h := ?_)
    refine p_assign (h := ?_)
    refine p_assign (h := ?_)
    refine p_end ?_
    refine TrC.ret ?_
    refine p_cellNil (g1 := 0 + 1) (d1 := 2) (i := 2) (el := 25) (h := ?_)
    refine p_rets3 rfl (res_cell eV_ oB_ F.agg25.h F.ti25.h rfl rfl) ⟨eV_, rfl⟩ ⟨eV_, rfl⟩ (by rw [parO, parseV_long hn]; rfl)
  · have hn : ¬ 10000 < s.size := by have h := hc9; simp at h; omega
    refine p_go fun hf => ?_
    refine p_build (hi := F.ti72.h) (hpl := F.pl72.h) (h := ?_)
    refine p_go fun hf => ?_
    have hpc := (partsR s (by omega) (0 + 1 + 1 + 1) (5 * s.size + 4)).1 0 0 false (Nat.zero_le _) (Nat.le_refl _) (by omega)
    refine p_callX ([(0 + 1, 2)]) (hf := hpc) (hg := by simp) (hos := by simp) (h := fun r o1 h1 hg1 hlw1 hos1 hR1 => ?_)
    obtain ⟨y1, k1, b1, p1, d1, rfl, hcl1, hik, hks, hsz1, hpost⟩ := hR1
    simp only [valsO, List.cons.injEq, and_true] at hos1
    have hsm : y1.Sm := Sm_of_sz y1 (by omega)
    have hE := (⟨hos1, hcl1⟩ : _ ∧ _)
    refine p_bump fun hf => ?_
    refine p_go fun hf => ?_
    refine p_nilChk (h := ?_)
    refine p_go fun hf => ?_
    refine p_and2 (h1 := fun hb_ => by (repeat (first | refine p_guardYes (h := ?_) | refine p_move (h := ?_) | refine p_nilChk (h := ?_) | refine q_fP (h := ?_) | refine q_load (h := ?_) | refine q_lenS (h := ?_) | refine q_cmp (h := ?_))); refine w_end ?_; exact p_endK) (h := ?_)
    refine p_go ?_
    refine p_splitC (s := 29) (ht := fun hc29 => ?_) (hf := fun hc29 => ?_)
    · have h29 : b1 < 0 ∧ k1 < s.size := by have h := hc29; simp at h; exact ⟨h.1, by omega⟩
      have hok : pAlt s (5 * s.size + 4) 0 0 false = .ok y1 k1 d1 := by
        rcases hpost.cases with ⟨hb, ⟨k, hp, hk⟩, ho⟩ | ⟨a, hb, hp⟩
        · exact hk ▸ hp
        · exact absurd h29.1 (by omega)
      refine p_go fun hf => ?_
      refine p_callX ([(0 + 1, 2), (h1 + 1, 6)]) (hf := failR (0 + 1 + 1 + 1) s k1 p1 b1 d1 hks (by omega)) (hg := by simp <;> omega) (hos := by simp <;> omega) (h := fun r o2 h2 hg2 hlw2 hos2 hR2 => ?_)
      obtain ⟨rfl, hcl2⟩ := hR2
      simp only [valsO, List.cons.injEq, and_true] at hos2
      rw [if_pos h29.1] at hcl2
      have hE := (⟨hos2, hcl2⟩ : _ ∧ _)
      refine p_go fun hf => ?_
      refine p_nilChk (h := ?_)
      refine p_go fun hf => ?_
      refine p_build (hi := F.ti25.h) (hpl := F.pl25.h) (h := ?_)
      refine p_go fun hf => ?_
      refine p_nilChk (h := ?_)
      (first | refine p_fieldPtr (hf := F.fld72_2.h) (h := ?_) | refine p_fieldRef (hf := F.fld72_2.h) (h := ?_) | refine p_fieldRow (hf := F.fld72_2.h) (h := ?_))
      (first | refine p_load (ht := F.leaf3.h) (h := ?_) | refine p_loadRef (ht := F.leaf3.h) (h := ?_))
      refine p_storeAll F.ti25.h (h := ?_)
      refine p_assign (h := ?_)
      refine p_assign (h := ?_)
      refine p_endD ?_
      refine TrC.ret ?_
      refine p_cellNil (g1 := 0 + 1) (d1 := 2) (i := 2) (el := 25) (h := ?_)
      refine p_rets3 rfl (res_cell eV_ oB_ F.agg25.h F.ti25.h rfl rfl) ⟨eV_, rfl⟩ ⟨eV_, rfl⟩ (by rw [parO, parseV_more hn hok h29.2]; rfl)
    · have h29 : b1 < 0 → ¬ k1 < s.size := fun hb h2 => by have h := hc29; simp at h; omega
      refine p_go fun hf => ?_
      refine p_nilChk (h := ?_)
      refine p_go ?_
      refine p_splitC (s := 36) (ht := fun hc36 => ?_) (hf := fun hc36 => ?_)
      · have h36 : ¬ b1 < 0 := by have h := hc36; simp at h; omega
        have hbad : ∃ a : Nat, b1 = a ∧ pAlt s (5 * s.size + 4) 0 0 false = .bad a := by
          rcases hpost.cases with ⟨hb, _⟩ | h
          · exact absurd (by omega) h36
          · exact h
        obtain ⟨a, rfl, hp⟩ := hbad
        have hE := (⟨hos1, hcl1⟩ : _ ∧ _)
        refine p_go fun hf => ?_
        refine p_build (hi := F.ti25.h) (hpl := F.pl25.h) (h := ?_)
        refine p_go fun hf => ?_
        refine p_nilChk (h := ?_)
        (first | refine p_fieldPtr (hf := F.fld72_2.h) (h := ?_) | refine p_fieldRef (hf := F.fld72_2.h) (h := ?_) | refine p_fieldRow (hf := F.fld72_2.h) (h := ?_))
        (first | refine p_load (ht := F.leaf3.h) (h := ?_) | refine p_loadRef (ht := F.leaf3.h) (h := ?_))
        refine p_storeAll F.ti25.h (h := ?_)
        refine p_assign (h := ?_)
        refine p_assign (h := ?_)
        refine p_endD ?_
        refine TrC.ret ?_
        refine p_cellNil (g1 := 0 + 1) (d1 := 2) (i := 2) (el := 25) (h := ?_)
        refine p_rets3 rfl (res_cell eV_ oB_ F.agg25.h F.ti25.h rfl rfl) ⟨eV_, rfl⟩ ⟨eV_, rfl⟩ (by rw [parO, parseV_bad hn hp]; rfl)
      · have h36 : b1 < 0 := by have h := hc36; simp at h; omega
        have hnk := h29 h36
        have hok : pAlt s (5 * s.size + 4) 0 0 false = .ok y1 k1 d1 := by
          rcases hpost.cases with ⟨hb, ⟨k, hp, hk⟩, ho⟩ | ⟨a, hb, hp⟩
          · exact hk ▸ hp
          · exact absurd h36 (by omega)
        refine p_go fun hf => ?_
        refine p_nilChk (h := ?_)
        refine p_go fun hf => ?_
        refine p_split (s := 46) (ht := fun hb46 => ?_) (hf := fun hb46 => ?_)
        · have hd : d1 = true := hb46
          refine p_go fun hf => ?_
          refine p_build (hi := F.ti25.h) (hpl := F.pl25.h) (h := ?_)
          refine p_storeAll F.ti25.h (h := ?_)
          refine p_assign (h := ?_)
          refine p_assign (h := ?_)
          refine p_end ?_
          refine TrC.ret ?_
          refine p_cellNil (g1 := 0 + 1) (d1 := 2) (i := 2) (el := 25) (h := ?_)
          refine p_rets3 rfl (res_cell eV_ oB_ F.agg25.h F.ti25.h rfl rfl) ⟨eV_, rfl⟩ ⟨eV_, rfl⟩ (by rw [parO, parseV_deep hn hok hnk (.inl hd)]; rfl)
        · have hd : d1 = false := hb46
          refine p_go fun hf => ?_
          refine p_call (hx := rfl) (hb := ⟨Try.func20, by kernel_rfl, rfl⟩) (hf := checkR y1 hsm) (h := ?_)
          refine p_go ?_
          refine p_splitC (s := 50) (ht := fun hc50 => ?_) (hf := fun hc50 => ?_)
          · have he : errE y1 ≠ 0 := by rw [err_eq]; have h := hc50; simpa using h
            refine p_go fun hf => ?_
            refine p_build (hi := F.ti25.h) (hpl := F.pl25.h) (h := ?_)
            refine p_storeAll F.ti25.h (h := ?_)
            refine p_assign (h := ?_)
            refine p_assign (h := ?_)
            refine p_end ?_
            refine TrC.ret ?_
            refine p_cellNil (g1 := 0 + 1) (d1 := 2) (i := 2) (el := 25) (h := ?_)
            refine p_rets3 rfl (res_cell eV_ oB_ F.agg25.h F.ti25.h rfl rfl) ⟨eV_, rfl⟩ ⟨eV_, rfl⟩ (by rw [parO, parseV_deep hn hok hnk (.inr he)]; rfl)
          · have he : errE y1 = 0 := by rw [err_eq]; have h := hc50; simpa using h
            refine p_go ?_
            refine p_rets3 rfl (res_cell eV_ oB_ F.agg25.h F.ti25.h rfl rfl) ⟨eV_, rfl⟩ ⟨eV_, rfl⟩ (by rw [parO, parseV_ok hn hok hnk (by rw [hd, he]; simp)]; rfl)

end Go.Proofs.Ytjdhkopjigijfaa
/-
  RegexParses: its law as a contract.
-/
set_option linter.unusedSimpArgs false
set_option linter.unusedVariables false
set_option maxHeartbeats 4000000
namespace Go.Proofs.Ytjdhkopjigijfaa
open Go.RowKit
attribute [local irreducible] Wk Tr
theorem parse_sz (s : ByteArray) : (parseV s).1.sz ≤ 20001 := by
  unfold parseV
  split
  · rw [zeroR, Rx.sz, Rx.szL]; omega
  · have h := (pr_le s (5 * s.size + 4)).1 0 0 false (Nat.zero_le _)
    split
    · rw [zeroR, Rx.sz, Rx.szL]; omega
    · rename_i hp
      rw [hp] at h
      obtain ⟨h1, h2, h3⟩ := h
      split
      · rw [zeroR, Rx.sz, Rx.szL]; omega
      · split
        · rw [zeroR, Rx.sz, Rx.szL]; omega
        · dsimp only; omega
theorem parse_sm (s : ByteArray) : (parseV s).1.Sm := Sm_of_sz _ (by have := parse_sz s; omega)
theorem cut_size {s : ByteArray} (h : 12000 < s.size) : (s.extract 0 12000).size = 12000 := by rw [ByteArray.size_extract]; omega

theorem parses_T (s : ByteArray) (hs : 12000 < s.size) : FnC Try.prog 3 [.str s] (fun r => r = .bool true) := by
  refine FnC.of (fn := Try.f3) ⟨Try.func3, by kernel_rfl, rfl⟩ Try.ntmps3 (by simp) fun w0 S0 => ?_
  refine p_go ?_
  refine p_isC (s := 11) (b := true) (hc := by simp; omega) (h := ?_)
  refine p_go fun hf => ?_
  refine p_strHead (h' := 12000) (hh := by omega) (h := ?_)
  refine p_go fun hf => ?_
  refine p_callP ([]) (hf := parseP (s.extract 0 12000) (by rw [cut_size hs]; omega)) (hg := by simp) (hos := by simp) (hp := fun x9 o9 h9 hg9 hlw9 hos9 hR9 => hR9.elim) (h := fun r o1 h1 hg1 hlw1 hos1 hR1 => ?_)
  obtain rfl := hR1
  refine p_bump fun hf => ?_
  refine p_go fun hf => ?_
  refine p_call (hx := rfl) (hb := ⟨Try.func10, by kernel_rfl, rfl⟩) (hf := parseR (s.extract 0 12000) (by rw [cut_size hs]; omega)) (h := ?_)
  refine p_go fun hf => ?_
  refine p_call (hx := rfl) (hb := ⟨Try.func11, by kernel_rfl, rfl⟩) (hf := sameR (parseV (s.extract 0 12000)).1 (parse_sm (s.extract 0 12000)) (parseV (s.extract 0 12000)).1 (parse_sm (s.extract 0 12000))) (h := ?_)
  refine p_go fun hf => ?_
  refine p_split (s := 39) (ht := fun hb39 => ?_) (hf := fun hb39 => ?_)
  · -- slot 39 is true
    refine p_go fun hf => ?_
    refine p_call (hx := rfl) (hb := ⟨Try.func12, by kernel_rfl, rfl⟩) (hf := alive07) (h := ?_)
    refine p_go ?_
    refine p_ret1 (hp := by rfl)
  · exact absurd hb39 (by rw [eqB_self]; simp)
theorem parses_F (s : ByteArray) (hs : ¬ 12000 < s.size) : FnC Try.prog 3 [.str s] (fun r => r = .bool true) := by
  refine FnC.of (fn := Try.f3) ⟨Try.func3, by kernel_rfl, rfl⟩ Try.ntmps3 (by simp) fun w0 S0 => ?_
  refine p_go ?_
  refine p_isC (s := 11) (b := false) (hc := by simp; omega) (h := ?_)
  refine p_go fun hf => ?_
  refine p_callP ([]) (hf := parseP s (by omega)) (hg := by simp) (hos := by simp) (hp := fun x9 o9 h9 hg9 hlw9 hos9 hR9 => hR9.elim) (h := fun r o1 h1 hg1 hlw1 hos1 hR1 => ?_)
  obtain rfl := hR1
  refine p_bump fun hf => ?_
  refine p_go fun hf => ?_
  refine p_call (hx := rfl) (hb := ⟨Try.func10, by kernel_rfl, rfl⟩) (hf := parseR s (by omega)) (h := ?_)
  refine p_go fun hf => ?_
  refine p_call (hx := rfl) (hb := ⟨Try.func11, by kernel_rfl, rfl⟩) (hf := sameR (parseV s).1 (parse_sm s) (parseV s).1 (parse_sm s)) (h := ?_)
  refine p_go fun hf => ?_
  refine p_split (s := 39) (ht := fun hb39 => ?_) (hf := fun hb39 => ?_)
  · -- slot 39 is true
    refine p_go fun hf => ?_
    refine p_call (hx := rfl) (hb := ⟨Try.func12, by kernel_rfl, rfl⟩) (hf := alive07) (h := ?_)
    refine p_go ?_
    refine p_ret1 (hp := by rfl)
  · exact absurd hb39 (by rw [eqB_self]; simp)
theorem regexParses (s : ByteArray) : FnC Try.prog 3 [.str s] (fun r => r = .bool true) := by
  by_cases hs : 12000 < s.size
  · exact parses_T s hs
  · exact parses_F s hs

end Go.Proofs.Ytjdhkopjigijfaa
