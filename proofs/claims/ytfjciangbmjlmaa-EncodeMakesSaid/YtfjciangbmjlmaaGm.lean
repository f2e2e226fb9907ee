/-
  The small functions of the references 21 and 23, walked.
-/
import Derived.Test.YtfjciangbmjlmaaGk
set_option linter.unusedSimpArgs false
set_option linter.unusedVariables false
namespace Go.Proofs.Ytfjciangbmjlmaa
open Go.RowKit
def siteR (G : Graph) (b : Int) : Int := idx (fun s : Site => decide (s.back = b)) G.sites
/-- The program's table of the first sites answers as the search for the first one. -/
theorem look_site (G : Graph) (b : Int) : ∀ n, n ≤ G.sites.length → mget b (backsAt G n) = if (G.sites.take n).any (fun s => decide (s.back = b)) then some ((((G.sites.take n).findIdx fun s => decide (s.back = b)) : Nat) : Int) else none
  | 0, _ => rfl
  | n + 1, hn => by
    have ih := look_site G b n (by omega)
    have hlt : n < G.sites.length := by omega
    have hs : G.sites.take (n + 1) = G.sites.take n ++ [siteN G n] := by
      rw [List.take_add_one, List.getElem?_eq_getElem hlt, siteN_eq hlt]; rfl
    have hl : (G.sites.take n).length = n := by simp; omega
    have hself := look_site G (siteN G n).back n (by omega)
    rw [hs, List.any_append, List.findIdx_append]
    cases ha : (G.sites.take n).any fun s => decide (s.back = b) with
    | true =>
      rw [ha] at ih
      have hfi : (G.sites.take n).findIdx (fun s => decide (s.back = b)) < (G.sites.take n).length := List.findIdx_lt_length.2 (by simpa using ha)
      have : mget b (backsAt G (n + 1)) = mget b (backsAt G n) := by
        rw [backsAt]
        split
        · rfl
        · rename_i h1
          rw [mget_mput]
          by_cases hb : b = (siteN G n).back
          · rw [← hb, ih] at h1; simp at h1
          · rw [if_neg hb]
      rw [this, ih]
      simp only [Bool.true_or, ↓reduceIte, hfi]
    | false =>
      rw [ha] at ih
      simp only [Bool.false_eq_true, ↓reduceIte] at ih
      have hnf : ¬ (G.sites.take n).findIdx (fun s => decide (s.back = b)) < (G.sites.take n).length := fun h => by
        have := List.findIdx_lt_length.1 h
        rw [List.any_eq_false] at ha
        obtain ⟨x, hx, hp⟩ := this
        exact ha x hx hp
      have hnf2 := hnf
      rw [hl] at hnf2
      by_cases hb : (siteN G n).back = b
      · have h0 : mget (siteN G n).back (backsAt G n) = none := by rw [hb]; exact ih
        rw [backsAt, h0]
        simp only [Option.isSome_none, Bool.false_eq_true, ↓reduceIte]
        rw [mget_mput, if_pos hb.symm]
        simp only [List.any_cons, List.any_nil, hb, decide_true, Bool.or_false, Bool.or_true, ↓reduceIte, hl, if_neg hnf2, List.findIdx_cons, cond_true, Nat.zero_add]
      · have h1 : mget b (backsAt G (n + 1)) = none := by
          rw [backsAt]
          split
          · exact ih
          · rw [mget_mput, if_neg (fun e => hb e.symm)]; exact ih
        rw [h1]
        simp [hb]

theorem in21 (i n : Int) : FnC Try.prog 56 [iV i, iV n] (fun r => r = .bool (inB i n)) := by
  refine FnC.of (fn := Try.f56) ⟨Try.func56, by kernel_rfl, rfl⟩ Try.ntmps56 (by simp) fun w0 S0 => ?_
  refine p_seq (p_region fun hf => ?_)
  refine p_assign (h := ?_)
  refine p_end ?_
  refine p_seq (p_region fun hf => ?_)
  refine p_move (h := ?_)
  refine p_num (h := ?_)
  refine p_move (h := ?_)
  refine p_split (s := 7) (ht := fun hb7 => ?_) (hf := fun hb7 => ?_)
  · -- slot 7 is true
    refine p_guardYes (h := ?_)
    refine p_move (h := ?_)
    refine p_guardYes (h := ?_)
    refine p_move (h := ?_)
    refine p_guardYes (h := ?_)
    refine p_num (h := ?_)
    refine p_pick (h := ?_)
    refine p_assign (h := ?_)
    refine p_end ?_
    refine TrC.ret ?_
    refine p_ret1 (hp := by simp only [inB, hb7, Bool.true_and, Bool.false_and])
  · -- slot 7 is false
    iterate 3 (refine p_guardNo (h := ?_))
    refine p_pick (h := ?_)
    refine p_assign (h := ?_)
    refine p_end ?_
    refine TrC.ret ?_
    refine p_ret1 (hp := by simp only [inB, hb7, Bool.true_and, Bool.false_and])

theorem site23 (G : Graph) (b : Int) (h : G.sites.length ≤ 1000000000) : FnC Try.prog 36 [graphV G, iV b] (fun r => r = iV (siteR G b)) := by
  refine FnC.of (fn := Try.f36) ⟨Try.func36, by kernel_rfl, rfl⟩ Try.ntmps36 (by simp) fun w0 S0 => ?_
  refine p_seq (p_region fun hf => ?_)
  refine p_box (h := ?_)
  refine p_assign (h := ?_)
  refine p_end ?_
  refine p_seq ?_
  refine p_seq (p_region fun hf => ?_)
  refine p_assign (h := ?_)
  refine p_end ?_
  refine TrC.block ?_
  refine p_loop (fun st => ∃ i : Nat, i ≤ G.sites.length ∧ (∀ j (hj : j < G.sites.length), j < i → decide (G.sites[j].back = b) = false) ∧ st.env 1 = iV b ∧ st.env 2 = .ptr (0 + 1) 2 0 ∧ st.env 5 = iV i ∧ st.obj (0 + 1) 2 = .cells 29 (graphL G)) (fun st => G.sites.length - (st.env 5).toN) ?_ fun e ob g1 hI => ?_
  · exact ⟨0, by omega, fun j hj h => by omega, eV_, eV_, eV_, oB_⟩
  · obtain ⟨i, hi, hn, e1, e2, e5, o2⟩ := hI
    dsimp only at e1 e2 e5 o2
    have hE := (⟨e1, e2, e5, o2⟩ : _ ∧ _ ∧ _ ∧ _)
    refine p_seq ?_
    refine p_seq (p_region fun hf => ?_)
    refine p_move (h := ?_)
    (first | refine p_fieldPtr (hf := F.fld29_7) (h := ?_) | refine p_fieldRef (hf := F.fld29_7) (h := ?_) | refine p_fieldRow (hf := F.fld29_7) (h := ?_))
    (first | refine p_load (ht := F.leaf25) (h := ?_) | refine p_loadRef (ht := F.leaf25) (h := ?_))
    refine p_len (ht := Try.underlying25) (h := ?_)
    refine p_num (h := ?_)
    refine p_end ?_
    refine p_splitC (s := 10) (ht := fun hc10 => ?_) (hf := fun hc10 => ?_)
    · refine p_condT (h := ?_)
      have hlt : i < G.sites.length := by simpa using hc10
      refine p_skip ?_
      refine p_seq ?_
      refine TrC.block ?_
      refine p_seq (p_region fun hf => ?_)
      (first | refine p_fieldPtr (hf := F.fld29_7) (h := ?_) | refine p_fieldRef (hf := F.fld29_7) (h := ?_) | refine p_fieldRow (hf := F.fld29_7) (h := ?_))
      (first | refine p_load (ht := F.leaf25) (h := ?_) | refine p_loadRef (ht := F.leaf25) (h := ?_))
      refine p_move (h := ?_)
      refine p_idxMap (j := i) (ht := Try.underlying25) (hi := F.ti54) (hij := rfl) (hj := hlt) (h := ?_)
      (first | refine p_fieldPtr (hf := F.fld54_3) (h := ?_) | refine p_fieldRef (hf := F.fld54_3) (h := ?_) | refine p_fieldRow (hf := F.fld54_3) (h := ?_))
      (first | refine p_load (ht := F.leaf3) (h := ?_) | refine p_loadRef (ht := F.leaf3) (h := ?_))
      refine p_move (h := ?_)
      refine p_num (h := ?_)
      refine p_end ?_
      refine p_splitC (s := 20) (ht := fun hc20 => ?_) (hf := fun hc20 => ?_)
      · refine p_condT (h := ?_)
        refine p_seq (p_region fun hf => ?_)
        refine p_move (h := ?_)
        refine p_assign (h := ?_)
        refine p_end ?_
        refine TrC.ret ?_
        refine p_ret1 (hp := by rw [siteR, idx_hit hlt hc20 hn])
      · refine p_condF (h := ?_)
        refine p_skip ?_
        refine p_region fun hf => ?_
        refine p_move (h := ?_)
        refine p_add (r := ((i + 1 : Nat) : Int)) (hr := by omega) (hb := by omega) (h := ?_)
        refine p_assign (h := ?_)
        refine p_end ?_
        refine p_some ?_
        refine ⟨⟨i + 1, hlt, fun j hj hji => ?_, eV_, eV_, eV_, oB_⟩, ?_⟩
        · rcases Nat.lt_succ_iff_lt_or_eq.1 hji with h | h
          · exact hn j hj h
          · subst h; exact hc20
        · simp (decide := true) only [upd, e5, V.toN, ↓reduceIte]; omega
    · refine p_condF (h := ?_)
      have hie : i = G.sites.length := by simp at hc10; omega
      refine p_exit ?_
      refine p_seq (p_region fun hf => ?_)
      refine p_assign (h := ?_)
      refine p_end ?_
      refine TrC.ret ?_
      refine p_ret1 (hp := by rw [siteR, idx_miss fun j hj => hn j hj (by omega)])

end Go.Proofs.Ytfjciangbmjlmaa
