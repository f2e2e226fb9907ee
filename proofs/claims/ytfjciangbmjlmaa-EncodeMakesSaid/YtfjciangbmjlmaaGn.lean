/-
  The reference's heads, walked: it answers as procsRight.
-/
import Derived.Test.YtfjciangbmjlmaaGm
set_option linter.unusedSimpArgs false
set_option linter.unusedVariables false
namespace Go.Proofs.Ytfjciangbmjlmaa
open Go.RowKit
theorem heads_of {G : Graph} {i : Nat} (hi : i < G.of.length) (h : (!inB G.of[i] G.procs.length) = true) : procsRightB G = false := by
  have : (G.of.any fun k => !inB k G.procs.length) = true := List.any_eq_true.2 ⟨_, List.getElem_mem hi, h⟩
  simp only [procsRightB, this, Bool.not_true, Bool.and_false, Bool.false_and]
theorem heads_site {G : Graph} {i : Nat} (hi : i < G.sites.length) (h : (!inB G.sites[i].proc G.procs.length) = true) : procsRightB G = false := by
  have : (G.sites.any fun s => !inB s.proc G.procs.length) = true := List.any_eq_true.2 ⟨_, List.getElem_mem hi, h⟩
  simp only [procsRightB, this, Bool.not_true, Bool.and_false]
theorem heads_many {G : Graph} (h : decide ((1024 : Int) < G.sites.length) = true) : procsRightB G = false := by
  have : decide ((G.sites.length : Int) ≤ 1024) = false := by simp at h ⊢; omega
  simp only [procsRightB, this, Bool.false_and, Bool.and_false]
theorem heads_all {G : Graph} (h : headB G = false) (h1 : ∀ j (hj : j < G.of.length), (!inB G.of[j] G.procs.length) = false) (h2 : ∀ j, j < G.procs.length → rightAt G j = true) (h3 : decide ((1024 : Int) < G.sites.length) = false) (h4 : ∀ j (hj : j < G.sites.length), (!inB G.sites[j].proc G.procs.length) = false) : procsRightB G = true := by
  have k1 : (G.of.any fun k => !inB k G.procs.length) = false := by
    rw [List.any_eq_false]; intro x hx
    obtain ⟨j, hj, rfl⟩ := List.mem_iff_getElem.1 hx
    rw [h1 j hj]; simp
  have k2 : (G.sites.any fun s => !inB s.proc G.procs.length) = false := by
    rw [List.any_eq_false]; intro x hx
    obtain ⟨j, hj, rfl⟩ := List.mem_iff_getElem.1 hx
    rw [h4 j hj]; simp
  have k3 : decide ((G.sites.length : Int) ≤ 1024) = true := by simp at h3 ⊢; omega
  simp only [procsRightB, h, k1, k2, k3, procs_all h2, Bool.not_false, Bool.and_true]
theorem right_bad {G : Graph} {j : Nat} (h : okNode G j (entryAt G j) = false ∨ okNode G j (exitAt G j) = false) : rightAt G j = false := by
  rcases h with h | h <;> simp [rightAt, h]

theorem heads21 (G : Graph) (hS : G.sites.length ≤ 1000000000) : FnC Try.prog 54 [graphV G] (fun r => r = .bool (procsRightB G)) := by
  refine FnC.of (fn := Try.f54) ⟨Try.func54, by kernel_rfl, rfl⟩ Try.ntmps54 (by simp) fun w0 S0 => ?_
  refine p_seq (p_region fun hf => ?_)
  refine p_box (h := ?_)
  refine p_assign (h := ?_)
  refine p_end ?_
  refine p_seq (p_draw F.mixed fun hf => ?_)
  (first | refine p_fieldPtr (hf := F.fld29_1) (h := ?_) | refine p_fieldRef (hf := F.fld29_1) (h := ?_) | refine p_fieldRow (hf := F.fld29_1) (h := ?_))
  (first | refine p_load (ht := F.leaf22) (h := ?_) | refine p_loadRef (ht := F.leaf22) (h := ?_))
  refine p_len (ht := Try.underlying22) (h := ?_)
  (first | refine p_fieldPtr (hf := F.fld29_5) (h := ?_) | refine p_fieldRef (hf := F.fld29_5) (h := ?_) | refine p_fieldRow (hf := F.fld29_5) (h := ?_))
  (first | refine p_load (ht := F.leaf23) (h := ?_) | refine p_loadRef (ht := F.leaf23) (h := ?_))
  refine p_len (ht := Try.underlying23) (h := ?_)
  refine p_assign (h := ?_)
  refine p_assign (h := ?_)
  refine p_endD ?_
  refine p_seq ?_
  refine p_seq (p_region fun hf => ?_)
  (first | refine p_fieldPtr (hf := F.fld29_0) (h := ?_) | refine p_fieldRef (hf := F.fld29_0) (h := ?_) | refine p_fieldRow (hf := F.fld29_0) (h := ?_))
  (first | refine p_load (ht := F.leaf22) (h := ?_) | refine p_loadRef (ht := F.leaf22) (h := ?_))
  refine p_len (ht := Try.underlying22) (h := ?_)
  refine p_num (h := ?_)
  refine p_move (h := ?_)
  refine p_split (s := 18) (ht := fun hb18 => ?_) (hf := fun hb18 => ?_)
  · -- slot 18 is true
    iterate 2 (refine p_guardNo (h := ?_))
    refine p_pick (h := ?_)
    refine p_move (h := ?_)
    iterate 2 (refine p_guardNo (h := ?_))
    refine p_pick (h := ?_)
    refine p_move (h := ?_)
    iterate 5 (refine p_guardNo (h := ?_))
    refine p_pick (h := ?_)
    refine p_move (h := ?_)
    iterate 5 (refine p_guardNo (h := ?_))
    refine p_pick (h := ?_)
    refine p_move (h := ?_)
    iterate 2 (refine p_guardNo (h := ?_))
    refine p_pick (h := ?_)
    refine p_move (h := ?_)
    iterate 5 (refine p_guardNo (h := ?_))
    refine p_pick (h := ?_)
    refine p_move (h := ?_)
    iterate 4 (refine p_guardNo (h := ?_))
    refine p_pick (h := ?_)
    refine p_end ?_
    refine p_condT (h := ?_)
    refine p_seq (p_region fun hf => ?_)
    refine p_assign (h := ?_)
    refine p_end ?_
    refine TrC.ret ?_
    refine p_ret1 (hp := by simp [procsRightB, headB, hb18])
  · -- slot 18 is false
    refine p_guardYes (h := ?_)
    refine p_move (h := ?_)
    refine p_guardYes (h := ?_)
    refine p_num (h := ?_)
    refine p_pick (h := ?_)
    refine p_move (h := ?_)
    refine p_split (s := 22) (ht := fun hb22 => ?_) (hf := fun hb22 => ?_)
    · -- slot 22 is true
      iterate 2 (refine p_guardNo (h := ?_))
      refine p_pick (h := ?_)
      refine p_move (h := ?_)
      iterate 5 (refine p_guardNo (h := ?_))
      refine p_pick (h := ?_)
      refine p_move (h := ?_)
      iterate 5 (refine p_guardNo (h := ?_))
      refine p_pick (h := ?_)
      refine p_move (h := ?_)
      iterate 2 (refine p_guardNo (h := ?_))
      refine p_pick (h := ?_)
      refine p_move (h := ?_)
      iterate 5 (refine p_guardNo (h := ?_))
      refine p_pick (h := ?_)
      refine p_move (h := ?_)
      iterate 4 (refine p_guardNo (h := ?_))
      refine p_pick (h := ?_)
      refine p_end ?_
      refine p_condT (h := ?_)
      refine p_seq (p_region fun hf => ?_)
      refine p_assign (h := ?_)
      refine p_end ?_
      refine TrC.ret ?_
      refine p_ret1 (hp := by simp [procsRightB, headB, hb18, hb22])
    · -- slot 22 is false
      refine p_guardYes (h := ?_)
      refine p_move (h := ?_)
      refine p_guardYes (h := ?_)
      refine p_num (h := ?_)
      refine p_pick (h := ?_)
      refine p_move (h := ?_)
      refine p_split (s := 26) (ht := fun hb26 => ?_) (hf := fun hb26 => ?_)
      · -- slot 26 is true
        iterate 5 (refine p_guardNo (h := ?_))
        refine p_pick (h := ?_)
        refine p_move (h := ?_)
        iterate 5 (refine p_guardNo (h := ?_))
        refine p_pick (h := ?_)
        refine p_move (h := ?_)
        iterate 2 (refine p_guardNo (h := ?_))
        refine p_pick (h := ?_)
        refine p_move (h := ?_)
        iterate 5 (refine p_guardNo (h := ?_))
        refine p_pick (h := ?_)
        refine p_move (h := ?_)
        iterate 4 (refine p_guardNo (h := ?_))
        refine p_pick (h := ?_)
        refine p_end ?_
        refine p_condT (h := ?_)
        refine p_seq (p_region fun hf => ?_)
        refine p_assign (h := ?_)
        refine p_end ?_
        refine TrC.ret ?_
        refine p_ret1 (hp := by simp [procsRightB, headB, hb18, hb22, hb26])
      · -- slot 26 is false
        refine p_guardYes (h := ?_)
        (first | refine p_fieldPtr (hf := F.fld29_2) (h := ?_) | refine p_fieldRef (hf := F.fld29_2) (h := ?_) | refine p_fieldRow (hf := F.fld29_2) (h := ?_))
        refine p_guardYes (h := ?_)
        (first | refine p_load (ht := F.leaf23) (h := ?_) | refine p_loadRef (ht := F.leaf23) (h := ?_))
        refine p_guardYes (h := ?_)
        refine p_len (ht := Try.underlying23) (h := ?_)
        refine p_guardYes (h := ?_)
        refine p_move (h := ?_)
        refine p_guardYes (h := ?_)
        refine p_num (h := ?_)
        refine p_pick (h := ?_)
        refine p_move (h := ?_)
        refine p_split (s := 33) (ht := fun hb33 => ?_) (hf := fun hb33 => ?_)
        · -- slot 33 is true
          iterate 5 (refine p_guardNo (h := ?_))
          refine p_pick (h := ?_)
          refine p_move (h := ?_)
          iterate 2 (refine p_guardNo (h := ?_))
          refine p_pick (h := ?_)
          refine p_move (h := ?_)
          iterate 5 (refine p_guardNo (h := ?_))
          refine p_pick (h := ?_)
          refine p_move (h := ?_)
          iterate 4 (refine p_guardNo (h := ?_))
          refine p_pick (h := ?_)
          refine p_end ?_
          refine p_condT (h := ?_)
          refine p_seq (p_region fun hf => ?_)
          refine p_assign (h := ?_)
          refine p_end ?_
          refine TrC.ret ?_
          refine p_ret1 (hp := by simp [procsRightB, headB, hb18, hb22, hb26, hb33])
        · -- slot 33 is false
          refine p_guardYes (h := ?_)
          (first | refine p_fieldPtr (hf := F.fld29_3) (h := ?_) | refine p_fieldRef (hf := F.fld29_3) (h := ?_) | refine p_fieldRow (hf := F.fld29_3) (h := ?_))
          refine p_guardYes (h := ?_)
          (first | refine p_load (ht := F.leaf23) (h := ?_) | refine p_loadRef (ht := F.leaf23) (h := ?_))
          refine p_guardYes (h := ?_)
          refine p_len (ht := Try.underlying23) (h := ?_)
          refine p_guardYes (h := ?_)
          refine p_move (h := ?_)
          refine p_guardYes (h := ?_)
          refine p_num (h := ?_)
          refine p_pick (h := ?_)
          refine p_move (h := ?_)
          refine p_split (s := 40) (ht := fun hb40 => ?_) (hf := fun hb40 => ?_)
          · -- slot 40 is true
            iterate 2 (refine p_guardNo (h := ?_))
            refine p_pick (h := ?_)
            refine p_move (h := ?_)
            iterate 5 (refine p_guardNo (h := ?_))
            refine p_pick (h := ?_)
            refine p_move (h := ?_)
            iterate 4 (refine p_guardNo (h := ?_))
            refine p_pick (h := ?_)
            refine p_end ?_
            refine p_condT (h := ?_)
            refine p_seq (p_region fun hf => ?_)
            refine p_assign (h := ?_)
            refine p_end ?_
            refine TrC.ret ?_
            refine p_ret1 (hp := by simp [procsRightB, headB, hb18, hb22, hb26, hb33, hb40])
          · -- slot 40 is false
            refine p_guardYes (h := ?_)
            refine p_move (h := ?_)
            refine p_guardYes (h := ?_)
            refine p_num (h := ?_)
            refine p_pick (h := ?_)
            refine p_move (h := ?_)
            refine p_split (s := 44) (ht := fun hb44 => ?_) (hf := fun hb44 => ?_)
            · -- slot 44 is true
              iterate 5 (refine p_guardNo (h := ?_))
              refine p_pick (h := ?_)
              refine p_move (h := ?_)
              iterate 4 (refine p_guardNo (h := ?_))
              refine p_pick (h := ?_)
              refine p_end ?_
              refine p_condT (h := ?_)
              refine p_seq (p_region fun hf => ?_)
              refine p_assign (h := ?_)
              refine p_end ?_
              refine TrC.ret ?_
              refine p_ret1 (hp := by simp [procsRightB, headB, hb18, hb22, hb26, hb33, hb40, hb44])
            · -- slot 44 is false
              refine p_guardYes (h := ?_)
              (first | refine p_fieldPtr (hf := F.fld29_4) (h := ?_) | refine p_fieldRef (hf := F.fld29_4) (h := ?_) | refine p_fieldRow (hf := F.fld29_4) (h := ?_))
              refine p_guardYes (h := ?_)
              (first | refine p_load (ht := F.leaf3) (h := ?_) | refine p_loadRef (ht := F.leaf3) (h := ?_))
              refine p_guardYes (h := ?_)
              refine p_move (h := ?_)
              refine p_guardYes (h := ?_)
              refine p_call (hx := rfl) (hb := ⟨Try.func56, by kernel_rfl, rfl⟩) (hf := in21 _ _) (h := ?_)
              refine p_guardYes (h := ?_)
              refine p_not (h := ?_)
              refine p_pick (h := ?_)
              refine p_move (h := ?_)
              refine p_split (s := 51) (ht := fun hb51 => ?_) (hf := fun hb51 => ?_)
              · -- slot 51 is true
                iterate 4 (refine p_guardNo (h := ?_))
                refine p_pick (h := ?_)
                refine p_end ?_
                refine p_condT (h := ?_)
                refine p_seq (p_region fun hf => ?_)
                refine p_assign (h := ?_)
                refine p_end ?_
                refine TrC.ret ?_
                refine p_ret1 (hp := by simp [procsRightB, headB, hb18, hb22, hb26, hb33, hb40, hb44, hb51])
              · -- slot 51 is false
                refine p_guardYes (h := ?_)
                (first | refine p_fieldPtr (hf := F.fld29_7) (h := ?_) | refine p_fieldRef (hf := F.fld29_7) (h := ?_) | refine p_fieldRow (hf := F.fld29_7) (h := ?_))
                refine p_guardYes (h := ?_)
                (first | refine p_load (ht := F.leaf25) (h := ?_) | refine p_loadRef (ht := F.leaf25) (h := ?_))
                refine p_guardYes (h := ?_)
                refine p_len (ht := Try.underlying25) (h := ?_)
                refine p_guardYes (h := ?_)
                refine p_num (h := ?_)
                refine p_pick (h := ?_)
                refine p_end ?_
                refine p_splitC (s := 56) (ht := fun hc56 => ?_) (hf := fun hc56 => ?_)
                · refine p_condT (h := ?_)
                  refine p_seq (p_region fun hf => ?_)
                  refine p_assign (h := ?_)
                  refine p_end ?_
                  refine TrC.ret ?_
                  refine p_ret1 (hp := by rw [heads_many hc56])
                · refine p_condF (h := ?_)
                  refine p_skip ?_
                  refine p_seq ?_
                  refine p_seq (p_region fun hf => ?_)
                  refine p_assign (h := ?_)
                  refine p_end ?_
                  refine TrC.block ?_
                  refine p_loop (fun st => ∃ i : Nat, i ≤ G.of.length ∧ (∀ j (hj : j < G.of.length), j < i → (!inB G.of[j] G.procs.length) = false) ∧ st.env 1 = .ptr (0 + 1) 1 0 ∧ st.env 3 = iV G.procs.length ∧ st.env 4 = iV G.of.length ∧ st.env 5 = iV i ∧ st.obj (0 + 1) 1 = .cells 29 (graphL G)) (fun st => G.of.length - (st.env 5).toN) ?_ fun e ob g1 hI => ?_
                  · exact ⟨0, by omega, fun j hj h => by omega, eV_, eV_, eV_, eV_, oB_⟩
                  · obtain ⟨i, hi, qi, a1, a3, a4, a5, ao⟩ := hI
                    dsimp only at a1 a3 a4 a5 ao
                    have hE := (⟨a1, a3, a4, a5, ao⟩ : _ ∧ _ ∧ _ ∧ _ ∧ _)
                    refine p_seq ?_
                    refine p_seq (p_region fun hf => ?_)
                    refine p_move (h := ?_)
                    refine p_move (h := ?_)
                    refine p_num (h := ?_)
                    refine p_end ?_
                    refine p_splitC (s := 59) (ht := fun hc59 => ?_) (hf := fun hc59 => ?_)
                    · refine p_condT (h := ?_)
                      have hlti : i < G.of.length := by simpa using hc59
                      have hbn : G.of.length ≤ 4096 := by simp at hb44; omega
                      refine p_skip ?_
                      refine p_seq ?_
                      refine TrC.block ?_
                      refine p_seq (p_region fun hf => ?_)
                      (first | refine p_fieldPtr (hf := F.fld29_5) (h := ?_) | refine p_fieldRef (hf := F.fld29_5) (h := ?_) | refine p_fieldRow (hf := F.fld29_5) (h := ?_))
                      (first | refine p_load (ht := F.leaf23) (h := ?_) | refine p_loadRef (ht := F.leaf23) (h := ?_))
                      refine p_move (h := ?_)
                      refine p_idxMap (j := i) (ht := Try.underlying23) (hi := F.ti3) (hij := rfl) (hj := hlti) (h := ?_)
                      (first | refine p_load (ht := F.leaf3) (h := ?_) | refine p_loadRef (ht := F.leaf3) (h := ?_))
                      refine p_move (h := ?_)
                      refine p_call (hx := rfl) (hb := ⟨Try.func56, by kernel_rfl, rfl⟩) (hf := in21 _ _) (h := ?_)
                      refine p_not (h := ?_)
                      refine p_end ?_
                      refine p_splitC (s := 69) (ht := fun hc69 => ?_) (hf := fun hc69 => ?_)
                      · refine p_condT (h := ?_)
                        refine p_seq (p_region fun hf => ?_)
                        refine p_assign (h := ?_)
                        refine p_end ?_
                        refine TrC.ret ?_
                        refine p_ret1 (hp := by rw [heads_of hlti hc69])
                      · refine p_condF (h := ?_)
                        refine p_skip ?_
                        refine p_region fun hf => ?_
                        refine p_move (h := ?_)
                        refine p_add (r := ((i + 1 : Nat) : Int)) (hr := by omega) (hb := by omega) (h := ?_)
                        refine p_assign (h := ?_)
                        refine p_end ?_
                        refine p_some ?_
                        refine ⟨⟨i + 1, hlti, fun z hy hz => ?_, eV_, eV_, eV_, eV_, oB_⟩, ?_⟩
                        · rcases Nat.lt_succ_iff_lt_or_eq.1 hz with h | h
                          · exact qi z hy h
                          · subst h; exact hc69
                        · simp (decide := true) only [upd, a5, V.toN, ↓reduceIte]; omega
                    · refine p_condF (h := ?_)
                      refine p_exit ?_
                      refine p_seq ?_
                      refine p_seq (p_region fun hf => ?_)
                      refine p_assign (h := ?_)
                      refine p_end ?_
                      refine TrC.block ?_
                      refine p_loop (fun st => ∃ j : Nat, j ≤ G.procs.length ∧ (∀ z, z < j → rightAt G z = true) ∧ st.env 1 = .ptr (0 + 1) 1 0 ∧ st.env 3 = iV G.procs.length ∧ st.env 4 = iV G.of.length ∧ st.env 6 = iV j ∧ st.obj (0 + 1) 1 = .cells 29 (graphL G)) (fun st => G.procs.length - (st.env 6).toN) ?_ fun e ob g2 hI => ?_
                      · exact ⟨0, by omega, fun j h => by omega, eV_, eV_, eV_, eV_, oB_⟩
                      · obtain ⟨j, hj, qj, b1, b3, b4, b6, bo⟩ := hI
                        dsimp only at b1 b3 b4 b6 bo
                        have hE := (⟨b1, b3, b4, b6, bo⟩ : _ ∧ _ ∧ _ ∧ _ ∧ _)
                        refine p_seq ?_
                        refine p_seq (p_region fun hf => ?_)
                        refine p_move (h := ?_)
                        refine p_move (h := ?_)
                        refine p_num (h := ?_)
                        refine p_end ?_
                        refine p_splitC (s := 72) (ht := fun hc72 => ?_) (hf := fun hc72 => ?_)
                        · refine p_condT (h := ?_)
                          have hltj : j < G.procs.length := by simpa using hc72
                          have hbp : G.procs.length ≤ 1024 := by simp at hb26; omega
                          have he : j < G.entry.length := by simp at hb33; omega
                          have hx : j < G.exit.length := by simp at hb40; omega
                          refine p_skip ?_
                          refine p_seq ?_
                          refine TrC.block ?_
                          refine p_seq (p_draw F.mixed fun hf => ?_)
                          (first | refine p_fieldPtr (hf := F.fld29_2) (h := ?_) | refine p_fieldRef (hf := F.fld29_2) (h := ?_) | refine p_fieldRow (hf := F.fld29_2) (h := ?_))
                          (first | refine p_load (ht := F.leaf23) (h := ?_) | refine p_loadRef (ht := F.leaf23) (h := ?_))
                          refine p_move (h := ?_)
                          refine p_idxMap (j := j) (ht := Try.underlying23) (hi := F.ti3) (hij := rfl) (hj := he) (h := ?_)
                          rw [entry_eq he]
                          (first | refine p_load (ht := F.leaf3) (h := ?_) | refine p_loadRef (ht := F.leaf3) (h := ?_))
                          refine p_move (h := ?_)
                          refine p_call (hx := rfl) (hb := ⟨Try.func56, by kernel_rfl, rfl⟩) (hf := in21 _ _) (h := ?_)
                          refine p_not (h := ?_)
                          refine p_move (h := ?_)
                          refine p_split (s := 83) (ht := fun hb83 => ?_) (hf := fun hb83 => ?_)
                          · -- slot 83 is true
                            iterate 8 (refine p_guardNo (h := ?_))
                            refine p_pick (h := ?_)
                            refine p_move (h := ?_)
                            iterate 11 (refine p_guardNo (h := ?_))
                            refine p_pick (h := ?_)
                            refine p_move (h := ?_)
                            iterate 11 (refine p_guardNo (h := ?_))
                            refine p_pick (h := ?_)
                            refine p_endD ?_
                            refine p_condT (h := ?_)
                            refine p_seq (p_region fun hf => ?_)
                            refine p_assign (h := ?_)
                            refine p_end ?_
                            refine TrC.ret ?_
                            refine p_ret1 (hp := by rw [procs_bad hltj (right_bad (.inl (by simp only [okNode, (by simpa using hb83 : inB (entryAt G j) G.of.length = false), Bool.false_and])))])
                          · -- slot 83 is false
                            refine p_guardYes (h := ?_)
                            (first | refine p_fieldPtr (hf := F.fld29_3) (h := ?_) | refine p_fieldRef (hf := F.fld29_3) (h := ?_) | refine p_fieldRow (hf := F.fld29_3) (h := ?_))
                            refine p_guardYes (h := ?_)
                            (first | refine p_load (ht := F.leaf23) (h := ?_) | refine p_loadRef (ht := F.leaf23) (h := ?_))
                            refine p_guardYes (h := ?_)
                            refine p_move (h := ?_)
                            refine p_guardYes (h := ?_)
                            refine p_idxMap (j := j) (ht := Try.underlying23) (hi := F.ti3) (hij := rfl) (hj := hx) (h := ?_)
                            rw [exit_eq hx]
                            refine p_guardYes (h := ?_)
                            (first | refine p_load (ht := F.leaf3) (h := ?_) | refine p_loadRef (ht := F.leaf3) (h := ?_))
                            refine p_guardYes (h := ?_)
                            refine p_move (h := ?_)
                            refine p_guardYes (h := ?_)
                            refine p_call (hx := rfl) (hb := ⟨Try.func56, by kernel_rfl, rfl⟩) (hf := in21 _ _) (h := ?_)
                            refine p_guardYes (h := ?_)
                            refine p_not (h := ?_)
                            refine p_pick (h := ?_)
                            refine p_move (h := ?_)
                            refine p_split (s := 93) (ht := fun hb93 => ?_) (hf := fun hb93 => ?_)
                            · -- slot 93 is true
                              iterate 11 (refine p_guardNo (h := ?_))
                              refine p_pick (h := ?_)
                              refine p_move (h := ?_)
                              iterate 11 (refine p_guardNo (h := ?_))
                              refine p_pick (h := ?_)
                              refine p_endD ?_
                              refine p_condT (h := ?_)
                              refine p_seq (p_region fun hf => ?_)
                              refine p_assign (h := ?_)
                              refine p_end ?_
                              refine TrC.ret ?_
                              refine p_ret1 (hp := by rw [procs_bad hltj (right_bad (.inr (by simp only [okNode, (by simpa using hb93 : inB (exitAt G j) G.of.length = false), Bool.false_and])))])
                            · -- slot 93 is false
                              refine p_guardYes (h := ?_)
                              (first | refine p_fieldPtr (hf := F.fld29_5) (h := ?_) | refine p_fieldRef (hf := F.fld29_5) (h := ?_) | refine p_fieldRow (hf := F.fld29_5) (h := ?_))
                              refine p_guardYes (h := ?_)
                              (first | refine p_load (ht := F.leaf23) (h := ?_) | refine p_loadRef (ht := F.leaf23) (h := ?_))
                              refine p_guardYes (h := ?_)
                              (first | refine p_fieldPtr (hf := F.fld29_2) (h := ?_) | refine p_fieldRef (hf := F.fld29_2) (h := ?_) | refine p_fieldRow (hf := F.fld29_2) (h := ?_))
                              refine p_guardYes (h := ?_)
                              (first | refine p_load (ht := F.leaf23) (h := ?_) | refine p_loadRef (ht := F.leaf23) (h := ?_))
                              refine p_guardYes (h := ?_)
                              refine p_move (h := ?_)
                              refine p_guardYes (h := ?_)
                              refine p_idxMap (j := j) (ht := Try.underlying23) (hi := F.ti3) (hij := rfl) (hj := he) (h := ?_)
                              rw [entry_eq he]
                              refine p_guardYes (h := ?_)
                              (first | refine p_load (ht := F.leaf3) (h := ?_) | refine p_loadRef (ht := F.leaf3) (h := ?_))
                              refine p_guardYes (h := ?_)
                              refine p_idxMap (j := (entryAt G j).toNat) (ht := Try.underlying23) (hi := F.ti3) (hij := inB_nat hb83) (hj := inB_lt hb83) (h := ?_)
                              rw [ofAt_eq (inB_lt hb83)]
                              refine p_guardYes (h := ?_)
                              (first | refine p_load (ht := F.leaf3) (h := ?_) | refine p_loadRef (ht := F.leaf3) (h := ?_))
                              refine p_guardYes (h := ?_)
                              refine p_move (h := ?_)
                              refine p_guardYes (h := ?_)
                              refine p_num (h := ?_)
                              refine p_pick (h := ?_)
                              refine p_move (h := ?_)
                              refine p_split (s := 106) (ht := fun hb106 => ?_) (hf := fun hb106 => ?_)
                              · -- slot 106 is true
                                iterate 11 (refine p_guardNo (h := ?_))
                                refine p_pick (h := ?_)
                                refine p_endD ?_
                                refine p_condT (h := ?_)
                                refine p_seq (p_region fun hf => ?_)
                                refine p_assign (h := ?_)
                                refine p_end ?_
                                refine TrC.ret ?_
                                refine p_ret1 (hp := by rw [procs_bad hltj (right_bad (.inl (by simp [okNode]; intro _; simpa using hb106)))])
                              · -- slot 106 is false
                                refine p_guardYes (h := ?_)
                                (first | refine p_fieldPtr (hf := F.fld29_5) (h := ?_) | refine p_fieldRef (hf := F.fld29_5) (h := ?_) | refine p_fieldRow (hf := F.fld29_5) (h := ?_))
                                refine p_guardYes (h := ?_)
                                (first | refine p_load (ht := F.leaf23) (h := ?_) | refine p_loadRef (ht := F.leaf23) (h := ?_))
                                refine p_guardYes (h := ?_)
                                (first | refine p_fieldPtr (hf := F.fld29_3) (h := ?_) | refine p_fieldRef (hf := F.fld29_3) (h := ?_) | refine p_fieldRow (hf := F.fld29_3) (h := ?_))
                                refine p_guardYes (h := ?_)
                                (first | refine p_load (ht := F.leaf23) (h := ?_) | refine p_loadRef (ht := F.leaf23) (h := ?_))
                                refine p_guardYes (h := ?_)
                                refine p_move (h := ?_)
                                refine p_guardYes (h := ?_)
                                refine p_idxMap (j := j) (ht := Try.underlying23) (hi := F.ti3) (hij := rfl) (hj := hx) (h := ?_)
                                rw [exit_eq hx]
                                refine p_guardYes (h := ?_)
                                (first | refine p_load (ht := F.leaf3) (h := ?_) | refine p_loadRef (ht := F.leaf3) (h := ?_))
                                refine p_guardYes (h := ?_)
                                refine p_idxMap (j := (exitAt G j).toNat) (ht := Try.underlying23) (hi := F.ti3) (hij := inB_nat hb93) (hj := inB_lt hb93) (h := ?_)
                                rw [ofAt_eq (inB_lt hb93)]
                                refine p_guardYes (h := ?_)
                                (first | refine p_load (ht := F.leaf3) (h := ?_) | refine p_loadRef (ht := F.leaf3) (h := ?_))
                                refine p_guardYes (h := ?_)
                                refine p_move (h := ?_)
                                refine p_guardYes (h := ?_)
                                refine p_num (h := ?_)
                                refine p_pick (h := ?_)
                                refine p_endD ?_
                                refine p_splitC (s := 118) (ht := fun hc118 => ?_) (hf := fun hc118 => ?_)
                                · refine p_condT (h := ?_)
                                  refine p_seq (p_region fun hf => ?_)
                                  refine p_assign (h := ?_)
                                  refine p_end ?_
                                  refine TrC.ret ?_
                                  refine p_ret1 (hp := by rw [procs_bad hltj (right_bad (.inr (by simp [okNode]; intro _; simpa using hc118)))])
                                · refine p_condF (h := ?_)
                                  have hright : rightAt G j = true := by simp only [rightAt, okN hb83 hb106, okN hb93 hc118, Bool.true_and]
                                  refine p_skip ?_
                                  refine p_region fun hf => ?_
                                  refine p_move (h := ?_)
                                  refine p_add (r := ((j + 1 : Nat) : Int)) (hr := by omega) (hb := by omega) (h := ?_)
                                  refine p_assign (h := ?_)
                                  refine p_end ?_
                                  refine p_some ?_
                                  refine ⟨⟨j + 1, hltj, fun z hz => ?_, eV_, eV_, eV_, eV_, oB_⟩, ?_⟩
                                  · rcases Nat.lt_succ_iff_lt_or_eq.1 hz with h | h
                                    · exact qj z h
                                    · subst h; exact hright
                                  · simp (decide := true) only [upd, b6, V.toN, ↓reduceIte]; omega
                        · refine p_condF (h := ?_)
                          refine p_exit ?_
                          refine p_seq ?_
                          refine p_seq (p_region fun hf => ?_)
                          refine p_assign (h := ?_)
                          refine p_end ?_
                          refine TrC.block ?_
                          refine p_loop (fun st => ∃ k : Nat, k ≤ G.sites.length ∧ (∀ j (hj : j < G.sites.length), j < k → (!inB G.sites[j].proc G.procs.length) = false) ∧ st.env 1 = .ptr (0 + 1) 1 0 ∧ st.env 3 = iV G.procs.length ∧ st.env 4 = iV G.of.length ∧ st.env 7 = iV k ∧ st.obj (0 + 1) 1 = .cells 29 (graphL G)) (fun st => G.sites.length - (st.env 7).toN) ?_ fun e ob g3 hI => ?_
                          · exact ⟨0, by omega, fun j hj h => by omega, eV_, eV_, eV_, eV_, oB_⟩
                          · obtain ⟨k, hk, qk, c1, c3, c4, c7, co⟩ := hI
                            dsimp only at c1 c3 c4 c7 co
                            have hE := (⟨c1, c3, c4, c7, co⟩ : _ ∧ _ ∧ _ ∧ _ ∧ _)
                            refine p_seq ?_
                            refine p_seq (p_region fun hf => ?_)
                            refine p_move (h := ?_)
                            (first | refine p_fieldPtr (hf := F.fld29_7) (h := ?_) | refine p_fieldRef (hf := F.fld29_7) (h := ?_) | refine p_fieldRow (hf := F.fld29_7) (h := ?_))
                            (first | refine p_load (ht := F.leaf25) (h := ?_) | refine p_loadRef (ht := F.leaf25) (h := ?_))
                            refine p_len (ht := Try.underlying25) (h := ?_)
                            refine p_num (h := ?_)
                            refine p_end ?_
                            refine p_splitC (s := 123) (ht := fun hc123 => ?_) (hf := fun hc123 => ?_)
                            · refine p_condT (h := ?_)
                              have hltk : k < G.sites.length := by simpa using hc123
                              refine p_skip ?_
                              refine p_seq ?_
                              refine TrC.block ?_
                              refine p_seq (p_region fun hf => ?_)
                              (first | refine p_fieldPtr (hf := F.fld29_7) (h := ?_) | refine p_fieldRef (hf := F.fld29_7) (h := ?_) | refine p_fieldRow (hf := F.fld29_7) (h := ?_))
                              (first | refine p_load (ht := F.leaf25) (h := ?_) | refine p_loadRef (ht := F.leaf25) (h := ?_))
                              refine p_move (h := ?_)
                              refine p_idxMap (j := k) (ht := Try.underlying25) (hi := F.ti54) (hij := rfl) (hj := hltk) (h := ?_)
                              (first | refine p_fieldPtr (hf := F.fld54_1) (h := ?_) | refine p_fieldRef (hf := F.fld54_1) (h := ?_) | refine p_fieldRow (hf := F.fld54_1) (h := ?_))
                              (first | refine p_load (ht := F.leaf3) (h := ?_) | refine p_loadRef (ht := F.leaf3) (h := ?_))
                              refine p_move (h := ?_)
                              refine p_call (hx := rfl) (hb := ⟨Try.func56, by kernel_rfl, rfl⟩) (hf := in21 _ _) (h := ?_)
                              refine p_not (h := ?_)
                              refine p_end ?_
                              refine p_splitC (s := 134) (ht := fun hc134 => ?_) (hf := fun hc134 => ?_)
                              · refine p_condT (h := ?_)
                                refine p_seq (p_region fun hf => ?_)
                                refine p_assign (h := ?_)
                                refine p_end ?_
                                refine TrC.ret ?_
                                refine p_ret1 (hp := by rw [heads_site hltk hc134])
                              · refine p_condF (h := ?_)
                                refine p_skip ?_
                                refine p_region fun hf => ?_
                                refine p_move (h := ?_)
                                refine p_add (r := ((k + 1 : Nat) : Int)) (hr := by omega) (hb := by omega) (h := ?_)
                                refine p_assign (h := ?_)
                                refine p_end ?_
                                refine p_some ?_
                                refine ⟨⟨k + 1, hltk, fun z hy hz => ?_, eV_, eV_, eV_, eV_, oB_⟩, ?_⟩
                                · rcases Nat.lt_succ_iff_lt_or_eq.1 hz with h | h
                                  · exact qk z hy h
                                  · subst h; exact hc134
                                · simp (decide := true) only [upd, c7, V.toN, ↓reduceIte]; omega
                            · refine p_condF (h := ?_)
                              refine p_exit ?_
                              refine p_seq (p_region fun hf => ?_)
                              refine p_assign (h := ?_)
                              refine p_end ?_
                              refine TrC.ret ?_
                              refine p_ret1 (hp := by rw [heads_all (by simp only [headB, hb18, hb22, hb26, hb33, hb40, hb44, hb51, Bool.or_false]) (fun z hz => qi z hz (by simp at hc59; omega)) (fun z hz => qj z (by simp at hc72; omega)) hc56 (fun z hz => qk z hz (by simp at hc123; omega))])

end Go.Proofs.Ytfjciangbmjlmaa
