/-
  The reference's Check of graphs, walked: it answers as graph.Check.
-/
import Derived.Test.YtfjciangbmjlmaaGo
set_option linter.unusedSimpArgs false
set_option linter.unusedVariables false
namespace Go.Proofs.Ytfjciangbmjlmaa
open Go.RowKit
theorem chk_false {G : Graph} (h : checkB G = false) : checkE G = 213 := by simp [checkE, h]
theorem chk_step {G : Graph} {i c : Nat} (hlt : i < G.steps.length) (hS : ScanAt G i c true) (h : (stepRightB G G.steps[i] && (!decide (G.steps[i].kind = 8) || decide (G.steps[i].site = c))) = false) : checkE G = 213 := by
  have h1 := scan_step (ok' := false) hlt rfl hS h.symm rfl
  exact chk_false (by rw [check_fin h1 (fun h => by cases h)]; rfl)
theorem chk_end {G : Graph} {c : Nat} (hS : ScanAt G G.steps.length c true) : checkB G = (decide ((c : Int) = G.sites.length) && !(G.points.any fun p => !inB p.node G.of.length) && !(G.sinks.any fun p => !inB p.node G.of.length || !inB p.x G.vars.length)) := by
  rw [check_fin hS (fun _ => rfl), Bool.true_and]
theorem any_bad {α : Type} {p : α → Bool} {l : List α} {i : Nat} (hi : i < l.length) (h : p l[i] = true) : l.any p = true := List.any_eq_true.2 ⟨_, List.getElem_mem hi, h⟩
theorem any_good {α : Type} {p : α → Bool} {l : List α} (h : ∀ j (hj : j < l.length), p l[j] = false) : l.any p = false := by
  rw [List.any_eq_false]; intro x hx
  obtain ⟨j, hj, rfl⟩ := List.mem_iff_getElem.1 hx
  rw [h j hj]; simp

theorem check21 (G : Graph) (h1 : G.steps.length ≤ 1000000000) (h2 : G.points.length ≤ 1000000000) (h3 : G.sinks.length ≤ 1000000000) (h4 : G.sites.length ≤ 1000000000) : FnC Try.prog 30 [graphV G] (fun r => r = iV (checkE G)) := by
  refine FnC.of (fn := Try.f30) ⟨Try.func30, by kernel_rfl, rfl⟩ Try.ntmps30 (by simp) fun w0 S0 => ?_
  refine p_seq (p_region fun hf => ?_)
  refine p_box (h := ?_)
  refine p_assign (h := ?_)
  refine p_end ?_
  refine p_seq ?_
  refine p_seq (p_region fun hf => ?_)
  (first | refine p_loadA (ht := F.agg29) (hi := F.ti29) (h := ?_) | refine p_loadRefA (ht := F.agg29) (hi := F.ti29) (h := ?_))
  refine p_call (hx := rfl) (hb := ⟨Try.func54, by kernel_rfl, rfl⟩) (hf := heads21 G h4) (h := ?_)
  refine p_not (h := ?_)
  refine p_end ?_
  refine p_splitC (s := 9) (ht := fun hc9 => ?_) (hf := fun hc9 => ?_)
  · refine p_condT (h := ?_)
    refine p_seq (p_region fun hf => ?_)
    refine p_assign (h := ?_)
    refine p_end ?_
    refine TrC.ret ?_
    refine p_ret1 (hp := by rw [chk_false (by simp only [Bool.not_eq_true'] at hc9; simp [checkB, hc9])])
  · refine p_condF (h := ?_)
    refine p_skip ?_
    refine p_seq (p_region fun hf => ?_)
    refine p_assign (h := ?_)
    refine p_end ?_
    refine p_seq ?_
    refine p_seq (p_region fun hf => ?_)
    refine p_assign (h := ?_)
    refine p_end ?_
    refine TrC.block ?_
    refine p_loop (fun st => ∃ (i c : Nat), i ≤ G.steps.length ∧ ScanAt G i c true ∧ st.env 1 = .ptr (0 + 1) 1 0 ∧ st.env 3 = iV c ∧ st.env 4 = iV i ∧ st.obj (0 + 1) 1 = .cells 29 (graphL G)) (fun st => G.steps.length - (st.env 4).toN) ?_ fun e ob g1 hI => ?_
    · exact ⟨0, 0, by omega, by have h := scan_start G; simp only [Bool.not_eq_false'] at hc9; rwa [hc9] at h, eV_, eV_, eV_, oB_⟩
    · obtain ⟨i, c, hi, hS, a1, a3, a4, ao⟩ := hI
      dsimp only at a1 a3 a4 ao
      have hE := (⟨a1, a3, a4, ao⟩ : _ ∧ _ ∧ _ ∧ _)
      have hci := hS.1
      refine p_seq ?_
      refine p_seq (p_region fun hf => ?_)
      refine p_move (h := ?_)
      (first | refine p_fieldPtr (hf := F.fld29_6) (h := ?_) | refine p_fieldRef (hf := F.fld29_6) (h := ?_) | refine p_fieldRow (hf := F.fld29_6) (h := ?_))
      (first | refine p_load (ht := F.leaf24) (h := ?_) | refine p_loadRef (ht := F.leaf24) (h := ?_))
      refine p_len (ht := Try.underlying24) (h := ?_)
      refine p_num (h := ?_)
      refine p_end ?_
      refine p_splitC (s := 14) (ht := fun hc14 => ?_) (hf := fun hc14 => ?_)
      · refine p_condT (h := ?_)
        have hlti : i < G.steps.length := by simpa using hc14
        refine p_skip ?_
        refine p_seq ?_
        refine TrC.block ?_
        refine p_seq ?_
        refine p_seq (p_draw F.mixed fun hf => ?_)
        (first | refine p_loadA (ht := F.agg29) (hi := F.ti29) (h := ?_) | refine p_loadRefA (ht := F.agg29) (hi := F.ti29) (h := ?_))
        (first | refine p_fieldPtr (hf := F.fld29_6) (h := ?_) | refine p_fieldRef (hf := F.fld29_6) (h := ?_) | refine p_fieldRow (hf := F.fld29_6) (h := ?_))
        (first | refine p_load (ht := F.leaf24) (h := ?_) | refine p_loadRef (ht := F.leaf24) (h := ?_))
        refine p_move (h := ?_)
        refine p_idxMap (j := i) (ht := Try.underlying24) (hi := F.ti50) (hij := rfl) (hj := hlti) (h := ?_)
        (first | refine p_loadA (ht := F.agg50) (hi := F.ti50) (h := ?_) | refine p_loadRefA (ht := F.agg50) (hi := F.ti50) (h := ?_))
        refine p_call (hx := rfl) (hb := ⟨Try.func55, by kernel_rfl, rfl⟩) (hf := step21 G G.steps[i]) (h := ?_)
        refine p_not (h := ?_)
        refine p_endD ?_
        refine p_splitC (s := 24) (ht := fun hc24 => ?_) (hf := fun hc24 => ?_)
        · refine p_condT (h := ?_)
          refine p_seq (p_region fun hf => ?_)
          refine p_assign (h := ?_)
          refine p_end ?_
          refine TrC.ret ?_
          refine p_ret1 (hp := by rw [chk_step hlti hS (by simp at hc24; simp [hc24])])
        · refine p_condF (h := ?_)
          refine p_skip ?_
          refine p_seq (p_region fun hf => ?_)
          (first | refine p_fieldPtr (hf := F.fld29_6) (h := ?_) | refine p_fieldRef (hf := F.fld29_6) (h := ?_) | refine p_fieldRow (hf := F.fld29_6) (h := ?_))
          (first | refine p_load (ht := F.leaf24) (h := ?_) | refine p_loadRef (ht := F.leaf24) (h := ?_))
          refine p_move (h := ?_)
          refine p_idxMap (j := i) (ht := Try.underlying24) (hi := F.ti50) (hij := rfl) (hj := hlti) (h := ?_)
          (first | refine p_fieldPtr (hf := F.fld50_2) (h := ?_) | refine p_fieldRef (hf := F.fld50_2) (h := ?_) | refine p_fieldRow (hf := F.fld50_2) (h := ?_))
          (first | refine p_load (ht := F.leaf48) (h := ?_) | refine p_loadRef (ht := F.leaf48) (h := ?_))
          refine p_num (h := ?_)
          refine p_end ?_
          refine p_splitC (s := 31) (ht := fun hc31 => ?_) (hf := fun hc31 => ?_)
          · refine p_condT (h := ?_)
            refine p_seq ?_
            refine p_seq (p_region fun hf => ?_)
            (first | refine p_fieldPtr (hf := F.fld29_6) (h := ?_) | refine p_fieldRef (hf := F.fld29_6) (h := ?_) | refine p_fieldRow (hf := F.fld29_6) (h := ?_))
            (first | refine p_load (ht := F.leaf24) (h := ?_) | refine p_loadRef (ht := F.leaf24) (h := ?_))
            refine p_move (h := ?_)
            refine p_idxMap (j := i) (ht := Try.underlying24) (hi := F.ti50) (hij := rfl) (hj := hlti) (h := ?_)
            (first | refine p_fieldPtr (hf := F.fld50_6) (h := ?_) | refine p_fieldRef (hf := F.fld50_6) (h := ?_) | refine p_fieldRow (hf := F.fld50_6) (h := ?_))
            (first | refine p_load (ht := F.leaf3) (h := ?_) | refine p_loadRef (ht := F.leaf3) (h := ?_))
            refine p_move (h := ?_)
            refine p_num (h := ?_)
            refine p_end ?_
            refine p_splitC (s := 39) (ht := fun hc39 => ?_) (hf := fun hc39 => ?_)
            · refine p_condT (h := ?_)
              refine p_seq (p_region fun hf => ?_)
              refine p_assign (h := ?_)
              refine p_end ?_
              refine TrC.ret ?_
              refine p_ret1 (hp := by rw [chk_step hlti hS (by simp at hc39; simp [hc31, hc39])])
            · refine p_condF (h := ?_)
              refine p_skip ?_
              refine p_region fun hf => ?_
              refine p_move (h := ?_)
              refine p_add (r := ((c + 1 : Nat) : Int)) (hr := by omega) (hb := by omega) (h := ?_)
              refine p_assign (h := ?_)
              refine p_end ?_
              refine p_region fun hf => ?_
              refine p_move (h := ?_)
              refine p_add (r := ((i + 1 : Nat) : Int)) (hr := by omega) (hb := by omega) (h := ?_)
              refine p_assign (h := ?_)
              refine p_end ?_
              refine p_some ?_
              refine ⟨⟨i + 1, _, hlti, scan_step hlti rfl hS ?_ ?_, eV_, eV_, eV_, oB_⟩, ?_⟩
              · first | (simp at hc24 hc39; simp [hc24, hc31, hc39]; done) | (simp at hc24; simp [hc24, hc31]; done)
              · simp [hc31]
              · simp (decide := true) only [upd, a4, V.toN, ↓reduceIte]; omega
          · refine p_condF (h := ?_)
            refine p_skip ?_
            refine p_region fun hf => ?_
            refine p_move (h := ?_)
            refine p_add (r := ((i + 1 : Nat) : Int)) (hr := by omega) (hb := by omega) (h := ?_)
            refine p_assign (h := ?_)
            refine p_end ?_
            refine p_some ?_
            refine ⟨⟨i + 1, _, hlti, scan_step hlti rfl hS ?_ ?_, eV_, eV_, eV_, oB_⟩, ?_⟩
            · first | (simp at hc24 hc39; simp [hc24, hc31, hc39]; done) | (simp at hc24; simp [hc24, hc31]; done)
            · simp [hc31]
            · simp (decide := true) only [upd, a4, V.toN, ↓reduceIte]; omega
      · refine p_condF (h := ?_)
        have hend := chk_end (c := c) (by have hie : i = G.steps.length := (by simp at hc14; omega); rwa [hie] at hS)
        refine p_exit ?_
        refine p_seq ?_
        refine p_seq (p_region fun hf => ?_)
        refine p_move (h := ?_)
        (first | refine p_fieldPtr (hf := F.fld29_7) (h := ?_) | refine p_fieldRef (hf := F.fld29_7) (h := ?_) | refine p_fieldRow (hf := F.fld29_7) (h := ?_))
        (first | refine p_load (ht := F.leaf25) (h := ?_) | refine p_loadRef (ht := F.leaf25) (h := ?_))
        refine p_len (ht := Try.underlying25) (h := ?_)
        refine p_num (h := ?_)
        refine p_end ?_
        refine p_splitC (s := 46) (ht := fun hc46 => ?_) (hf := fun hc46 => ?_)
        · refine p_condT (h := ?_)
          refine p_seq (p_region fun hf => ?_)
          refine p_assign (h := ?_)
          refine p_end ?_
          refine TrC.ret ?_
          refine p_ret1 (hp := by rw [chk_false (by rw [hend]; simp at hc46; simp [hc46])])
        · refine p_condF (h := ?_)
          refine p_skip ?_
          refine p_seq ?_
          refine p_seq (p_region fun hf => ?_)
          refine p_assign (h := ?_)
          refine p_end ?_
          refine TrC.block ?_
          refine p_loop (fun st => ∃ k : Nat, k ≤ G.points.length ∧ (∀ j (hj : j < G.points.length), j < k → (!inB G.points[j].node G.of.length) = false) ∧ st.env 1 = .ptr (0 + 1) 1 0 ∧ st.env 5 = iV k ∧ st.obj (0 + 1) 1 = .cells 29 (graphL G)) (fun st => G.points.length - (st.env 5).toN) ?_ fun e ob g2 hI => ?_
          · exact ⟨0, by omega, fun j hj h => by omega, eV_, eV_, oB_⟩
          · obtain ⟨k, hk, qk, b1, b5, bo⟩ := hI
            dsimp only at b1 b5 bo
            have hE := (⟨b1, b5, bo⟩ : _ ∧ _ ∧ _)
            refine p_seq ?_
            refine p_seq (p_region fun hf => ?_)
            refine p_move (h := ?_)
            (first | refine p_fieldPtr (hf := F.fld29_8) (h := ?_) | refine p_fieldRef (hf := F.fld29_8) (h := ?_) | refine p_fieldRow (hf := F.fld29_8) (h := ?_))
            (first | refine p_load (ht := F.leaf26) (h := ?_) | refine p_loadRef (ht := F.leaf26) (h := ?_))
            refine p_len (ht := Try.underlying26) (h := ?_)
            refine p_num (h := ?_)
            refine p_end ?_
            refine p_splitC (s := 51) (ht := fun hc51 => ?_) (hf := fun hc51 => ?_)
            · refine p_condT (h := ?_)
              have hltk : k < G.points.length := by simpa using hc51
              refine p_skip ?_
              refine p_seq ?_
              refine TrC.block ?_
              refine p_seq (p_draw F.mixed fun hf => ?_)
              (first | refine p_fieldPtr (hf := F.fld29_8) (h := ?_) | refine p_fieldRef (hf := F.fld29_8) (h := ?_) | refine p_fieldRow (hf := F.fld29_8) (h := ?_))
              (first | refine p_load (ht := F.leaf26) (h := ?_) | refine p_loadRef (ht := F.leaf26) (h := ?_))
              refine p_move (h := ?_)
              refine p_idxMap (j := k) (ht := Try.underlying26) (hi := F.ti121) (hij := rfl) (hj := hltk) (h := ?_)
              (first | refine p_fieldPtr (hf := F.fld121_1) (h := ?_) | refine p_fieldRef (hf := F.fld121_1) (h := ?_) | refine p_fieldRow (hf := F.fld121_1) (h := ?_))
              (first | refine p_load (ht := F.leaf3) (h := ?_) | refine p_loadRef (ht := F.leaf3) (h := ?_))
              (first | refine p_fieldPtr (hf := F.fld29_5) (h := ?_) | refine p_fieldRef (hf := F.fld29_5) (h := ?_) | refine p_fieldRow (hf := F.fld29_5) (h := ?_))
              (first | refine p_load (ht := F.leaf23) (h := ?_) | refine p_loadRef (ht := F.leaf23) (h := ?_))
              refine p_len (ht := Try.underlying23) (h := ?_)
              refine p_call (hx := rfl) (hb := ⟨Try.func56, by kernel_rfl, rfl⟩) (hf := in21 _ _) (h := ?_)
              refine p_not (h := ?_)
              refine p_endD ?_
              refine p_splitC (s := 64) (ht := fun hc64 => ?_) (hf := fun hc64 => ?_)
              · refine p_condT (h := ?_)
                refine p_seq (p_region fun hf => ?_)
                refine p_assign (h := ?_)
                refine p_end ?_
                refine TrC.ret ?_
                refine p_ret1 (hp := by rw [chk_false (by rw [hend, any_bad hltk hc64]; simp)])
              · refine p_condF (h := ?_)
                refine p_skip ?_
                refine p_region fun hf => ?_
                refine p_move (h := ?_)
                refine p_add (r := ((k + 1 : Nat) : Int)) (hr := by omega) (hb := by omega) (h := ?_)
                refine p_assign (h := ?_)
                refine p_end ?_
                refine p_some ?_
                refine ⟨⟨k + 1, hltk, fun z hy hz => ?_, eV_, eV_, oB_⟩, ?_⟩
                · rcases Nat.lt_succ_iff_lt_or_eq.1 hz with h | h
                  · exact qk z hy h
                  · subst h; exact hc64
                · simp (decide := true) only [upd, b5, V.toN, ↓reduceIte]; omega
            · refine p_condF (h := ?_)
              refine p_exit ?_
              refine p_seq ?_
              refine p_seq (p_region fun hf => ?_)
              refine p_assign (h := ?_)
              refine p_end ?_
              refine TrC.block ?_
              refine p_loop (fun st => ∃ l : Nat, l ≤ G.sinks.length ∧ (∀ j (hj : j < G.sinks.length), j < l → (!inB G.sinks[j].node G.of.length || !inB G.sinks[j].x G.vars.length) = false) ∧ st.env 1 = .ptr (0 + 1) 1 0 ∧ st.env 6 = iV l ∧ st.obj (0 + 1) 1 = .cells 29 (graphL G)) (fun st => G.sinks.length - (st.env 6).toN) ?_ fun e ob g3 hI => ?_
              · exact ⟨0, by omega, fun j hj h => by omega, eV_, eV_, oB_⟩
              · obtain ⟨l, hl, ql, m1, m6, mo⟩ := hI
                dsimp only at m1 m6 mo
                have hE := (⟨m1, m6, mo⟩ : _ ∧ _ ∧ _)
                refine p_seq ?_
                refine p_seq (p_region fun hf => ?_)
                refine p_move (h := ?_)
                (first | refine p_fieldPtr (hf := F.fld29_9) (h := ?_) | refine p_fieldRef (hf := F.fld29_9) (h := ?_) | refine p_fieldRow (hf := F.fld29_9) (h := ?_))
                (first | refine p_load (ht := F.leaf27) (h := ?_) | refine p_loadRef (ht := F.leaf27) (h := ?_))
                refine p_len (ht := Try.underlying27) (h := ?_)
                refine p_num (h := ?_)
                refine p_end ?_
                refine p_splitC (s := 69) (ht := fun hc69 => ?_) (hf := fun hc69 => ?_)
                · refine p_condT (h := ?_)
                  have hltl : l < G.sinks.length := by simpa using hc69
                  refine p_skip ?_
                  refine p_seq ?_
                  refine TrC.block ?_
                  refine p_seq (p_draw F.mixed fun hf => ?_)
                  (first | refine p_fieldPtr (hf := F.fld29_9) (h := ?_) | refine p_fieldRef (hf := F.fld29_9) (h := ?_) | refine p_fieldRow (hf := F.fld29_9) (h := ?_))
                  (first | refine p_load (ht := F.leaf27) (h := ?_) | refine p_loadRef (ht := F.leaf27) (h := ?_))
                  refine p_move (h := ?_)
                  refine p_idxMap (j := l) (ht := Try.underlying27) (hi := F.ti126) (hij := rfl) (hj := hltl) (h := ?_)
                  (first | refine p_fieldPtr (hf := F.fld126_1) (h := ?_) | refine p_fieldRef (hf := F.fld126_1) (h := ?_) | refine p_fieldRow (hf := F.fld126_1) (h := ?_))
                  (first | refine p_load (ht := F.leaf3) (h := ?_) | refine p_loadRef (ht := F.leaf3) (h := ?_))
                  (first | refine p_fieldPtr (hf := F.fld29_5) (h := ?_) | refine p_fieldRef (hf := F.fld29_5) (h := ?_) | refine p_fieldRow (hf := F.fld29_5) (h := ?_))
                  (first | refine p_load (ht := F.leaf23) (h := ?_) | refine p_loadRef (ht := F.leaf23) (h := ?_))
                  refine p_len (ht := Try.underlying23) (h := ?_)
                  refine p_call (hx := rfl) (hb := ⟨Try.func56, by kernel_rfl, rfl⟩) (hf := in21 _ _) (h := ?_)
                  refine p_not (h := ?_)
                  refine p_move (h := ?_)
                  refine p_split (s := 83) (ht := fun hb83 => ?_) (hf := fun hb83 => ?_)
                  · -- slot 83 is true
                    iterate 11 (refine p_guardNo (h := ?_))
                    refine p_pick (h := ?_)
                    refine p_endD ?_
                    refine p_condT (h := ?_)
                    refine p_seq (p_region fun hf => ?_)
                    refine p_assign (h := ?_)
                    refine p_end ?_
                    refine TrC.ret ?_
                    refine p_ret1 (hp := by rw [chk_false (by rw [hend, any_bad hltl (by rw [hb83]; rfl)]; simp)])
                  · -- slot 83 is false
                    refine p_guardYes (h := ?_)
                    (first | refine p_fieldPtr (hf := F.fld29_9) (h := ?_) | refine p_fieldRef (hf := F.fld29_9) (h := ?_) | refine p_fieldRow (hf := F.fld29_9) (h := ?_))
                    refine p_guardYes (h := ?_)
                    (first | refine p_load (ht := F.leaf27) (h := ?_) | refine p_loadRef (ht := F.leaf27) (h := ?_))
                    refine p_guardYes (h := ?_)
                    refine p_move (h := ?_)
                    refine p_guardYes (h := ?_)
                    refine p_idxMap (j := l) (ht := Try.underlying27) (hi := F.ti126) (hij := rfl) (hj := hltl) (h := ?_)
                    refine p_guardYes (h := ?_)
                    (first | refine p_fieldPtr (hf := F.fld126_0) (h := ?_) | refine p_fieldRef (hf := F.fld126_0) (h := ?_) | refine p_fieldRow (hf := F.fld126_0) (h := ?_))
                    refine p_guardYes (h := ?_)
                    (first | refine p_load (ht := F.leaf3) (h := ?_) | refine p_loadRef (ht := F.leaf3) (h := ?_))
                    refine p_guardYes (h := ?_)
                    (first | refine p_fieldPtr (hf := F.fld29_0) (h := ?_) | refine p_fieldRef (hf := F.fld29_0) (h := ?_) | refine p_fieldRow (hf := F.fld29_0) (h := ?_))
                    refine p_guardYes (h := ?_)
                    (first | refine p_load (ht := F.leaf22) (h := ?_) | refine p_loadRef (ht := F.leaf22) (h := ?_))
                    refine p_guardYes (h := ?_)
                    refine p_len (ht := Try.underlying22) (h := ?_)
                    refine p_guardYes (h := ?_)
                    refine p_call (hx := rfl) (hb := ⟨Try.func56, by kernel_rfl, rfl⟩) (hf := in21 _ _) (h := ?_)
                    refine p_guardYes (h := ?_)
                    refine p_not (h := ?_)
                    refine p_pick (h := ?_)
                    refine p_endD ?_
                    refine p_splitC (s := 95) (ht := fun hc95 => ?_) (hf := fun hc95 => ?_)
                    · refine p_condT (h := ?_)
                      refine p_seq (p_region fun hf => ?_)
                      refine p_assign (h := ?_)
                      refine p_end ?_
                      refine TrC.ret ?_
                      refine p_ret1 (hp := by rw [chk_false (by rw [hend, any_bad hltl (by rw [hb83, hc95]; rfl)]; simp)])
                    · refine p_condF (h := ?_)
                      refine p_skip ?_
                      refine p_region fun hf => ?_
                      refine p_move (h := ?_)
                      refine p_add (r := ((l + 1 : Nat) : Int)) (hr := by omega) (hb := by omega) (h := ?_)
                      refine p_assign (h := ?_)
                      refine p_end ?_
                      refine p_some ?_
                      refine ⟨⟨l + 1, hltl, fun z hy hz => ?_, eV_, eV_, oB_⟩, ?_⟩
                      · rcases Nat.lt_succ_iff_lt_or_eq.1 hz with h | h
                        · exact ql z hy h
                        · subst h; exact by rw [hb83, hc95]; rfl
                      · simp (decide := true) only [upd, m6, V.toN, ↓reduceIte]; omega
                · refine p_condF (h := ?_)
                  refine p_exit ?_
                  refine p_seq (p_region fun hf => ?_)
                  refine p_assign (h := ?_)
                  refine p_end ?_
                  refine TrC.ret ?_
                  refine p_ret1 (hp := by have g1 := any_good (p := fun p : Point => !inB p.node G.of.length) (fun j hj => qk j hj (by simp at hc51; omega)); have g2 := any_good (p := fun p : Sink => !inB p.node G.of.length || !inB p.x G.vars.length) (fun j hj => ql j hj (by simp at hc69; omega)); simp at hc46; simp only [checkE, hend, g1, g2, Bool.not_false, Bool.and_true, hc46]; simp)

end Go.Proofs.Ytfjciangbmjlmaa
