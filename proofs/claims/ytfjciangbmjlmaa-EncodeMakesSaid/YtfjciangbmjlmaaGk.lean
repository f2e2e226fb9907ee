/-
  The small functions of the statements' package, walked.
-/
import Derived.Test.YtfjciangbmjlmaaGj
set_option linter.unusedSimpArgs false
set_option linter.unusedVariables false
namespace Go.Proofs.Ytfjciangbmjlmaa
open Go.RowKit
def knownG : Graph where
  vars := []
  procs := [⟨#[109, 97, 105, 110]⟩, ⟨#[102]⟩]
  entry := [0, 3]
  exit := [1, 4]
  main := 0
  of := [0, 0, 0, 1, 1]
  steps := [⟨0, 2, 8, 0, 0, 0, 0⟩, ⟨2, 1, 1, 0, 0, 0, 0⟩, ⟨3, 4, 1, 0, 0, 0, 0⟩]
  sites := [⟨⟨#[109, 97, 105, 110, 95, 48]⟩, 1, 0, 2⟩]
  points := []
  sinks := []
def intsR (a b : List Int) : Bool := decide (a = b)
theorem ints_len {a b : List Int} (h : decide ((a.length : Int) ≠ b.length) = true) : intsR a b = false := by
  simp [intsR] at h ⊢; intro e; subst e; exact h rfl
theorem ints_bad {a b : List Int} {i : Nat} (ha : i < a.length) (hb : i < b.length) (h : decide (a[i] ≠ b[i]) = true) : intsR a b = false := by
  simp [intsR] at h ⊢; intro e; subst e; exact h rfl
theorem ints_all {a b : List Int} (hl : a.length = b.length) (h : ∀ i (ha : i < a.length) (hb : i < b.length), a[i] = b[i]) : intsR a b = true := by
  simp only [intsR, decide_eq_true_eq]; exact List.ext_getElem hl h
def sameConfR (a b : Conf) : Bool := decide (a.p = b.p) && intsR a.w b.w
def smallR (G : Graph) : Bool := decide ((G.vars.length : Int) ≤ 10) && decide ((G.procs.length : Int) ≤ 20) && decide ((G.entry.length : Int) ≤ 20) && decide ((G.exit.length : Int) ≤ 20) && decide ((G.of.length : Int) ≤ 100) && decide ((G.steps.length : Int) ≤ 100) && decide ((G.sites.length : Int) ≤ 20) && decide ((G.points.length : Int) ≤ 60) && decide ((G.sinks.length : Int) ≤ 60)

theorem known  : FnC Try.prog 25 [] (fun r => r = graphV knownG) := by
  refine FnC.of (fn := Try.f25) ⟨Try.func25, by kernel_rfl, rfl⟩ Try.ntmps25 (by simp) fun w0 S0 => ?_
  refine p_seq (p_region fun hf => ?_)
  refine p_alloc (hi := F.ti29) (h := ?_)
  refine p_end ?_
  refine p_seq (p_region fun hf => ?_)
  refine p_buildSlice (ht := Try.underlying22) (hi := F.ti9) (h := ?_)
  refine p_buildSlice (ht := Try.underlying23) (hi := F.ti3) (h := ?_)
  refine p_buildSlice (ht := Try.underlying23) (hi := F.ti3) (h := ?_)
  refine p_buildSlice (ht := Try.underlying23) (hi := F.ti3) (h := ?_)
  refine p_build (hi := F.ti50) (hpl := F.pl50) (h := ?_)
  refine p_build (hi := F.ti50) (hpl := F.pl50) (h := ?_)
  refine p_build (hi := F.ti50) (hpl := F.pl50) (h := ?_)
  refine p_buildSlice (ht := Try.underlying24) (hi := F.ti50) (h := ?_)
  refine p_build (hi := F.ti54) (hpl := F.pl54) (h := ?_)
  refine p_buildSlice (ht := Try.underlying25) (hi := F.ti54) (h := ?_)
  refine p_build (hi := F.ti29) (hpl := F.pl29) (h := ?_)
  refine p_storeAll F.ti29 (h := ?_)
  refine p_end ?_
  refine TrC.ret ?_
  refine p_cellNil (g1 := 0 + 1) (d1 := 0) (i := 0) (el := 9) (h := ?_)
  refine p_freeze (g1 := 0 + 1 + 1) (d1 := 1) (h := ?_)
  refine p_cellSl (g1 := 0 + 1) (d1 := 0) (i := 1) (hn := by rfl) (h := ?_)
  refine p_freeze (g1 := 0 + 1 + 1) (d1 := 2) (h := ?_)
  refine p_cellSl (g1 := 0 + 1) (d1 := 0) (i := 2) (hn := by rfl) (h := ?_)
  refine p_freeze (g1 := 0 + 1 + 1) (d1 := 3) (h := ?_)
  refine p_cellSl (g1 := 0 + 1) (d1 := 0) (i := 3) (hn := by rfl) (h := ?_)
  refine p_freeze (g1 := 0 + 1 + 1) (d1 := 4) (h := ?_)
  refine p_cellSl (g1 := 0 + 1) (d1 := 0) (i := 5) (hn := by rfl) (h := ?_)
  refine p_freeze (g1 := 0 + 1 + 1) (d1 := 8) (h := ?_)
  refine p_cellSl (g1 := 0 + 1) (d1 := 0) (i := 6) (hn := by rfl) (h := ?_)
  refine p_freeze (g1 := 0 + 1 + 1) (d1 := 10) (h := ?_)
  refine p_cellSl (g1 := 0 + 1) (d1 := 0) (i := 7) (hn := by rfl) (h := ?_)
  refine p_cellNil (g1 := 0 + 1) (d1 := 0) (i := 8) (el := 121) (h := ?_)
  refine p_cellNil (g1 := 0 + 1) (d1 := 0) (i := 9) (el := 126) (h := ?_)
  refine Tr.ret1 rfl (res_cell eV_ oB_ F.agg29 F.ti29 rfl rfl) rfl (by intro l h; cases h)

theorem ints (a b : List Int) (h : a.length ≤ 1000000000) : FnC Try.prog 16 [.sl 3 (a.map iV), .sl 3 (b.map iV)] (fun r => r = .bool (intsR a b)) := by
  refine FnC.of (fn := Try.f16) ⟨Try.func16, by kernel_rfl, rfl⟩ Try.ntmps16 (by simp) fun w0 S0 => ?_
  refine p_seq (p_region fun hf => ?_)
  refine p_assign (h := ?_)
  refine p_end ?_
  refine p_seq ?_
  refine p_seq (p_region fun hf => ?_)
  refine p_move (h := ?_)
  refine p_len (ht := Try.underlying23) (h := ?_)
  refine p_move (h := ?_)
  refine p_len (ht := Try.underlying23) (h := ?_)
  refine p_num (h := ?_)
  refine p_end ?_
  refine p_splitC (s := 10) (ht := fun hc10 => ?_) (hf := fun hc10 => ?_)
  · refine p_condT (h := ?_)
    refine p_seq (p_region fun hf => ?_)
    refine p_assign (h := ?_)
    refine p_end ?_
    refine TrC.ret ?_
    refine p_ret1 (hp := by rw [ints_len hc10])
  · refine p_condF (h := ?_)
    have hle : a.length = b.length := by simp at hc10; omega
    refine p_skip ?_
    refine p_seq ?_
    refine p_seq (p_region fun hf => ?_)
    refine p_assign (h := ?_)
    refine p_end ?_
    refine TrC.block ?_
    refine p_loop (fun st => ∃ i : Nat, i ≤ a.length ∧ (∀ j (ha : j < a.length) (hb : j < b.length), j < i → a[j] = b[j]) ∧ st.env 0 = .sl 3 (a.map iV) ∧ st.env 1 = .sl 3 (b.map iV) ∧ st.env 5 = iV i) (fun st => a.length - (st.env 5).toN) ?_ fun e ob g1 hI => ?_
    · exact ⟨0, by omega, fun j _ _ h => by omega, eV_, eV_, eV_⟩
    · obtain ⟨i, hi, hn, e0, e1, e5⟩ := hI
      dsimp only at e0 e1 e5
      have hE := (⟨e0, e1, e5⟩ : _ ∧ _ ∧ _)
      refine p_seq ?_
      refine p_seq (p_region fun hf => ?_)
      refine p_move (h := ?_)
      refine p_move (h := ?_)
      refine p_len (ht := Try.underlying23) (h := ?_)
      refine p_num (h := ?_)
      refine p_end ?_
      refine p_splitC (s := 14) (ht := fun hc14 => ?_) (hf := fun hc14 => ?_)
      · refine p_condT (h := ?_)
        have hlt : i < a.length := by simpa using hc14
        have hlt2 : i < b.length := by omega
        refine p_skip ?_
        refine p_seq ?_
        refine TrC.block ?_
        refine p_seq (p_draw F.mixed fun hf => ?_)
        refine p_move (h := ?_)
        refine p_move (h := ?_)
        refine p_idxMap (j := i) (ht := Try.underlying23) (hi := F.ti3) (hij := rfl) (hj := hlt) (h := ?_)
        (first | refine p_load (ht := F.leaf3) (h := ?_) | refine p_loadRef (ht := F.leaf3) (h := ?_))
        refine p_move (h := ?_)
        refine p_move (h := ?_)
        refine p_idxMap (j := i) (ht := Try.underlying23) (hi := F.ti3) (hij := rfl) (hj := hlt2) (h := ?_)
        (first | refine p_load (ht := F.leaf3) (h := ?_) | refine p_loadRef (ht := F.leaf3) (h := ?_))
        refine p_num (h := ?_)
        refine p_endD ?_
        refine p_splitC (s := 25) (ht := fun hc25 => ?_) (hf := fun hc25 => ?_)
        · refine p_condT (h := ?_)
          refine p_seq (p_region fun hf => ?_)
          refine p_assign (h := ?_)
          refine p_end ?_
          refine TrC.ret ?_
          refine p_ret1 (hp := by rw [ints_bad hlt hlt2 hc25])
        · refine p_condF (h := ?_)
          refine p_skip ?_
          refine p_region fun hf => ?_
          refine p_move (h := ?_)
          refine p_add (r := ((i + 1 : Nat) : Int)) (hr := by omega) (hb := by omega) (h := ?_)
          refine p_assign (h := ?_)
          refine p_end ?_
          refine p_some ?_
          refine ⟨⟨i + 1, hlt, fun j ha hb hj => ?_, eV_, eV_, eV_⟩, ?_⟩
          · rcases Nat.lt_succ_iff_lt_or_eq.1 hj with h | h
            · exact hn j ha hb h
            · subst h; simpa using hc25
          · simp (decide := true) only [upd, e5, V.toN, ↓reduceIte]; omega
      · refine p_condF (h := ?_)
        have hie : i = a.length := by simp at hc14; omega
        refine p_exit ?_
        refine p_seq (p_region fun hf => ?_)
        refine p_assign (h := ?_)
        refine p_end ?_
        refine TrC.ret ?_
        refine p_ret1 (hp := by rw [ints_all hle fun j ha hb => hn j ha hb (by omega)])

theorem sameConf (a b : Conf) (h : a.w.length ≤ 1000000000) : FnC Try.prog 13 [confV a, confV b] (fun r => r = .bool (sameConfR a b)) := by
  refine FnC.of (fn := Try.f13) ⟨Try.func13, by kernel_rfl, rfl⟩ Try.ntmps13 (by simp) fun w0 S0 => ?_
  refine p_seq (p_region fun hf => ?_)
  refine p_box (h := ?_)
  refine p_box (h := ?_)
  refine p_assign (h := ?_)
  refine p_end ?_
  refine p_seq (p_region fun hf => ?_)
  (first | refine p_fieldPtr (hf := F.fld44_0) (h := ?_) | refine p_fieldRef (hf := F.fld44_0) (h := ?_) | refine p_fieldRow (hf := F.fld44_0) (h := ?_))
  (first | refine p_load (ht := F.leaf3) (h := ?_) | refine p_loadRef (ht := F.leaf3) (h := ?_))
  (first | refine p_fieldPtr (hf := F.fld44_0) (h := ?_) | refine p_fieldRef (hf := F.fld44_0) (h := ?_) | refine p_fieldRow (hf := F.fld44_0) (h := ?_))
  (first | refine p_load (ht := F.leaf3) (h := ?_) | refine p_loadRef (ht := F.leaf3) (h := ?_))
  refine p_num (h := ?_)
  refine p_move (h := ?_)
  refine p_split (s := 10) (ht := fun hb10 => ?_) (hf := fun hb10 => ?_)
  · -- slot 10 is true
    refine p_guardYes (h := ?_)
    (first | refine p_fieldPtr (hf := F.fld44_1) (h := ?_) | refine p_fieldRef (hf := F.fld44_1) (h := ?_) | refine p_fieldRow (hf := F.fld44_1) (h := ?_))
    refine p_guardYes (h := ?_)
    (first | refine p_load (ht := F.leaf23) (h := ?_) | refine p_loadRef (ht := F.leaf23) (h := ?_))
    refine p_guardYes (h := ?_)
    (first | refine p_fieldPtr (hf := F.fld44_1) (h := ?_) | refine p_fieldRef (hf := F.fld44_1) (h := ?_) | refine p_fieldRow (hf := F.fld44_1) (h := ?_))
    refine p_guardYes (h := ?_)
    (first | refine p_load (ht := F.leaf23) (h := ?_) | refine p_loadRef (ht := F.leaf23) (h := ?_))
    refine p_guardYes (h := ?_)
    refine p_call (hx := rfl) (hb := ⟨Try.func16, by kernel_rfl, rfl⟩) (hf := ints a.w b.w h) (h := ?_)
    refine p_pick (h := ?_)
    refine p_assign (h := ?_)
    refine p_end ?_
    refine TrC.ret ?_
    refine p_ret1 (hp := by simp only [sameConfR, hb10, Bool.true_and, Bool.false_and])
  · -- slot 10 is false
    iterate 5 (refine p_guardNo (h := ?_))
    refine p_pick (h := ?_)
    refine p_assign (h := ?_)
    refine p_end ?_
    refine TrC.ret ?_
    refine p_ret1 (hp := by simp only [sameConfR, hb10, Bool.true_and, Bool.false_and])

theorem small (G : Graph) : FnC Try.prog 7 [graphV G] (fun r => r = .bool (smallR G)) := by
  refine FnC.of (fn := Try.f7) ⟨Try.func7, by kernel_rfl, rfl⟩ Try.ntmps7 (by simp) fun w0 S0 => ?_
  refine p_seq (p_region fun hf => ?_)
  refine p_box (h := ?_)
  refine p_assign (h := ?_)
  refine p_end ?_
  refine p_seq (p_region fun hf => ?_)
  (first | refine p_fieldPtr (hf := F.fld29_0) (h := ?_) | refine p_fieldRef (hf := F.fld29_0) (h := ?_) | refine p_fieldRow (hf := F.fld29_0) (h := ?_))
  (first | refine p_load (ht := F.leaf22) (h := ?_) | refine p_loadRef (ht := F.leaf22) (h := ?_))
  refine p_len (ht := Try.underlying22) (h := ?_)
  refine p_num (h := ?_)
  refine p_move (h := ?_)
  refine p_split (s := 7) (ht := fun hb7 => ?_) (hf := fun hb7 => ?_)
  · -- slot 7 is true
    refine p_guardYes (h := ?_)
    (first | refine p_fieldPtr (hf := F.fld29_1) (h := ?_) | refine p_fieldRef (hf := F.fld29_1) (h := ?_) | refine p_fieldRow (hf := F.fld29_1) (h := ?_))
    refine p_guardYes (h := ?_)
    (first | refine p_load (ht := F.leaf22) (h := ?_) | refine p_loadRef (ht := F.leaf22) (h := ?_))
    refine p_guardYes (h := ?_)
    refine p_len (ht := Try.underlying22) (h := ?_)
    refine p_guardYes (h := ?_)
    refine p_num (h := ?_)
    refine p_pick (h := ?_)
    refine p_move (h := ?_)
    refine p_split (s := 13) (ht := fun hb13 => ?_) (hf := fun hb13 => ?_)
    · -- slot 13 is true
      refine p_guardYes (h := ?_)
      (first | refine p_fieldPtr (hf := F.fld29_2) (h := ?_) | refine p_fieldRef (hf := F.fld29_2) (h := ?_) | refine p_fieldRow (hf := F.fld29_2) (h := ?_))
      refine p_guardYes (h := ?_)
      (first | refine p_load (ht := F.leaf23) (h := ?_) | refine p_loadRef (ht := F.leaf23) (h := ?_))
      refine p_guardYes (h := ?_)
      refine p_len (ht := Try.underlying23) (h := ?_)
      refine p_guardYes (h := ?_)
      refine p_num (h := ?_)
      refine p_pick (h := ?_)
      refine p_move (h := ?_)
      refine p_split (s := 19) (ht := fun hb19 => ?_) (hf := fun hb19 => ?_)
      · -- slot 19 is true
        refine p_guardYes (h := ?_)
        (first | refine p_fieldPtr (hf := F.fld29_3) (h := ?_) | refine p_fieldRef (hf := F.fld29_3) (h := ?_) | refine p_fieldRow (hf := F.fld29_3) (h := ?_))
        refine p_guardYes (h := ?_)
        (first | refine p_load (ht := F.leaf23) (h := ?_) | refine p_loadRef (ht := F.leaf23) (h := ?_))
        refine p_guardYes (h := ?_)
        refine p_len (ht := Try.underlying23) (h := ?_)
        refine p_guardYes (h := ?_)
        refine p_num (h := ?_)
        refine p_pick (h := ?_)
        refine p_move (h := ?_)
        refine p_split (s := 25) (ht := fun hb25 => ?_) (hf := fun hb25 => ?_)
        · -- slot 25 is true
          refine p_guardYes (h := ?_)
          (first | refine p_fieldPtr (hf := F.fld29_5) (h := ?_) | refine p_fieldRef (hf := F.fld29_5) (h := ?_) | refine p_fieldRow (hf := F.fld29_5) (h := ?_))
          refine p_guardYes (h := ?_)
          (first | refine p_load (ht := F.leaf23) (h := ?_) | refine p_loadRef (ht := F.leaf23) (h := ?_))
          refine p_guardYes (h := ?_)
          refine p_len (ht := Try.underlying23) (h := ?_)
          refine p_guardYes (h := ?_)
          refine p_num (h := ?_)
          refine p_pick (h := ?_)
          refine p_move (h := ?_)
          refine p_split (s := 31) (ht := fun hb31 => ?_) (hf := fun hb31 => ?_)
          · -- slot 31 is true
            refine p_guardYes (h := ?_)
            (first | refine p_fieldPtr (hf := F.fld29_6) (h := ?_) | refine p_fieldRef (hf := F.fld29_6) (h := ?_) | refine p_fieldRow (hf := F.fld29_6) (h := ?_))
            refine p_guardYes (h := ?_)
            (first | refine p_load (ht := F.leaf24) (h := ?_) | refine p_loadRef (ht := F.leaf24) (h := ?_))
            refine p_guardYes (h := ?_)
            refine p_len (ht := Try.underlying24) (h := ?_)
            refine p_guardYes (h := ?_)
            refine p_num (h := ?_)
            refine p_pick (h := ?_)
            refine p_move (h := ?_)
            refine p_split (s := 37) (ht := fun hb37 => ?_) (hf := fun hb37 => ?_)
            · -- slot 37 is true
              refine p_guardYes (h := ?_)
              (first | refine p_fieldPtr (hf := F.fld29_7) (h := ?_) | refine p_fieldRef (hf := F.fld29_7) (h := ?_) | refine p_fieldRow (hf := F.fld29_7) (h := ?_))
              refine p_guardYes (h := ?_)
              (first | refine p_load (ht := F.leaf25) (h := ?_) | refine p_loadRef (ht := F.leaf25) (h := ?_))
              refine p_guardYes (h := ?_)
              refine p_len (ht := Try.underlying25) (h := ?_)
              refine p_guardYes (h := ?_)
              refine p_num (h := ?_)
              refine p_pick (h := ?_)
              refine p_move (h := ?_)
              refine p_split (s := 43) (ht := fun hb43 => ?_) (hf := fun hb43 => ?_)
              · -- slot 43 is true
                refine p_guardYes (h := ?_)
                (first | refine p_fieldPtr (hf := F.fld29_8) (h := ?_) | refine p_fieldRef (hf := F.fld29_8) (h := ?_) | refine p_fieldRow (hf := F.fld29_8) (h := ?_))
                refine p_guardYes (h := ?_)
                (first | refine p_load (ht := F.leaf26) (h := ?_) | refine p_loadRef (ht := F.leaf26) (h := ?_))
                refine p_guardYes (h := ?_)
                refine p_len (ht := Try.underlying26) (h := ?_)
                refine p_guardYes (h := ?_)
                refine p_num (h := ?_)
                refine p_pick (h := ?_)
                refine p_move (h := ?_)
                refine p_split (s := 49) (ht := fun hb49 => ?_) (hf := fun hb49 => ?_)
                · -- slot 49 is true
                  refine p_guardYes (h := ?_)
                  (first | refine p_fieldPtr (hf := F.fld29_9) (h := ?_) | refine p_fieldRef (hf := F.fld29_9) (h := ?_) | refine p_fieldRow (hf := F.fld29_9) (h := ?_))
                  refine p_guardYes (h := ?_)
                  (first | refine p_load (ht := F.leaf27) (h := ?_) | refine p_loadRef (ht := F.leaf27) (h := ?_))
                  refine p_guardYes (h := ?_)
                  refine p_len (ht := Try.underlying27) (h := ?_)
                  refine p_guardYes (h := ?_)
                  refine p_num (h := ?_)
                  refine p_pick (h := ?_)
                  refine p_assign (h := ?_)
                  refine p_end ?_
                  refine TrC.ret ?_
                  refine p_ret1 (hp := by simp only [smallR, hb7, hb13, hb19, hb25, hb31, hb37, hb43, hb49, Bool.true_and, Bool.false_and, Bool.and_true])
                · -- slot 49 is false
                  iterate 4 (refine p_guardNo (h := ?_))
                  refine p_pick (h := ?_)
                  refine p_assign (h := ?_)
                  refine p_end ?_
                  refine TrC.ret ?_
                  refine p_ret1 (hp := by simp only [smallR, hb7, hb13, hb19, hb25, hb31, hb37, hb43, hb49, Bool.true_and, Bool.false_and, Bool.and_true])
              · -- slot 43 is false
                iterate 4 (refine p_guardNo (h := ?_))
                refine p_pick (h := ?_)
                refine p_move (h := ?_)
                iterate 4 (refine p_guardNo (h := ?_))
                refine p_pick (h := ?_)
                refine p_assign (h := ?_)
                refine p_end ?_
                refine TrC.ret ?_
                refine p_ret1 (hp := by simp only [smallR, hb7, hb13, hb19, hb25, hb31, hb37, hb43, Bool.true_and, Bool.false_and, Bool.and_true])
            · -- slot 37 is false
              iterate 4 (refine p_guardNo (h := ?_))
              refine p_pick (h := ?_)
              refine p_move (h := ?_)
              iterate 4 (refine p_guardNo (h := ?_))
              refine p_pick (h := ?_)
              refine p_move (h := ?_)
              iterate 4 (refine p_guardNo (h := ?_))
              refine p_pick (h := ?_)
              refine p_assign (h := ?_)
              refine p_end ?_
              refine TrC.ret ?_
              refine p_ret1 (hp := by simp only [smallR, hb7, hb13, hb19, hb25, hb31, hb37, Bool.true_and, Bool.false_and, Bool.and_true])
          · -- slot 31 is false
            iterate 4 (refine p_guardNo (h := ?_))
            refine p_pick (h := ?_)
            refine p_move (h := ?_)
            iterate 4 (refine p_guardNo (h := ?_))
            refine p_pick (h := ?_)
            refine p_move (h := ?_)
            iterate 4 (refine p_guardNo (h := ?_))
            refine p_pick (h := ?_)
            refine p_move (h := ?_)
            iterate 4 (refine p_guardNo (h := ?_))
            refine p_pick (h := ?_)
            refine p_assign (h := ?_)
            refine p_end ?_
            refine TrC.ret ?_
            refine p_ret1 (hp := by simp only [smallR, hb7, hb13, hb19, hb25, hb31, Bool.true_and, Bool.false_and, Bool.and_true])
        · -- slot 25 is false
          iterate 4 (refine p_guardNo (h := ?_))
          refine p_pick (h := ?_)
          refine p_move (h := ?_)
          iterate 4 (refine p_guardNo (h := ?_))
          refine p_pick (h := ?_)
          refine p_move (h := ?_)
          iterate 4 (refine p_guardNo (h := ?_))
          refine p_pick (h := ?_)
          refine p_move (h := ?_)
          iterate 4 (refine p_guardNo (h := ?_))
          refine p_pick (h := ?_)
          refine p_move (h := ?_)
          iterate 4 (refine p_guardNo (h := ?_))
          refine p_pick (h := ?_)
          refine p_assign (h := ?_)
          refine p_end ?_
          refine TrC.ret ?_
          refine p_ret1 (hp := by simp only [smallR, hb7, hb13, hb19, hb25, Bool.true_and, Bool.false_and, Bool.and_true])
      · -- slot 19 is false
        iterate 4 (refine p_guardNo (h := ?_))
        refine p_pick (h := ?_)
        refine p_move (h := ?_)
        iterate 4 (refine p_guardNo (h := ?_))
        refine p_pick (h := ?_)
        refine p_move (h := ?_)
        iterate 4 (refine p_guardNo (h := ?_))
        refine p_pick (h := ?_)
        refine p_move (h := ?_)
        iterate 4 (refine p_guardNo (h := ?_))
        refine p_pick (h := ?_)
        refine p_move (h := ?_)
        iterate 4 (refine p_guardNo (h := ?_))
        refine p_pick (h := ?_)
        refine p_move (h := ?_)
        iterate 4 (refine p_guardNo (h := ?_))
        refine p_pick (h := ?_)
        refine p_assign (h := ?_)
        refine p_end ?_
        refine TrC.ret ?_
        refine p_ret1 (hp := by simp only [smallR, hb7, hb13, hb19, Bool.true_and, Bool.false_and, Bool.and_true])
    · -- slot 13 is false
      iterate 4 (refine p_guardNo (h := ?_))
      refine p_pick (h := ?_)
      refine p_move (h := ?_)
      iterate 4 (refine p_guardNo (h := ?_))
      refine p_pick (h := ?_)
      refine p_move (h := ?_)
      iterate 4 (refine p_guardNo (h := ?_))
      refine p_pick (h := ?_)
      refine p_move (h := ?_)
      iterate 4 (refine p_guardNo (h := ?_))
      refine p_pick (h := ?_)
      refine p_move (h := ?_)
      iterate 4 (refine p_guardNo (h := ?_))
      refine p_pick (h := ?_)
      refine p_move (h := ?_)
      iterate 4 (refine p_guardNo (h := ?_))
      refine p_pick (h := ?_)
      refine p_move (h := ?_)
      iterate 4 (refine p_guardNo (h := ?_))
      refine p_pick (h := ?_)
      refine p_assign (h := ?_)
      refine p_end ?_
      refine TrC.ret ?_
      refine p_ret1 (hp := by simp only [smallR, hb7, hb13, Bool.true_and, Bool.false_and, Bool.and_true])
  · -- slot 7 is false
    iterate 4 (refine p_guardNo (h := ?_))
    refine p_pick (h := ?_)
    refine p_move (h := ?_)
    iterate 4 (refine p_guardNo (h := ?_))
    refine p_pick (h := ?_)
    refine p_move (h := ?_)
    iterate 4 (refine p_guardNo (h := ?_))
    refine p_pick (h := ?_)
    refine p_move (h := ?_)
    iterate 4 (refine p_guardNo (h := ?_))
    refine p_pick (h := ?_)
    refine p_move (h := ?_)
    iterate 4 (refine p_guardNo (h := ?_))
    refine p_pick (h := ?_)
    refine p_move (h := ?_)
    iterate 4 (refine p_guardNo (h := ?_))
    refine p_pick (h := ?_)
    refine p_move (h := ?_)
    iterate 4 (refine p_guardNo (h := ?_))
    refine p_pick (h := ?_)
    refine p_move (h := ?_)
    iterate 4 (refine p_guardNo (h := ?_))
    refine p_pick (h := ?_)
    refine p_assign (h := ?_)
    refine p_end ?_
    refine TrC.ret ?_
    refine p_ret1 (hp := by simp only [smallR, hb7, Bool.true_and, Bool.false_and, Bool.and_true])

end Go.Proofs.Ytfjciangbmjlmaa
