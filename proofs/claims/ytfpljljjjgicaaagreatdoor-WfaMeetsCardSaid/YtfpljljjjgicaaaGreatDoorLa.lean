/-
  The statements' functions: example, awake, small, WfaValues.
-/
import Derived.Test.YtfpljljjjgicaaaGreatDoorRac
import Derived.KernelRfl
set_option maxHeartbeats 4000000
set_option linter.unusedSimpArgs false
set_option linter.unusedVariables false
namespace Go.Proofs.YtfpljljjjgicaaaGreatDoor
open Go.RowKit
attribute [local irreducible] Wk Tr
def exA : Aut := ⟨.mk 2 9 [], 2, 1, [1], [⟨0, 0, 1, wtC 3⟩, ⟨0, -1, 0, wtC 1⟩, ⟨0, 0, 1, wtC 5⟩]⟩
/-- What a word, and all words are worth, with the answer where there is none. -/
def valueW (a : Aut) (back : Bool) (frm : Int) (w : List Int) : Wt := if askedE a [frm] w = 0 then (valV a back w).getD frm.toNat wt0 else wt0
def totalW (a : Aut) (back : Bool) (frm : Int) : Wt := if askedE a [frm] [] = 0 then (growV a back (fun _ => true) (endsW a)).getD frm.toNat wt0 else wt0
theorem vals_at {a : Aut} {l : List Wt} {frm : Int} (hl : Vals a l) (h : 0 ≤ frm ∧ frm < a.states) : isB a.sp (l.getD frm.toNat wt0) = true := by
  have h1 := hl.len
  have h2 : frm.toNat < l.length := by omega
  rw [getD_at h2]; exact hl.ok _ (List.getElem_mem h2)
theorem valueC (a : Aut) (back : Bool) (frm : Int) (w : List Int) (ha : a.Sm) (hw : w.length ≤ 17592186044416) : FnC Tryz.prog 10 [autV a, .bool back, iV frm, .sl 3 (w.map iV)] (fun r => r = .tup [wtA (valueW a back frm w), iV (askedE a [frm] w)]) := by
  by_cases h : askedE a [frm] w = 0
  · have := value_ok a back frm w ha hw h
    obtain ⟨hok, hfr, _⟩ := askedE_ok h
    rw [either_self hok.sp (vals_at (valV_vals hok w) (hfr frm (by simp)))] at this
    rw [valueW, if_pos h, h]; exact this
  · rw [valueW, if_neg h]; exact value_bad a back frm w ha hw h
theorem valueRC (a : Aut) (back : Bool) (frm : Int) (w : List Int) (ha : a.Sm) (hw : w.length ≤ 17592186044416) : FnC Tryz.prog 13 [autV a, .bool back, iV frm, .sl 3 (w.map iV)] (fun r => r = .tup [wtA (valueW a back frm w), iV (askedE a [frm] w)]) := by
  by_cases h : askedE a [frm] w = 0
  · have := rvalue_ok a back frm w ha hw h
    rw [valueW, if_pos h, h]; exact this
  · rw [valueW, if_neg h]; exact rvalue_bad a back frm w ha hw h
theorem totalC (a : Aut) (back : Bool) (frm : Int) (ha : a.Sm) : FnC Tryz.prog 14 [autV a, .bool back, iV frm] (fun r => r = .tup [wtA (totalW a back frm), iV (askedE a [frm] [])]) := by
  by_cases h : askedE a [frm] [] = 0
  · obtain ⟨hok, hfr, _⟩ := askedE_ok h
    obtain ⟨hg, hv⟩ := growV_is (back := back) (cnt := fun _ => true) hok (ends_vals hok)
    have := total_ok a back frm ha h _ _ hg hv
    rw [either_self hok.sp (vals_at hv (hfr frm (by simp)))] at this
    rw [totalW, if_pos h, h]; exact this
  · rw [totalW, if_neg h]; exact total_bad a back frm ha h
theorem totalRC (a : Aut) (back : Bool) (frm : Int) (ha : a.Sm) : FnC Tryz.prog 15 [autV a, .bool back, iV frm] (fun r => r = .tup [wtA (totalW a back frm), iV (askedE a [frm] [])]) := by
  by_cases h : askedE a [frm] [] = 0
  · have := rtotal_ok a back frm ha h
    rw [totalW, if_pos h, h]; exact this
  · rw [totalW, if_neg h]; exact rtotal_bad a back frm ha h
theorem sameW_self {s : Sp} {x : Wt} (hs : spOk s = true) (hx : isB s x = true) : sameW x x = true := (sameW_iff hs hx hx).2 rfl
theorem rsame_0 : FnC Tryz.prog 16 [wtA wt0, wtA wt0] (fun r => r = .bool true) := by
  have := rsameC wt0 wt0 ⟨⟨by decide, by decide, by decide⟩, fun x hx => by cases hx⟩ ⟨⟨by decide, by decide, by decide⟩, fun x hx => by cases hx⟩ (fun x hx => by cases hx) (fun x hx => by cases hx)
  exact this
theorem rsame_self {s : Sp} {x : Wt} (hs : spOk s = true) (hx : isB s x = true) : FnC Tryz.prog 16 [wtA x, wtA x] (fun r => r = .bool true) := by
  have := rsameB hs hx hx
  rwa [sameW_self hs hx] at this
theorem rsame_value (a : Aut) (back : Bool) (frm : Int) (w : List Int) : FnC Tryz.prog 16 [wtA (valueW a back frm w), wtA (valueW a back frm w)] (fun r => r = .bool true) := by
  by_cases h : askedE a [frm] w = 0
  · obtain ⟨hok, hfr, _⟩ := askedE_ok h
    rw [valueW, if_pos h]; exact rsame_self hok.sp (vals_at (valV_vals hok w) (hfr frm (by simp)))
  · rw [valueW, if_neg h]; exact rsame_0
theorem rsame_total (a : Aut) (back : Bool) (frm : Int) : FnC Tryz.prog 16 [wtA (totalW a back frm), wtA (totalW a back frm)] (fun r => r = .bool true) := by
  by_cases h : askedE a [frm] [] = 0
  · obtain ⟨hok, hfr, _⟩ := askedE_ok h
    rw [totalW, if_pos h]; exact rsame_self hok.sp (vals_at (growV_is hok (ends_vals hok)).2 (hfr frm (by simp)))
  · rw [totalW, if_neg h]; exact rsame_0
theorem growT_more {a : Aut} {back : Bool} {cnt : Trn → Bool} : ∀ (k : Nat) (l r : List Wt), growT a back cnt k l = some r → ∀ j, k ≤ j → growT a back cnt j l = some r
  | 0, _, _, h => by simp [growT] at h
  | k + 1, l, r, h => fun j hj => by
    obtain ⟨j, rfl⟩ : ∃ i, j = i + 1 := ⟨j - 1, by omega⟩
    rw [growT] at h ⊢
    split
    · rename_i h1
      rw [if_pos h1] at h
      exact growT_more k _ _ h j (by omega)
    · rename_i h1
      rw [if_neg h1] at h; exact h
theorem growV_of {a : Aut} {back : Bool} {cnt : Trn → Bool} {k : Nat} {l r : List Wt} (ha : a.Ok) (hv : Vals a l) (h : growT a back cnt k l = some r) : growV a back cnt l = r := by
  obtain ⟨h1, _⟩ := growV_is (back := back) (cnt := cnt) ha hv
  have h2 := growT_more _ _ _ h1 (max k (rankV a l + 1)) (Nat.le_max_right ..)
  have h3 := growT_more _ _ _ h (max k (rankV a l + 1)) (Nat.le_max_left ..)
  exact Option.some.inj (h2.symm.trans h3)
theorem ex_asked (frm : Int) (h : frm = 0 ∨ frm = 1) : askedE exA [frm] [0] = 0 := by
  rcases h with rfl | rfl <;> decide
theorem ex_ok : exA.Ok := (askedE_ok (ex_asked 0 (.inl rfl))).1
theorem ex_val : valV exA false [0] = [wtC 3, wtZ] := by
  have h1 : growV exA false sil (endsW exA) = [wtZ, wt0] := growV_of (k := 2) ex_ok (ends_vals ex_ok) (by kernel_rfl)
  show growV exA false sil (restW exA false 0 (growV exA false sil (endsW exA))) = _
  rw [h1]
  have hv : Vals exA [wtZ, wt0] := by rw [← h1]; exact (growV_is ex_ok (ends_vals ex_ok)).2
  exact growV_of (k := 2) ex_ok (restW_vals ex_ok hv) (by kernel_rfl)
theorem ex_sm : exA.Sm := ⟨by decide, by decide, by decide, fun t ht => by
  simp only [exA, List.mem_cons, List.not_mem_nil, or_false] at ht
  rcases ht with rfl | rfl | rfl <;> exact ⟨⟨by decide, by decide, by decide⟩, fun x hx => by cases hx⟩⟩
theorem ex_v0 : valueW exA false 0 [0] = wtC 3 := by rw [valueW, if_pos (ex_asked 0 (.inl rfl)), ex_val]; rfl
theorem ex_v1 : valueW exA false 1 [0] = wtZ := by rw [valueW, if_pos (ex_asked 1 (.inr rfl)), ex_val]; rfl

theorem exampleC  : FnC Tryz.prog 29 [] (fun r => r = autV exA) := by
  refine FnC.of (fn := Tryz.f29) ⟨Tryz.func29, by kernel_rfl, rfl⟩ Tryz.ntmps29 (by simp) fun w0 S0 => ?_
  refine p_go fun hf => ?_
  refine p_build (hi := F.ti25.h) (hpl := F.pl25.h) (h := ?_)
  refine p_buildSlice (ht := Tryz.underlying26) (hi := F.ti3.h) (h := ?_)
  refine p_build (hi := F.ti37.h) (hpl := F.pl37.h) (h := ?_)
  refine p_build (hi := F.ti39.h) (hpl := F.pl39.h) (h := ?_)
  refine p_build (hi := F.ti37.h) (hpl := F.pl37.h) (h := ?_)
  refine p_build (hi := F.ti39.h) (hpl := F.pl39.h) (h := ?_)
  refine p_build (hi := F.ti37.h) (hpl := F.pl37.h) (h := ?_)
  refine p_build (hi := F.ti39.h) (hpl := F.pl39.h) (h := ?_)
  refine p_aggNilW (s := 4) (i := 6) (el := 30) (h := ?_)
  refine p_aggNilW (s := 4) (i := 7) (el := 90) (h := ?_)
  refine p_aggNilW (s := 4) (i := 8) (el := 37) (h := ?_)
  refine p_aggNilW (s := 6) (i := 6) (el := 30) (h := ?_)
  refine p_aggNilW (s := 6) (i := 7) (el := 90) (h := ?_)
  refine p_aggNilW (s := 6) (i := 8) (el := 37) (h := ?_)
  refine p_aggNilW (s := 8) (i := 6) (el := 30) (h := ?_)
  refine p_aggNilW (s := 8) (i := 7) (el := 90) (h := ?_)
  refine p_aggNilW (s := 8) (i := 8) (el := 37) (h := ?_)
  refine p_aggNilW (s := 1) (i := 2) (el := 25) (h := ?_)
  refine p_buildSlice (ht := Tryz.underlying27) (hi := F.ti39.h) (h := ?_)
  refine p_build (hi := F.ti29.h) (hpl := F.pl29.h) (h := ?_)
  refine p_go ?_
  refine p_freeze (g1 := 0 + 1 + 1) (d1 := 2) (h := ?_)
  refine p_cellSl (g1 := 0 + 1) (d1 := 0) (i := 5) (hn := by rfl) (h := ?_)
  refine p_freeze (g1 := 0 + 1 + 1) (d1 := 9) (h := ?_)
  refine p_cellSl (g1 := 0 + 1) (d1 := 0) (i := 6) (hn := by rfl) (h := ?_)
  refine p_r1 (hp := by rfl)

theorem awakeC  : FnC Tryz.prog 8 [] (fun r => r = .bool true) := by
  refine FnC.of (fn := Tryz.f8) ⟨Tryz.func8, by kernel_rfl, rfl⟩ Tryz.ntmps8 (by simp) fun w0 S0 => ?_
  refine p_go fun hf => ?_
  refine p_call (hx := rfl) (hb := ⟨Tryz.func29, by kernel_rfl, rfl⟩) (hf := exampleC) (h := ?_)
  refine p_buildSlice (ht := Tryz.underlying26) (hi := F.ti3.h) (h := ?_)
  refine p_callRow (vs := [autV exA, .bool false, iV 0, .sl 3 ([0].map iV)]) (0 + 1 + 1) 7 (hb := ⟨Tryz.func10, by kernel_rfl, rfl⟩) (hvs := by simp [V.frz]) (hf := (by have := valueC exA false 0 [0] ex_sm (by decide); rw [ex_v0, ex_asked 0 (.inl rfl)] at this; exact this)) (h := ?_)
  refine p_go fun hf => ?_
  refine p_call (hx := rfl) (hb := ⟨Tryz.func29, by kernel_rfl, rfl⟩) (hf := exampleC) (h := ?_)
  refine p_buildSlice (ht := Tryz.underlying26) (hi := F.ti3.h) (h := ?_)
  refine p_callRow (vs := [autV exA, .bool false, iV 1, .sl 3 ([0].map iV)]) (0 + 1 + 1 + 1) 13 (hb := ⟨Tryz.func10, by kernel_rfl, rfl⟩) (hvs := by simp [V.frz]) (hf := (by have := valueC exA false 1 [0] ex_sm (by decide); rw [ex_v1, ex_asked 1 (.inr rfl)] at this; exact this)) (h := ?_)
  refine p_go ?_
  refine p_ret1 (hp := by rfl)

theorem smallC (a : Aut) (w : List Int) : FnC Tryz.prog 9 [autV a, .sl 3 (w.map iV)] (fun r => r = .bool (decide ((a.trs.length : Int) ≤ 300) && decide (a.states ≤ 300) && decide ((w.length : Int) ≤ 40))) := by
  refine FnC.of (fn := Tryz.f9) ⟨Tryz.func9, by kernel_rfl, rfl⟩ Tryz.ntmps9 (by simp) fun w0 S0 => ?_
  refine p_go ?_
  refine p_ret1 (hp := by rfl)

theorem wfaValues (a : Aut) (back : Bool) (frm : Int) (w : List Int) (ha : a.Sm) : FnC Tryz.prog 4 [autV a, .bool back, iV frm, .sl 3 (w.map iV)] (fun r => r = .bool true) := by
  refine FnC.of (fn := Tryz.f4) ⟨Tryz.func4, by kernel_rfl, rfl⟩ Tryz.ntmps4 (by simp) fun w0 S0 => ?_
  refine p_go fun hf => ?_
  refine p_call (hx := rfl) (hb := ⟨Tryz.func8, by kernel_rfl, rfl⟩) (hf := awakeC) (h := ?_)
  refine p_go fun hf => ?_
  refine p_call (hx := rfl) (hb := ⟨Tryz.func9, by kernel_rfl, rfl⟩) (hf := smallC a w) (h := ?_)
  refine p_go ?_
  refine p_splitC (s := 22) (ht := fun hc22 => ?_) (hf := fun hc22 => ?_)
  · refine p_go ?_
    refine p_ret1 (hp := by rfl)
  · have hw : w.length ≤ 17592186044416 := by simp at hc22; omega
    refine p_go fun hf => ?_
    refine p_call (hx := rfl) (hb := ⟨Tryz.func10, by kernel_rfl, rfl⟩) (hf := valueC a back frm w ha hw) (h := ?_)
    refine p_go fun hf => ?_
    refine p_call (hx := rfl) (hb := ⟨Tryz.func13, by kernel_rfl, rfl⟩) (hf := valueRC a back frm w ha hw) (h := ?_)
    refine p_go fun hf => ?_
    refine p_call (hx := rfl) (hb := ⟨Tryz.func14, by kernel_rfl, rfl⟩) (hf := totalC a back frm ha) (h := ?_)
    refine p_go fun hf => ?_
    refine p_call (hx := rfl) (hb := ⟨Tryz.func15, by kernel_rfl, rfl⟩) (hf := totalRC a back frm ha) (h := ?_)
    refine p_go fun hf => ?_
    refine p_call (hx := rfl) (hb := ⟨Tryz.func16, by kernel_rfl, rfl⟩) (hf := rsame_value a back frm w) (h := ?_)
    refine p_go fun hf => ?_
    refine p_split (s := 61) (ht := fun hb61 => ?_) (hf := fun hb61 => ?_)
    · -- slot 61 is true
      refine p_go fun hf => ?_
      refine p_call (hx := rfl) (hb := ⟨Tryz.func16, by kernel_rfl, rfl⟩) (hf := rsame_total a back frm) (h := ?_)
      refine p_go ?_
      refine p_ret1 (hp := by simp)
    · exact absurd hb61 (by simp)
end Go.Proofs.YtfpljljjjgicaaaGreatDoor
