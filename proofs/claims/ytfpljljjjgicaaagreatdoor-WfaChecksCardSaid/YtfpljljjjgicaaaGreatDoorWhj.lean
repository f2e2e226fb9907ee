import Derived.Test.YtfpljljjjgicaaaGreatDoorWg
/-
  Package weight: checked, units.
-/
set_option maxHeartbeats 4000000
set_option linter.unusedSimpArgs false
set_option linter.unusedVariables false
namespace Go.Proofs.YtfpljljjjgicaaaGreatDoor
open Go.RowKit
attribute [local irreducible] Wk Tr
abbrev wpA (a b : Wt) : V := .agg [.bool false, iV 0, bV 0, .sl 30 [], .sl 90 [], .sl 37 [wtV a, wtV b]]
abbrev wtP (a b : Wt) : Wt := .mk false 0 0 [] [] [a, b]
abbrev wtC (c : Int) : Wt := .mk false c 0 [] [] []
abbrev wtF (f : Fct) : Wt := .mk false 0 f.gen f.rows [] []
abbrev wtK (l : List Cel) : Wt := .mk false 0 0 [] l []
def isB (s : Sp) (w : Wt) : Bool := if s.tag = 5 then isP (s.parts.getD 0 sp0) (s.parts.getD 1 sp0) w else isL s w
structure Wt.Sm2 (w : Wt) : Prop where
  sm : w.Sm
  parts : ∀ x ∈ w.parts, x.Sm
theorem spOk_cases {s : Sp} (h : spOk s = true) : (leafOk s = true ∧ ¬ s.tag = 5) ∨ ∃ p q, s = .mk 5 0 [p, q] ∧ leafOk p = true ∧ leafOk q = true := by
  unfold spOk at h
  split at h
  · rename_i h5
    right
    rcases s with ⟨t, d, ps⟩
    simp only [Sp.tag] at h5
    simp only [Sp.dim, Sp.parts, Bool.and_eq_true, Bool.not_eq_true', decide_eq_true_eq] at h
    obtain ⟨⟨h1, h2⟩, h3⟩ := h
    match ps, h2, h3 with
    | [p, q], _, h3 =>
      rw [List.any_eq_false] at h3
      have hp := h3 p (by simp)
      have hq := h3 q (by simp)
      simp only [partBad, leafE, Bool.or_eq_true, not_or, decide_eq_true_eq, ne_eq] at hp hq
      refine ⟨p, q, by rw [h5, of_decide_eq_true h1], ?_, ?_⟩
      · have := hp.2; split at this <;> simp_all
      · have := hq.2; split at this <;> simp_all
    | [], h2, _ => simp at h2
    | [_], h2, _ => simp at h2
    | _ :: _ :: _ :: _, h2, _ => exact absurd (of_decide_eq_true h2) (by simp only [List.length_cons]; omega)
  · rename_i h5; exact .inl ⟨h, h5⟩
theorem bareB_is {w : Wt} {t : Int} (h : bareB w t = true) : (¬ t = 2 → w.cost = 0) ∧ (¬ t = 3 → w.gen = 0 ∧ w.rows = []) ∧ (¬ t = 4 → w.cells = []) ∧ (¬ t = 5 → w.parts = []) := by
  simp only [bareB, Bool.and_eq_true, Bool.or_eq_true, decide_eq_true_eq] at h
  obtain ⟨⟨h1, h2⟩, h3⟩ := h
  refine ⟨fun h => h1.resolve_left h, fun h => ⟨h2.resolve_left h, List.eq_nil_of_length_eq_zero ?_⟩, fun h => List.eq_nil_of_length_eq_zero ?_, fun h => List.eq_nil_of_length_eq_zero ?_⟩
  · rw [if_neg h] at h3
    have : (0 : Int) ≤ if t = 4 then 0 else (w.cells.length : Int) := by split <;> omega
    have : (0 : Int) ≤ if t = 5 then 0 else (w.parts.length : Int) := by split <;> omega
    omega
  · rw [if_neg h] at h3
    have : (0 : Int) ≤ if t = 3 then 0 else (w.rows.length : Int) := by split <;> omega
    have : (0 : Int) ≤ if t = 5 then 0 else (w.parts.length : Int) := by split <;> omega
    omega
  · rw [if_neg h] at h3
    have : (0 : Int) ≤ if t = 3 then 0 else (w.rows.length : Int) := by split <;> omega
    have : (0 : Int) ≤ if t = 4 then 0 else (w.cells.length : Int) := by split <;> omega
    omega
/-- What a weight of a space without parts looks like. -/
theorem isL_cases {s : Sp} {w : Wt} (hs : leafOk s = true) (h : isL s w = true) : w = wtZ ∨ (w.zero = false ∧ ((s.tag = 1 ∧ w = wt0) ∨ (s.tag = 2 ∧ w = wtC w.cost ∧ w.cost ≠ -1 ∧ checksE s.dim [w.cost] = 0) ∨ (s.tag = 3 ∧ w = wtF (fct w) ∧ checkF s.dim (fct w) = 0) ∨ (s.tag = 4 ∧ w = wtK w.cells ∧ cellsE s.dim w.cells = 0))) := by
  obtain ⟨hd, h5, _, h1, h4, _⟩ := leafOk_dim hs
  unfold isL at h
  split at h
  · rename_i hz
    left
    obtain ⟨k1, k2, k3, k4⟩ := bareB_is h
    rcases w with ⟨z, c, g, r, cs, ps⟩
    simp only [Wt.zero, Wt.cost, Wt.gen, Wt.rows, Wt.cells, Wt.parts] at *
    rw [hz, k1 (by decide), (k2 (by decide)).1, (k2 (by decide)).2, k3 (by decide), k4 (by decide)]; rfl
  · rename_i hz
    rw [Bool.and_eq_true] at h
    obtain ⟨hb, ht⟩ := h
    obtain ⟨k1, k2, k3, k4⟩ := bareB_is hb
    refine .inr ⟨by simpa using hz, ?_⟩
    unfold isT at ht
    rcases w with ⟨z, c, g, r, cs, ps⟩
    have hz' : z = false := by cases z with | false => rfl | true => exact absurd rfl hz
    subst hz'
    simp only [Wt.cost, Wt.gen, Wt.rows, Wt.cells, Wt.parts, fct] at *
    split at ht
    · rename_i e; rw [Bool.and_eq_true] at ht
      exact .inr (.inl ⟨e, by rw [(k2 (by omega)).1, (k2 (by omega)).2, k3 (by omega), k4 (by omega)], of_decide_eq_true ht.1, of_decide_eq_true ht.2⟩)
    · split at ht
      · rename_i e; have ht := of_decide_eq_true ht
        exact .inr (.inr (.inl ⟨e, by rw [k1 (by omega), k3 (by omega), k4 (by omega)], ht⟩))
      · split at ht
        · rename_i e; have ht := of_decide_eq_true ht
          exact .inr (.inr (.inr ⟨e, by rw [k1 (by omega), (k2 (by omega)).1, (k2 (by omega)).2, k4 (by omega)], ht⟩))
        · exact .inl ⟨by omega, by rw [k1 (by omega), (k2 (by omega)).1, (k2 (by omega)).2, k3 (by omega), k4 (by omega)]; rfl⟩
theorem isL_parts {s : Sp} {w : Wt} (hs : leafOk s = true) (h : isL s w = true) : w.parts = [] := by
  rcases isL_cases hs h with h | ⟨_, ⟨_, h⟩ | ⟨_, h, _⟩ | ⟨_, h, _⟩ | ⟨_, h, _⟩⟩ <;> rw [h] <;> rfl
theorem isL_Sm {s : Sp} {w : Wt} (hs : leafOk s = true) (h : isL s w = true) : w.Sm := by
  rcases isL_cases hs h with h | ⟨_, ⟨_, h⟩ | ⟨_, h, _⟩ | ⟨_, h, h1⟩ | ⟨_, h, h1⟩⟩
  · rw [h]; exact ⟨by decide, by decide, by decide⟩
  · rw [h]; exact ⟨by decide, by decide, by decide⟩
  · rw [h]; exact ⟨by simp [Wt.rows], by simp [Wt.cells], by simp [Wt.parts]⟩
  · obtain ⟨a, b, _⟩ := checkF_ok h1
    rw [h]; exact ⟨by simp [Wt.rows]; omega, by simp [Wt.cells], by simp [Wt.parts]⟩
  · obtain ⟨a, b, _⟩ := cellsE_ok h1
    have hc : w.cells.length ≤ 17592186044416 := by omega
    rw [h]; exact ⟨by simp [Wt.rows], hc, by simp [Wt.parts]⟩
theorem isP_cases {p q : Sp} {w : Wt} (h : isP p q w = true) : ∃ a b, w = wtP a b ∧ isL p a = true ∧ isL q b = true := by
  simp only [isP, Bool.and_eq_true, Bool.not_eq_true', decide_eq_true_eq] at h
  obtain ⟨⟨⟨⟨h1, h2⟩, h3⟩, h4⟩, h5⟩ := h
  obtain ⟨k1, k2, k3, _⟩ := bareB_is h2
  rcases w with ⟨z, c, g, r, cs, ps⟩
  simp only [Wt.zero, Wt.cost, Wt.gen, Wt.rows, Wt.cells, Wt.parts] at *
  match ps, h3 with
  | [a, b], _ => exact ⟨a, b, by rw [h1, k1 (by decide), (k2 (by decide)).1, (k2 (by decide)).2, k3 (by decide)], h4, h5⟩
  | [], h => simp at h
  | [_], h => simp at h
  | _ :: _ :: _ :: _, h => exact absurd h (by simp only [List.length_cons]; omega)
theorem isB_Sm2 {s : Sp} {w : Wt} (hs : spOk s = true) (h : isB s w = true) : w.Sm2 := by
  rcases spOk_cases hs with ⟨hl, h5⟩ | ⟨p, q, rfl, hp, hq⟩
  · rw [isB, if_neg h5] at h
    exact ⟨isL_Sm hl h, fun x hx => by rw [isL_parts hl h] at hx; cases hx⟩
  · have h : isP p q w = true := h
    obtain ⟨a, b, rfl, ha, hb⟩ := isP_cases h
    refine ⟨⟨by simp [Wt.rows], by simp [Wt.cells], by simp [Wt.parts]⟩, fun x hx => ?_⟩
    simp only [Wt.parts, List.mem_cons, List.not_mem_nil, or_false] at hx
    rcases hx with rfl | rfl
    · exact isL_Sm hp ha
    · exact isL_Sm hq hb
theorem isW (s : Sp) (w : Wt) (hs : spOk s = true) (hw : w.Sm2) : FnC Tryz.prog 115 [spA s, wtA w] (fun r => r = .bool (isB s w)) := by
  rcases spOk_cases hs with ⟨hl, h5⟩ | ⟨p, q, rfl, hp, hq⟩
  · have := is_leaf s w hl hw.sm
    rwa [isB, if_neg h5]
  · exact is_pair p q w hp hq hw.sm hw.parts
def checkedW (s : Sp) (l : List Wt) : Int := if spE s ≠ 0 then spE s else if l.any (fun w => !isB s w) then 51 else 0
theorem spE_ok {s : Sp} (h : spE s = 0) : spOk s = true := by
  unfold spE at h; split at h
  · assumption
  · cases h
theorem checkedW_ok {s : Sp} {l : List Wt} (h : checkedW s l = 0) : spOk s = true ∧ ∀ w ∈ l, isB s w = true := by
  unfold checkedW at h
  split at h
  · contradiction
  · rename_i h1
    split at h
    · cases h
    · rename_i h2
      exact ⟨spE_ok (by simpa using h1), fun w hw => by have := List.any_eq_false.1 (Bool.not_eq_true _ ▸ h2) w hw; exact bnf (by simpa using this)⟩
theorem checkedW_of {s : Sp} {l : List Wt} (h : spOk s = true) (h1 : ∀ w ∈ l, isB s w = true) : checkedW s l = 0 := by
  have h2 : l.any (fun w => !isB s w) = false := List.any_eq_false.2 fun w hw => by simp [h1 w hw]
  simp [checkedW, spE, h, h2]
theorem checked1 (s : Sp) (w : Wt) (hs : spOk s = true) (hw : w.Sm2) : FnC Tryz.prog 114 [wtA w, .ref (spL s)] (fun r => r = .bool (!isB s w)) := by
  refine FnC.of (fn := Tryz.f114) ⟨Tryz.func114, by kernel_rfl, rfl⟩ Tryz.ntmps114 (by simp) fun w0 S0 => ?_
  refine p_go fun hf => ?_
  refine p_call (hx := rfl) (hb := ⟨Tryz.func115, by kernel_rfl, rfl⟩) (hf := isW s w hs hw) (h := ?_)
  refine p_go ?_
  refine p_ret1 (hp := by rfl)
theorem checkedC (s : Sp) (l : List Wt) (hsp : s.parts.length ≤ 17592186044416) (hl : l.length ≤ 17592186044416) (hw : ∀ w ∈ l, w.Sm2) : FnC Tryz.prog 90 [spA s, .sl 37 (l.map wtV)] (fun r => r = iV (checkedW s l)) := by
  refine FnC.of (fn := Tryz.f90) ⟨Tryz.func90, by kernel_rfl, rfl⟩ Tryz.ntmps90 (by simp) fun w0 S0 => ?_
  refine p_go fun hf => ?_
  refine p_call (hx := rfl) (hb := ⟨Tryz.func59, by kernel_rfl, rfl⟩) (hf := space s hsp) (h := ?_)
  refine p_go ?_
  refine p_splitC (s := 9) (ht := fun hc9 => ?_) (hf := fun hc9 => ?_)
  · refine p_go ?_
    refine p_ret1 (hp := by simp at hc9; simp [checkedW, hc9])
  · refine p_go fun hf => ?_
    refine p_callFz (vs := [.sl 37 (l.map wtV), .fn 114 [.ref (spL s)]]) [.cell (0 + 1) 2 25 (spL s)] (hb := ⟨Tryz.func113, by kernel_rfl, rfl⟩) (hz := ⟨oB_, rfl, trivial⟩) (hvs := by simp [fzVal, Fz.val, V.unps, V.unp]) (hf := containsFunc_wt (fun w => !isB s w) l hl _ _ _ _ rfl ⟨Tryz.func114, by kernel_rfl, rfl⟩ fun w hm => by rw [wtV_eq]; exact checked1 s w (spE_ok (by simpa using hc9)) (hw w hm)) (h := ?_)
    simp only [fzAll, Fz.key, Fz.ob', List.map_cons, List.map_nil, Fz.eff]
    refine p_go ?_
    refine p_splitC (s := 13) (ht := fun hc13 => ?_) (hf := fun hc13 => ?_)
    · refine p_go ?_
      refine p_ret1 (hp := by simp at hc9; simp only [checkedW, hc9, ne_eq, not_true_eq_false, if_false, hc13, if_true])
    · refine p_go ?_
      refine p_ret1 (hp := by simp at hc9; simp only [checkedW, hc9, ne_eq, not_true_eq_false, if_false, hc13]; rfl)
theorem wcheck (s : Sp) (w : Wt) (hsp : s.parts.length ≤ 17592186044416) (hw : w.Sm2) : FnC Tryz.prog 61 [spA s, wtA w] (fun r => r = iV (checkedW s [w])) := by
  refine FnC.of (fn := Tryz.f61) ⟨Tryz.func61, by kernel_rfl, rfl⟩ Tryz.ntmps61 (by simp) fun w0 S0 => ?_
  refine p_go fun hf => ?_
  refine p_buildSlice (ht := Tryz.underlying35) (hi := F.ti37.h) (h := ?_)
  refine p_callRow (vs := [spA s, .sl 37 ([w].map wtV)]) (0 + 1 + 1) 7 (hb := ⟨Tryz.func90, by kernel_rfl, rfl⟩) (hvs := by simp [V.frz, wtV_eq]) (hf := checkedC s [w] hsp (by simp) (by simpa using hw)) (h := ?_)
  refine p_go ?_
  refine p_ret1 (hp := by rfl)
end Go.Proofs.YtfpljljjjgicaaaGreatDoor
/-
  Package weight: units, either, then.
-/
set_option maxHeartbeats 4000000
set_option linter.unusedSimpArgs false
set_option linter.unusedVariables false
namespace Go.Proofs.YtfpljljjjgicaaaGreatDoor
open Go.RowKit
attribute [local irreducible] Wk Tr
def zeroW (s : Sp) : Wt := if s.tag = 5 then wtP wtZ wtZ else wtZ
def oneL (s : Sp) : Wt := if s.tag = 3 then wtF (oneF s.dim) else if s.tag = 4 then wtK (oneC s.dim) else wt0
def oneW (s : Sp) : Wt := if s.tag = 5 then wtP (oneL (s.parts.getD 0 sp0)) (oneL (s.parts.getD 1 sp0)) else oneL s
theorem zero_leaf (s : Sp) (h5 : ¬ s.tag = 5) : FnC Tryz.prog 100 [spA s] (fun r => r = wtA wtZ) := by
  refine FnC.of (fn := Tryz.f100) ⟨Tryz.func100, by kernel_rfl, rfl⟩ Tryz.ntmps100 (by simp) fun w0 S0 => ?_
  refine p_go ?_
  refine p_isC (s := 5) (b := true) (hc := by simp [h5]) (h := ?_)
  refine p_go fun hf => ?_
  refine p_build (hi := F.ti37.h) (hpl := F.pl37.h) (h := ?_)
  refine p_go ?_
  refine p_cellNil (g1 := 0 + 1) (d1 := 2) (i := 3) (el := 30) (h := ?_)
  refine p_cellNil (g1 := 0 + 1) (d1 := 2) (i := 4) (el := 90) (h := ?_)
  refine p_cellNil (g1 := 0 + 1) (d1 := 2) (i := 5) (el := 37) (h := ?_)
  refine p_r1 (hp := by rfl)
theorem zero_pair (p q : Sp) (hp : ¬ p.tag = 5) (hq : ¬ q.tag = 5) : FnC Tryz.prog 100 [pairA p q] (fun r => r = wpA wtZ wtZ) := by
  refine FnC.of (fn := Tryz.f100) ⟨Tryz.func100, by kernel_rfl, rfl⟩ Tryz.ntmps100 (by simp) fun w0 S0 => ?_
  refine p_go fun hf => ?_
  refine p_idxSl (ht := Tryz.underlying23) (hi := F.ti25.h) (h0 := by decide) (hv := by rfl) (h := ?_)
  rw [spV_cells]
  refine p_go fun hf => ?_
  refine p_call (hx := rfl) (hb := ⟨Tryz.func100, by kernel_rfl, rfl⟩) (hf := zero_leaf p hp) (h := ?_)
  refine p_go fun hf => ?_
  refine p_idxSl (ht := Tryz.underlying23) (hi := F.ti25.h) (h0 := by decide) (hv := by rfl) (h := ?_)
  rw [spV_cells]
  refine p_go fun hf => ?_
  refine p_call (hx := rfl) (hb := ⟨Tryz.func100, by kernel_rfl, rfl⟩) (hf := zero_leaf q hq) (h := ?_)
  refine p_buildSlice (ht := Tryz.underlying35) (hi := F.ti37.h) (h := ?_)
  refine p_build (hi := F.ti37.h) (hpl := F.pl37.h) (h := ?_)
  refine p_go ?_
  refine p_freeze (g1 := 0 + 1 + 1 + 1) (d1 := 17) (h := ?_)
  refine p_cellSl (g1 := 0 + 1) (d1 := 2) (i := 5) (hn := by simp) (h := ?_)
  refine p_cellNil (g1 := 0 + 1) (d1 := 2) (i := 3) (el := 30) (h := ?_)
  refine p_cellNil (g1 := 0 + 1) (d1 := 2) (i := 4) (el := 90) (h := ?_)
  refine p_r1 (hp := by simp only [wpA, wtV_eq]; rfl)
theorem one_leaf (s : Sp) (hs : leafOk s = true) : FnC Tryz.prog 103 [spA s] (fun r => r = wtA (oneL s)) := by
  refine FnC.of (fn := Tryz.f103) ⟨Tryz.func103, by kernel_rfl, rfl⟩ Tryz.ntmps103 (by simp) fun w0 S0 => ?_
  obtain ⟨hd, h5, _, _, _, h64⟩ := leafOk_dim hs
  refine p_go ?_
  refine p_splitC (s := 6) (ht := fun hc6 => ?_) (hf := fun hc6 => ?_)
  · refine p_go fun hf => ?_
    refine p_call (hx := rfl) (hb := ⟨Tryz.func137, by kernel_rfl, rfl⟩) (hf := fone s.dim ⟨hd.1, h64 (.inl (by simpa using hc6))⟩) (h := ?_)
    refine p_go ?_
    refine p_cellNil (g1 := 0 + 1) (d1 := 2) (i := 4) (el := 90) (h := ?_)
    refine p_cellNil (g1 := 0 + 1) (d1 := 2) (i := 5) (el := 37) (h := ?_)
    refine p_r1 (hp := by rw [oneL, if_pos (by simpa using hc6)]; rfl)
  · refine p_go ?_
    refine p_splitC (s := 15) (ht := fun hc15 => ?_) (hf := fun hc15 => ?_)
    · refine p_go fun hf => ?_
      refine p_call (hx := rfl) (hb := ⟨Tryz.func138, by kernel_rfl, rfl⟩) (hf := cOne s.dim ⟨hd.1, h64 (.inr (by simpa using hc15))⟩) (h := ?_)
      refine p_go ?_
      refine p_cellNil (g1 := 0 + 1) (d1 := 2) (i := 3) (el := 30) (h := ?_)
      refine p_cellNil (g1 := 0 + 1) (d1 := 2) (i := 5) (el := 37) (h := ?_)
      refine p_r1 (hp := by rw [oneL, if_neg (by simpa using hc6), if_pos (by simpa using hc15)]; rfl)
    · refine p_go ?_
      refine p_isC (s := 24) (b := false) (hc := by simp [h5]) (h := ?_)
      refine p_go ?_
      refine p_cellNil (g1 := 0 + 1) (d1 := 2) (i := 3) (el := 30) (h := ?_)
      refine p_cellNil (g1 := 0 + 1) (d1 := 2) (i := 4) (el := 90) (h := ?_)
      refine p_cellNil (g1 := 0 + 1) (d1 := 2) (i := 5) (el := 37) (h := ?_)
      refine p_r1 (hp := by rw [oneL, if_neg (by simpa using hc6), if_neg (by simpa using hc15)]; rfl)
theorem one_pair (p q : Sp) (hp : leafOk p = true) (hq : leafOk q = true) : FnC Tryz.prog 103 [pairA p q] (fun r => r = wpA (oneL p) (oneL q)) := by
  refine FnC.of (fn := Tryz.f103) ⟨Tryz.func103, by kernel_rfl, rfl⟩ Tryz.ntmps103 (by simp) fun w0 S0 => ?_
  refine p_go fun hf => ?_
  refine p_idxSl (ht := Tryz.underlying23) (hi := F.ti25.h) (h0 := by decide) (hv := by rfl) (h := ?_)
  rw [spV_cells]
  refine p_go fun hf => ?_
  refine p_call (hx := rfl) (hb := ⟨Tryz.func103, by kernel_rfl, rfl⟩) (hf := one_leaf p hp) (h := ?_)
  refine p_go fun hf => ?_
  refine p_idxSl (ht := Tryz.underlying23) (hi := F.ti25.h) (h0 := by decide) (hv := by rfl) (h := ?_)
  rw [spV_cells]
  refine p_go fun hf => ?_
  refine p_call (hx := rfl) (hb := ⟨Tryz.func103, by kernel_rfl, rfl⟩) (hf := one_leaf q hq) (h := ?_)
  refine p_buildSlice (ht := Tryz.underlying35) (hi := F.ti37.h) (h := ?_)
  refine p_go ?_
  refine p_freeze (g1 := 0 + 1 + 1 + 1 + 1 + 1 + 1 + 1) (d1 := 36) (h := ?_)
  refine p_cellSl (g1 := 0 + 1) (d1 := 2) (i := 5) (hn := by simp) (h := ?_)
  refine p_cellNil (g1 := 0 + 1) (d1 := 2) (i := 3) (el := 30) (h := ?_)
  refine p_cellNil (g1 := 0 + 1) (d1 := 2) (i := 4) (el := 90) (h := ?_)
  refine p_r1 (hp := by simp only [wpA, wtV_eq]; rfl)
theorem zeroC (s : Sp) (hs : spOk s = true) : FnC Tryz.prog 100 [spA s] (fun r => r = wtA (zeroW s)) := by
  rcases spOk_cases hs with ⟨hl, h5⟩ | ⟨p, q, rfl, hp, hq⟩
  · have := zero_leaf s h5
    rwa [zeroW, if_neg h5]
  · exact zero_pair p q (leafOk_dim hp).2.1 (leafOk_dim hq).2.1
theorem oneC_ (s : Sp) (hs : spOk s = true) : FnC Tryz.prog 103 [spA s] (fun r => r = wtA (oneW s)) := by
  rcases spOk_cases hs with ⟨hl, h5⟩ | ⟨p, q, rfl, hp, hq⟩
  · have := one_leaf s hl
    rwa [oneW, if_neg h5]
  · exact one_pair p q hp hq
theorem ZeroC (s : Sp) (hs : spOk s = true) (hsp : s.parts.length ≤ 17592186044416) : FnC Tryz.prog 76 [spA s] (fun r => r = .tup [wtA (zeroW s), iV 0]) := by
  refine FnC.of (fn := Tryz.f76) ⟨Tryz.func76, by kernel_rfl, rfl⟩ Tryz.ntmps76 (by simp) fun w0 S0 => ?_
  refine p_go fun hf => ?_
  refine p_call (hx := rfl) (hb := ⟨Tryz.func59, by kernel_rfl, rfl⟩) (hf := space s hsp) (h := ?_)
  refine p_go ?_
  refine p_isC (s := 8) (b := false) (hc := by simp [spE, hs]) (h := ?_)
  refine p_go fun hf => ?_
  refine p_call (hx := rfl) (hb := ⟨Tryz.func100, by kernel_rfl, rfl⟩) (hf := zeroC s hs) (h := ?_)
  refine p_go ?_
  refine p_r2 (hp := by rfl)
theorem OneC (s : Sp) (hs : spOk s = true) (hsp : s.parts.length ≤ 17592186044416) : FnC Tryz.prog 82 [spA s] (fun r => r = .tup [wtA (oneW s), iV 0]) := by
  refine FnC.of (fn := Tryz.f82) ⟨Tryz.func82, by kernel_rfl, rfl⟩ Tryz.ntmps82 (by simp) fun w0 S0 => ?_
  refine p_go fun hf => ?_
  refine p_call (hx := rfl) (hb := ⟨Tryz.func59, by kernel_rfl, rfl⟩) (hf := space s hsp) (h := ?_)
  refine p_go ?_
  refine p_isC (s := 8) (b := false) (hc := by simp [spE, hs]) (h := ?_)
  refine p_go fun hf => ?_
  refine p_call (hx := rfl) (hb := ⟨Tryz.func103, by kernel_rfl, rfl⟩) (hf := oneC_ s hs) (h := ?_)
  refine p_go ?_
  refine p_r2 (hp := by rfl)
def eitherL (s : Sp) (a b : Wt) : Wt := if a.zero = true then b else if b.zero = true then a else
  if s.tag = 2 then wtC (if checksE s.dim [a.cost, b.cost] = 0 then leastL [a.cost, b.cost] else 0)
  else if s.tag = 3 then wtF (if checkedF s.dim [fct a, fct b] = 0 then combF s.dim (fct a) (fct b) else ⟨0, []⟩)
  else if s.tag = 4 then wtK (if twoE s.dim a.cells b.cells = 0 then List.zipWith bothC a.cells b.cells else []) else wt0
def thenL (s : Sp) (a b : Wt) : Wt := if (a.zero || b.zero) = true then wtZ else
  if s.tag = 2 then wtC (if checksE s.dim [a.cost, b.cost] = 0 then sumL s.dim 0 [a.cost, b.cost] else 0)
  else if s.tag = 3 then wtF (if checkedF s.dim [fct a, fct b] = 0 then extF s.dim (fct a) (fct b) else ⟨0, []⟩)
  else if s.tag = 4 then wtK (if twoE s.dim a.cells b.cells = 0 then b.cells.map (behindC a.cells) else []) else wt0
theorem eitherL_2 {s : Sp} {a b : Wt} (ha : a.zero = false) (hb : b.zero = false) (h : s.tag = 2) : eitherL s a b = wtC (if checksE s.dim [a.cost, b.cost] = 0 then leastL [a.cost, b.cost] else 0) := by
  rw [eitherL, if_neg (by rw [ha]; decide), if_neg (by rw [hb]; decide), if_pos h]
theorem eitherL_3 {s : Sp} {a b : Wt} (ha : a.zero = false) (hb : b.zero = false) (h : s.tag = 3) : eitherL s a b = wtF (if checkedF s.dim [fct a, fct b] = 0 then combF s.dim (fct a) (fct b) else ⟨0, []⟩) := by
  rw [eitherL, if_neg (by rw [ha]; decide), if_neg (by rw [hb]; decide), if_neg (by omega), if_pos h]
theorem eitherL_4 {s : Sp} {a b : Wt} (ha : a.zero = false) (hb : b.zero = false) (h : s.tag = 4) : eitherL s a b = wtK (if twoE s.dim a.cells b.cells = 0 then List.zipWith bothC a.cells b.cells else []) := by
  rw [eitherL, if_neg (by rw [ha]; decide), if_neg (by rw [hb]; decide), if_neg (by omega), if_neg (by omega), if_pos h]
theorem eitherL_0 {s : Sp} {a b : Wt} (ha : a.zero = false) (hb : b.zero = false) (h2 : ¬ s.tag = 2) (h3 : ¬ s.tag = 3) (h4 : ¬ s.tag = 4) : eitherL s a b = wt0 := by
  rw [eitherL, if_neg (by rw [ha]; decide), if_neg (by rw [hb]; decide), if_neg h2, if_neg h3, if_neg h4]
theorem thenL_2 {s : Sp} {a b : Wt} (hz : (a.zero || b.zero) = false) (h : s.tag = 2) : thenL s a b = wtC (if checksE s.dim [a.cost, b.cost] = 0 then sumL s.dim 0 [a.cost, b.cost] else 0) := by
  rw [thenL, if_neg (by rw [hz]; decide), if_pos h]
theorem thenL_3 {s : Sp} {a b : Wt} (hz : (a.zero || b.zero) = false) (h : s.tag = 3) : thenL s a b = wtF (if checkedF s.dim [fct a, fct b] = 0 then extF s.dim (fct a) (fct b) else ⟨0, []⟩) := by
  rw [thenL, if_neg (by rw [hz]; decide), if_neg (by omega), if_pos h]
theorem thenL_4 {s : Sp} {a b : Wt} (hz : (a.zero || b.zero) = false) (h : s.tag = 4) : thenL s a b = wtK (if twoE s.dim a.cells b.cells = 0 then b.cells.map (behindC a.cells) else []) := by
  rw [thenL, if_neg (by rw [hz]; decide), if_neg (by omega), if_neg (by omega), if_pos h]
theorem thenL_0 {s : Sp} {a b : Wt} (hz : (a.zero || b.zero) = false) (h2 : ¬ s.tag = 2) (h3 : ¬ s.tag = 3) (h4 : ¬ s.tag = 4) : thenL s a b = wt0 := by
  rw [thenL, if_neg (by rw [hz]; decide), if_neg h2, if_neg h3, if_neg h4]
theorem either_leaf (s : Sp) (a b : Wt) (hs : leafOk s = true) (ha : a.Sm) (hb : b.Sm) : FnC Tryz.prog 101 [spA s, wtA a, wtA b] (fun r => r = wtA (eitherL s a b)) := by
  refine FnC.of (fn := Tryz.f101) ⟨Tryz.func101, by kernel_rfl, rfl⟩ Tryz.ntmps101 (by simp) fun w0 S0 => ?_
  obtain ⟨hd, h5, _, _, _, h64⟩ := leafOk_dim hs
  refine p_go ?_
  refine p_splitC (s := 9) (ht := fun hc9 => ?_) (hf := fun hc9 => ?_)
  · refine p_go ?_
    refine p_r1 (hp := by rw [eitherL, if_pos hc9])
  · refine p_go ?_
    refine p_splitC (s := 12) (ht := fun hc12 => ?_) (hf := fun hc12 => ?_)
    · refine p_go ?_
      refine p_r1 (hp := by rw [eitherL, if_neg (by rw [hc9]; decide), if_pos hc12])
    · refine p_go ?_
      refine p_splitC (s := 16) (ht := fun hc16 => ?_) (hf := fun hc16 => ?_)
      · refine p_go fun hf => ?_
        refine p_buildSlice (ht := Tryz.underlying26) (hi := F.ti3.h) (h := ?_)
        refine p_callRow (vs := [iV s.dim, .sl 3 ([a.cost, b.cost].map iV)]) (0 + 1 + 1 + 1 + 1 + 1 + 1 + 1) 25 (hb := ⟨Tryz.func131, by kernel_rfl, rfl⟩) (hvs := by simp [V.frz]) (hf := least s.dim [a.cost, b.cost] (by simp)) (h := ?_)
        refine p_go ?_
        refine p_cellNil (g1 := 0 + 1) (d1 := 6) (i := 3) (el := 30) (h := ?_)
        refine p_cellNil (g1 := 0 + 1) (d1 := 6) (i := 4) (el := 90) (h := ?_)
        refine p_cellNil (g1 := 0 + 1) (d1 := 6) (i := 5) (el := 37) (h := ?_)
        refine p_r1 (hp := by rw [eitherL_2 hc9 hc12 (by simpa using hc16)]; rfl)
      · refine p_go ?_
        refine p_splitC (s := 30) (ht := fun hc30 => ?_) (hf := fun hc30 => ?_)
        · refine p_go fun hf => ?_
          refine p_call (hx := rfl) (hb := ⟨Tryz.func132, by kernel_rfl, rfl⟩) (hf := fcombine s.dim (fct a) (fct b) (by omega) ha.rows hb.rows) (h := ?_)
          refine p_go ?_
          refine p_cellNil (g1 := 0 + 1) (d1 := 6) (i := 4) (el := 90) (h := ?_)
          refine p_cellNil (g1 := 0 + 1) (d1 := 6) (i := 5) (el := 37) (h := ?_)
          refine p_r1 (hp := by rw [eitherL_3 hc9 hc12 (by simpa using hc30)]; rfl)
        · refine p_go ?_
          refine p_splitC (s := 43) (ht := fun hc43 => ?_) (hf := fun hc43 => ?_)
          · refine p_go fun hf => ?_
            refine p_call (hx := rfl) (hb := ⟨Tryz.func133, by kernel_rfl, rfl⟩) (hf := cboths s.dim a.cells b.cells ha.cells hb.cells) (h := ?_)
            refine p_go ?_
            refine p_cellNil (g1 := 0 + 1) (d1 := 6) (i := 3) (el := 30) (h := ?_)
            refine p_cellNil (g1 := 0 + 1) (d1 := 6) (i := 5) (el := 37) (h := ?_)
            refine p_r1 (hp := by rw [eitherL_4 hc9 hc12 (by simpa using hc43)]; rfl)
          · refine p_go ?_
            refine p_isC (s := 56) (b := false) (hc := by simp [h5]) (h := ?_)
            refine p_go ?_
            refine p_cellNil (g1 := 0 + 1) (d1 := 6) (i := 3) (el := 30) (h := ?_)
            refine p_cellNil (g1 := 0 + 1) (d1 := 6) (i := 4) (el := 90) (h := ?_)
            refine p_cellNil (g1 := 0 + 1) (d1 := 6) (i := 5) (el := 37) (h := ?_)
            refine p_r1 (hp := by rw [eitherL_0 hc9 hc12 (by simpa using hc16) (by simpa using hc30) (by simpa using hc43)]; rfl)
theorem then_leaf (s : Sp) (a b : Wt) (hs : leafOk s = true) (ha : a.Sm) (hb : b.Sm) : FnC Tryz.prog 104 [spA s, wtA a, wtA b] (fun r => r = wtA (thenL s a b)) := by
  refine FnC.of (fn := Tryz.f104) ⟨Tryz.func104, by kernel_rfl, rfl⟩ Tryz.ntmps104 (by simp) fun w0 S0 => ?_
  obtain ⟨hd, h5, _, _, _, h64⟩ := leafOk_dim hs
  refine p_go ?_
  refine p_splitC (s := 13) (ht := fun hc13 => ?_) (hf := fun hc13 => ?_)
  · refine p_go fun hf => ?_
    refine p_build (hi := F.ti37.h) (hpl := F.pl37.h) (h := ?_)
    refine p_go ?_
    refine p_cellNil (g1 := 0 + 1) (d1 := 6) (i := 3) (el := 30) (h := ?_)
    refine p_cellNil (g1 := 0 + 1) (d1 := 6) (i := 4) (el := 90) (h := ?_)
    refine p_cellNil (g1 := 0 + 1) (d1 := 6) (i := 5) (el := 37) (h := ?_)
    refine p_r1 (hp := by rw [thenL, if_pos hc13]; rfl)
  · refine p_go ?_
    refine p_splitC (s := 17) (ht := fun hc17 => ?_) (hf := fun hc17 => ?_)
    · refine p_go fun hf => ?_
      refine p_buildSlice (ht := Tryz.underlying26) (hi := F.ti3.h) (h := ?_)
      refine p_callRow (vs := [iV s.dim, .sl 3 ([a.cost, b.cost].map iV)]) (0 + 1 + 1 + 1 + 1 + 1 + 1) 26 (hb := ⟨Tryz.func139, by kernel_rfl, rfl⟩) (hvs := by simp [V.frz]) (hf := sum s.dim [a.cost, b.cost] (by simp)) (h := ?_)
      refine p_go ?_
      refine p_cellNil (g1 := 0 + 1) (d1 := 6) (i := 3) (el := 30) (h := ?_)
      refine p_cellNil (g1 := 0 + 1) (d1 := 6) (i := 4) (el := 90) (h := ?_)
      refine p_cellNil (g1 := 0 + 1) (d1 := 6) (i := 5) (el := 37) (h := ?_)
      refine p_r1 (hp := by rw [thenL_2 hc13 (by simpa using hc17)]; rfl)
    · refine p_go ?_
      refine p_splitC (s := 31) (ht := fun hc31 => ?_) (hf := fun hc31 => ?_)
      · refine p_go fun hf => ?_
        refine p_call (hx := rfl) (hb := ⟨Tryz.func140, by kernel_rfl, rfl⟩) (hf := fextend s.dim (fct a) (fct b) (by omega) ha.rows hb.rows) (h := ?_)
        refine p_go ?_
        refine p_cellNil (g1 := 0 + 1) (d1 := 6) (i := 4) (el := 90) (h := ?_)
        refine p_cellNil (g1 := 0 + 1) (d1 := 6) (i := 5) (el := 37) (h := ?_)
        refine p_r1 (hp := by rw [thenL_3 hc13 (by simpa using hc31)]; rfl)
      · refine p_go ?_
        refine p_splitC (s := 44) (ht := fun hc44 => ?_) (hf := fun hc44 => ?_)
        · refine p_go fun hf => ?_
          refine p_call (hx := rfl) (hb := ⟨Tryz.func141, by kernel_rfl, rfl⟩) (hf := cthen s.dim a.cells b.cells ha.cells hb.cells) (h := ?_)
          refine p_go ?_
          refine p_cellNil (g1 := 0 + 1) (d1 := 6) (i := 3) (el := 30) (h := ?_)
          refine p_cellNil (g1 := 0 + 1) (d1 := 6) (i := 5) (el := 37) (h := ?_)
          refine p_r1 (hp := by rw [thenL_4 hc13 (by simpa using hc44)]; rfl)
        · refine p_go ?_
          refine p_isC (s := 57) (b := false) (hc := by simp [h5]) (h := ?_)
          refine p_go ?_
          refine p_cellNil (g1 := 0 + 1) (d1 := 6) (i := 3) (el := 30) (h := ?_)
          refine p_cellNil (g1 := 0 + 1) (d1 := 6) (i := 4) (el := 90) (h := ?_)
          refine p_cellNil (g1 := 0 + 1) (d1 := 6) (i := 5) (el := 37) (h := ?_)
          refine p_r1 (hp := by rw [thenL_0 hc13 (by simpa using hc17) (by simpa using hc31) (by simpa using hc44)]; rfl)
end Go.Proofs.YtfpljljjjgicaaaGreatDoor
/-
  Package weight: either, then of pairs, copied, Combine, Extend, Same.
-/
set_option maxHeartbeats 4000000
set_option linter.unusedSimpArgs false
set_option linter.unusedVariables false
namespace Go.Proofs.YtfpljljjjgicaaaGreatDoor
open Go.RowKit
attribute [local irreducible] Wk Tr
theorem either_pair (p q : Sp) (a0 a1 b0 b1 : Wt) (hp : leafOk p = true) (hq : leafOk q = true) (ha0 : a0.Sm) (ha1 : a1.Sm) (hb0 : b0.Sm) (hb1 : b1.Sm) : FnC Tryz.prog 101 [pairA p q, wpA a0 a1, wpA b0 b1] (fun r => r = wpA (eitherL p a0 b0) (eitherL q a1 b1)) := by
  refine FnC.of (fn := Tryz.f101) ⟨Tryz.func101, by kernel_rfl, rfl⟩ Tryz.ntmps101 (by simp) fun w0 S0 => ?_
  refine p_go fun hf => ?_
  refine p_idxSl (ht := Tryz.underlying23) (hi := F.ti25.h) (h0 := by decide) (hv := by rfl) (h := ?_)
  rw [spV_cells]
  refine p_go fun hf => ?_
  refine p_idxSl (ht := Tryz.underlying35) (hi := F.ti37.h) (h0 := by decide) (hv := by rfl) (h := ?_)
  rw [wtV_cells]
  refine p_go fun hf => ?_
  refine p_idxSl (ht := Tryz.underlying35) (hi := F.ti37.h) (h0 := by decide) (hv := by rfl) (h := ?_)
  rw [wtV_cells]
  refine p_go fun hf => ?_
  refine p_call (hx := rfl) (hb := ⟨Tryz.func101, by kernel_rfl, rfl⟩) (hf := either_leaf p a0 b0 hp ha0 hb0) (h := ?_)
  refine p_go fun hf => ?_
  refine p_idxSl (ht := Tryz.underlying23) (hi := F.ti25.h) (h0 := by decide) (hv := by rfl) (h := ?_)
  rw [spV_cells]
  refine p_go fun hf => ?_
  refine p_idxSl (ht := Tryz.underlying35) (hi := F.ti37.h) (h0 := by decide) (hv := by rfl) (h := ?_)
  rw [wtV_cells]
  refine p_go fun hf => ?_
  refine p_idxSl (ht := Tryz.underlying35) (hi := F.ti37.h) (h0 := by decide) (hv := by rfl) (h := ?_)
  rw [wtV_cells]
  refine p_go fun hf => ?_
  refine p_call (hx := rfl) (hb := ⟨Tryz.func101, by kernel_rfl, rfl⟩) (hf := either_leaf q a1 b1 hq ha1 hb1) (h := ?_)
  refine p_buildSlice (ht := Tryz.underlying35) (hi := F.ti37.h) (h := ?_)
  refine p_go ?_
  refine p_freeze (g1 := 0 + 1 + 1 + 1 + 1 + 1 + 1 + 1 + 1 + 1 + 1) (d1 := 84) (h := ?_)
  refine p_cellSl (g1 := 0 + 1) (d1 := 6) (i := 5) (hn := by simp) (h := ?_)
  refine p_cellNil (g1 := 0 + 1) (d1 := 6) (i := 3) (el := 30) (h := ?_)
  refine p_cellNil (g1 := 0 + 1) (d1 := 6) (i := 4) (el := 90) (h := ?_)
  refine p_r1 (hp := by simp only [wpA, wtV_eq]; rfl)
theorem then_pair (p q : Sp) (a0 a1 b0 b1 : Wt) (hp : leafOk p = true) (hq : leafOk q = true) (ha0 : a0.Sm) (ha1 : a1.Sm) (hb0 : b0.Sm) (hb1 : b1.Sm) : FnC Tryz.prog 104 [pairA p q, wpA a0 a1, wpA b0 b1] (fun r => r = wpA (thenL p a0 b0) (thenL q a1 b1)) := by
  refine FnC.of (fn := Tryz.f104) ⟨Tryz.func104, by kernel_rfl, rfl⟩ Tryz.ntmps104 (by simp) fun w0 S0 => ?_
  refine p_go fun hf => ?_
  refine p_idxSl (ht := Tryz.underlying23) (hi := F.ti25.h) (h0 := by decide) (hv := by rfl) (h := ?_)
  rw [spV_cells]
  refine p_go fun hf => ?_
  refine p_idxSl (ht := Tryz.underlying35) (hi := F.ti37.h) (h0 := by decide) (hv := by rfl) (h := ?_)
  rw [wtV_cells]
  refine p_go fun hf => ?_
  refine p_idxSl (ht := Tryz.underlying35) (hi := F.ti37.h) (h0 := by decide) (hv := by rfl) (h := ?_)
  rw [wtV_cells]
  refine p_go fun hf => ?_
  refine p_call (hx := rfl) (hb := ⟨Tryz.func104, by kernel_rfl, rfl⟩) (hf := then_leaf p a0 b0 hp ha0 hb0) (h := ?_)
  refine p_go fun hf => ?_
  refine p_idxSl (ht := Tryz.underlying23) (hi := F.ti25.h) (h0 := by decide) (hv := by rfl) (h := ?_)
  rw [spV_cells]
  refine p_go fun hf => ?_
  refine p_idxSl (ht := Tryz.underlying35) (hi := F.ti37.h) (h0 := by decide) (hv := by rfl) (h := ?_)
  rw [wtV_cells]
  refine p_go fun hf => ?_
  refine p_idxSl (ht := Tryz.underlying35) (hi := F.ti37.h) (h0 := by decide) (hv := by rfl) (h := ?_)
  rw [wtV_cells]
  refine p_go fun hf => ?_
  refine p_call (hx := rfl) (hb := ⟨Tryz.func104, by kernel_rfl, rfl⟩) (hf := then_leaf q a1 b1 hq ha1 hb1) (h := ?_)
  refine p_buildSlice (ht := Tryz.underlying35) (hi := F.ti37.h) (h := ?_)
  refine p_go ?_
  refine p_freeze (g1 := 0 + 1 + 1 + 1 + 1 + 1 + 1 + 1 + 1 + 1) (d1 := 85) (h := ?_)
  refine p_cellSl (g1 := 0 + 1) (d1 := 6) (i := 5) (hn := by simp) (h := ?_)
  refine p_cellNil (g1 := 0 + 1) (d1 := 6) (i := 3) (el := 30) (h := ?_)
  refine p_cellNil (g1 := 0 + 1) (d1 := 6) (i := 4) (el := 90) (h := ?_)
  refine p_r1 (hp := by simp only [wpA, wtV_eq]; rfl)
theorem set_wt (l : List Wt) {i : Nat} (h : i < l.length) : (l.map wtV).set i (.agg (wtL l[i])) = l.map wtV := by
  refine List.ext_getElem (by simp) fun j h1 h2 => ?_
  rw [List.getElem_set]
  split
  · rename_i e; subst e; rw [List.getElem_map, wtV_eq]
  · rfl
theorem clone_wtO (l : List Wt) (hl : l.length ≤ 1000000) : FnO Tryz.prog 136 [.sl 37 (l.map wtV)] 37 (l.map wtV) (fun g d => .row g d l.length) := by
  refine FnO.of (fn := Tryz.f136) ⟨Tryz.func136, by kernel_rfl, rfl⟩ Tryz.ntmps136 (by simp) fun w0 S0 => ?_
  refine p_go fun hf => ?_
  refine p_eqNil (h := fun b hb => ?_)
  refine p_go ?_
  refine p_cond (ht := fun hc => ?_) (hf := fun hc => ?_)
  · have hnil := List.map_eq_nil_iff.1 (hb hc)
    subst hnil
    refine p_go ?_
    refine p_nilSlot (s := 2) (el := 37) 99 (h := ?_)
    refine p_retO1 (0 + 1 + 1 + 1) 99 rfl oB_ eV_ (Ren.row _)
  · refine p_go fun hf => ?_
    refine p_buildSlice (ht := Tryz.underlying35) (hi := F.ti37.h) (hvs := rfl) (hl := by intro v hv; cases hv) (h := ?_)
    refine p_go fun hf => ?_
    refine p_append (k := l.length) (xs := []) (ht := Tryz.underlying35) (hi := F.ti37.h) (hnl := rfl) (hy := by exact .inl ⟨rfl, rfl⟩) (hm := by simp) (hlim := by omega) (h := ?_)
    refine p_go ?_
    refine p_retO1 (0 + 1 + 1 + 1) 7 rfl oB_ eV_ (Ren.row _)
theorem copied_gen (w : Wt) (hr : w.rows.length ≤ 1000000) (hcl : w.cells.length ≤ 1000000) (hpt : w.parts.length ≤ 1000000) (hrec : ∀ x ∈ w.parts, FnC Tryz.prog 102 [wtA x] (fun r => r = wtA x)) : FnC Tryz.prog 102 [wtA w] (fun r => r = wtA w) := by
  refine FnC.of (fn := Tryz.f102) ⟨Tryz.func102, by kernel_rfl, rfl⟩ Tryz.ntmps102 (by simp) fun w0 S0 => ?_
  refine p_go fun hf => ?_
  refine p_call (hx := rfl) (hb := ⟨Tryz.func134, by kernel_rfl, rfl⟩) (hf := clone_u64 w.rows hr) (h := ?_)
  refine p_go fun hf => ?_
  refine p_call (hx := rfl) (hb := ⟨Tryz.func135, by kernel_rfl, rfl⟩) (hf := clone_cel w.cells hcl) (h := ?_)
  refine p_go fun hf => ?_
  refine p_callO 16 (hb := ⟨Tryz.func136, by kernel_rfl, rfl⟩) (hf := clone_wtO w.parts hpt) (h := ?_)
  refine p_go ?_
  refine p_loopK [1, 2, 20] [(0 + 1, 1), (0 + 1, 2), (0 + 1 + 1 + 1 + 1, 16)] (fun st => ∃ i : Nat, (i ≤ w.parts.length) ∧ st.env 21 = iV i) (fun st => w.parts.length - (st.env 21).toN) ?_ fun e ob g1 hK hO hI => ?_
  · exact ⟨0, by omega, eV_⟩
  · obtain ⟨i, hi, e21⟩ := hI
    dsimp only at e21
    simp only [valsE, List.cons.injEq, and_true] at hK
    simp only [valsO, List.cons.injEq, and_true] at hO
    have hE := (⟨hK, hO, e21⟩ : _ ∧ _ ∧ _)
    refine p_go ?_
    refine p_splitC (s := 22) (ht := fun hc22 => ?_) (hf := fun hc22 => ?_)
    · have hlt : i < w.parts.length := by simpa using hc22
      refine p_go fun hf => ?_
      refine p_idxRowN (i) (ht := Tryz.underlying35) (hi := F.ti37.h) (hij := rfl) (hlt := hlt) (h := ?_)
      refine p_loadRowAM (ht := F.agg37.h) (hi := F.ti37.h) (hj := hlt) (hl := wtV_cells _) (h := ?_)
      refine p_call (hx := rfl) (hb := ⟨Tryz.func102, by kernel_rfl, rfl⟩) (hf := hrec w.parts[i] (List.getElem_mem hlt)) (h := ?_)
      refine p_idxRowN (i) (ht := Tryz.underlying35) (hi := F.ti37.h) (hij := rfl) (hlt := hlt) (h := ?_)
      refine p_storeRow (hi := F.ti37.h) (hc := TI.cells F.ti37.h) (hlt := by simpa using hlt) (hl := .inr ⟨_, rfl⟩) (hro := rfl) (hsz := rfl) (h := ?_)
      rw [set_wt w.parts hlt]
      refine p_go fun hf => ?_
      refine p_add (r := ((i + 1 : Nat) : Int)) (hr := (by first | omega | (simp only [decide_eq_true_eq, decide_eq_false_iff_not, Bool.or_eq_false_iff, Bool.and_eq_true, Bool.not_eq_true', Bool.not_eq_false'] at *; omega))) (hb := (by first | omega | (simp only [decide_eq_true_eq, decide_eq_false_iff_not, Bool.or_eq_false_iff, Bool.and_eq_true, Bool.not_eq_true', Bool.not_eq_false'] at *; omega))) (h := ?_)
      refine p_go ?_
      refine p_some ?_
      refine ⟨⟨(by simp (decide := true) only [valsE, evE, upd, cv, args0, argsFrom, List.length_map, ↓reduceIte, hE] <;> rfl), (by simp (decide := true) only [valsO, updO, upd, true_and, and_true, false_and, and_false, ↓reduceIte, hE] <;> rfl)⟩, ⟨i + 1, hlt, eV_⟩, ?_⟩
      simp (decide := true) only [upd, e21, V.toN, ↓reduceIte]; omega
    · refine p_go ?_
      refine p_freeze (g1 := 0 + 1 + 1 + 1 + 1) (d1 := 16) (h := ?_)
      refine p_cellSl (g1 := 0 + 1) (d1 := 2) (i := 5) (hn := by simp) (h := ?_)
      refine p_r1 (hp := by rfl)
end Go.Proofs.YtfpljljjjgicaaaGreatDoor
