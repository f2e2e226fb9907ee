/-
  Package weight: which spaces and weights may be.
-/
import Derived.Test.YtfpljljjjgicaaaGreatDoorWef
set_option maxHeartbeats 4000000
set_option linter.unusedSimpArgs false
set_option linter.unusedVariables false
namespace Go.Proofs.YtfpljljjjgicaaaGreatDoor
open Go.RowKit
attribute [local irreducible] Wk Tr
abbrev spA (s : Sp) : V := .agg (spL s)
abbrev wtA (w : Wt) : V := .agg (wtL w)
theorem bnt {x : Bool} (h : (!x) = true) : x = false := by cases x <;> simp_all
theorem bnf {x : Bool} (h : (!x) = false) : x = true := by cases x <;> simp_all
def sp0 : Sp := .mk 0 0 []
def wt0 : Wt := .mk false 0 0 [] [] []
def wtZ : Wt := .mk true 0 0 [] [] []
def nop (s : Sp) : Bool := decide ((s.parts.length : Int) = 0)
def leafOk (s : Sp) : Bool :=
  if s.tag = 1 then decide (s.dim = 0) && nop s
  else if s.tag = 2 then decide (0 ≤ s.dim) && decide (s.dim ≤ 1048576) && nop s
  else if s.tag = 3 ∨ s.tag = 4 then decide (0 ≤ s.dim) && decide (s.dim ≤ 64) && nop s
  else false
def leafE (s : Sp) : Int := if leafOk s then 0 else 50
def partBad (p : Sp) : Bool := decide (p.tag = 5) || decide (leafE p ≠ 0)
def spOk (s : Sp) : Bool := if s.tag = 5 then decide (s.dim = 0) && decide ((s.parts.length : Int) = 2) && !(s.parts.any partBad) else leafOk s
def spE (s : Sp) : Int := if spOk s then 0 else 50
theorem leaf1 {s : Sp} (h : s.tag = 1) : leafOk s = (decide (s.dim = 0) && nop s) := if_pos h
theorem leaf2 {s : Sp} (h : s.tag = 2) : leafOk s = (decide (0 ≤ s.dim) && decide (s.dim ≤ 1048576) && nop s) := by rw [leafOk, if_neg (by omega), if_pos h]
theorem leaf34 {s : Sp} (h : s.tag = 3 ∨ s.tag = 4) : leafOk s = (decide (0 ≤ s.dim) && decide (s.dim ≤ 64) && nop s) := by rw [leafOk, if_neg (by omega), if_neg (by omega), if_pos h]
theorem leaf0 {s : Sp} (h1 : ¬ s.tag = 1) (h2 : ¬ s.tag = 2) (h3 : ¬ s.tag = 3) (h4 : ¬ s.tag = 4) : leafOk s = false := by rw [leafOk, if_neg h1, if_neg h2, if_neg (by omega)]
theorem leafE_t {s : Sp} {x : Bool} (h : leafOk s = x) (hx : x = true) : leafE s = 0 := by rw [leafE, h, hx]; rfl
theorem leafE_f {s : Sp} {x : Bool} (h : leafOk s = x) (hx : x = false) : leafE s = 50 := by rw [leafE, h, hx]; rfl
theorem space_leaf (s : Sp) (h5 : ¬ s.tag = 5) : FnC Tryz.prog 59 [spA s] (fun r => r = iV (leafE s)) := by
  refine FnC.of (fn := Tryz.f59) ⟨Tryz.func59, by kernel_rfl, rfl⟩ Tryz.ntmps59 (by simp) fun w0 S0 => ?_
  refine p_go ?_
  refine p_splitC (s := 6) (ht := fun hc6 => ?_) (hf := fun hc6 => ?_)
  · refine p_go ?_
    refine p_splitC (s := 69) (ht := fun hc69 => ?_) (hf := fun hc69 => ?_)
    · refine p_go ?_
      refine p_ret1 (hp := by rw [leafE_f (leaf1 (by simpa using hc6)) (bnt hc69)])
    · refine p_go ?_
      refine p_ret1 (hp := by rw [leafE_t (leaf1 (by simpa using hc6)) (bnf hc69)])
  · refine p_go ?_
    refine p_splitC (s := 8) (ht := fun hc8 => ?_) (hf := fun hc8 => ?_)
    · refine p_go ?_
      refine p_splitC (s := 69) (ht := fun hc69 => ?_) (hf := fun hc69 => ?_)
      · refine p_go ?_
        refine p_ret1 (hp := by rw [leafE_f (leaf2 (by simpa using hc8)) (bnt hc69)])
      · refine p_go ?_
        refine p_ret1 (hp := by rw [leafE_t (leaf2 (by simpa using hc8)) (bnf hc69)])
    · refine p_go ?_
      refine p_splitC (s := 10) (ht := fun hc10 => ?_) (hf := fun hc10 => ?_)
      · refine p_go ?_
        refine p_splitC (s := 69) (ht := fun hc69 => ?_) (hf := fun hc69 => ?_)
        · refine p_go ?_
          refine p_ret1 (hp := by rw [leafE_f (leaf34 (.inl (by simpa using hc10))) (bnt hc69)])
        · refine p_go ?_
          refine p_ret1 (hp := by rw [leafE_t (leaf34 (.inl (by simpa using hc10))) (bnf hc69)])
      · refine p_go ?_
        refine p_splitC (s := 12) (ht := fun hc12 => ?_) (hf := fun hc12 => ?_)
        · refine p_go ?_
          refine p_splitC (s := 69) (ht := fun hc69 => ?_) (hf := fun hc69 => ?_)
          · refine p_go ?_
            refine p_ret1 (hp := by rw [leafE_f (leaf34 (.inr (by simpa using hc12))) (bnt hc69)])
          · refine p_go ?_
            refine p_ret1 (hp := by rw [leafE_t (leaf34 (.inr (by simpa using hc12))) (bnf hc69)])
        · refine p_go ?_
          refine p_isC (s := 14) (b := false) (hc := by simpa using h5) (h := ?_)
          refine p_go ?_
          refine p_ret1 (hp := by rw [leafE_f (leaf0 (by simpa using hc6) (by simpa using hc8) (by simpa using hc10) (by simpa using hc12)) rfl])
theorem space1 (s : Sp) : FnC Tryz.prog 89 [spA s] (fun r => r = .bool (partBad s)) := by
  refine FnC.of (fn := Tryz.f89) ⟨Tryz.func89, by kernel_rfl, rfl⟩ Tryz.ntmps89 (by simp) fun w0 S0 => ?_
  refine p_go fun hf => ?_
  refine p_split (s := 6) (ht := fun hb6 => ?_) (hf := fun hb6 => ?_)
  · -- slot 6 is true
    refine p_go ?_
    refine p_ret1 (hp := by simp at hb6; simp [partBad, hb6])
  · -- slot 6 is false
    refine p_go fun hf => ?_
    refine p_call (hx := rfl) (hb := ⟨Tryz.func59, by kernel_rfl, rfl⟩) (hf := space_leaf s (by simpa using hb6)) (h := ?_)
    refine p_go ?_
    refine p_ret1 (hp := by simp at hb6; simp [partBad, hb6])
theorem space_pair (s : Sp) (h5 : s.tag = 5) (hl : s.parts.length ≤ 17592186044416) : FnC Tryz.prog 59 [spA s] (fun r => r = iV (spE s)) := by
  refine FnC.of (fn := Tryz.f59) ⟨Tryz.func59, by kernel_rfl, rfl⟩ Tryz.ntmps59 (by simp) fun w0 S0 => ?_
  refine p_go ?_
  refine p_isC (s := 6) (b := false) (hc := by simp [h5]) (h := ?_)
  refine p_go ?_
  refine p_isC (s := 8) (b := false) (hc := by simp [h5]) (h := ?_)
  refine p_go ?_
  refine p_isC (s := 10) (b := false) (hc := by simp [h5]) (h := ?_)
  refine p_go ?_
  refine p_isC (s := 12) (b := false) (hc := by simp [h5]) (h := ?_)
  refine p_go ?_
  refine p_isC (s := 14) (b := true) (hc := by simp [h5]) (h := ?_)
  refine p_go fun hf => ?_
  refine p_split (s := 62) (ht := fun hb62 => ?_) (hf := fun hb62 => ?_)
  · -- slot 62 is true
    refine p_go fun hf => ?_
    refine p_call (hx := rfl) (hb := ⟨Tryz.func88, by kernel_rfl, rfl⟩) (hf := containsFunc_sp partBad s.parts hl _ _ _ _ rfl ⟨Tryz.func89, by kernel_rfl, rfl⟩ fun x _ => by rw [spV_eq]; exact space1 x) (h := ?_)
    refine p_go ?_
    refine p_splitC (s := 69) (ht := fun hc69 => ?_) (hf := fun hc69 => ?_)
    · refine p_go ?_
      refine p_ret1 (hp := by rw [spE, spOk, if_pos h5, hb62, bnf (bnt hc69)]; rfl)
    · refine p_go ?_
      refine p_ret1 (hp := by rw [spE, spOk, if_pos h5, hb62, bnt (bnf hc69)]; rfl)
  · -- slot 62 is false
    refine p_go ?_
    refine p_ret1 (hp := by rw [spE, spOk, if_pos h5, hb62]; rfl)
theorem space (s : Sp) (hl : s.parts.length ≤ 17592186044416) : FnC Tryz.prog 59 [spA s] (fun r => r = iV (spE s)) := by
  by_cases h5 : s.tag = 5
  · exact space_pair s h5 hl
  · have := space_leaf s h5
    rwa [show leafE s = spE s by rw [leafE, spE, spOk, if_neg h5]] at this
def bareB (w : Wt) (t : Int) : Bool := (decide (t = 2) || decide (w.cost = 0)) && (decide (t = 3) || decide (w.gen = 0)) && decide (((if t = 3 then 0 else (w.rows.length : Int)) + (if t = 4 then 0 else (w.cells.length : Int)) + (if t = 5 then 0 else (w.parts.length : Int)) : Int) = 0)
structure Wt.Sm (w : Wt) : Prop where
  rows : w.rows.length ≤ 17592186044416
  cells : w.cells.length ≤ 17592186044416
  parts : w.parts.length ≤ 17592186044416
theorem bare (w : Wt) (t : Int) (hw : w.Sm) : FnC Tryz.prog 150 [wtA w, iV t] (fun r => r = .bool (bareB w t)) := by
  refine FnC.of (fn := Tryz.f150) ⟨Tryz.func150, by kernel_rfl, rfl⟩ Tryz.ntmps150 (by simp) fun w0 S0 => ?_
  have hr := hw.rows
  have hcl := hw.cells
  have hpt := hw.parts
  refine p_go ?_
  refine p_splitC (s := 6) (ht := fun hc6 => ?_) (hf := fun hc6 => ?_)
  · refine p_go fun hf => ?_
    refine p_split (s := 28) (ht := fun hb28 => ?_) (hf := fun hb28 => ?_)
    · -- slot 28 is true
      refine p_go fun hf => ?_
      refine p_ari (h := ?_)
      refine p_go fun hf => ?_
      refine p_ari (h := ?_)
      refine p_go ?_
      refine p_ret1 (hp := by simp at hc6 hb28; first | (simp (disch := omega) [bareB, hc6, hb28, IntWalk.i64_in]; done) | (simp (disch := omega) [bareB, hc6, hb28, IntWalk.i64_in]; intro h1 h2; exact absurd h2 (hb28 h1)))
    · -- slot 28 is false
      refine p_go ?_
      refine p_ret1 (hp := by simp at hc6 hb28; first | (simp (disch := omega) [bareB, hc6, hb28, IntWalk.i64_in]; done) | (simp (disch := omega) [bareB, hc6, hb28, IntWalk.i64_in]; intro h1 h2; exact absurd h2 (hb28 h1)))
  · refine p_go ?_
    refine p_splitC (s := 9) (ht := fun hc9 => ?_) (hf := fun hc9 => ?_)
    · refine p_go fun hf => ?_
      refine p_build (hi := F.ti33.h) (hpl := F.pl33.h) (h := ?_)
      refine p_go fun hf => ?_
      refine p_split (s := 28) (ht := fun hb28 => ?_) (hf := fun hb28 => ?_)
      · -- slot 28 is true
        refine p_go fun hf => ?_
        refine p_ari (h := ?_)
        refine p_go fun hf => ?_
        refine p_ari (h := ?_)
        refine p_go ?_
        refine p_ret1 (hp := by simp at hc6 hc9 hb28; first | (simp (disch := omega) [bareB, hc6, hc9, hb28, IntWalk.i64_in]; done) | (simp (disch := omega) [bareB, hc6, hc9, hb28, IntWalk.i64_in]; intro h1 h2; exact absurd h2 (hb28 h1)))
      · -- slot 28 is false
        refine p_go ?_
        refine p_ret1 (hp := by simp at hc6 hc9 hb28; first | (simp (disch := omega) [bareB, hc6, hc9, hb28, IntWalk.i64_in]; done) | (simp (disch := omega) [bareB, hc6, hc9, hb28, IntWalk.i64_in]; intro h1 h2; exact absurd h2 (hb28 h1)))
    · refine p_go ?_
      refine p_splitC (s := 13) (ht := fun hc13 => ?_) (hf := fun hc13 => ?_)
      · refine p_go fun hf => ?_
        refine p_split (s := 28) (ht := fun hb28 => ?_) (hf := fun hb28 => ?_)
        · -- slot 28 is true
          refine p_go fun hf => ?_
          refine p_ari (h := ?_)
          refine p_go fun hf => ?_
          refine p_ari (h := ?_)
          refine p_go ?_
          refine p_ret1 (hp := by simp at hc6 hc9 hc13 hb28; first | (simp (disch := omega) [bareB, hc6, hc9, hc13, hb28, IntWalk.i64_in]; done) | (simp (disch := omega) [bareB, hc6, hc9, hc13, hb28, IntWalk.i64_in]; intro h1 h2; exact absurd h2 (hb28 h1)))
        · -- slot 28 is false
          refine p_go ?_
          refine p_ret1 (hp := by simp at hc6 hc9 hc13 hb28; first | (simp (disch := omega) [bareB, hc6, hc9, hc13, hb28, IntWalk.i64_in]; done) | (simp (disch := omega) [bareB, hc6, hc9, hc13, hb28, IntWalk.i64_in]; intro h1 h2; exact absurd h2 (hb28 h1)))
      · refine p_go ?_
        refine p_splitC (s := 16) (ht := fun hc16 => ?_) (hf := fun hc16 => ?_)
        · refine p_go fun hf => ?_
          refine p_split (s := 28) (ht := fun hb28 => ?_) (hf := fun hb28 => ?_)
          · -- slot 28 is true
            refine p_go fun hf => ?_
            refine p_ari (h := ?_)
            refine p_go fun hf => ?_
            refine p_ari (h := ?_)
            refine p_go ?_
            refine p_ret1 (hp := by simp at hc6 hc9 hc13 hc16 hb28; first | (simp (disch := omega) [bareB, hc6, hc9, hc13, hc16, hb28, IntWalk.i64_in]; done) | (simp (disch := omega) [bareB, hc6, hc9, hc13, hc16, hb28, IntWalk.i64_in]; intro h1 h2; exact absurd h2 (hb28 h1)))
          · -- slot 28 is false
            refine p_go ?_
            refine p_ret1 (hp := by simp at hc6 hc9 hc13 hc16 hb28; first | (simp (disch := omega) [bareB, hc6, hc9, hc13, hc16, hb28, IntWalk.i64_in]; done) | (simp (disch := omega) [bareB, hc6, hc9, hc13, hc16, hb28, IntWalk.i64_in]; intro h1 h2; exact absurd h2 (hb28 h1)))
        · refine p_go fun hf => ?_
          refine p_split (s := 28) (ht := fun hb28 => ?_) (hf := fun hb28 => ?_)
          · -- slot 28 is true
            refine p_go fun hf => ?_
            refine p_ari (h := ?_)
            refine p_go fun hf => ?_
            refine p_ari (h := ?_)
            refine p_go ?_
            refine p_ret1 (hp := by simp at hc6 hc9 hc13 hc16 hb28; first | (simp (disch := omega) [bareB, hc6, hc9, hc13, hc16, hb28, IntWalk.i64_in]; done) | (simp (disch := omega) [bareB, hc6, hc9, hc13, hc16, hb28, IntWalk.i64_in]; intro h1 h2; exact absurd h2 (hb28 h1)))
          · -- slot 28 is false
            refine p_go ?_
            refine p_ret1 (hp := by simp at hc6 hc9 hc13 hc16 hb28; first | (simp (disch := omega) [bareB, hc6, hc9, hc13, hc16, hb28, IntWalk.i64_in]; done) | (simp (disch := omega) [bareB, hc6, hc9, hc13, hc16, hb28, IntWalk.i64_in]; intro h1 h2; exact absurd h2 (hb28 h1)))
abbrev pairA (p q : Sp) : V := .agg [iV 5, iV 0, .sl 25 [spV p, spV q]]
def fct (w : Wt) : Fct := ⟨w.gen, w.rows⟩
def isT (s : Sp) (w : Wt) : Bool := if s.tag = 2 then decide (w.cost ≠ -1) && decide (checksE s.dim [w.cost] = 0) else if s.tag = 3 then decide (checkF s.dim (fct w) = 0) else if s.tag = 4 then decide (cellsE s.dim w.cells = 0) else true
def isL (s : Sp) (w : Wt) : Bool := if w.zero = true then bareB w 0 else bareB w s.tag && isT s w
def isP (p q : Sp) (w : Wt) : Bool := !w.zero && bareB w 5 && decide ((w.parts.length : Int) = 2) && isL p (w.parts.getD 0 wt0) && isL q (w.parts.getD 1 wt0)
theorem leafOk_dim {s : Sp} (h : leafOk s = true) : (0 ≤ s.dim ∧ s.dim ≤ 1048576) ∧ ¬ s.tag = 5 ∧ s.parts = [] ∧ 1 ≤ s.tag ∧ s.tag ≤ 4 ∧ (s.tag = 3 ∨ s.tag = 4 → s.dim ≤ 64) := by
  unfold leafOk nop at h
  split at h
  · simp at h; exact ⟨by omega, by omega, h.2, by omega, by omega, by omega⟩
  · split at h
    · simp at h; exact ⟨by omega, by omega, h.2, by omega, by omega, by omega⟩
    · split at h
      · simp at h; exact ⟨by omega, by omega, h.2, by omega, by omega, by omega⟩
      · cases h
theorem is_leaf (s : Sp) (w : Wt) (hs : leafOk s = true) (hw : w.Sm) : FnC Tryz.prog 115 [spA s, wtA w] (fun r => r = .bool (isL s w)) := by
  refine FnC.of (fn := Tryz.f115) ⟨Tryz.func115, by kernel_rfl, rfl⟩ Tryz.ntmps115 (by simp) fun w0 S0 => ?_
  have hr := hw.rows
  have hcl := hw.cells
  have hpt := hw.parts
  obtain ⟨hd, h5, _⟩ := leafOk_dim hs
  refine p_go ?_
  refine p_splitC (s := 6) (ht := fun hc6 => ?_) (hf := fun hc6 => ?_)
  · refine p_go fun hf => ?_
    refine p_isW (s := 10) (b := true) (hc := by simp [h5]) (h := ?_)
    refine p_go fun hf => ?_
    refine p_call (hx := rfl) (hb := ⟨Tryz.func150, by kernel_rfl, rfl⟩) (hf := bare w 0 hw) (h := ?_)
    refine p_go ?_
    refine p_ret1 (hp := by rw [isL, if_pos hc6])
  · refine p_go fun hf => ?_
    refine p_call (hx := rfl) (hb := ⟨Tryz.func150, by kernel_rfl, rfl⟩) (hf := bare w s.tag hw) (h := ?_)
    refine p_go ?_
    refine p_splitC (s := 18) (ht := fun hc18 => ?_) (hf := fun hc18 => ?_)
    · refine p_go ?_
      refine p_ret1 (hp := by rw [isL, if_neg (by rw [hc6]; decide), bnt hc18]; rfl)
    · refine p_go ?_
      refine p_splitC (s := 21) (ht := fun hc21 => ?_) (hf := fun hc21 => ?_)
      · refine p_go fun hf => ?_
        refine p_split (s := 26) (ht := fun hb26 => ?_) (hf := fun hb26 => ?_)
        · -- slot 26 is true
          refine p_go fun hf => ?_
          refine p_call (hx := rfl) (hb := ⟨Tryz.func151, by kernel_rfl, rfl⟩) (hf := costCheck s.dim w.cost) (h := ?_)
          refine p_go ?_
          refine p_ret1 (hp := by rw [isL, if_neg (by rw [hc6]; decide), bnf hc18, isT, if_pos (by simpa using hc21), hb26]; rfl)
        · -- slot 26 is false
          refine p_go ?_
          refine p_ret1 (hp := by rw [isL, if_neg (by rw [hc6]; decide), bnf hc18, isT, if_pos (by simpa using hc21), hb26]; rfl)
      · refine p_go ?_
        refine p_splitC (s := 34) (ht := fun hc34 => ?_) (hf := fun hc34 => ?_)
        · refine p_go fun hf => ?_
          refine p_call (hx := rfl) (hb := ⟨Tryz.func152, by kernel_rfl, rfl⟩) (hf := factsCheck s.dim (fct w) (by omega) hw.rows) (h := ?_)
          refine p_go ?_
          refine p_ret1 (hp := by rw [isL, if_neg (by rw [hc6]; decide), bnf hc18, isT, if_neg (by simpa using hc21), if_pos (by simpa using hc34)]; rfl)
        · refine p_go ?_
          refine p_splitC (s := 42) (ht := fun hc42 => ?_) (hf := fun hc42 => ?_)
          · refine p_go fun hf => ?_
            refine p_call (hx := rfl) (hb := ⟨Tryz.func153, by kernel_rfl, rfl⟩) (hf := cellsCheck s.dim w.cells hw.cells) (h := ?_)
            refine p_go ?_
            refine p_ret1 (hp := by rw [isL, if_neg (by rw [hc6]; decide), bnf hc18, isT, if_neg (by simpa using hc21), if_neg (by simpa using hc34), if_pos (by simpa using hc42)]; rfl)
          · refine p_go ?_
            refine p_isC (s := 50) (b := false) (hc := by simp [h5]) (h := ?_)
            refine p_go ?_
            refine p_ret1 (hp := by rw [isL, if_neg (by rw [hc6]; decide), bnf hc18, isT, if_neg (by simpa using hc21), if_neg (by simpa using hc34), if_neg (by simpa using hc42)]; rfl)
theorem is_pair (p q : Sp) (w : Wt) (hp : leafOk p = true) (hq : leafOk q = true) (hw : w.Sm) (hws : ∀ x ∈ w.parts, x.Sm) : FnC Tryz.prog 115 [pairA p q, wtA w] (fun r => r = .bool (isP p q w)) := by
  refine FnC.of (fn := Tryz.f115) ⟨Tryz.func115, by kernel_rfl, rfl⟩ Tryz.ntmps115 (by simp) fun w0 S0 => ?_
  have hr := hw.rows
  have hcl := hw.cells
  have hpt := hw.parts
  refine p_go ?_
  refine p_splitC (s := 6) (ht := fun hc6 => ?_) (hf := fun hc6 => ?_)
  · refine p_go ?_
    refine p_ret1 (hp := by rw [isP, hc6]; rfl)
  · refine p_go fun hf => ?_
    refine p_call (hx := rfl) (hb := ⟨Tryz.func150, by kernel_rfl, rfl⟩) (hf := bare w 5 hw) (h := ?_)
    refine p_go ?_
    refine p_splitC (s := 18) (ht := fun hc18 => ?_) (hf := fun hc18 => ?_)
    · refine p_go ?_
      refine p_ret1 (hp := by rw [isP, hc6, bnt hc18]; rfl)
    · refine p_go fun hf => ?_
      refine p_split (s := 56) (ht := fun hb56 => ?_) (hf := fun hb56 => ?_)
      · have hlen : w.parts.length = 2 := by have := hb56; simp at this; omega
        refine p_go fun hf => ?_
        refine p_idxSl (ht := Tryz.underlying23) (hi := F.ti25.h) (h0 := by decide) (hv := by rfl) (h := ?_)
        rw [spV_cells]
        refine p_go fun hf => ?_
        refine p_idxMap (j := 0) (ht := Tryz.underlying35) (hi := F.ti37.h) (hij := rfl) (hj := by omega) (h := ?_)
        rw [wtV_cells]
        refine p_go fun hf => ?_
        refine p_call (hx := rfl) (hb := ⟨Tryz.func115, by kernel_rfl, rfl⟩) (hf := is_leaf p w.parts[0] hp (hws _ (List.getElem_mem _))) (h := ?_)
        refine p_go fun hf => ?_
        refine p_split (s := 67) (ht := fun hb67 => ?_) (hf := fun hb67 => ?_)
        · -- slot 67 is true
          refine p_go fun hf => ?_
          refine p_idxSl (ht := Tryz.underlying23) (hi := F.ti25.h) (h0 := by decide) (hv := by rfl) (h := ?_)
          rw [spV_cells]
          refine p_go fun hf => ?_
          refine p_idxMap (j := 1) (ht := Tryz.underlying35) (hi := F.ti37.h) (hij := rfl) (hj := by omega) (h := ?_)
          rw [wtV_cells]
          refine p_go fun hf => ?_
          refine p_call (hx := rfl) (hb := ⟨Tryz.func115, by kernel_rfl, rfl⟩) (hf := is_leaf q w.parts[1] hq (hws _ (List.getElem_mem _))) (h := ?_)
          refine p_go ?_
          refine p_ret1 (hp := by rw [isP, hc6, bnf hc18, hb56, getD_at (show 0 < w.parts.length by omega), getD_at (show 1 < w.parts.length by omega), hb67]; rfl)
        · -- slot 67 is false
          refine p_go ?_
          refine p_ret1 (hp := by rw [isP, hc6, bnf hc18, hb56, getD_at (show 0 < w.parts.length by omega), hb67]; rfl)
      · -- slot 56 is false
        refine p_go ?_
        refine p_ret1 (hp := by rw [isP, hc6, bnf hc18, hb56]; rfl)
end Go.Proofs.YtfpljljjjgicaaaGreatDoor
