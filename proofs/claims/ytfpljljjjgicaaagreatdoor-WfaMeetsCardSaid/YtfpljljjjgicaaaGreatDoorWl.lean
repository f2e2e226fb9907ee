/-
  Weights of any space that may be: combined, extended.
-/
import Derived.Test.YtfpljljjjgicaaaGreatDoorWk
set_option maxHeartbeats 4000000
set_option linter.unusedSimpArgs false
set_option linter.unusedVariables false
namespace Go.Proofs.YtfpljljjjgicaaaGreatDoor
open Go.RowKit
attribute [local irreducible] Wk Tr
def part (s : Sp) (i : Nat) : Sp := s.parts.getD i sp0
def Wt.part (w : Wt) (i : Nat) : Wt := w.parts.getD i wt0
def eitherW (s : Sp) (a b : Wt) : Wt := if s.tag = 5 then wtP (eitherL (part s 0) (a.part 0) (b.part 0)) (eitherL (part s 1) (a.part 1) (b.part 1)) else eitherL s a b
def thenW (s : Sp) (a b : Wt) : Wt := if s.tag = 5 then wtP (thenL (part s 0) (a.part 0) (b.part 0)) (thenL (part s 1) (a.part 1) (b.part 1)) else thenL s a b
theorem isB_pair {p q : Sp} {w : Wt} (h : isB (.mk 5 0 [p, q]) w = true) : ∃ a b, w = wtP a b ∧ isL p a = true ∧ isL q b = true := isP_cases h
theorem isB_mk {p q : Sp} {a b : Wt} (ha : isL p a = true) (hb : isL q b = true) : isB (.mk 5 0 [p, q]) (wtP a b) = true := by
  show isP p q (wtP a b) = true
  have h1 : bareB (wtP a b) 5 = true := by simp [bareB, Wt.cost, Wt.gen, Wt.rows, Wt.cells, Wt.parts]
  show ((!false) && bareB (wtP a b) 5 && decide (([a, b].length : Int) = 2) && isL p a && isL q b) = true
  rw [h1, ha, hb]; rfl
theorem isB_leaf {s : Sp} {w : Wt} (h5 : ¬ s.tag = 5) : isB s w = isL s w := if_neg h5
theorem eitherW_ok {s : Sp} {a b : Wt} (hs : spOk s = true) (ha : isB s a = true) (hb : isB s b = true) : isB s (eitherW s a b) = true := by
  rcases spOk_cases hs with ⟨hl, h5⟩ | ⟨p, q, rfl, hp, hq⟩
  · rw [isB_leaf h5] at *; rw [eitherW, if_neg h5]; exact isL_either hl ha hb
  · obtain ⟨a0, a1, rfl, h1, h2⟩ := isB_pair ha
    obtain ⟨b0, b1, rfl, k1, k2⟩ := isB_pair hb
    exact isB_mk (isL_either hp h1 k1) (isL_either hq h2 k2)
theorem thenW_ok {s : Sp} {a b : Wt} (hs : spOk s = true) (ha : isB s a = true) (hb : isB s b = true) : isB s (thenW s a b) = true := by
  rcases spOk_cases hs with ⟨hl, h5⟩ | ⟨p, q, rfl, hp, hq⟩
  · rw [isB_leaf h5] at *; rw [thenW, if_neg h5]; exact isL_then hl ha hb
  · obtain ⟨a0, a1, rfl, h1, h2⟩ := isB_pair ha
    obtain ⟨b0, b1, rfl, k1, k2⟩ := isB_pair hb
    exact isB_mk (isL_then hp h1 k1) (isL_then hq h2 k2)
theorem zeroW_ok {s : Sp} (hs : spOk s = true) : isB s (zeroW s) = true := by
  rcases spOk_cases hs with ⟨hl, h5⟩ | ⟨p, q, rfl, hp, hq⟩
  · rw [isB_leaf h5, zeroW, if_neg h5]; exact isL_Z
  · exact isB_mk isL_Z isL_Z
theorem oneW_ok {s : Sp} (hs : spOk s = true) : isB s (oneW s) = true := by
  rcases spOk_cases hs with ⟨hl, h5⟩ | ⟨p, q, rfl, hp, hq⟩
  · rw [isB_leaf h5, oneW, if_neg h5]; exact isL_one hl
  · exact isB_mk (isL_one hp) (isL_one hq)
theorem either_zero {s : Sp} {a : Wt} (hs : spOk s = true) (ha : isB s a = true) : eitherW s (zeroW s) a = a := by
  rcases spOk_cases hs with ⟨hl, h5⟩ | ⟨p, q, rfl, hp, hq⟩
  · rw [eitherW, if_neg h5, zeroW, if_neg h5, either_Z]
  · obtain ⟨a0, a1, rfl, h1, h2⟩ := isB_pair ha
    show wtP (eitherL p wtZ a0) (eitherL q wtZ a1) = _
    rw [either_Z, either_Z]
theorem then_oneW {s : Sp} {a : Wt} (hs : spOk s = true) (ha : isB s a = true) : thenW s (oneW s) a = a := by
  rcases spOk_cases hs with ⟨hl, h5⟩ | ⟨p, q, rfl, hp, hq⟩
  · rw [isB_leaf h5] at ha; rw [thenW, if_neg h5, oneW, if_neg h5, then_one hl ha]
  · obtain ⟨a0, a1, rfl, h1, h2⟩ := isB_pair ha
    show wtP (thenL p (oneL p) a0) (thenL q (oneL q) a1) = _
    rw [then_one hp h1, then_one hq h2]
theorem eitherC {s : Sp} {a b : Wt} (hs : spOk s = true) (ha : isB s a = true) (hb : isB s b = true) : FnC Tryz.prog 101 [spA s, wtA a, wtA b] (fun r => r = wtA (eitherW s a b)) := by
  rcases spOk_cases hs with ⟨hl, h5⟩ | ⟨p, q, rfl, hp, hq⟩
  · rw [isB_leaf h5] at *; rw [eitherW, if_neg h5]; exact either_leaf s a b hl (isL_Sm hl ha) (isL_Sm hl hb)
  · obtain ⟨a0, a1, rfl, h1, h2⟩ := isB_pair ha
    obtain ⟨b0, b1, rfl, k1, k2⟩ := isB_pair hb
    exact either_pair p q a0 a1 b0 b1 hp hq (isL_Sm hp h1) (isL_Sm hq h2) (isL_Sm hp k1) (isL_Sm hq k2)
theorem thenC' {s : Sp} {a b : Wt} (hs : spOk s = true) (ha : isB s a = true) (hb : isB s b = true) : FnC Tryz.prog 104 [spA s, wtA a, wtA b] (fun r => r = wtA (thenW s a b)) := by
  rcases spOk_cases hs with ⟨hl, h5⟩ | ⟨p, q, rfl, hp, hq⟩
  · rw [isB_leaf h5] at *; rw [thenW, if_neg h5]; exact then_leaf s a b hl (isL_Sm hl ha) (isL_Sm hl hb)
  · obtain ⟨a0, a1, rfl, h1, h2⟩ := isB_pair ha
    obtain ⟨b0, b1, rfl, k1, k2⟩ := isB_pair hb
    exact then_pair p q a0 a1 b0 b1 hp hq (isL_Sm hp h1) (isL_Sm hq h2) (isL_Sm hp k1) (isL_Sm hq k2)
theorem isL_len {s : Sp} {w : Wt} (hs : leafOk s = true) (h : isL s w = true) : w.rows.length ≤ 64 ∧ w.cells.length ≤ 64 ∧ w.parts = [] := by
  rcases isL_cases hs h with h | ⟨_, ⟨_, h⟩ | ⟨_, h, _⟩ | ⟨_, h, h1⟩ | ⟨_, h, h1⟩⟩
  · rw [h]; exact ⟨by decide, by decide, rfl⟩
  · rw [h]; exact ⟨by decide, by decide, rfl⟩
  · rw [h]; exact ⟨by simp [Wt.rows], by simp [Wt.cells], rfl⟩
  · obtain ⟨a, b, _⟩ := checkF_ok h1
    have hc : w.rows.length ≤ 64 := by have : (fct w).rows.length = w.rows.length := rfl; omega
    rw [h]; exact ⟨hc, by simp [Wt.cells], rfl⟩
  · obtain ⟨a, b, _⟩ := cellsE_ok h1
    have hc : w.cells.length ≤ 64 := by omega
    rw [h]; exact ⟨by simp [Wt.rows], hc, rfl⟩
theorem copied_leaf {s : Sp} {w : Wt} (hs : leafOk s = true) (h : isL s w = true) : FnC Tryz.prog 102 [wtA w] (fun r => r = wtA w) := by
  obtain ⟨h1, h2, h3⟩ := isL_len hs h
  exact copied_gen w (by omega) (by omega) (by rw [h3]; decide) (fun x hx => by rw [h3] at hx; cases hx)
theorem copiedC {s : Sp} {w : Wt} (hs : spOk s = true) (h : isB s w = true) : FnC Tryz.prog 102 [wtA w] (fun r => r = wtA w) := by
  rcases spOk_cases hs with ⟨hl, h5⟩ | ⟨p, q, rfl, hp, hq⟩
  · rw [isB_leaf h5] at h; exact copied_leaf hl h
  · obtain ⟨a0, a1, rfl, h1, h2⟩ := isB_pair h
    refine copied_gen _ (by simp [Wt.rows]) (by simp [Wt.cells]) (by simp [Wt.parts]) (fun x hx => ?_)
    simp only [Wt.parts, List.mem_cons, List.not_mem_nil, or_false] at hx
    rcases hx with rfl | rfl
    · exact copied_leaf hp h1
    · exact copied_leaf hq h2
theorem foldl_ok {s : Sp} {f : Wt → Wt → Wt} (hf : ∀ a b, isB s a = true → isB s b = true → isB s (f a b) = true) : ∀ (l : List Wt) (w : Wt), isB s w = true → (∀ x ∈ l, isB s x = true) → isB s (l.foldl f w) = true
  | [], _, h, _ => h
  | x :: l, w, h, hl => foldl_ok hf l _ (hf w x h (hl x (by simp))) fun y hy => hl y (by simp [hy])

theorem CombineC (s : Sp) (l : List Wt) (hsp : s.parts.length ≤ 17592186044416) (hl : l.length ≤ 17592186044416) (hc0 : checkedW s l = 0) : FnC Tryz.prog 77 [spA s, .sl 37 (l.map wtV)] (fun r => r = .tup [wtA (l.foldl (eitherW s) (zeroW s)), iV 0]) := by
  refine FnC.of (fn := Tryz.f77) ⟨Tryz.func77, by kernel_rfl, rfl⟩ Tryz.ntmps77 (by simp) fun w0 S0 => ?_
  obtain ⟨hs, hv⟩ := checkedW_ok hc0
  refine p_go fun hf => ?_
  refine p_call (hx := rfl) (hb := ⟨Tryz.func90, by kernel_rfl, rfl⟩) (hf := checkedC s l hsp hl fun w hw => isB_Sm2 hs (hv w hw)) (h := ?_)
  refine p_go ?_
  refine p_isC (s := 14) (b := false) (hc := by simp [hc0]) (h := ?_)
  refine p_go fun hf => ?_
  refine p_call (hx := rfl) (hb := ⟨Tryz.func100, by kernel_rfl, rfl⟩) (hf := zeroC s hs) (h := ?_)
  refine p_go ?_
  refine p_loopK [2, 4, 7, 19, 20] [(0 + 1, 2), (0 + 1, 4)] (fun st => ∃ i : Nat, (i ≤ l.length) ∧ st.env 21 = iV i ∧ st.obj (0 + 1 + 1 + 1 + 1) 7 = .cells 37 (wtL ((l.take i).foldl (eitherW s) (zeroW s)))) (fun st => l.length - (st.env 21).toN) ?_ fun e ob g1 hK hO hI => ?_
  · exact ⟨0, by omega, eV_, oB_⟩
  · obtain ⟨i, hi, e21, o7⟩ := hI
    dsimp only at e21 o7
    simp only [valsE, List.cons.injEq, and_true] at hK
    simp only [valsO, List.cons.injEq, and_true] at hO
    have hE := (⟨hK, hO, e21, o7⟩ : _ ∧ _ ∧ _ ∧ _)
    refine p_go ?_
    refine p_splitC (s := 22) (ht := fun hc22 => ?_) (hf := fun hc22 => ?_)
    · have hlt : i < l.length := by simpa using hc22
      refine p_go fun hf => ?_
      refine p_idxMap (j := i) (ht := Tryz.underlying35) (hi := F.ti37.h) (hij := rfl) (hj := hlt) (h := ?_)
      rw [wtV_cells]
      refine p_go fun hf => ?_
      refine p_call (hx := rfl) (hb := ⟨Tryz.func101, by kernel_rfl, rfl⟩) (hf := eitherC hs (foldl_ok (fun a b => eitherW_ok hs) _ _ (zeroW_ok hs) fun x hx => hv x (List.mem_of_mem_take hx)) (hv _ (List.getElem_mem hlt))) (h := ?_)
      refine p_go fun hf => ?_
      refine p_add (r := ((i + 1 : Nat) : Int)) (hr := (by first | omega | (simp only [decide_eq_true_eq, decide_eq_false_iff_not, Bool.or_eq_false_iff, Bool.and_eq_true, Bool.not_eq_true', Bool.not_eq_false'] at *; omega))) (hb := (by first | omega | (simp only [decide_eq_true_eq, decide_eq_false_iff_not, Bool.or_eq_false_iff, Bool.and_eq_true, Bool.not_eq_true', Bool.not_eq_false'] at *; omega))) (h := ?_)
      refine p_go ?_
      refine p_some ?_
      refine ⟨⟨(by simp (decide := true) only [valsE, evE, upd, cv, args0, argsFrom, List.length_map, ↓reduceIte, hE] <;> rfl), (by simp (decide := true) only [valsO, updO, upd, true_and, and_true, false_and, and_false, ↓reduceIte, hE] <;> rfl)⟩, ⟨i + 1, hlt, eV_, by rw [fold_snoc _ _ hlt]; exact oB_⟩, ?_⟩
      simp (decide := true) only [upd, e21, V.toN, ↓reduceIte]; omega
    · have hge : l.length ≤ i := by simpa using hc22
      refine p_go fun hf => ?_
      refine p_call (hx := rfl) (hb := ⟨Tryz.func102, by kernel_rfl, rfl⟩) (hf := copiedC hs (foldl_ok (fun a b => eitherW_ok hs) _ _ (zeroW_ok hs) fun x hx => hv x (List.mem_of_mem_take hx))) (h := ?_)
      refine p_go ?_
      refine p_r2 (hp := by rw [List.take_of_length_le hge])

theorem ExtendC (s : Sp) (l : List Wt) (hsp : s.parts.length ≤ 17592186044416) (hl : l.length ≤ 17592186044416) (hc0 : checkedW s l = 0) : FnC Tryz.prog 78 [spA s, .sl 37 (l.map wtV)] (fun r => r = .tup [wtA (l.foldl (thenW s) (oneW s)), iV 0]) := by
  refine FnC.of (fn := Tryz.f78) ⟨Tryz.func78, by kernel_rfl, rfl⟩ Tryz.ntmps78 (by simp) fun w0 S0 => ?_
  obtain ⟨hs, hv⟩ := checkedW_ok hc0
  refine p_go fun hf => ?_
  refine p_call (hx := rfl) (hb := ⟨Tryz.func90, by kernel_rfl, rfl⟩) (hf := checkedC s l hsp hl fun w hw => isB_Sm2 hs (hv w hw)) (h := ?_)
  refine p_go ?_
  refine p_isC (s := 14) (b := false) (hc := by simp [hc0]) (h := ?_)
  refine p_go fun hf => ?_
  refine p_call (hx := rfl) (hb := ⟨Tryz.func103, by kernel_rfl, rfl⟩) (hf := oneC_ s hs) (h := ?_)
  refine p_go ?_
  refine p_loopK [2, 4, 7, 19, 20] [(0 + 1, 2), (0 + 1, 4)] (fun st => ∃ i : Nat, (i ≤ l.length) ∧ st.env 21 = iV i ∧ st.obj (0 + 1 + 1 + 1 + 1) 7 = .cells 37 (wtL ((l.take i).foldl (thenW s) (oneW s)))) (fun st => l.length - (st.env 21).toN) ?_ fun e ob g1 hK hO hI => ?_
  · exact ⟨0, by omega, eV_, oB_⟩
  · obtain ⟨i, hi, e21, o7⟩ := hI
    dsimp only at e21 o7
    simp only [valsE, List.cons.injEq, and_true] at hK
    simp only [valsO, List.cons.injEq, and_true] at hO
    have hE := (⟨hK, hO, e21, o7⟩ : _ ∧ _ ∧ _ ∧ _)
    refine p_go ?_
    refine p_splitC (s := 22) (ht := fun hc22 => ?_) (hf := fun hc22 => ?_)
    · have hlt : i < l.length := by simpa using hc22
      refine p_go fun hf => ?_
      refine p_idxMap (j := i) (ht := Tryz.underlying35) (hi := F.ti37.h) (hij := rfl) (hj := hlt) (h := ?_)
      rw [wtV_cells]
      refine p_go fun hf => ?_
      refine p_call (hx := rfl) (hb := ⟨Tryz.func104, by kernel_rfl, rfl⟩) (hf := thenC' hs (foldl_ok (fun a b => thenW_ok hs) _ _ (oneW_ok hs) fun x hx => hv x (List.mem_of_mem_take hx)) (hv _ (List.getElem_mem hlt))) (h := ?_)
      refine p_go fun hf => ?_
      refine p_add (r := ((i + 1 : Nat) : Int)) (hr := (by first | omega | (simp only [decide_eq_true_eq, decide_eq_false_iff_not, Bool.or_eq_false_iff, Bool.and_eq_true, Bool.not_eq_true', Bool.not_eq_false'] at *; omega))) (hb := (by first | omega | (simp only [decide_eq_true_eq, decide_eq_false_iff_not, Bool.or_eq_false_iff, Bool.and_eq_true, Bool.not_eq_true', Bool.not_eq_false'] at *; omega))) (h := ?_)
      refine p_go ?_
      refine p_some ?_
      refine ⟨⟨(by simp (decide := true) only [valsE, evE, upd, cv, args0, argsFrom, List.length_map, ↓reduceIte, hE] <;> rfl), (by simp (decide := true) only [valsO, updO, upd, true_and, and_true, false_and, and_false, ↓reduceIte, hE] <;> rfl)⟩, ⟨i + 1, hlt, eV_, by rw [fold_snoc _ _ hlt]; exact oB_⟩, ?_⟩
      simp (decide := true) only [upd, e21, V.toN, ↓reduceIte]; omega
    · have hge : l.length ≤ i := by simpa using hc22
      refine p_go fun hf => ?_
      refine p_call (hx := rfl) (hb := ⟨Tryz.func102, by kernel_rfl, rfl⟩) (hf := copiedC hs (foldl_ok (fun a b => thenW_ok hs) _ _ (oneW_ok hs) fun x hx => hv x (List.mem_of_mem_take hx))) (h := ?_)
      refine p_go ?_
      refine p_r2 (hp := by rw [List.take_of_length_le hge])

end Go.Proofs.YtfpljljjjgicaaaGreatDoor
