import Derived.Test.YtfpljljjjgicaaaGreatDoorWk
/-
  Weights of any space that may be: combined, extended.
-/
set_option maxHeartbeats 4000000
set_option linter.unusedSimpArgs false
set_option linter.unusedVariables false
namespace Go.Proofs.YtfpljljjjgicaaaGreatDoor
open Go.RowKit
attribute [local irreducible] Wk Tr
def part (s : Sp) (i : Nat) : Sp := s.parts.getD i sp0
def Wt.part (w : Wt) (i : Nat) : Wt := w.parts.getD i wt0
def eitherW (s : Sp) (a b : Wt) : Wt := if s.tag = 5 then wtP (eitherL (part s 0) (a.part 0) (b.part 0)) (eitherL (part s 1) (a.part 1) (b.part 1)) else eitherL s a b
def thenW (s : Sp) (a b : Wt) : Wt := if s.tag = 5 then wtP (thenL (part s 0) (a.part 0) (b.part 0)) (thenL (part s 1) (a.part 1) (b.part 1)) else thenL s a b
theorem isB_pair {p q : Sp} {w : Wt} (h : isB (.mk 5 0 [p, q]) w = true) : ∃ a b, w = wtP a b ∧ isL p a = true ∧ isL q b = true := isP_cases h
theorem isB_mk {p q : Sp} {a b : Wt} (ha : isL p a = true) (hb : isL q b = true) : isB (.mk 5 0 [p, q]) (wtP a b) = true := by
  show isP p q (wtP a b) = true
  have h1 : bareB (wtP a b) 5 = true := by simp [bareB, Wt.cost, Wt.gen, Wt.rows, Wt.cells, Wt.parts]
  show ((!false) && bareB (wtP a b) 5 && decide (([a, b].length : Int) = 2) && isL p a && isL q b) = true
  rw [h1, ha, hb]; rfl
theorem isB_leaf {s : Sp} {w : Wt} (h5 : ¬ s.tag = 5) : isB s w = isL s w := if_neg h5
theorem eitherW_ok {s : Sp} {a b : Wt} (hs : spOk s = true) (ha : isB s a = true) (hb : isB s b = true) : isB s (eitherW s a b) = true := by
  rcases spOk_cases hs with ⟨hl, h5⟩ | ⟨p, q, rfl, hp, hq⟩
  · rw [isB_leaf h5] at *; rw [eitherW, if_neg h5]; exact isL_either hl ha hb
  · obtain ⟨a0, a1, rfl, h1, h2⟩ := isB_pair ha
    obtain ⟨b0, b1, rfl, k1, k2⟩ := isB_pair hb
    exact isB_mk (isL_either hp h1 k1) (isL_either hq h2 k2)
theorem thenW_ok {s : Sp} {a b : Wt} (hs : spOk s = true) (ha : isB s a = true) (hb : isB s b = true) : isB s (thenW s a b) = true := by
  rcases spOk_cases hs with ⟨hl, h5⟩ | ⟨p, q, rfl, hp, hq⟩
  · rw [isB_leaf h5] at *; rw [thenW, if_neg h5]; exact isL_then hl ha hb
  · obtain ⟨a0, a1, rfl, h1, h2⟩ := isB_pair ha
    obtain ⟨b0, b1, rfl, k1, k2⟩ := isB_pair hb
    exact isB_mk (isL_then hp h1 k1) (isL_then hq h2 k2)
theorem zeroW_ok {s : Sp} (hs : spOk s = true) : isB s (zeroW s) = true := by
  rcases spOk_cases hs with ⟨hl, h5⟩ | ⟨p, q, rfl, hp, hq⟩
  · rw [isB_leaf h5, zeroW, if_neg h5]; exact isL_Z
  · exact isB_mk isL_Z isL_Z
theorem oneW_ok {s : Sp} (hs : spOk s = true) : isB s (oneW s) = true := by
  rcases spOk_cases hs with ⟨hl, h5⟩ | ⟨p, q, rfl, hp, hq⟩
  · rw [isB_leaf h5, oneW, if_neg h5]; exact isL_one hl
  · exact isB_mk (isL_one hp) (isL_one hq)
theorem either_zero {s : Sp} {a : Wt} (hs : spOk s = true) (ha : isB s a = true) : eitherW s (zeroW s) a = a := by
  rcases spOk_cases hs with ⟨hl, h5⟩ | ⟨p, q, rfl, hp, hq⟩
  · rw [eitherW, if_neg h5, zeroW, if_neg h5, either_Z]
  · obtain ⟨a0, a1, rfl, h1, h2⟩ := isB_pair ha
    show wtP (eitherL p wtZ a0) (eitherL q wtZ a1) = _
    rw [either_Z, either_Z]
theorem then_oneW {s : Sp} {a : Wt} (hs : spOk s = true) (ha : isB s a = true) : thenW s (oneW s) a = a := by
  rcases spOk_cases hs with ⟨hl, h5⟩ | ⟨p, q, rfl, hp, hq⟩
  · rw [isB_leaf h5] at ha; rw [thenW, if_neg h5, oneW, if_neg h5, then_one hl ha]
  · obtain ⟨a0, a1, rfl, h1, h2⟩ := isB_pair ha
    show wtP (thenL p (oneL p) a0) (thenL q (oneL q) a1) = _
    rw [then_one hp h1, then_one hq h2]
theorem eitherC {s : Sp} {a b : Wt} (hs : spOk s = true) (ha : isB s a = true) (hb : isB s b = true) : FnC Tryz.prog 101 [spA s, wtA a, wtA b] (fun r => r = wtA (eitherW s a b)) := by
  rcases spOk_cases hs with ⟨hl, h5⟩ | ⟨p, q, rfl, hp, hq⟩
  · rw [isB_leaf h5] at *; rw [eitherW, if_neg h5]; exact either_leaf s a b hl (isL_Sm hl ha) (isL_Sm hl hb)
  · obtain ⟨a0, a1, rfl, h1, h2⟩ := isB_pair ha
    obtain ⟨b0, b1, rfl, k1, k2⟩ := isB_pair hb
    exact either_pair p q a0 a1 b0 b1 hp hq (isL_Sm hp h1) (isL_Sm hq h2) (isL_Sm hp k1) (isL_Sm hq k2)
theorem thenC' {s : Sp} {a b : Wt} (hs : spOk s = true) (ha : isB s a = true) (hb : isB s b = true) : FnC Tryz.prog 104 [spA s, wtA a, wtA b] (fun r => r = wtA (thenW s a b)) := by
  rcases spOk_cases hs with ⟨hl, h5⟩ | ⟨p, q, rfl, hp, hq⟩
  · rw [isB_leaf h5] at *; rw [thenW, if_neg h5]; exact then_leaf s a b hl (isL_Sm hl ha) (isL_Sm hl hb)
  · obtain ⟨a0, a1, rfl, h1, h2⟩ := isB_pair ha
    obtain ⟨b0, b1, rfl, k1, k2⟩ := isB_pair hb
    exact then_pair p q a0 a1 b0 b1 hp hq (isL_Sm hp h1) (isL_Sm hq h2) (isL_Sm hp k1) (isL_Sm hq k2)
theorem isL_len {s : Sp} {w : Wt} (hs : leafOk s = true) (h : isL s w = true) : w.rows.length ≤ 64 ∧ w.cells.length ≤ 64 ∧ w.parts = [] := by
  rcases isL_cases hs h with h | ⟨_, ⟨_, h⟩ | ⟨_, h, _⟩ | ⟨_, h, h1⟩ | ⟨_, h, h1⟩⟩
  · rw [h]; exact ⟨by decide, by decide, rfl⟩
  · rw [h]; exact ⟨by decide, by decide, rfl⟩
  · rw [h]; exact ⟨by simp [Wt.rows], by simp [Wt.cells], rfl⟩
  · obtain ⟨a, b, _⟩ := checkF_ok h1
    have hc : w.rows.length ≤ 64 := by have : (fct w).rows.length = w.rows.length := rfl; omega
    rw [h]; exact ⟨hc, by simp [Wt.cells], rfl⟩
  · obtain ⟨a, b, _⟩ := cellsE_ok h1
    have hc : w.cells.length ≤ 64 := by omega
    rw [h]; exact ⟨by simp [Wt.rows], hc, rfl⟩
theorem copied_leaf {s : Sp} {w : Wt} (hs : leafOk s = true) (h : isL s w = true) : FnC Tryz.prog 102 [wtA w] (fun r => r = wtA w) := by
  obtain ⟨h1, h2, h3⟩ := isL_len hs h
  exact copied_gen w (by omega) (by omega) (by rw [h3]; decide) (fun x hx => by rw [h3] at hx; cases hx)
theorem copiedC {s : Sp} {w : Wt} (hs : spOk s = true) (h : isB s w = true) : FnC Tryz.prog 102 [wtA w] (fun r => r = wtA w) := by
  rcases spOk_cases hs with ⟨hl, h5⟩ | ⟨p, q, rfl, hp, hq⟩
  · rw [isB_leaf h5] at h; exact copied_leaf hl h
  · obtain ⟨a0, a1, rfl, h1, h2⟩ := isB_pair h
    refine copied_gen _ (by simp [Wt.rows]) (by simp [Wt.cells]) (by simp [Wt.parts]) (fun x hx => ?_)
    simp only [Wt.parts, List.mem_cons, List.not_mem_nil, or_false] at hx
    rcases hx with rfl | rfl
    · exact copied_leaf hp h1
    · exact copied_leaf hq h2
theorem foldl_ok {s : Sp} {f : Wt → Wt → Wt} (hf : ∀ a b, isB s a = true → isB s b = true → isB s (f a b) = true) : ∀ (l : List Wt) (w : Wt), isB s w = true → (∀ x ∈ l, isB s x = true) → isB s (l.foldl f w) = true
  | [], _, h, _ => h
  | x :: l, w, h, hl => foldl_ok hf l _ (hf w x h (hl x (by simp))) fun y hy => hl y (by simp [hy])
theorem CombineC (s : Sp) (l : List Wt) (hsp : s.parts.length ≤ 17592186044416) (hl : l.length ≤ 17592186044416) (hc0 : checkedW s l = 0) : FnC Tryz.prog 77 [spA s, .sl 37 (l.map wtV)] (fun r => r = .tup [wtA (l.foldl (eitherW s) (zeroW s)), iV 0]) := by
  refine FnC.of (fn := Tryz.f77) ⟨Tryz.func77, by kernel_rfl, rfl⟩ Tryz.ntmps77 (by simp) fun w0 S0 => ?_
  obtain ⟨hs, hv⟩ := checkedW_ok hc0
  refine p_go fun hf => ?_
  refine p_call (hx := rfl) (hb := ⟨Tryz.func90, by kernel_rfl, rfl⟩) (hf := checkedC s l hsp hl fun w hw => isB_Sm2 hs (hv w hw)) (h := ?_)
  refine p_go ?_
  refine p_isC (s := 14) (b := false) (hc := by simp [hc0]) (h := ?_)
  refine p_go fun hf => ?_
  refine p_call (hx := rfl) (hb := ⟨Tryz.func100, by kernel_rfl, rfl⟩) (hf := zeroC s hs) (h := ?_)
  refine p_go ?_
  refine p_loopK [2, 4, 7, 19, 20] [(0 + 1, 2), (0 + 1, 4)] (fun st => ∃ i : Nat, (i ≤ l.length) ∧ st.env 21 = iV i ∧ st.obj (0 + 1 + 1 + 1 + 1) 7 = .cells 37 (wtL ((l.take i).foldl (eitherW s) (zeroW s)))) (fun st => l.length - (st.env 21).toN) ?_ fun e ob g1 hK hO hI => ?_
  · exact ⟨0, by omega, eV_, oB_⟩
  · obtain ⟨i, hi, e21, o7⟩ := hI
    dsimp only at e21 o7
    simp only [valsE, List.cons.injEq, and_true] at hK
    simp only [valsO, List.cons.injEq, and_true] at hO
    have hE := (⟨hK, hO, e21, o7⟩ : _ ∧ _ ∧ _ ∧ _)
    refine p_go ?_
    refine p_splitC (s := 22) (ht := fun hc22 => ?_) (hf := fun hc22 => ?_)
    · have hlt : i < l.length := by simpa using hc22
      refine p_go fun hf => ?_
      refine p_idxMap (j := i) (ht := Tryz.underlying35) (hi := F.ti37.h) (hij := rfl) (hj := hlt) (h := ?_)
      rw [wtV_cells]
      refine p_go fun hf => ?_
      refine p_call (hx := rfl) (hb := ⟨Tryz.func101, by kernel_rfl, rfl⟩) (hf := eitherC hs (foldl_ok (fun a b => eitherW_ok hs) _ _ (zeroW_ok hs) fun x hx => hv x (List.mem_of_mem_take hx)) (hv _ (List.getElem_mem hlt))) (h := ?_)
      refine p_go fun hf => ?_
      refine p_add (r := ((i + 1 : Nat) : Int)) (hr := (by first | omega | (simp only [decide_eq_true_eq, decide_eq_false_iff_not, Bool.or_eq_false_iff, Bool.and_eq_true, Bool.not_eq_true', Bool.not_eq_false'] at *; omega))) (hb := (by first | omega | (simp only [decide_eq_true_eq, decide_eq_false_iff_not, Bool.or_eq_false_iff, Bool.and_eq_true, Bool.not_eq_true', Bool.not_eq_false'] at *; omega))) (h := ?_)
      refine p_go ?_
      refine p_some ?_
      refine ⟨⟨(by simp (decide := true) only [valsE, evE, upd, cv, args0, argsFrom, List.length_map, ↓reduceIte, hE] <;> rfl), (by simp (decide := true) only [valsO, updO, upd, true_and, and_true, false_and, and_false, ↓reduceIte, hE] <;> rfl)⟩, ⟨i + 1, hlt, eV_, by rw [fold_snoc _ _ hlt]; exact oB_⟩, ?_⟩
      simp (decide := true) only [upd, e21, V.toN, ↓reduceIte]; omega
    · have hge : l.length ≤ i := by simpa using hc22
      refine p_go fun hf => ?_
      refine p_call (hx := rfl) (hb := ⟨Tryz.func102, by kernel_rfl, rfl⟩) (hf := copiedC hs (foldl_ok (fun a b => eitherW_ok hs) _ _ (zeroW_ok hs) fun x hx => hv x (List.mem_of_mem_take hx))) (h := ?_)
      refine p_go ?_
      refine p_r2 (hp := by rw [List.take_of_length_le hge])
theorem ExtendC (s : Sp) (l : List Wt) (hsp : s.parts.length ≤ 17592186044416) (hl : l.length ≤ 17592186044416) (hc0 : checkedW s l = 0) : FnC Tryz.prog 78 [spA s, .sl 37 (l.map wtV)] (fun r => r = .tup [wtA (l.foldl (thenW s) (oneW s)), iV 0]) := by
  refine FnC.of (fn := Tryz.f78) ⟨Tryz.func78, by kernel_rfl, rfl⟩ Tryz.ntmps78 (by simp) fun w0 S0 => ?_
  obtain ⟨hs, hv⟩ := checkedW_ok hc0
  refine p_go fun hf => ?_
  refine p_call (hx := rfl) (hb := ⟨Tryz.func90, by kernel_rfl, rfl⟩) (hf := checkedC s l hsp hl fun w hw => isB_Sm2 hs (hv w hw)) (h := ?_)
  refine p_go ?_
  refine p_isC (s := 14) (b := false) (hc := by simp [hc0]) (h := ?_)
  refine p_go fun hf => ?_
  refine p_call (hx := rfl) (hb := ⟨Tryz.func103, by kernel_rfl, rfl⟩) (hf := oneC_ s hs) (h := ?_)
  refine p_go ?_
  refine p_loopK [2, 4, 7, 19, 20] [(0 + 1, 2), (0 + 1, 4)] (fun st => ∃ i : Nat, (i ≤ l.length) ∧ st.env 21 = iV i ∧ st.obj (0 + 1 + 1 + 1 + 1) 7 = .cells 37 (wtL ((l.take i).foldl (thenW s) (oneW s)))) (fun st => l.length - (st.env 21).toN) ?_ fun e ob g1 hK hO hI => ?_
  · exact ⟨0, by omega, eV_, oB_⟩
  · obtain ⟨i, hi, e21, o7⟩ := hI
    dsimp only at e21 o7
    simp only [valsE, List.cons.injEq, and_true] at hK
    simp only [valsO, List.cons.injEq, and_true] at hO
    have hE := (⟨hK, hO, e21, o7⟩ : _ ∧ _ ∧ _ ∧ _)
    refine p_go ?_
    refine p_splitC (s := 22) (ht := fun hc22 => ?_) (hf := fun hc22 => ?_)
    · have hlt : i < l.length := by simpa using hc22
      refine p_go fun hf => ?_
      refine p_idxMap (j := i) (ht := Tryz.underlying35) (hi := F.ti37.h) (hij := rfl) (hj := hlt) (h := ?_)
      rw [wtV_cells]
      refine p_go fun hf => ?_
      refine p_call (hx := rfl) (hb := ⟨Tryz.func104, by kernel_rfl, rfl⟩) (hf := thenC' hs (foldl_ok (fun a b => thenW_ok hs) _ _ (oneW_ok hs) fun x hx => hv x (List.mem_of_mem_take hx)) (hv _ (List.getElem_mem hlt))) (h := ?_)
      refine p_go fun hf => ?_
      refine p_add (r := ((i + 1 : Nat) : Int)) (hr := (by first | omega | (simp only [decide_eq_true_eq, decide_eq_false_iff_not, Bool.or_eq_false_iff, Bool.and_eq_true, Bool.not_eq_true', Bool.not_eq_false'] at *; omega))) (hb := (by first | omega | (simp only [decide_eq_true_eq, decide_eq_false_iff_not, Bool.or_eq_false_iff, Bool.and_eq_true, Bool.not_eq_true', Bool.not_eq_false'] at *; omega))) (h := ?_)
      refine p_go ?_
      refine p_some ?_
      refine ⟨⟨(by simp (decide := true) only [valsE, evE, upd, cv, args0, argsFrom, List.length_map, ↓reduceIte, hE] <;> rfl), (by simp (decide := true) only [valsO, updO, upd, true_and, and_true, false_and, and_false, ↓reduceIte, hE] <;> rfl)⟩, ⟨i + 1, hlt, eV_, by rw [fold_snoc _ _ hlt]; exact oB_⟩, ?_⟩
      simp (decide := true) only [upd, e21, V.toN, ↓reduceIte]; omega
    · have hge : l.length ≤ i := by simpa using hc22
      refine p_go fun hf => ?_
      refine p_call (hx := rfl) (hb := ⟨Tryz.func102, by kernel_rfl, rfl⟩) (hf := copiedC hs (foldl_ok (fun a b => thenW_ok hs) _ _ (oneW_ok hs) fun x hx => hv x (List.mem_of_mem_take hx))) (h := ?_)
      refine p_go ?_
      refine p_r2 (hp := by rw [List.take_of_length_le hge])
end Go.Proofs.YtfpljljjjgicaaaGreatDoor
/-
  weight.Same; small functions of package wfa.
-/
set_option maxHeartbeats 4000000
set_option linter.unusedSimpArgs false
set_option linter.unusedVariables false
namespace Go.Proofs.YtfpljljjjgicaaaGreatDoor
open Go.RowKit
attribute [local irreducible] Wk Tr
def eqBy {α : Type} (p : α → α → Bool) : List α → List α → Bool
  | [], [] => true
  | a :: l, b :: l' => p a b && eqBy p l l'
  | _, _ => false
theorem eqBy_len {α : Type} {p : α → α → Bool} : ∀ {l l' : List α}, l.length ≠ l'.length → eqBy p l l' = false
  | [], [], h => absurd rfl h
  | [], _ :: _, _ => rfl
  | _ :: _, [], _ => rfl
  | a :: l, b :: l', h => by
    rw [eqBy, eqBy_len (l := l) (l' := l') (by simpa using h), Bool.and_false]
theorem eqBy_iff {α : Type} {p : α → α → Bool} : ∀ {l l' : List α}, (∀ x ∈ l, ∀ y ∈ l', p x y = true ↔ x = y) → (eqBy p l l' = true ↔ l = l')
  | [], [], _ => by simp [eqBy]
  | [], _ :: _, _ => by simp [eqBy]
  | _ :: _, [], _ => by simp [eqBy]
  | a :: l, b :: l', h => by
    rw [eqBy, Bool.and_eq_true, h a (by simp) b (by simp), eqBy_iff (fun x hx y hy => h x (by simp [hx]) y (by simp [hy]))]
    simp
def hdEq (a b : Wt) : Bool := (a.zero == b.zero) && decide (a.cost = b.cost) && decide (fct a = fct b) && decide (a.cells = b.cells)
def sameW (a b : Wt) : Bool := hdEq a b && eqBy hdEq a.parts b.parts
theorem equalFunc_wt (p : Wt → Wt → Bool) (l l' : List Wt) (hl : l.length ≤ 17592186044416) (hl' : l'.length ≤ 17592186044416) (fid : FuncId) (fn : Func) (code : Code) (hb : HasBody Tryz.prog fid fn code) (hp : ∀ x ∈ l, ∀ y ∈ l', FnC Tryz.prog fid [wtA x, wtA y] (fun r => r = .bool (p x y))) : FnC Tryz.prog 96 [.sl 37 (l.map wtV), .sl 37 (l'.map wtV), .fn fid []] (fun r => r = .bool (eqBy p l l')) := by
  refine FnC.of (fn := Tryz.f96) ⟨Tryz.func96, by kernel_rfl, rfl⟩ Tryz.ntmps96 (by simp) fun w0 S0 => ?_
  refine p_go ?_
  refine p_splitC (s := 14) (ht := fun hc14 => ?_) (hf := fun hc14 => ?_)
  · refine p_go ?_
    refine p_ret1 (hp := by have hle : l.length ≠ l'.length := (by have := hc14; simp at this; omega); rw [eqBy_len hle])
  · have hle : l.length = l'.length := (by have := hc14; simp at this; omega)
    refine p_go ?_
    refine p_loopK [1, 2, 15, 16] [] (fun st => ∃ i : Nat, (i ≤ l.length) ∧ (eqBy p l l' = eqBy p (l.drop i) (l'.drop i)) ∧ st.env 17 = iV i) (fun st => l.length - (st.env 17).toN) ?_ fun e ob g1 hK hO hI => ?_
    · exact ⟨0, by omega, rfl, eV_⟩
    · obtain ⟨i, hi, hq, e17⟩ := hI
      dsimp only at e17
      simp only [valsE, List.cons.injEq, and_true] at hK
      have hE := (⟨hK, e17⟩ : _ ∧ _)
      refine p_go ?_
      refine p_splitC (s := 18) (ht := fun hc18 => ?_) (hf := fun hc18 => ?_)
      · have hlt : i < l.length := by simpa using hc18
        have hlt' : i < l'.length := by omega
        have hd := List.drop_eq_getElem_cons hlt
        have hd' := List.drop_eq_getElem_cons hlt'
        refine p_go fun hf => ?_
        refine p_idxMap (j := i) (ht := Tryz.underlying35) (hi := F.ti37.h) (hij := rfl) (hj := hlt) (h := ?_)
        rw [wtV_cells]
        refine p_go fun hf => ?_
        refine p_idxMap (j := i) (ht := Tryz.underlying35) (hi := F.ti37.h) (hij := rfl) (hj := hlt') (h := ?_)
        rw [wtV_cells]
        refine p_go fun hf => ?_
        refine p_call (hb := hb) (hf := hp l[i] (List.getElem_mem hlt) l'[i] (List.getElem_mem hlt')) (h := ?_)
        refine p_go ?_
        refine p_splitC (s := 30) (ht := fun hc30 => ?_) (hf := fun hc30 => ?_)
        · refine p_go ?_
          refine p_ret1 (hp := by rw [hq, hd, hd', eqBy, bnt hc30]; rfl)
        · refine p_go fun hf => ?_
          refine p_add (r := ((i + 1 : Nat) : Int)) (hr := (by first | omega | (simp only [decide_eq_true_eq, decide_eq_false_iff_not, Bool.or_eq_false_iff, Bool.and_eq_true, Bool.not_eq_true', Bool.not_eq_false'] at *; omega))) (hb := (by first | omega | (simp only [decide_eq_true_eq, decide_eq_false_iff_not, Bool.or_eq_false_iff, Bool.and_eq_true, Bool.not_eq_true', Bool.not_eq_false'] at *; omega))) (h := ?_)
          refine p_go ?_
          refine p_some ?_
          refine ⟨⟨(by simp (decide := true) only [valsE, evE, upd, cv, args0, argsFrom, List.length_map, ↓reduceIte, hE] <;> rfl), (by simp (decide := true) only [valsO, updO, upd, true_and, and_true, false_and, and_false, ↓reduceIte, hE] <;> rfl)⟩, ⟨i + 1, hlt, by rw [hq, hd, hd', eqBy, bnf hc30]; rfl, eV_⟩, ?_⟩
          simp (decide := true) only [upd, e17, V.toN, ↓reduceIte]; omega
      · have hge : l.length ≤ i := by simpa using hc18
        refine p_go ?_
        refine p_ret1 (hp := by rw [hq, List.drop_eq_nil_of_le hge, List.drop_eq_nil_of_le (by omega)]; rfl)
theorem same_gen (q : Wt → Wt → Bool) (a b : Wt) (ha : a.Sm) (hb : b.Sm) (hrec : ∀ x ∈ a.parts, ∀ y ∈ b.parts, FnC Tryz.prog 67 [wtA x, wtA y] (fun r => r = .bool (q x y))) : FnC Tryz.prog 67 [wtA a, wtA b] (fun r => r = .bool (hdEq a b && eqBy q a.parts b.parts)) := by
  refine FnC.of (fn := Tryz.f67) ⟨Tryz.func67, by kernel_rfl, rfl⟩ Tryz.ntmps67 (by simp) fun w0 S0 => ?_
  refine p_go fun hf => ?_
  refine p_eqB (ht := Tryz.underlying4) (h := ?_)
  refine p_go fun hf => ?_
  refine p_split (s := 17) (ht := fun hb17 => ?_) (hf := fun hb17 => ?_)
  · -- slot 17 is true
    refine p_go fun hf => ?_
    refine p_call (hx := rfl) (hb := ⟨Tryz.func94, by kernel_rfl, rfl⟩) (hf := fsame (fct a) (fct b) ha.rows hb.rows) (h := ?_)
    refine p_go fun hf => ?_
    refine p_split (s := 24) (ht := fun hb24 => ?_) (hf := fun hb24 => ?_)
    · -- slot 24 is true
      refine p_go fun hf => ?_
      refine p_call (hx := rfl) (hb := ⟨Tryz.func95, by kernel_rfl, rfl⟩) (hf := csame a.cells b.cells ha.cells hb.cells) (h := ?_)
      refine p_go fun hf => ?_
      refine p_split (s := 31) (ht := fun hb31 => ?_) (hf := fun hb31 => ?_)
      · -- slot 31 is true
        refine p_go fun hf => ?_
        refine p_call (hx := rfl) (hb := ⟨Tryz.func96, by kernel_rfl, rfl⟩) (hf := equalFunc_wt q a.parts b.parts ha.parts hb.parts _ _ _ ⟨Tryz.func67, by kernel_rfl, rfl⟩ hrec) (h := ?_)
        refine p_go ?_
        refine p_ret1 (hp := by rw [hdEq, hb17, hb24, hb31]; rfl)
      · -- slot 31 is false
        refine p_go ?_
        refine p_ret1 (hp := by rw [hdEq, hb17, hb24, hb31]; rfl)
    · -- slot 24 is false
      refine p_go ?_
      refine p_ret1 (hp := by rw [hdEq, hb17, hb24]; rfl)
  · -- slot 17 is false
    refine p_go ?_
    refine p_ret1 (hp := by rw [hdEq, hb17]; rfl)
theorem same_leaf (a b : Wt) (ha : a.Sm) (hb : b.Sm) (pa : a.parts = []) (pb : b.parts = []) : FnC Tryz.prog 67 [wtA a, wtA b] (fun r => r = .bool (hdEq a b)) := by
  have := same_gen (fun _ _ => true) a b ha hb (fun x hx => by rw [pa] at hx; cases hx)
  rwa [pa, pb, show eqBy (fun (_ _ : Wt) => true) [] [] = true from rfl, Bool.and_true] at this
theorem sameC (a b : Wt) (ha : a.Sm2) (hb : b.Sm2) (pa : ∀ x ∈ a.parts, x.parts = []) (pb : ∀ x ∈ b.parts, x.parts = []) : FnC Tryz.prog 67 [wtA a, wtA b] (fun r => r = .bool (sameW a b)) :=
  same_gen hdEq a b ha.sm hb.sm fun x hx y hy => same_leaf x y (ha.parts x hx) (hb.parts y hy) (pa x hx) (pb y hy)
theorem isB_flat {s : Sp} {w : Wt} (hs : spOk s = true) (h : isB s w = true) : ∀ x ∈ w.parts, x.parts = [] := by
  rcases spOk_cases hs with ⟨hl, h5⟩ | ⟨p, q, rfl, hp, hq⟩
  · rw [isB_leaf h5] at h; intro x hx; rw [isL_parts hl h] at hx; cases hx
  · obtain ⟨a, b, rfl, h1, h2⟩ := isB_pair h
    intro x hx
    simp only [Wt.parts, List.mem_cons, List.not_mem_nil, or_false] at hx
    rcases hx with rfl | rfl
    · exact isL_parts hp h1
    · exact isL_parts hq h2
theorem hdEq_is {a b : Wt} : hdEq a b = true ↔ a.zero = b.zero ∧ a.cost = b.cost ∧ (a.gen = b.gen ∧ a.rows = b.rows) ∧ a.cells = b.cells := by
  simp only [hdEq, fct, Bool.and_eq_true, beq_iff_eq, decide_eq_true_eq, Fct.mk.injEq, and_assoc]
theorem hdEq_iff {a b : Wt} (pa : a.parts = []) (pb : b.parts = []) : hdEq a b = true ↔ a = b := by
  rcases a with ⟨z, c, g, r, cs, ps⟩
  rcases b with ⟨z', c', g', r', cs', ps'⟩
  simp only [Wt.parts] at pa pb
  subst pa; subst pb
  rw [hdEq_is]
  simp only [Wt.zero, Wt.cost, Wt.gen, Wt.rows, Wt.cells, Wt.mk.injEq, and_assoc, and_true]
theorem sameW_iff {s : Sp} {a b : Wt} (hs : spOk s = true) (ha : isB s a = true) (hb : isB s b = true) : sameW a b = true ↔ a = b := by
  have pa := isB_flat hs ha
  have pb := isB_flat hs hb
  rw [sameW, Bool.and_eq_true, eqBy_iff fun x hx y hy => hdEq_iff (pa x hx) (pb y hy), hdEq_is]
  rcases a with ⟨z, c, g, r, cs, ps⟩
  rcases b with ⟨z', c', g', r', cs', ps'⟩
  simp only [Wt.zero, Wt.cost, Wt.gen, Wt.rows, Wt.cells, Wt.parts, Wt.mk.injEq, and_assoc]
theorem sameB {s : Sp} {a b : Wt} (hs : spOk s = true) (ha : isB s a = true) (hb : isB s b = true) : FnC Tryz.prog 67 [wtA a, wtA b] (fun r => r = .bool (sameW a b)) :=
  sameC a b (isB_Sm2 hs ha) (isB_Sm2 hs hb) (isB_flat hs ha) (isB_flat hs hb)
theorem spOk_len {s : Sp} (hs : spOk s = true) : s.parts.length ≤ 17592186044416 := by
  rcases spOk_cases hs with ⟨hl, _⟩ | ⟨p, q, rfl, _, _⟩
  · rw [(leafOk_dim hl).2.2.1]; decide
  · simp [Sp.parts]
def Ext (s : Sp) (back : Bool) (a b : Wt) : Wt := if back then thenW s b a else thenW s a b
theorem Ext_ok {s : Sp} {back : Bool} {a b : Wt} (hs : spOk s = true) (ha : isB s a = true) (hb : isB s b = true) : isB s (Ext s back a b) = true := by
  unfold Ext; split
  · exact thenW_ok hs hb ha
  · exact thenW_ok hs ha hb
theorem combine_two {s : Sp} {a b : Wt} (hs : spOk s = true) (ha : isB s a = true) (hb : isB s b = true) : FnC Tryz.prog 77 [spA s, .sl 37 ([a, b].map wtV)] (fun r => r = .tup [wtA (eitherW s a b), iV 0]) := by
  have := CombineC s [a, b] (spOk_len hs) (by simp) (checkedW_of hs (by simp; exact ⟨ha, hb⟩))
  rwa [show [a, b].foldl (eitherW s) (zeroW s) = eitherW s a b by rw [List.foldl_cons, List.foldl_cons, List.foldl_nil, either_zero hs ha]] at this
theorem extend_two {s : Sp} {a b : Wt} (hs : spOk s = true) (ha : isB s a = true) (hb : isB s b = true) : FnC Tryz.prog 78 [spA s, .sl 37 ([a, b].map wtV)] (fun r => r = .tup [wtA (thenW s a b), iV 0]) := by
  have := ExtendC s [a, b] (spOk_len hs) (by simp) (checkedW_of hs (by simp; exact ⟨ha, hb⟩))
  rwa [show [a, b].foldl (thenW s) (oneW s) = thenW s a b by rw [List.foldl_cons, List.foldl_cons, List.foldl_nil, then_oneW hs ha]] at this
theorem wzero (s : Sp) (hs : spOk s = true) : FnC Tryz.prog 35 [spA s] (fun r => r = wtA (zeroW s)) := by
  refine FnC.of (fn := Tryz.f35) ⟨Tryz.func35, by kernel_rfl, rfl⟩ Tryz.ntmps35 (by simp) fun w0 S0 => ?_
  refine p_go fun hf => ?_
  refine p_call (hx := rfl) (hb := ⟨Tryz.func76, by kernel_rfl, rfl⟩) (hf := ZeroC s hs (spOk_len hs)) (h := ?_)
  refine p_go ?_
  refine p_r1 (hp := by rfl)
theorem wone (s : Sp) (hs : spOk s = true) : FnC Tryz.prog 49 [spA s] (fun r => r = wtA (oneW s)) := by
  refine FnC.of (fn := Tryz.f49) ⟨Tryz.func49, by kernel_rfl, rfl⟩ Tryz.ntmps49 (by simp) fun w0 S0 => ?_
  refine p_go fun hf => ?_
  refine p_call (hx := rfl) (hb := ⟨Tryz.func82, by kernel_rfl, rfl⟩) (hf := OneC s hs (spOk_len hs)) (h := ?_)
  refine p_go ?_
  refine p_r1 (hp := by rfl)
theorem wboth {s : Sp} {a b : Wt} (hs : spOk s = true) (ha : isB s a = true) (hb : isB s b = true) : FnC Tryz.prog 36 [spA s, wtA a, wtA b] (fun r => r = wtA (eitherW s a b)) := by
  refine FnC.of (fn := Tryz.f36) ⟨Tryz.func36, by kernel_rfl, rfl⟩ Tryz.ntmps36 (by simp) fun w0 S0 => ?_
  refine p_go fun hf => ?_
  refine p_buildSlice (ht := Tryz.underlying35) (hi := F.ti37.h) (h := ?_)
  refine p_callRow (vs := [spA s, .sl 37 ([a, b].map wtV)]) (0 + 1 + 1) 13 (hb := ⟨Tryz.func77, by kernel_rfl, rfl⟩) (hvs := by simp [V.frz, wtV_eq]) (hf := combine_two hs ha hb) (h := ?_)
  refine p_go ?_
  refine p_r1 (hp := by rfl)
theorem wthen {s : Sp} {a b : Wt} (back : Bool) (hs : spOk s = true) (ha : isB s a = true) (hb : isB s b = true) : FnC Tryz.prog 37 [spA s, .bool back, wtA a, wtA b] (fun r => r = wtA (Ext s back a b)) := by
  refine FnC.of (fn := Tryz.f37) ⟨Tryz.func37, by kernel_rfl, rfl⟩ Tryz.ntmps37 (by simp) fun w0 S0 => ?_
  refine p_go ?_
  refine p_splitC (s := 11) (ht := fun hc11 => ?_) (hf := fun hc11 => ?_)
  · refine p_go fun hf => ?_
    refine p_buildSlice (ht := Tryz.underlying35) (hi := F.ti37.h) (h := ?_)
    refine p_callRow (vs := [spA s, .sl 37 ([b, a].map wtV)]) (0 + 1 + 1 + 1 + 1) 18 (hb := ⟨Tryz.func78, by kernel_rfl, rfl⟩) (hvs := by simp [V.frz, wtV_eq]) (hf := extend_two hs hb ha) (h := ?_)
    refine p_go ?_
    refine p_r1 (hp := by rw [Ext, if_pos hc11])
  · refine p_go fun hf => ?_
    refine p_buildSlice (ht := Tryz.underlying35) (hi := F.ti37.h) (h := ?_)
    refine p_callRow (vs := [spA s, .sl 37 ([a, b].map wtV)]) (0 + 1 + 1 + 1) 18 (hb := ⟨Tryz.func78, by kernel_rfl, rfl⟩) (hvs := by simp [V.frz, wtV_eq]) (hf := extend_two hs ha hb) (h := ?_)
    refine p_go ?_
    refine p_r1 (hp := by rw [Ext, if_neg (by rw [hc11]; decide)])
theorem wcopied {s : Sp} {a : Wt} (hs : spOk s = true) (ha : isB s a = true) : FnC Tryz.prog 38 [spA s, wtA a] (fun r => r = wtA (eitherW s a a)) := by
  refine FnC.of (fn := Tryz.f38) ⟨Tryz.func38, by kernel_rfl, rfl⟩ Tryz.ntmps38 (by simp) fun w0 S0 => ?_
  refine p_go fun hf => ?_
  refine p_call (hx := rfl) (hb := ⟨Tryz.func36, by kernel_rfl, rfl⟩) (hf := wboth hs ha ha) (h := ?_)
  refine p_go ?_
  refine p_r1 (hp := by rfl)
end Go.Proofs.YtfpljljjjgicaaaGreatDoor
