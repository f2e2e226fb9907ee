/-
  Plain laws of weights: what is combined and extended is of the space; units.
-/
import Derived.Test.YtfpljljjjgicaaaGreatDoorWhj
set_option maxHeartbeats 4000000
set_option linter.unusedSimpArgs false
set_option linter.unusedVariables false
namespace Go.Proofs.YtfpljljjjgicaaaGreatDoor
open Go.RowKit
attribute [local irreducible] Wk Tr
/-! Costs. -/
theorem checksE_of {m : Int} {l : List Int} (h : 0 ≤ m ∧ m ≤ 1048576) (h1 : ∀ c ∈ l, -1 ≤ c ∧ c ≤ m) : checksE m l = 0 := by
  have h2 : capBad m = false := by simp [capBad]; omega
  have h3 : l.any (costBad m) = false := List.any_eq_false.2 fun c hc => by have := h1 c hc; simp [costBad]; omega
  simp [checksE, h2, h3]
theorem cost_ok {m c : Int} (h : checksE m [c] = 0) (h1 : c ≠ -1) : (0 ≤ m ∧ m ≤ 1048576) ∧ 0 ≤ c ∧ c ≤ m := by
  obtain ⟨h2, h3, _⟩ := checksE_ok h
  have := h3 c (by simp)
  exact ⟨h2, by omega, by omega⟩
theorem least_two {a b : Int} (ha : 0 ≤ a) (hb : 0 ≤ b) : leastL [a, b] = min a b := by
  simp only [leastL, List.foldl_cons, List.foldl_nil]
  have h1 : leastF (-1) a = a := by simp [leastF]
  rw [h1, leastF]
  split <;> omega
theorem sum_two {m a b : Int} (ha : 0 ≤ a ∧ a ≤ m) (hb : 0 ≤ b) : sumL m 0 [a, b] = min (a + b) m := by
  simp only [sumL]
  rw [if_neg (by omega), if_neg (by omega)]
  omega
/-! Facts. -/
theorem outB_is {n : Int} {x : BitVec 64} : outB n x = false ↔ x &&& ~~~(fullB n) = 0 := by simp [outB]
theorem outB_of {n : Int} {x : BitVec 64} (hn : 0 ≤ n) (h : ∀ i, x.getLsbD i = true → (i : Int) < n) : outB n x = false := by
  rw [outB_is]
  refine BitVec.eq_of_getLsbD_eq fun i hi => ?_
  rw [BitVec.getLsbD_and, BitVec.getLsbD_not, fullB_bit n i hi hn]
  cases hx : x.getLsbD i with
  | false => simp
  | true => simp [hi, h i hx]
theorem out_or {n : Int} {x y : BitVec 64} (hn : 0 ≤ n) (hx : outB n x = false) (hy : outB n y = false) : outB n (x ||| y) = false := by
  refine outB_of hn fun i hi => ?_
  rw [BitVec.getLsbD_or, Bool.or_eq_true] at hi
  rcases hi with h | h
  · exact outB_bits hn hx i h
  · exact outB_bits hn hy i h
theorem out_and {n : Int} {x y : BitVec 64} (hn : 0 ≤ n) (hx : outB n x = false) : outB n (x &&& y) = false := by
  refine outB_of hn fun i hi => ?_
  rw [BitVec.getLsbD_and, Bool.and_eq_true] at hi
  exact outB_bits hn hx i hi.1
theorem out_zero {n : Int} : outB n 0 = false := by simp [outB]
theorem checkF_of {n : Int} {f : Fct} (h : 0 ≤ n ∧ n ≤ 64) (h1 : (f.rows.length : Int) = n) (h2 : outB n f.gen = false) (h3 : ∀ r ∈ f.rows, outB n r = false) (h4 : canonF f = f) : checkF n f = 0 := by
  have h5 : badN n = false := by simp [badN]; omega
  have h6 : f.rows.any (outB n) = false := List.any_eq_false.2 fun r hr => by simp [h3 r hr]
  have h7 : shapedE n f = 0 := by simp [shapedE, h5, h1, h2, h6]
  simp [checkF, h7, h4]
theorem canon_canon (f : Fct) : canonF (canonF f) = canonF f := by
  simp only [canonF, List.map_map, Fct.mk.injEq, true_and]
  refine List.map_congr_left fun r _ => ?_
  simp only [Function.comp]
  refine BitVec.eq_of_getLsbD_eq fun i hi => ?_
  simp only [BitVec.getLsbD_and, BitVec.getLsbD_not]
  cases r.getLsbD i <;> cases f.gen.getLsbD i <;> simp
theorem canon_check {n : Int} {f : Fct} (h : 0 ≤ n ∧ n ≤ 64) (h1 : (f.rows.length : Int) = n) (h2 : outB n f.gen = false) (h3 : ∀ r ∈ f.rows, outB n r = false) : checkF n (canonF f) = 0 :=
  checkF_of h (by simp [canonF, h1]) h2 (fun r hr => by
    simp only [canonF, List.mem_map] at hr
    obtain ⟨r', hr', rfl⟩ := hr
    exact out_and h.1 (h3 r' hr')) (canon_canon f)
theorem getD_out {n : Int} {l : List (BitVec 64)} (h : ∀ r ∈ l, outB n r = false) (i : Nat) : outB n (l.getD i 0) = false := by
  by_cases hi : i < l.length
  · rw [getD_at hi]; exact h _ (List.getElem_mem hi)
  · rw [List.getD_eq_getElem?_getD, List.getElem?_eq_none (by omega)]; exact out_zero
theorem comb_check {n : Int} {a b : Fct} (ha : checkF n a = 0) (hb : checkF n b = 0) : checkF n (combF n a b) = 0 := by
  obtain ⟨h1, h2, h3, h4, _⟩ := checkF_ok ha
  obtain ⟨_, k2, k3, k4, _⟩ := checkF_ok hb
  refine canon_check h1 (by simp; omega) (out_or h1.1 h3 k3) fun r hr => ?_
  simp only [List.mem_map] at hr
  obtain ⟨i, _, rfl⟩ := hr
  exact out_or h1.1 (getD_out h4 i) (getD_out k4 i)
theorem foldS_out {n : Int} {f : Fct} {s : BitVec 64} (hn : 0 ≤ n) (h1 : outB n f.gen = false) (h2 : ∀ r ∈ f.rows, outB n r = false) : ∀ k, outB n (foldS f s k) = false
  | 0 => h1
  | k + 1 => by
    rw [foldS_succ]
    split
    · exact out_or hn (foldS_out hn h1 h2 k) (getD_out h2 k)
    · exact foldS_out hn h1 h2 k
theorem ext_check {n : Int} {a b : Fct} (ha : checkF n a = 0) (hb : checkF n b = 0) : checkF n (extF n a b) = 0 := by
  obtain ⟨h1, h2, h3, h4, _⟩ := checkF_ok ha
  obtain ⟨_, k2, k3, k4, _⟩ := checkF_ok hb
  refine canon_check h1 (by simp; omega) (foldS_out h1.1 k3 k4 64) fun r hr => ?_
  simp only [List.mem_map] at hr
  obtain ⟨i, _, rfl⟩ := hr
  exact foldS_out h1.1 k3 k4 64
theorem checkedF_of {n : Int} {a b : Fct} (ha : checkF n a = 0) (hb : checkF n b = 0) : checkedF n [a, b] = 0 := by
  simp [checkedF, ha, hb]
/-! Cells. -/
theorem right_is {n : Int} {c : Cel} : rightC n c = true ↔ outB n c.frm = false ∧ (c.kind = 1 ∨ c.kind = 0 ∧ c.k = 0 ∨ c = ⟨0, 2, 0⟩) := by
  simp only [rightC, Bool.and_eq_true, Bool.or_eq_true, decide_eq_true_eq, outB_is, or_assoc]
theorem right_both {n : Int} {a b : Cel} (hn : 0 ≤ n) (ha : rightC n a = true) (hb : rightC n b = true) : rightC n (bothC a b) = true := by
  rw [right_is] at ha hb
  obtain ⟨h1, h2⟩ := ha
  obtain ⟨k1, k2⟩ := hb
  have many : rightC n ⟨0, 2, 0⟩ = true := right_is.2 ⟨out_zero, .inr (.inr rfl)⟩
  by_cases h : a.kind = 0
  · rw [bothC_none h]
    split
    · exact many
    · rename_i h3
      refine right_is.2 ⟨out_or hn h1 k1, ?_⟩
      rcases k2 with k2 | k2 | k2
      · exact .inl k2
      · exact .inr (.inl k2)
      · rw [k2] at h3; exact absurd rfl h3
  · by_cases h3 : b.kind ≠ 0 ∧ (a.kind ≠ b.kind ∨ a.k ≠ b.k)
    · rw [bothC_many h h3]; exact many
    · rw [bothC_same h h3]
      split
      · exact many
      · rename_i h4
        refine right_is.2 ⟨out_or hn h1 k1, ?_⟩
        rcases h2 with h2 | h2 | h2
        · exact .inl h2
        · exact absurd h2.1 h
        · rw [h2] at h4; exact absurd rfl h4
theorem right_cel0 {n : Int} : rightC n cel0 = true := right_is.2 ⟨out_zero, .inr (.inl ⟨rfl, rfl⟩)⟩
theorem getD_right {n : Int} {l : List Cel} (h : ∀ c ∈ l, rightC n c = true) (i : Nat) : rightC n (l.getD i cel0) = true := by
  by_cases hi : i < l.length
  · rw [getD_at hi]; exact h _ (List.getElem_mem hi)
  · rw [List.getD_eq_getElem?_getD, List.getElem?_eq_none (by omega)]; exact right_cel0
theorem foldl_keep {α β : Type} {p : β → Prop} {f : β → α → β} (hf : ∀ b a, p b → p (f b a)) : ∀ (l : List α) (b : β), p b → p (l.foldl f b)
  | [], _, h => h
  | a :: l, b, h => foldl_keep hf l _ (hf b a h)
theorem right_behind {n : Int} {a : List Cel} {c : Cel} (hn : 0 ≤ n) (ha : ∀ x ∈ a, rightC n x = true) (hc : rightC n c = true) : rightC n (behindC a c) = true := by
  refine foldl_keep (p := fun x => rightC n x = true) (fun x i hx => ?_) _ _ ?_
  · show rightC n (if c.frm.getLsbD i = true then bothC x (a.getD i cel0) else x) = true
    split
    · exact right_both hn hx (getD_right ha i)
    · exact hx
  · rw [right_is] at hc ⊢
    refine ⟨out_zero, ?_⟩
    rcases hc.2 with h | h | h
    · exact .inl h
    · exact .inr (.inl h)
    · right; right; rw [h]
theorem cellsE_of {n : Int} {l : List Cel} (h : 0 ≤ n ∧ n ≤ 64) (h1 : (l.length : Int) = n) (h2 : ∀ c ∈ l, rightC n c = true) : cellsE n l = 0 := by
  have h5 : badN n = false := by simp [badN]; omega
  have h6 : l.any (fun c => !rightC n c) = false := List.any_eq_false.2 fun c hc => by simp [h2 c hc]
  simp [cellsE, h5, h1, h6]
theorem twoE_of {n : Int} {a b : List Cel} (ha : cellsE n a = 0) (hb : cellsE n b = 0) : twoE n a b = 0 := by simp [twoE, ha, hb]
theorem mem_zipWith {α β γ : Type} {f : α → β → γ} {a : List α} {b : List β} {x : γ} (h : x ∈ List.zipWith f a b) : ∃ y ∈ a, ∃ z ∈ b, x = f y z := by
  obtain ⟨i, hi, rfl⟩ := List.mem_iff_getElem.1 h
  simp only [List.length_zipWith] at hi
  exact ⟨_, List.getElem_mem (by omega), _, List.getElem_mem (by omega), List.getElem_zipWith ..⟩
theorem cells_both {n : Int} {a b : List Cel} (ha : cellsE n a = 0) (hb : cellsE n b = 0) : cellsE n (List.zipWith bothC a b) = 0 := by
  obtain ⟨h1, h2, h3, _⟩ := cellsE_ok ha
  obtain ⟨_, k2, k3, _⟩ := cellsE_ok hb
  refine cellsE_of h1 (by simp; omega) fun c hc => ?_
  obtain ⟨x, hx, y, hy, rfl⟩ := mem_zipWith hc
  exact right_both h1.1 (h3 x hx) (k3 y hy)
theorem cells_then {n : Int} {a b : List Cel} (ha : cellsE n a = 0) (hb : cellsE n b = 0) : cellsE n (b.map (behindC a)) = 0 := by
  obtain ⟨h1, h2, h3, _⟩ := cellsE_ok ha
  obtain ⟨_, k2, k3, _⟩ := cellsE_ok hb
  refine cellsE_of h1 (by simp; omega) fun c hc => ?_
  simp only [List.mem_map] at hc
  obtain ⟨x, hx, rfl⟩ := hc
  exact right_behind h1.1 h3 (k3 x hx)
/-! Weights of a space. -/
theorem bareB_C (c : Int) : bareB (wtC c) 2 = true := by simp [bareB, Wt.cost, Wt.gen, Wt.rows, Wt.cells, Wt.parts]
theorem bareB_F (f : Fct) : bareB (wtF f) 3 = true := by simp [bareB, Wt.cost, Wt.gen, Wt.rows, Wt.cells, Wt.parts]
theorem bareB_K (l : List Cel) : bareB (wtK l) 4 = true := by simp [bareB, Wt.cost, Wt.gen, Wt.rows, Wt.cells, Wt.parts]
theorem isL_Z {s : Sp} : isL s wtZ = true := by simp [isL, wtZ, Wt.zero, bareB, Wt.cost, Wt.gen, Wt.rows, Wt.cells, Wt.parts]
theorem isL_1 {s : Sp} (h : s.tag = 1) : isL s wt0 = true := by simp [isL, isT, h, wt0, Wt.zero, bareB, Wt.cost, Wt.gen, Wt.rows, Wt.cells, Wt.parts]
theorem isL_2 {s : Sp} (h : s.tag = 2) {c : Int} (h1 : c ≠ -1) (h2 : checksE s.dim [c] = 0) : isL s (wtC c) = true := by
  rw [isL]
  show (bareB (wtC c) s.tag && isT s (wtC c)) = true
  rw [h, bareB_C, isT, if_pos h]
  show (true && (decide (c ≠ -1) && decide (checksE s.dim [c] = 0))) = true
  simp [h1, h2]
theorem isL_3 {s : Sp} (h : s.tag = 3) {f : Fct} (h1 : checkF s.dim f = 0) : isL s (wtF f) = true := by
  rw [isL]
  show (bareB (wtF f) s.tag && isT s (wtF f)) = true
  rw [h, bareB_F, isT, if_neg (by omega), if_pos h]
  show (true && decide (checkF s.dim f = 0)) = true
  simp [h1]
theorem isL_4 {s : Sp} (h : s.tag = 4) {l : List Cel} (h1 : cellsE s.dim l = 0) : isL s (wtK l) = true := by
  rw [isL]
  show (bareB (wtK l) s.tag && isT s (wtK l)) = true
  rw [h, bareB_K, isT, if_neg (by omega), if_neg (by omega), if_pos h]
  show (true && decide (cellsE s.dim l = 0)) = true
  simp [h1]
theorem isL_either {s : Sp} {a b : Wt} (hs : leafOk s = true) (ha : isL s a = true) (hb : isL s b = true) : isL s (eitherL s a b) = true := by
  cases hza : a.zero with
  | true => rw [eitherL, if_pos hza]; exact hb
  | false =>
    cases hzb : b.zero with
    | true => rw [eitherL, if_neg (by rw [hza]; decide), if_pos hzb]; exact ha
    | false =>
      have hna : ¬ a = wtZ := fun h => by rw [h] at hza; cases hza
      have hnb : ¬ b = wtZ := fun h => by rw [h] at hzb; cases hzb
      rcases (isL_cases hs ha).resolve_left hna with ⟨_, ⟨h, h1⟩ | ⟨h, h1, h2, h3⟩ | ⟨h, h1, h2⟩ | ⟨h, h1, h2⟩⟩ <;>
        rcases (isL_cases hs hb).resolve_left hnb with ⟨_, ⟨k, k1⟩ | ⟨k, k1, k2, k3⟩ | ⟨k, k1, k2⟩ | ⟨k, k1, k2⟩⟩ <;> (try omega)
      · rw [eitherL_0 hza hzb (by omega) (by omega) (by omega)]; exact isL_1 h
      · obtain ⟨m1, m2, m3⟩ := cost_ok h3 h2
        obtain ⟨_, n2, n3⟩ := cost_ok k3 k2
        have hc : checksE s.dim [a.cost, b.cost] = 0 := checksE_of m1 (by simp; omega)
        rw [eitherL_2 hza hzb h, if_pos hc, least_two m2 n2]
        exact isL_2 h (by omega) (checksE_of m1 (by simp; omega))
      · rw [eitherL_3 hza hzb h, if_pos (checkedF_of h2 k2)]
        exact isL_3 h (comb_check h2 k2)
      · rw [eitherL_4 hza hzb h, if_pos (twoE_of h2 k2)]
        exact isL_4 h (cells_both h2 k2)
theorem isL_then {s : Sp} {a b : Wt} (hs : leafOk s = true) (ha : isL s a = true) (hb : isL s b = true) : isL s (thenL s a b) = true := by
  cases hz : (a.zero || b.zero) with
  | true => rw [thenL, if_pos hz]; exact isL_Z
  | false =>
    have hza : a.zero = false := (Bool.or_eq_false_iff.1 hz).1
    have hzb : b.zero = false := (Bool.or_eq_false_iff.1 hz).2
    have hna : ¬ a = wtZ := fun h => by rw [h] at hza; cases hza
    have hnb : ¬ b = wtZ := fun h => by rw [h] at hzb; cases hzb
    rcases (isL_cases hs ha).resolve_left hna with ⟨_, ⟨h, h1⟩ | ⟨h, h1, h2, h3⟩ | ⟨h, h1, h2⟩ | ⟨h, h1, h2⟩⟩ <;>
      rcases (isL_cases hs hb).resolve_left hnb with ⟨_, ⟨k, k1⟩ | ⟨k, k1, k2, k3⟩ | ⟨k, k1, k2⟩ | ⟨k, k1, k2⟩⟩ <;> (try omega)
    · rw [thenL_0 hz (by omega) (by omega) (by omega)]; exact isL_1 h
    · obtain ⟨m1, m2, m3⟩ := cost_ok h3 h2
      obtain ⟨_, n2, n3⟩ := cost_ok k3 k2
      have hc : checksE s.dim [a.cost, b.cost] = 0 := checksE_of m1 (by simp; omega)
      rw [thenL_2 hz h, if_pos hc, sum_two ⟨m2, m3⟩ n2]
      exact isL_2 h (by omega) (checksE_of m1 (by simp; omega))
    · rw [thenL_3 hz h, if_pos (checkedF_of h2 k2)]
      exact isL_3 h (ext_check h2 k2)
    · rw [thenL_4 hz h, if_pos (twoE_of h2 k2)]
      exact isL_4 h (cells_then h2 k2)
/-! Units. -/
theorem either_Z {s : Sp} (a : Wt) : eitherL s wtZ a = a := if_pos rfl
theorem isL_one {s : Sp} (hs : leafOk s = true) : isL s (oneL s) = true := by
  obtain ⟨hd, h5, _, h1, h4, h64⟩ := leafOk_dim hs
  by_cases h3 : s.tag = 3
  · rw [oneL, if_pos h3]
    refine isL_3 h3 (checkF_of ⟨hd.1, h64 (.inl h3)⟩ (by simp [oneF]; omega) out_zero (fun r hr => ?_) ?_)
    · simp only [oneF, List.mem_map, List.mem_range] at hr
      obtain ⟨i, hi, rfl⟩ := hr
      refine outB_of hd.1 fun j hj => ?_
      rw [worth_two, BitVec.getLsbD_twoPow] at hj
      simp at hj; omega
    · have h0 : ∀ r : BitVec 64, r &&& ~~~(0 : BitVec 64) = r := fun r => BitVec.eq_of_getLsbD_eq fun i hi => by rw [BitVec.getLsbD_and, BitVec.getLsbD_not]; simp [hi]
      show Fct.mk 0 ((oneF s.dim).rows.map fun r => r &&& ~~~(0 : BitVec 64)) = oneF s.dim
      rw [List.map_congr_left (g := id) (fun r _ => h0 r), List.map_id]; rfl
  · rw [oneL, if_neg h3]
    by_cases h4' : s.tag = 4
    · rw [if_pos h4']
      refine isL_4 h4' (cellsE_of ⟨hd.1, h64 (.inr h4')⟩ (by simp [oneC]; omega) fun c hc => ?_)
      simp only [oneC, List.mem_map, List.mem_range] at hc
      obtain ⟨i, hi, rfl⟩ := hc
      refine right_is.2 ⟨outB_of hd.1 fun j hj => ?_, .inr (.inl ⟨rfl, rfl⟩)⟩
      rw [worth_two, BitVec.getLsbD_twoPow] at hj
      simp at hj; omega
    · rw [if_neg h4']
      by_cases h2 : s.tag = 2
      · exact isL_2 h2 (by decide) (checksE_of hd (by simp; omega))
      · exact isL_1 (by omega)
theorem makes_zero (f : Fct) : makesF f 0 = f.gen := by
  have : ∀ k, foldS f 0 k = f.gen := by
    intro k
    induction k with
    | zero => rfl
    | succ k ih => rw [foldS_succ, if_neg (by simp), ih]
  exact this 64
theorem makes_worth (f : Fct) {i : Nat} (hi : i < 64) : makesF f (worth (i : Int)) = f.gen ||| f.rows.getD i 0 := by
  have hb : ∀ j, (worth (i : Int)).getLsbD j = decide (j = i) := by
    intro j
    rw [worth_two, BitVec.getLsbD_twoPow, Int.toNat_natCast]
    by_cases h : j = i
    · subst h; simp [hi]
    · simp [h, show ¬ i = j by omega]
  have h0 : ∀ k, k ≤ i → foldS f (worth (i : Int)) k = f.gen := by
    intro k
    induction k with
    | zero => intro _; rfl
    | succ k ih => intro hk; rw [foldS_succ, hb, if_neg (by simp; omega), ih (by omega)]
  rw [makesF, foldS_skip (k := i + 1) (by omega) (fun j h1 h2 => by rw [hb]; simp; omega), foldS_succ, hb, if_pos (by simp), h0 i (Nat.le_refl _)]
theorem ext_one {n : Int} {a : Fct} (ha : checkF n a = 0) : extF n (oneF n) a = a := by
  obtain ⟨h1, h2, h3, h4, h5, _⟩ := checkF_ok ha
  have hg : makesF a (oneF n).gen = a.gen := makes_zero a
  have hr : (List.range n.toNat).map (fun i => makesF a ((oneF n).rows.getD i 0)) = a.rows.map fun r => a.gen ||| r := by
    rw [← range_getD (fun r => a.gen ||| r) 0 a.rows, show a.rows.length = n.toNat by omega]
    refine List.map_congr_left fun i hi => ?_
    rw [List.mem_range] at hi
    have : (oneF n).rows.getD i 0 = worth (i : Int) := by
      rw [getD_at (by simpa [oneF] using hi)]; simp [oneF]
    rw [this, makes_worth a (by omega)]
  rw [extF, hg, hr]
  refine Eq.trans ?_ h5
  simp only [canonF, List.map_map, Fct.mk.injEq, true_and]
  refine List.map_congr_left fun r _ => ?_
  simp only [Function.comp]
  refine BitVec.eq_of_getLsbD_eq fun i hi => ?_
  simp only [BitVec.getLsbD_and, BitVec.getLsbD_not, BitVec.getLsbD_or]
  cases r.getLsbD i <;> cases a.gen.getLsbD i <;> simp
theorem full_bit {k : Nat} (hk : k < 64) (x : BitVec 64) : x &&& fullB ((k + 1 : Nat) : Int) = if x.getLsbD k = true then (x &&& fullB k) ||| worth k else x &&& fullB k := by
  refine BitVec.eq_of_getLsbD_eq fun i hi => ?_
  have hw : (worth (k : Int)).getLsbD i = decide (i = k) := by
    rw [worth_two, BitVec.getLsbD_twoPow, Int.toNat_natCast]
    by_cases h : i = k
    · subst h; simp [hk]
    · simp [h, show ¬ k = i by omega]
  rw [BitVec.getLsbD_and, fullB_bit _ i hi (by omega)]
  by_cases h : i = k
  · subst h
    cases hx : x.getLsbD i with
    | false => rw [if_neg (by simp)]; simp [hx]
    | true => rw [if_pos rfl, BitVec.getLsbD_or, hw]; simp; omega
  · have hd : decide ((i : Int) < ((k + 1 : Nat) : Int)) = decide ((i : Int) < (k : Int)) := decide_eq_decide.2 (by omega)
    rw [hd]
    split
    · rw [BitVec.getLsbD_or, hw, BitVec.getLsbD_and, fullB_bit _ i hi (by omega)]; simp [h]
    · rw [BitVec.getLsbD_and, fullB_bit _ i hi (by omega)]
theorem both_bit (m w : BitVec 64) {kind k : Int} (h : ¬ kind = 2) (h0 : kind = 0 → k = 0) : bothC ⟨m, kind, k⟩ ⟨w, 0, 0⟩ = ⟨m ||| w, kind, k⟩ := by
  by_cases hk : kind = 0
  · subst hk
    rw [bothC_none rfl, if_neg (show ¬ (0 : Int) = 2 by decide), h0 rfl]
  · rw [bothC_same hk (by simp), if_neg h]
theorem behind_one {n : Int} {c : Cel} (hn : 0 ≤ n ∧ n ≤ 64) (hc : rightC n c = true) : behindC (oneC n) c = c := by
  obtain ⟨hf, hk⟩ := right_is.1 hc
  have hlen : (oneC n).length = n.toNat := by simp [oneC]
  rw [behindC_is, hlen]
  by_cases h2 : c.kind = 2
  · have hz : c = ⟨0, 2, 0⟩ := by
      rcases hk with h | h | h
      · omega
      · omega
      · exact h
    have : ∀ k, (List.range k).foldl (behindStep (oneC n) c) ⟨0, c.kind, c.k⟩ = ⟨0, c.kind, c.k⟩ := by
      intro k
      induction k with
      | zero => rfl
      | succ k ih => rw [range_fold, ih, behindStep, if_neg (by rw [hz]; simp)]
    rw [this, hz]
  · have h0 : c.kind = 0 → c.k = 0 := fun h => by
      rcases hk with k1 | k1 | k1
      · omega
      · exact k1.2
      · rw [k1] at h2; exact absurd rfl h2
    have : ∀ k, k ≤ n.toNat → (List.range k).foldl (behindStep (oneC n) c) ⟨0, c.kind, c.k⟩ = ⟨c.frm &&& fullB k, c.kind, c.k⟩ := by
      intro k
      induction k with
      | zero =>
        intro _
        have : c.frm &&& fullB ((0 : Nat) : Int) = 0 := BitVec.eq_of_getLsbD_eq fun i hi => by rw [BitVec.getLsbD_and, fullB_bit _ i hi (by omega)]; simp
        rw [this]; rfl
      | succ k ih =>
        intro hkn
        have hg : (oneC n).getD k cel0 = ⟨worth (k : Int), 0, 0⟩ := by
          rw [getD_at (by rw [hlen]; omega)]; simp [oneC]
        rw [range_fold, ih (by omega), behindStep, full_bit (by omega), hg]
        split
        · rw [both_bit _ _ h2 h0]
        · rfl
    rw [this _ (Nat.le_refl _)]
    have hfull : c.frm &&& fullB ((n.toNat : Nat) : Int) = c.frm := by
      rw [Int.toNat_of_nonneg hn.1]
      refine BitVec.eq_of_getLsbD_eq fun i hi => ?_
      rw [BitVec.getLsbD_and, fullB_bit _ i hi hn.1]
      cases hx : c.frm.getLsbD i with
      | false => rfl
      | true => simp [outB_bits hn.1 hf i hx]
    rw [hfull]
theorem then_one {s : Sp} {a : Wt} (hs : leafOk s = true) (ha : isL s a = true) : thenL s (oneL s) a = a := by
  obtain ⟨hd, h5, _, h1, h4, h64⟩ := leafOk_dim hs
  have hz1 : (oneL s).zero = false := by
    unfold oneL
    split
    · rfl
    · split <;> rfl
  rcases isL_cases hs ha with h | ⟨hz, h⟩
  · rw [h, thenL, if_pos (by rw [hz1]; rfl)]
  · have hzz : ((oneL s).zero || a.zero) = false := by rw [hz1, hz]; rfl
    have h1' := isL_one hs
    rcases h with ⟨h, k⟩ | ⟨h, k, k1, k2⟩ | ⟨h, k, k1⟩ | ⟨h, k, k1⟩
    · rw [thenL_0 hzz (by omega) (by omega) (by omega), k]
    · have ho : oneL s = wt0 := by rw [oneL, if_neg (by omega), if_neg (by omega)]
      obtain ⟨m1, m2, m3⟩ := cost_ok k2 k1
      rw [thenL_2 hzz h, ho]
      show wtC (if checksE s.dim [0, a.cost] = 0 then sumL s.dim 0 [0, a.cost] else 0) = a
      rw [if_pos (checksE_of hd (by simp; omega)), sum_two (by omega) m2, k]
      show wtC (min (0 + a.cost) s.dim) = wtC a.cost
      rw [show min (0 + a.cost) s.dim = a.cost by omega]
    · have ho : oneL s = wtF (oneF s.dim) := by rw [oneL, if_pos h]
      have hone : checkF s.dim (oneF s.dim) = 0 := by
        rw [ho] at h1'
        rcases isL_cases hs h1' with e | ⟨_, ⟨e, _⟩ | ⟨e, _⟩ | ⟨_, _, e⟩ | ⟨e, _⟩⟩
        · cases e
        · omega
        · omega
        · exact e
        · omega
      rw [thenL_3 hzz h, ho]
      show wtF (if checkedF s.dim [oneF s.dim, fct a] = 0 then extF s.dim (oneF s.dim) (fct a) else ⟨0, []⟩) = a
      rw [if_pos (checkedF_of hone k1), ext_one k1]; exact k.symm
    · have ho : oneL s = wtK (oneC s.dim) := by rw [oneL, if_neg (by omega), if_pos h]
      have hone : cellsE s.dim (oneC s.dim) = 0 := by
        rw [ho] at h1'
        rcases isL_cases hs h1' with e | ⟨_, ⟨e, _⟩ | ⟨e, _⟩ | ⟨e, _⟩ | ⟨_, _, e⟩⟩
        · cases e
        · omega
        · omega
        · omega
        · exact e
      rw [thenL_4 hzz h, ho]
      show wtK (if twoE s.dim (oneC s.dim) a.cells = 0 then a.cells.map (behindC (oneC s.dim)) else []) = a
      have hmap : a.cells.map (behindC (oneC s.dim)) = a.cells := by
        refine (List.map_congr_left fun c hc => ?_).trans (List.map_id _)
        exact behind_one ⟨hd.1, h64 (.inr h)⟩ ((cellsE_ok k1).2.2.1 c hc)
      rw [if_pos (twoE_of hone k1), hmap]; exact k.symm
end Go.Proofs.YtfpljljjjgicaaaGreatDoor
