import Derived.Test.YtfpljljjjgicaaaGreatDoorLa
/-
  Weights without parts as a lattice: combining is a least upper bound, extending keeps the order.
-/
set_option maxHeartbeats 4000000
set_option linter.unusedSimpArgs false
set_option linter.unusedVariables false
namespace Go.Proofs.YtfpljljjjgicaaaGreatDoor
open Go.RowKit
attribute [local irreducible] Wk Tr
/-- One set within another. -/
def sub (x y : BitVec 64) : Prop := ∀ i, x.getLsbD i = true → y.getLsbD i = true
theorem sub_or {x y : BitVec 64} : x ||| y = y ↔ sub x y := by
  constructor
  · intro h i hi
    have := congrArg (fun z : BitVec 64 => z.getLsbD i) h
    simp only [BitVec.getLsbD_or, hi, Bool.true_or] at this
    exact this.symm
  · intro h
    refine BitVec.eq_of_getLsbD_eq fun i hi => ?_
    rw [BitVec.getLsbD_or]
    cases hx : x.getLsbD i with
    | false => rfl
    | true => rw [h i hx]; rfl
theorem fct_ext {f g : Fct} (h1 : f.gen = g.gen) (h2 : f.rows.length = g.rows.length) (h3 : ∀ i, f.rows.getD i 0 = g.rows.getD i 0) : f = g := by
  rcases f with ⟨a, r⟩
  rcases g with ⟨b, r'⟩
  simp only at h1 h2 h3
  subst h1
  congr 1
  refine List.ext_getElem h2 fun i k1 k2 => ?_
  have := h3 i
  rwa [getD_at k1, getD_at k2] at this
theorem getD_off {l : List (BitVec 64)} {i : Nat} (h : l.length ≤ i) : l.getD i 0 = 0 := by rw [List.getD_eq_getElem?_getD, List.getElem?_eq_none h]; rfl
theorem canon_row (f : Fct) (i : Nat) : (canonF f).rows.getD i 0 = f.rows.getD i 0 &&& ~~~f.gen := by
  rcases Nat.lt_or_ge i f.rows.length with h | h
  · rw [canonF, getD_at (by simpa using h), getD_at h, List.getElem_map]
  · rw [canonF, getD_off (by simpa using h), getD_off h]; simp
theorem range_row (f : Nat → BitVec 64) (n i : Nat) : ((List.range n).map f).getD i 0 = if i < n then f i else 0 := by
  split
  · rename_i h; rw [getD_at (by simpa using h)]; simp
  · rename_i h; rw [getD_off (by simp; omega)]
theorem comb_row {n : Int} {a b : Fct} (ha : (a.rows.length : Int) = n) (hb : (b.rows.length : Int) = n) (i : Nat) : (combF n a b).rows.getD i 0 = (a.rows.getD i 0 ||| b.rows.getD i 0) &&& ~~~(a.gen ||| b.gen) := by
  rw [combF, canon_row, range_row]
  split
  · rfl
  · rename_i h; rw [getD_off (l := a.rows) (by omega), getD_off (l := b.rows) (by omega)]; simp
theorem comb_len {n : Int} {a b : Fct} (hn : 0 ≤ n) : ((combF n a b).rows.length : Int) = n := by simp [combF, canonF]; omega
theorem comb_comm (n : Int) (a b : Fct) : combF n a b = combF n b a := by
  rw [combF, combF, BitVec.or_comm]
  congr 2
  exact List.map_congr_left fun i _ => BitVec.or_comm ..
theorem bits3 (a b c x y z : BitVec 64) : ((a ||| b) &&& ~~~(x ||| y) ||| c) &&& ~~~((x ||| y) ||| z) = (a ||| (b ||| c) &&& ~~~(y ||| z)) &&& ~~~(x ||| (y ||| z)) := by
  refine BitVec.eq_of_getLsbD_eq fun i hi => ?_
  simp only [BitVec.getLsbD_and, BitVec.getLsbD_or, BitVec.getLsbD_not, hi, decide_true, Bool.true_and]
  cases a.getLsbD i <;> cases b.getLsbD i <;> cases c.getLsbD i <;> cases x.getLsbD i <;> cases y.getLsbD i <;> cases z.getLsbD i <;> rfl
theorem comb_assoc {n : Int} {a b c : Fct} (hn : 0 ≤ n) (ha : (a.rows.length : Int) = n) (hb : (b.rows.length : Int) = n) (hc : (c.rows.length : Int) = n) : combF n (combF n a b) c = combF n a (combF n b c) := by
  refine fct_ext ?_ ?_ fun i => ?_
  · show (a.gen ||| b.gen) ||| c.gen = a.gen ||| (b.gen ||| c.gen)
    exact BitVec.or_assoc ..
  · simp [combF, canonF]
  · rw [comb_row (comb_len hn) hc, comb_row ha hb, comb_row ha (comb_len hn), comb_row hb hc]
    exact bits3 ..
/-- One transformer makes no more than another. -/
structure leF (x y : Fct) : Prop where
  gen : sub x.gen y.gen
  row : ∀ i j, (x.rows.getD i 0).getLsbD j = true → (y.rows.getD i 0).getLsbD j = true ∨ y.gen.getLsbD j = true
theorem comb_iff {n : Int} {x y : Fct} (hx : checkF n x = 0) (hy : checkF n y = 0) : combF n x y = y ↔ leF x y := by
  obtain ⟨hn, lx, _⟩ := checkF_ok hx
  obtain ⟨_, ly, _, _, cy, _⟩ := checkF_ok hy
  constructor
  · intro h
    have hg : x.gen ||| y.gen = y.gen := congrArg Fct.gen h
    refine ⟨sub_or.1 hg, fun i j hj => ?_⟩
    have hr := congrArg (fun f : Fct => (f.rows.getD i 0).getLsbD j) h
    have hjl : j < 64 := BitVec.lt_of_getLsbD hj
    simp only [comb_row lx ly, hg, BitVec.getLsbD_and, BitVec.getLsbD_or, hj, BitVec.getLsbD_not, hjl, decide_true, Bool.true_and, Bool.true_or] at hr
    cases hy' : y.gen.getLsbD j with
    | true => exact .inr rfl
    | false => rw [hy'] at hr; exact .inl hr.symm
  · intro h
    have hg := sub_or.2 h.gen
    refine fct_ext hg ?_ fun i => ?_
    · have := comb_len (a := x) (b := y) hn.1; omega
    · rw [comb_row lx ly, hg]
      refine BitVec.eq_of_getLsbD_eq fun j hj => ?_
      simp only [BitVec.getLsbD_and, BitVec.getLsbD_or, BitVec.getLsbD_not, hj, decide_true, Bool.true_and]
      have hc := congrArg (fun f : Fct => (f.rows.getD i 0).getLsbD j) cy
      simp only [canon_row, BitVec.getLsbD_and, BitVec.getLsbD_not, hj, decide_true, Bool.true_and] at hc
      have hr := h.row i j
      revert hc hr
      cases (x.rows.getD i 0).getLsbD j <;> cases (y.rows.getD i 0).getLsbD j <;> cases y.gen.getLsbD j <;> simp
theorem foldS_bit (f : Fct) (s : BitVec 64) (j : Nat) : ∀ k, (foldS f s k).getLsbD j = true ↔ f.gen.getLsbD j = true ∨ ∃ i, i < k ∧ s.getLsbD i = true ∧ (f.rows.getD i 0).getLsbD j = true
  | 0 => by
    show f.gen.getLsbD j = true ↔ _
    constructor
    · exact .inl
    · rintro (h | ⟨i, h, _⟩)
      · exact h
      · omega
  | k + 1 => by
    rw [foldS_succ]
    split
    · rename_i hk
      rw [BitVec.getLsbD_or, Bool.or_eq_true, foldS_bit f s j k]
      constructor
      · rintro ((h | ⟨i, h1, h2⟩) | h)
        · exact .inl h
        · exact .inr ⟨i, by omega, h2⟩
        · exact .inr ⟨k, by omega, hk, h⟩
      · rintro (h | ⟨i, h1, h2, h3⟩)
        · exact .inl (.inl h)
        · by_cases hi : i = k
          · subst hi; exact .inr h3
          · exact .inl (.inr ⟨i, by omega, h2, h3⟩)
    · rename_i hk
      rw [foldS_bit f s j k]
      constructor
      · rintro (h | ⟨i, h1, h2⟩)
        · exact .inl h
        · exact .inr ⟨i, by omega, h2⟩
      · rintro (h | ⟨i, h1, h2, h3⟩)
        · exact .inl h
        · have : i ≠ k := fun e => hk (e ▸ h2)
          exact .inr ⟨i, by omega, h2, h3⟩
theorem makes_bit (f : Fct) (s : BitVec 64) (j : Nat) : (makesF f s).getLsbD j = true ↔ f.gen.getLsbD j = true ∨ ∃ i, s.getLsbD i = true ∧ (f.rows.getD i 0).getLsbD j = true := by
  rw [makesF, foldS_bit]
  constructor
  · rintro (h | ⟨i, _, h⟩)
    · exact .inl h
    · exact .inr ⟨i, h⟩
  · rintro (h | ⟨i, h1, h2⟩)
    · exact .inl h
    · exact .inr ⟨i, BitVec.lt_of_getLsbD h1, h1, h2⟩
theorem ext_row {n : Int} {a b : Fct} (i : Nat) : (extF n a b).rows.getD i 0 = if i < n.toNat then makesF b (a.rows.getD i 0) &&& ~~~(makesF b a.gen) else 0 := by
  rw [extF, canon_row, range_row]
  split
  · rfl
  · simp
theorem ext_le {n : Int} {a b a' b' : Fct} (hg : sub (makesF b a.gen) (makesF b' a'.gen)) (hr : ∀ i j, (makesF b (a.rows.getD i 0)).getLsbD j = true → (makesF b' (a'.rows.getD i 0)).getLsbD j = true ∨ (makesF b' a'.gen).getLsbD j = true) : leF (extF n a b) (extF n a' b') := by
  refine ⟨hg, fun i j hj => ?_⟩
  show _ ∨ (makesF b' a'.gen).getLsbD j = true
  rw [ext_row] at hj ⊢
  split at hj
  · rename_i hi
    rw [if_pos hi]
    have hjl : j < 64 := BitVec.lt_of_getLsbD hj
    simp only [BitVec.getLsbD_and, BitVec.getLsbD_not, hjl, decide_true, Bool.true_and, Bool.and_eq_true] at hj ⊢
    rcases hr i j hj.1 with h | h
    · cases h2 : (makesF b' a'.gen).getLsbD j with
      | true => exact .inr rfl
      | false => exact .inl ⟨h, rfl⟩
    · exact .inr h
  · simp at hj
theorem ext_mono_r {n : Int} {w x y : Fct} (h : leF x y) : leF (extF n w x) (extF n w y) := by
  have hm : ∀ s, sub (makesF x s) (makesF y s) := fun s j hj => by
    rw [makes_bit] at hj ⊢
    rcases hj with hj | ⟨i, h1, h2⟩
    · exact .inl (h.gen j hj)
    · rcases h.row i j h2 with h3 | h3
      · exact .inr ⟨i, h1, h3⟩
      · exact .inl h3
  exact ext_le (hm _) fun i j hj => .inl (hm _ j hj)
theorem ext_mono_l {n : Int} {w x y : Fct} (h : leF x y) : leF (extF n x w) (extF n y w) := by
  refine ext_le (fun j hj => ?_) fun i j hj => ?_
  · rw [makes_bit] at hj ⊢
    rcases hj with hj | ⟨i, h1, h2⟩
    · exact .inl hj
    · exact .inr ⟨i, h.gen i h1, h2⟩
  · rw [makes_bit] at hj
    rw [makes_bit, makes_bit]
    rcases hj with hj | ⟨k, h1, h2⟩
    · exact .inl (.inl hj)
    · rcases h.row i k h1 with h3 | h3
      · exact .inl (.inr ⟨k, h3, h2⟩)
      · exact .inr (.inr ⟨k, h3, h2⟩)
/-- Cells. -/
def wfC (c : Cel) : Prop := c.kind = 1 ∨ c.kind = 0 ∧ c.k = 0 ∨ c = ⟨0, 2, 0⟩
theorem wfC_right {n : Int} {c : Cel} (h : rightC n c = true) : wfC c := (right_is.1 h).2
theorem both_11 (x y : BitVec 64) (k l : Int) : bothC ⟨x, 1, k⟩ ⟨y, 1, l⟩ = if k = l then ⟨x ||| y, 1, k⟩ else ⟨0, 2, 0⟩ := by
  by_cases h : k = l <;> simp [bothC, h]
theorem both_00 (x y : BitVec 64) : bothC ⟨x, 0, 0⟩ ⟨y, 0, 0⟩ = ⟨x ||| y, 0, 0⟩ := by simp [bothC]
theorem both_01 (x y : BitVec 64) (l : Int) : bothC ⟨x, 0, 0⟩ ⟨y, 1, l⟩ = ⟨x ||| y, 1, l⟩ := by simp [bothC]
theorem both_10 (x y : BitVec 64) (k : Int) : bothC ⟨x, 1, k⟩ ⟨y, 0, 0⟩ = ⟨x ||| y, 1, k⟩ := by simp [bothC]
theorem both_2l {c : Cel} (h : wfC c) : bothC ⟨0, 2, 0⟩ c = ⟨0, 2, 0⟩ := by
  rcases h with h | ⟨h, h'⟩ | h
  · rcases c with ⟨x, a, k⟩; simp only at h; subst h; simp [bothC]
  · rcases c with ⟨x, a, k⟩; simp only at h h'; subst h; subst h'; simp [bothC]
  · rw [h]; simp [bothC]
theorem both_2r {c : Cel} (h : wfC c) : bothC c ⟨0, 2, 0⟩ = ⟨0, 2, 0⟩ := by
  rcases h with h | ⟨h, h'⟩ | h
  · rcases c with ⟨x, a, k⟩; simp only at h; subst h; simp [bothC]
  · rcases c with ⟨x, a, k⟩; simp only at h h'; subst h; subst h'; simp [bothC]
  · rw [h]; simp [bothC]
theorem wf_cases {c : Cel} (h : wfC c) : (∃ x, c = ⟨x, 0, 0⟩) ∨ (∃ x k, c = ⟨x, 1, k⟩) ∨ c = ⟨0, 2, 0⟩ := by
  rcases h with h | ⟨h, h'⟩ | h
  · rcases c with ⟨x, a, k⟩; simp only at h; subst h; exact .inr (.inl ⟨x, k, rfl⟩)
  · rcases c with ⟨x, a, k⟩; simp only at h h'; subst h; subst h'; exact .inl ⟨x, rfl⟩
  · exact .inr (.inr h)
theorem wf_0 (x : BitVec 64) : wfC ⟨x, 0, 0⟩ := .inr (.inl ⟨rfl, rfl⟩)
theorem wf_1 (x : BitVec 64) (k : Int) : wfC ⟨x, 1, k⟩ := .inl rfl
theorem wf_2 : wfC ⟨0, 2, 0⟩ := .inr (.inr rfl)
theorem wf_both {a b : Cel} (ha : wfC a) (hb : wfC b) : wfC (bothC a b) := by
  rcases wf_cases ha with ⟨x, rfl⟩ | ⟨x, k, rfl⟩ | rfl
  · rcases wf_cases hb with ⟨y, rfl⟩ | ⟨y, l, rfl⟩ | rfl
    · rw [both_00]; exact wf_0 _
    · rw [both_01]; exact wf_1 ..
    · rw [both_2r (wf_0 x)]; exact wf_2
  · rcases wf_cases hb with ⟨y, rfl⟩ | ⟨y, l, rfl⟩ | rfl
    · rw [both_10]; exact wf_1 ..
    · rw [both_11]; split
      · exact wf_1 ..
      · exact wf_2
    · rw [both_2r (wf_1 x k)]; exact wf_2
  · rw [both_2l hb]; exact wf_2
theorem both_comm {a b : Cel} (ha : wfC a) (hb : wfC b) : bothC a b = bothC b a := by
  rcases wf_cases ha with ⟨x, rfl⟩ | ⟨x, k, rfl⟩ | rfl
  · rcases wf_cases hb with ⟨y, rfl⟩ | ⟨y, l, rfl⟩ | rfl
    · rw [both_00, both_00, BitVec.or_comm]
    · rw [both_01, both_10, BitVec.or_comm]
    · rw [both_2r (wf_0 x), both_2l (wf_0 x)]
  · rcases wf_cases hb with ⟨y, rfl⟩ | ⟨y, l, rfl⟩ | rfl
    · rw [both_10, both_01, BitVec.or_comm]
    · rw [both_11, both_11, BitVec.or_comm]
      by_cases h : k = l
      · rw [if_pos h, if_pos h.symm, h]
      · rw [if_neg h, if_neg fun e => h e.symm]
    · rw [both_2r (wf_1 x k), both_2l (wf_1 x k)]
  · rw [both_2l hb, both_2r hb]
theorem both_assoc {a b c : Cel} (ha : wfC a) (hb : wfC b) (hc : wfC c) : bothC (bothC a b) c = bothC a (bothC b c) := by
  rcases wf_cases ha with ⟨x, rfl⟩ | ⟨x, k, rfl⟩ | rfl
  · rcases wf_cases hb with ⟨y, rfl⟩ | ⟨y, l, rfl⟩ | rfl
    · rcases wf_cases hc with ⟨z, rfl⟩ | ⟨z, m, rfl⟩ | rfl
      · rw [both_00, both_00, both_00, both_00, BitVec.or_assoc]
      · rw [both_00, both_01, both_01, both_01, BitVec.or_assoc]
      · rw [both_00, both_2r (wf_0 _), both_2r (wf_0 _), both_2r (wf_0 _)]
    · rcases wf_cases hc with ⟨z, rfl⟩ | ⟨z, m, rfl⟩ | rfl
      · rw [both_01, both_10, both_10, both_01, BitVec.or_assoc]
      · rw [both_01, both_11, both_11]
        by_cases h : l = m
        · rw [if_pos h, if_pos h, both_01, BitVec.or_assoc]
        · rw [if_neg h, if_neg h, both_2r (wf_0 _)]
      · rw [both_01, both_2r (wf_1 ..), both_2r (wf_1 ..), both_2r (wf_0 _)]
    · rw [both_2r (wf_0 x), both_2l hc, both_2r (wf_0 x)]
  · rcases wf_cases hb with ⟨y, rfl⟩ | ⟨y, l, rfl⟩ | rfl
    · rcases wf_cases hc with ⟨z, rfl⟩ | ⟨z, m, rfl⟩ | rfl
      · rw [both_10, both_10, both_00, both_10, BitVec.or_assoc]
      · rw [both_10, both_11, both_01, both_11, BitVec.or_assoc]
      · rw [both_10, both_2r (wf_1 ..), both_2r (wf_0 _), both_2r (wf_1 ..)]
    · rcases wf_cases hc with ⟨z, rfl⟩ | ⟨z, m, rfl⟩ | rfl
      · rw [both_11, both_10, both_11]
        by_cases h : k = l
        · rw [if_pos h, if_pos h, both_10, BitVec.or_assoc]
        · rw [if_neg h, if_neg h, both_2l (wf_0 z)]
      · rw [both_11, both_11]
        by_cases h : k = l
        · subst h
          rw [if_pos rfl, both_11]
          by_cases h : k = m
          · rw [if_pos h, if_pos h, both_11, if_pos rfl, BitVec.or_assoc]
          · rw [if_neg h, if_neg h, both_2r (wf_1 ..)]
        · rw [if_neg h, both_2l (wf_1 ..)]
          by_cases h' : l = m
          · rw [if_pos h', both_11, if_neg h]
          · rw [if_neg h', both_2r (wf_1 ..)]
      · rw [both_2r (wf_both (wf_1 ..) (wf_1 ..)), both_2r (wf_1 ..), both_2r (wf_1 ..)]
    · rw [both_2r (wf_1 ..), both_2l hc, both_2r (wf_1 ..)]
  · rw [both_2l hb, both_2l hc, both_2l (wf_both hb hc)]
theorem both_idem {c : Cel} (h : wfC c) : bothC c c = c := by
  rcases wf_cases h with ⟨x, rfl⟩ | ⟨x, k, rfl⟩ | rfl
  · rw [both_00]; congr 1; simp
  · rw [both_11, if_pos rfl]; congr 1; simp
  · exact both_2l wf_2
def leC (a b : Cel) : Prop := bothC a b = b
theorem leC_trans {a b c : Cel} (ha : wfC a) (hb : wfC b) (hc : wfC c) (h1 : leC a b) (h2 : leC b c) : leC a c := by
  rw [leC] at *
  rw [← h2, ← both_assoc ha hb hc, h1]
theorem leC_left {a b : Cel} (ha : wfC a) (hb : wfC b) : leC a (bothC a b) := by rw [leC, ← both_assoc ha ha hb, both_idem ha]
theorem leC_right {a b : Cel} (ha : wfC a) (hb : wfC b) : leC b (bothC a b) := by rw [both_comm ha hb]; exact leC_left hb ha
theorem leC_lub {a b c : Cel} (ha : wfC a) (hb : wfC b) (hc : wfC c) (h1 : leC a c) (h2 : leC b c) : leC (bothC a b) c := by
  rw [leC] at *
  rw [both_assoc ha hb hc, h2, h1]
theorem leC_2 {a : Cel} (ha : wfC a) : leC a ⟨0, 2, 0⟩ := both_2r ha
theorem leC_refl {a : Cel} (ha : wfC a) : leC a a := both_idem ha
theorem wf_at {a : List Cel} (h : ∀ x ∈ a, wfC x) (i : Nat) : wfC (a.getD i cel0) := by
  rcases Nat.lt_or_ge i a.length with hi | hi
  · rw [getD_at hi]; exact h _ (List.getElem_mem hi)
  · rw [List.getD_eq_getElem?_getD, List.getElem?_eq_none hi]; exact wf_0 0
theorem wf_start {c : Cel} (h : wfC c) : wfC ⟨0, c.kind, c.k⟩ := by
  rcases wf_cases h with ⟨x, rfl⟩ | ⟨x, k, rfl⟩ | rfl
  · exact wf_0 0
  · exact wf_1 ..
  · exact wf_2
theorem wf_fold {a : List Cel} {c : Cel} (ha : ∀ x ∈ a, wfC x) (hc : wfC c) : ∀ k, wfC (foldC a c k)
  | 0 => wf_start hc
  | k + 1 => by
    rw [foldC, range_fold, behindStep]
    split
    · exact wf_both (wf_fold ha hc k) (wf_at ha k)
    · exact wf_fold ha hc k
theorem fold_le {a : List Cel} {c z : Cel} (ha : ∀ x ∈ a, wfC x) (hc : wfC c) (hz : wfC z) (h0 : leC ⟨0, c.kind, c.k⟩ z) : ∀ k, (∀ i, i < k → c.frm.getLsbD i = true → leC (a.getD i cel0) z) → leC (foldC a c k) z
  | 0, _ => h0
  | k + 1, h => by
    have ih := fold_le ha hc hz h0 k fun i hi => h i (by omega)
    rw [foldC, range_fold, behindStep]
    split
    · rename_i hk; exact leC_lub (wf_fold ha hc k) (wf_at ha k) hz ih (h k (by omega) hk)
    · exact ih
theorem le_fold {a : List Cel} {c : Cel} (ha : ∀ x ∈ a, wfC x) (hc : wfC c) : ∀ k, leC ⟨0, c.kind, c.k⟩ (foldC a c k) ∧ ∀ i, i < k → c.frm.getLsbD i = true → leC (a.getD i cel0) (foldC a c k)
  | 0 => ⟨leC_refl (wf_start hc), fun i hi => absurd hi (by omega)⟩
  | k + 1 => by
    obtain ⟨h1, h2⟩ := le_fold ha hc k
    rw [foldC, range_fold, behindStep]
    split
    · rename_i hk
      have hl := leC_left (wf_fold ha hc k) (wf_at ha k)
      have hw := wf_both (wf_fold ha hc k) (wf_at ha k)
      refine ⟨leC_trans (wf_start hc) (wf_fold ha hc k) hw h1 hl, fun i hi hb => ?_⟩
      by_cases hik : i = k
      · subst hik; exact leC_right (wf_fold ha hc i) (wf_at ha i)
      · exact leC_trans (wf_at ha i) (wf_fold ha hc k) hw (h2 i (by omega) hb) hl
    · rename_i hk
      refine ⟨h1, fun i hi hb => ?_⟩
      by_cases hik : i = k
      · subst hik; exact absurd hb hk
      · exact h2 i (by omega) hb
theorem leC_parts {c d : Cel} (hc : wfC c) (hd : wfC d) (h : leC c d) : d = ⟨0, 2, 0⟩ ∨ (sub c.frm d.frm ∧ leC ⟨0, c.kind, c.k⟩ ⟨0, d.kind, d.k⟩) := by
  rw [leC] at h
  rcases wf_cases hd with ⟨y, rfl⟩ | ⟨y, l, rfl⟩ | rfl
  · right
    rcases wf_cases hc with ⟨x, rfl⟩ | ⟨x, k, rfl⟩ | rfl
    · rw [both_00] at h
      exact ⟨sub_or.1 (congrArg Cel.frm h), both_idem (wf_0 0)⟩
    · rw [both_10] at h; exact absurd (congrArg Cel.kind h) (by simp)
    · rw [both_2l (wf_0 y)] at h; exact absurd (congrArg Cel.kind h) (by simp)
  · right
    rcases wf_cases hc with ⟨x, rfl⟩ | ⟨x, k, rfl⟩ | rfl
    · rw [both_01] at h
      exact ⟨sub_or.1 (congrArg Cel.frm h), by rw [leC, both_01]; congr 1⟩
    · rw [both_11] at h
      split at h
      · rename_i e; subst e
        exact ⟨sub_or.1 (congrArg Cel.frm h), both_idem (wf_1 ..)⟩
      · exact absurd (congrArg Cel.kind h) (by simp)
    · rw [both_2l (wf_1 y l)] at h; exact absurd (congrArg Cel.kind h) (by simp)
  · exact .inl rfl
theorem behind_many (a : List Cel) : behindC a ⟨0, 2, 0⟩ = ⟨0, 2, 0⟩ := by
  have : ∀ k, foldC a ⟨0, 2, 0⟩ k = ⟨0, 2, 0⟩ := by
    intro k
    induction k with
    | zero => rfl
    | succ k ih => rw [foldC, range_fold, behindStep, if_neg (by simp)]; exact ih
  exact this _
theorem behind_mono_r {a : List Cel} {c d : Cel} (ha : ∀ x ∈ a, wfC x) (hc : wfC c) (hd : wfC d) (h : leC c d) : leC (behindC a c) (behindC a d) := by
  rcases leC_parts hc hd h with rfl | ⟨h1, h2⟩
  · rw [behind_many]; exact leC_2 (wf_fold ha hc _)
  · have hf := le_fold ha hd a.length
    exact fold_le ha hc (wf_fold ha hd _) (leC_trans (wf_start hc) (wf_start hd) (wf_fold ha hd _) h2 hf.1) a.length fun i hi hb => hf.2 i hi (h1 i hb)
theorem behind_mono_l {a b : List Cel} {c : Cel} (ha : ∀ x ∈ a, wfC x) (hb : ∀ x ∈ b, wfC x) (hc : wfC c) (hl : a.length = b.length) (h : ∀ i, i < a.length → leC (a.getD i cel0) (b.getD i cel0)) : leC (behindC a c) (behindC b c) := by
  have hf := le_fold hb hc b.length
  exact fold_le ha hc (wf_fold hb hc _) hf.1 a.length fun i hi hi' => leC_trans (wf_at ha i) (wf_at hb i) (wf_fold hb hc _) (h i hi) (hf.2 i (by omega) hi')
end Go.Proofs.YtfpljljjjgicaaaGreatDoor
/-
  Weights as a lattice: combining is commutative, associative, idempotent; extending keeps the order.
-/
set_option maxHeartbeats 4000000
set_option linter.unusedSimpArgs false
set_option linter.unusedVariables false
namespace Go.Proofs.YtfpljljjjgicaaaGreatDoor
open Go.RowKit
attribute [local irreducible] Wk Tr
theorem zip_iff {l l' : List Cel} (h : l.length = l'.length) : List.zipWith bothC l l' = l' ↔ ∀ i, i < l.length → leC (l.getD i cel0) (l'.getD i cel0) := by
  constructor
  · intro e i hi
    have h1 : i < l'.length := by omega
    rw [leC, getD_at hi, getD_at h1]
    have := List.getElem_of_eq e (i := i) (by simp; omega)
    rwa [List.getElem_zipWith] at this
  · intro h'
    refine List.ext_getElem (by simp [h]) fun i h1 h2 => ?_
    have h3 : i < l.length := by omega
    rw [List.getElem_zipWith]
    have := h' i h3
    rwa [leC, getD_at h3, getD_at h2] at this
theorem isL_Zero {s : Sp} {a : Wt} (hs : leafOk s = true) (ha : isL s a = true) (hz : a.zero = true) : a = wtZ := by
  rcases isL_cases hs ha with h | ⟨h, _⟩
  · exact h
  · rw [h] at hz; cases hz
theorem either_Zr {s : Sp} {a : Wt} (hs : leafOk s = true) (ha : isL s a = true) : eitherL s a wtZ = a := by
  cases hz : a.zero with
  | true => rw [isL_Zero hs ha hz, either_Z]
  | false => rw [eitherL, if_neg (by rw [hz]; decide), if_pos (by rfl)]
theorem leaf_tag {s : Sp} (hs : leafOk s = true) : s.tag = 1 ∨ s.tag = 2 ∨ s.tag = 3 ∨ s.tag = 4 := by
  have := leafOk_dim hs
  omega
theorem either_1 {s : Sp} {a b : Wt} (ha : a.zero = false) (hb : b.zero = false) (h : s.tag = 1) : eitherL s a b = wt0 := eitherL_0 ha hb (by omega) (by omega) (by omega)
theorem then_1 {s : Sp} {a b : Wt} (ha : a.zero = false) (hb : b.zero = false) (h : s.tag = 1) : thenL s a b = wt0 := thenL_0 (by rw [ha, hb]; rfl) (by omega) (by omega) (by omega)
theorem wf_list {n : Int} {l : List Cel} (h : cellsE n l = 0) : (l.length : Int) = n ∧ ∀ x ∈ l, wfC x := by
  obtain ⟨_, h1, h2, _⟩ := cellsE_ok h
  exact ⟨h1, fun x hx => wfC_right (h2 x hx)⟩
theorem eitherL_comm {s : Sp} {a b : Wt} (hs : leafOk s = true) (ha : isL s a = true) (hb : isL s b = true) : eitherL s a b = eitherL s b a := by
  cases hza : a.zero with
  | true => rw [isL_Zero hs ha hza, either_Z, either_Zr hs hb]
  | false =>
    cases hzb : b.zero with
    | true => rw [isL_Zero hs hb hzb, either_Z, either_Zr hs ha]
    | false =>
      rcases leaf_tag hs with h | h | h | h
      · rw [either_1 hza hzb h, either_1 hzb hza h]
      · rw [eitherR_2 hs ha hb hza hzb h, eitherR_2 hs hb ha hzb hza h, Int.min_comm]
      · rw [(eitherR_3 hs ha hb hza hzb h).1, (eitherR_3 hs hb ha hzb hza h).1, comb_comm]
      · obtain ⟨e1, c1, c2⟩ := eitherR_4 hs ha hb hza hzb h
        rw [e1, (eitherR_4 hs hb ha hzb hza h).1]
        obtain ⟨l1, w1⟩ := wf_list c1
        obtain ⟨l2, w2⟩ := wf_list c2
        have : List.zipWith bothC a.cells b.cells = List.zipWith bothC b.cells a.cells := by
          refine List.ext_getElem (by simp; omega) fun i h1 h2 => ?_
          simp only [List.length_zipWith] at h1
          rw [List.getElem_zipWith, List.getElem_zipWith]
          exact both_comm (w1 _ (List.getElem_mem (by omega))) (w2 _ (List.getElem_mem (by omega)))
        rw [this]
theorem eitherL_assoc {s : Sp} {a b c : Wt} (hs : leafOk s = true) (ha : isL s a = true) (hb : isL s b = true) (hc : isL s c = true) : eitherL s (eitherL s a b) c = eitherL s a (eitherL s b c) := by
  cases hza : a.zero with
  | true => rw [isL_Zero hs ha hza, either_Z, either_Z]
  | false =>
    cases hzb : b.zero with
    | true => rw [isL_Zero hs hb hzb, either_Z, either_Zr hs ha]
    | false =>
      cases hzc : c.zero with
      | true => rw [isL_Zero hs hc hzc, either_Zr hs hb, either_Zr hs (isL_either hs ha hb)]
      | false =>
        have h1 := isL_either hs ha hb
        have h2 := isL_either hs hb hc
        rcases leaf_tag hs with h | h | h | h
        · rw [either_1 hza hzb h, either_1 hzb hzc h, either_1 (by rfl) hzc h, either_1 hza (by rfl) h]
        · rw [eitherR_2 hs ha hb hza hzb h] at h1 ⊢
          rw [eitherR_2 hs hb hc hzb hzc h] at h2 ⊢
          rw [eitherR_2 hs h1 hc (by rfl) hzc h, eitherR_2 hs ha h2 hza (by rfl) h]
          show wtC (min (min a.cost b.cost) c.cost) = wtC (min a.cost (min b.cost c.cost))
          rw [Int.min_assoc]
        · have k1 := checkF_ok ((nz_cases hs ha hza).2.1 h)
          have k2 := checkF_ok ((nz_cases hs hb hzb).2.1 h)
          have k3 := checkF_ok ((nz_cases hs hc hzc).2.1 h)
          rw [(eitherR_3 hs ha hb hza hzb h).1] at h1 ⊢
          rw [(eitherR_3 hs hb hc hzb hzc h).1] at h2 ⊢
          rw [(eitherR_3 hs h1 hc (by rfl) hzc h).1, (eitherR_3 hs ha h2 hza (by rfl) h).1]
          show wtF (combF s.dim (combF s.dim (fct a) (fct b)) (fct c)) = wtF (combF s.dim (fct a) (combF s.dim (fct b) (fct c)))
          rw [comb_assoc k1.1.1 k1.2.1 k2.2.1 k3.2.1]
        · obtain ⟨l1, w1⟩ := wf_list ((nz_cases hs ha hza).2.2 h)
          obtain ⟨l2, w2⟩ := wf_list ((nz_cases hs hb hzb).2.2 h)
          obtain ⟨l3, w3⟩ := wf_list ((nz_cases hs hc hzc).2.2 h)
          rw [(eitherR_4 hs ha hb hza hzb h).1] at h1 ⊢
          rw [(eitherR_4 hs hb hc hzb hzc h).1] at h2 ⊢
          rw [(eitherR_4 hs h1 hc (by rfl) hzc h).1, (eitherR_4 hs ha h2 hza (by rfl) h).1]
          show wtK (List.zipWith bothC (List.zipWith bothC a.cells b.cells) c.cells) = wtK (List.zipWith bothC a.cells (List.zipWith bothC b.cells c.cells))
          have : List.zipWith bothC (List.zipWith bothC a.cells b.cells) c.cells = List.zipWith bothC a.cells (List.zipWith bothC b.cells c.cells) := by
            refine List.ext_getElem (by simp <;> omega) fun i h1 h2 => ?_
            simp only [List.length_zipWith] at h1
            rw [List.getElem_zipWith, List.getElem_zipWith, List.getElem_zipWith, List.getElem_zipWith]
            exact both_assoc (w1 _ (List.getElem_mem (by omega))) (w2 _ (List.getElem_mem (by omega))) (w3 _ (List.getElem_mem (by omega)))
          rw [this]
theorem then_Zl {s : Sp} (b : Wt) : thenL s wtZ b = wtZ := if_pos rfl
theorem then_Zr {s : Sp} (a : Wt) : thenL s a wtZ = wtZ := if_pos (by cases a.zero <;> rfl)
theorem le_Zr {s : Sp} {a : Wt} (hs : leafOk s = true) (ha : isL s a = true) (h : eitherL s a wtZ = wtZ) : a = wtZ := (either_Zr hs ha).symm.trans h
theorem thenL_mono_r {s : Sp} {w x y : Wt} (hs : leafOk s = true) (hw : isL s w = true) (hx : isL s x = true) (hy : isL s y = true) (h : eitherL s x y = y) : eitherL s (thenL s w x) (thenL s w y) = thenL s w y := by
  cases hzw : w.zero with
  | true => rw [isL_Zero hs hw hzw, then_Zl, then_Zl, either_Z]
  | false =>
    cases hzx : x.zero with
    | true => rw [isL_Zero hs hx hzx, then_Zr, either_Z]
    | false =>
      cases hzy : y.zero with
      | true =>
        rw [isL_Zero hs hy hzy] at h
        have := le_Zr hs hx h
        rw [this] at hzx; cases hzx
      | false =>
        have h1 := isL_then hs hw hx
        have h2 := isL_then hs hw hy
        rcases leaf_tag hs with ht | ht | ht | ht
        · rw [then_1 hzw hzx ht, then_1 hzw hzy ht, either_1 (by rfl) (by rfl) ht]
        · rw [thenR_2 hs hw hx hzw hzx ht] at h1 ⊢
          rw [thenR_2 hs hw hy hzw hzy ht] at h2 ⊢
          rw [eitherR_2 hs h1 h2 (by rfl) (by rfl) ht]
          rw [eitherR_2 hs hx hy hzx hzy ht] at h
          have h3 : min x.cost y.cost = y.cost := congrArg Wt.cost h
          show wtC (min (min (w.cost + x.cost) s.dim) (min (w.cost + y.cost) s.dim)) = wtC (min (w.cost + y.cost) s.dim)
          congr 1; omega
        · have k1 := (nz_cases hs hw hzw).2.1 ht
          have k2 := (nz_cases hs hx hzx).2.1 ht
          have k3 := (nz_cases hs hy hzy).2.1 ht
          rw [(thenR_3 hs hw hx hzw hzx ht).1] at h1 ⊢
          rw [(thenR_3 hs hw hy hzw hzy ht).1] at h2 ⊢
          rw [(eitherR_3 hs h1 h2 (by rfl) (by rfl) ht).1]
          rw [(eitherR_3 hs hx hy hzx hzy ht).1] at h
          have h3 : combF s.dim (fct x) (fct y) = fct y := congrArg fct h
          have h4 := (comb_iff (ext_check k1 k2) (ext_check k1 k3)).2 (ext_mono_r ((comb_iff k2 k3).1 h3))
          show wtF (combF s.dim (extF s.dim (fct w) (fct x)) (extF s.dim (fct w) (fct y))) = wtF (extF s.dim (fct w) (fct y))
          rw [h4]
        · obtain ⟨l1, w1⟩ := wf_list ((nz_cases hs hw hzw).2.2 ht)
          obtain ⟨l2, w2⟩ := wf_list ((nz_cases hs hx hzx).2.2 ht)
          obtain ⟨l3, w3⟩ := wf_list ((nz_cases hs hy hzy).2.2 ht)
          rw [(thenR_4 hs hw hx hzw hzx ht).1] at h1 ⊢
          rw [(thenR_4 hs hw hy hzw hzy ht).1] at h2 ⊢
          rw [(eitherR_4 hs h1 h2 (by rfl) (by rfl) ht).1]
          rw [(eitherR_4 hs hx hy hzx hzy ht).1] at h
          have h3 : List.zipWith bothC x.cells y.cells = y.cells := congrArg Wt.cells h
          have h4 := (zip_iff (by omega)).1 h3
          show wtK (List.zipWith bothC (x.cells.map (behindC w.cells)) (y.cells.map (behindC w.cells))) = wtK (y.cells.map (behindC w.cells))
          rw [(zip_iff (by simp; omega)).2 fun i hi => ?_]
          simp only [List.length_map] at hi
          have hi' : i < y.cells.length := by omega
          rw [getD_at (by simpa using hi), getD_at (by simpa using hi'), List.getElem_map, List.getElem_map]
          refine behind_mono_r w1 (w2 _ (List.getElem_mem _)) (w3 _ (List.getElem_mem _)) ?_
          have := h4 i hi
          rwa [getD_at hi, getD_at hi'] at this
theorem thenL_mono_l {s : Sp} {w x y : Wt} (hs : leafOk s = true) (hw : isL s w = true) (hx : isL s x = true) (hy : isL s y = true) (h : eitherL s x y = y) : eitherL s (thenL s x w) (thenL s y w) = thenL s y w := by
  cases hzw : w.zero with
  | true => rw [isL_Zero hs hw hzw, then_Zr, then_Zr, either_Z]
  | false =>
    cases hzx : x.zero with
    | true => rw [isL_Zero hs hx hzx, then_Zl, either_Z]
    | false =>
      cases hzy : y.zero with
      | true =>
        rw [isL_Zero hs hy hzy] at h
        have := le_Zr hs hx h
        rw [this] at hzx; cases hzx
      | false =>
        have h1 := isL_then hs hx hw
        have h2 := isL_then hs hy hw
        rcases leaf_tag hs with ht | ht | ht | ht
        · rw [then_1 hzx hzw ht, then_1 hzy hzw ht, either_1 (by rfl) (by rfl) ht]
        · rw [thenR_2 hs hx hw hzx hzw ht] at h1 ⊢
          rw [thenR_2 hs hy hw hzy hzw ht] at h2 ⊢
          rw [eitherR_2 hs h1 h2 (by rfl) (by rfl) ht]
          rw [eitherR_2 hs hx hy hzx hzy ht] at h
          have h3 : min x.cost y.cost = y.cost := congrArg Wt.cost h
          show wtC (min (min (x.cost + w.cost) s.dim) (min (y.cost + w.cost) s.dim)) = wtC (min (y.cost + w.cost) s.dim)
          congr 1; omega
        · have k1 := (nz_cases hs hw hzw).2.1 ht
          have k2 := (nz_cases hs hx hzx).2.1 ht
          have k3 := (nz_cases hs hy hzy).2.1 ht
          rw [(thenR_3 hs hx hw hzx hzw ht).1] at h1 ⊢
          rw [(thenR_3 hs hy hw hzy hzw ht).1] at h2 ⊢
          rw [(eitherR_3 hs h1 h2 (by rfl) (by rfl) ht).1]
          rw [(eitherR_3 hs hx hy hzx hzy ht).1] at h
          have h3 : combF s.dim (fct x) (fct y) = fct y := congrArg fct h
          have h4 := (comb_iff (ext_check k2 k1) (ext_check k3 k1)).2 (ext_mono_l ((comb_iff k2 k3).1 h3))
          show wtF (combF s.dim (extF s.dim (fct x) (fct w)) (extF s.dim (fct y) (fct w))) = wtF (extF s.dim (fct y) (fct w))
          rw [h4]
        · obtain ⟨l1, w1⟩ := wf_list ((nz_cases hs hw hzw).2.2 ht)
          obtain ⟨l2, w2⟩ := wf_list ((nz_cases hs hx hzx).2.2 ht)
          obtain ⟨l3, w3⟩ := wf_list ((nz_cases hs hy hzy).2.2 ht)
          rw [(thenR_4 hs hx hw hzx hzw ht).1] at h1 ⊢
          rw [(thenR_4 hs hy hw hzy hzw ht).1] at h2 ⊢
          rw [(eitherR_4 hs h1 h2 (by rfl) (by rfl) ht).1]
          rw [(eitherR_4 hs hx hy hzx hzy ht).1] at h
          have h3 : List.zipWith bothC x.cells y.cells = y.cells := congrArg Wt.cells h
          have h4 := (zip_iff (by omega)).1 h3
          show wtK (List.zipWith bothC (w.cells.map (behindC x.cells)) (w.cells.map (behindC y.cells))) = wtK (w.cells.map (behindC y.cells))
          rw [(zip_iff (by simp)).2 fun i hi => ?_]
          simp only [List.length_map] at hi
          rw [getD_at (by simpa using hi), getD_at (by simpa using hi), List.getElem_map, List.getElem_map]
          exact behind_mono_l w2 w3 (w1 _ (List.getElem_mem _)) (by omega) h4
/-- One weight lies below another: combined they are the other one. -/
def leW (s : Sp) (a b : Wt) : Prop := eitherW s a b = b
theorem eitherW_comm {s : Sp} {a b : Wt} (hs : spOk s = true) (ha : isB s a = true) (hb : isB s b = true) : eitherW s a b = eitherW s b a := by
  rcases spOk_cases hs with ⟨hl, h5⟩ | ⟨p, q, rfl, hp, hq⟩
  · rw [isB_leaf h5] at ha hb
    rw [eitherW, eitherW, if_neg h5, if_neg h5]; exact eitherL_comm hl ha hb
  · obtain ⟨a0, a1, rfl, h1, h2⟩ := isB_pair ha
    obtain ⟨b0, b1, rfl, h3, h4⟩ := isB_pair hb
    show wtP (eitherL p a0 b0) (eitherL q a1 b1) = wtP (eitherL p b0 a0) (eitherL q b1 a1)
    rw [eitherL_comm hp h1 h3, eitherL_comm hq h2 h4]
theorem eitherW_assoc {s : Sp} {a b c : Wt} (hs : spOk s = true) (ha : isB s a = true) (hb : isB s b = true) (hc : isB s c = true) : eitherW s (eitherW s a b) c = eitherW s a (eitherW s b c) := by
  rcases spOk_cases hs with ⟨hl, h5⟩ | ⟨p, q, rfl, hp, hq⟩
  · rw [isB_leaf h5] at ha hb hc
    simp only [eitherW, if_neg h5]; exact eitherL_assoc hl ha hb hc
  · obtain ⟨a0, a1, rfl, h1, h2⟩ := isB_pair ha
    obtain ⟨b0, b1, rfl, h3, h4⟩ := isB_pair hb
    obtain ⟨c0, c1, rfl, h5, h6⟩ := isB_pair hc
    show wtP (eitherL p (eitherL p a0 b0) c0) (eitherL q (eitherL q a1 b1) c1) = wtP (eitherL p a0 (eitherL p b0 c0)) (eitherL q a1 (eitherL q b1 c1))
    rw [eitherL_assoc hp h1 h3 h5, eitherL_assoc hq h2 h4 h6]
theorem wtP_inj {a b c d : Wt} (h : wtP a b = wtP c d) : a = c ∧ b = d := by
  have := congrArg Wt.parts h
  simp only [Wt.parts, List.cons.injEq, and_true] at this
  exact this
theorem thenW_mono_r {s : Sp} {w x y : Wt} (hs : spOk s = true) (hw : isB s w = true) (hx : isB s x = true) (hy : isB s y = true) (h : leW s x y) : leW s (thenW s w x) (thenW s w y) := by
  rw [leW] at *
  rcases spOk_cases hs with ⟨hl, h5⟩ | ⟨p, q, rfl, hp, hq⟩
  · rw [isB_leaf h5] at hw hx hy
    simp only [eitherW, thenW, if_neg h5] at h ⊢; exact thenL_mono_r hl hw hx hy h
  · obtain ⟨a0, a1, rfl, h1, h2⟩ := isB_pair hw
    obtain ⟨b0, b1, rfl, h3, h4⟩ := isB_pair hx
    obtain ⟨c0, c1, rfl, h5, h6⟩ := isB_pair hy
    obtain ⟨k1, k2⟩ := wtP_inj (show wtP (eitherL p b0 c0) (eitherL q b1 c1) = wtP c0 c1 from h)
    show wtP (eitherL p (thenL p a0 b0) (thenL p a0 c0)) (eitherL q (thenL q a1 b1) (thenL q a1 c1)) = wtP (thenL p a0 c0) (thenL q a1 c1)
    rw [thenL_mono_r hp h1 h3 h5 k1, thenL_mono_r hq h2 h4 h6 k2]
theorem thenW_mono_l {s : Sp} {w x y : Wt} (hs : spOk s = true) (hw : isB s w = true) (hx : isB s x = true) (hy : isB s y = true) (h : leW s x y) : leW s (thenW s x w) (thenW s y w) := by
  rw [leW] at *
  rcases spOk_cases hs with ⟨hl, h5⟩ | ⟨p, q, rfl, hp, hq⟩
  · rw [isB_leaf h5] at hw hx hy
    simp only [eitherW, thenW, if_neg h5] at h ⊢; exact thenL_mono_l hl hw hx hy h
  · obtain ⟨a0, a1, rfl, h1, h2⟩ := isB_pair hw
    obtain ⟨b0, b1, rfl, h3, h4⟩ := isB_pair hx
    obtain ⟨c0, c1, rfl, h5, h6⟩ := isB_pair hy
    obtain ⟨k1, k2⟩ := wtP_inj (show wtP (eitherL p b0 c0) (eitherL q b1 c1) = wtP c0 c1 from h)
    show wtP (eitherL p (thenL p b0 a0) (thenL p c0 a0)) (eitherL q (thenL q b1 a1) (thenL q c1 a1)) = wtP (thenL p c0 a0) (thenL q c1 a1)
    rw [thenL_mono_l hp h1 h3 h5 k1, thenL_mono_l hq h2 h4 h6 k2]
theorem leW_refl {s : Sp} {a : Wt} (hs : spOk s = true) (ha : isB s a = true) : leW s a a := either_self hs ha
theorem leW_trans {s : Sp} {a b c : Wt} (hs : spOk s = true) (ha : isB s a = true) (hb : isB s b = true) (hc : isB s c = true) (h1 : leW s a b) (h2 : leW s b c) : leW s a c := by
  rw [leW] at *
  rw [← h2, ← eitherW_assoc hs ha hb hc, h1]
theorem leW_left {s : Sp} {a b : Wt} (hs : spOk s = true) (ha : isB s a = true) (hb : isB s b = true) : leW s a (eitherW s a b) := by rw [leW, ← eitherW_assoc hs ha ha hb, either_self hs ha]
theorem leW_right {s : Sp} {a b : Wt} (hs : spOk s = true) (ha : isB s a = true) (hb : isB s b = true) : leW s b (eitherW s a b) := by rw [eitherW_comm hs ha hb]; exact leW_left hs hb ha
theorem leW_lub {s : Sp} {a b c : Wt} (hs : spOk s = true) (ha : isB s a = true) (hb : isB s b = true) (hc : isB s c = true) (h1 : leW s a c) (h2 : leW s b c) : leW s (eitherW s a b) c := by
  rw [leW] at *
  rw [eitherW_assoc hs ha hb hc, h2, h1]
theorem leW_anti {s : Sp} {a b : Wt} (hs : spOk s = true) (ha : isB s a = true) (hb : isB s b = true) (h1 : leW s a b) (h2 : leW s b a) : a = b := by
  rw [leW] at *
  rw [← h1, eitherW_comm hs ha hb, h2]
theorem leW_zero {s : Sp} {a : Wt} (hs : spOk s = true) (ha : isB s a = true) : leW s (zeroW s) a := either_zero hs ha
theorem Ext_mono_r {s : Sp} {back : Bool} {w x y : Wt} (hs : spOk s = true) (hw : isB s w = true) (hx : isB s x = true) (hy : isB s y = true) (h : leW s x y) : leW s (Ext s back w x) (Ext s back w y) := by
  unfold Ext
  split
  · exact thenW_mono_l hs hw hx hy h
  · exact thenW_mono_r hs hw hx hy h
theorem Ext_mono_l {s : Sp} {back : Bool} {w x y : Wt} (hs : spOk s = true) (hw : isB s w = true) (hx : isB s x = true) (hy : isB s y = true) (h : leW s x y) : leW s (Ext s back x w) (Ext s back y w) := by
  unfold Ext
  split
  · exact thenW_mono_r hs hw hx hy h
  · exact thenW_mono_l hs hw hx hy h
end Go.Proofs.YtfpljljjjgicaaaGreatDoor
/-
  Values of states as a lattice: growing gives the least that is closed; more transitions make no value less.
-/
set_option maxHeartbeats 4000000
set_option linter.unusedSimpArgs false
set_option linter.unusedVariables false
namespace Go.Proofs.YtfpljljjjgicaaaGreatDoor
open Go.RowKit
attribute [local irreducible] Wk Tr
structure leV (s : Sp) (l l' : List Wt) : Prop where
  len : l.length = l'.length
  at_ : ∀ i, i < l.length → leW s (l.getD i wt0) (l'.getD i wt0)
theorem Vals.at_ {a : Aut} {l : List Wt} (h : Vals a l) {i : Nat} (hi : i < l.length) : isB a.sp (l.getD i wt0) = true := by rw [getD_at hi]; exact h.ok _ (List.getElem_mem hi)
theorem leV_refl {a : Aut} {l : List Wt} (ha : a.Ok) (h : Vals a l) : leV a.sp l l := ⟨rfl, fun i hi => leW_refl ha.sp (h.at_ hi)⟩
theorem leV_trans {a : Aut} {l m n : List Wt} (ha : a.Ok) (hl : Vals a l) (hm : Vals a m) (hn : Vals a n) (h1 : leV a.sp l m) (h2 : leV a.sp m n) : leV a.sp l n :=
  ⟨h1.len.trans h2.len, fun i hi => leW_trans ha.sp (hl.at_ hi) (hm.at_ (h1.len ▸ hi)) (hn.at_ (by rw [← h2.len, ← h1.len]; exact hi)) (h1.at_ i hi) (h2.at_ i (h1.len ▸ hi))⟩
theorem leV_anti {a : Aut} {l m : List Wt} (ha : a.Ok) (hl : Vals a l) (hm : Vals a m) (h1 : leV a.sp l m) (h2 : leV a.sp m l) : l = m := by
  refine List.ext_getElem h1.len fun i k1 k2 => ?_
  have := leW_anti ha.sp (hl.at_ k1) (hm.at_ k2) (h1.at_ i k1) (h2.at_ i k2)
  rwa [getD_at k1, getD_at k2] at this
theorem getD_setW (l : List Wt) (i j : Nat) (x : Wt) (hi : i < l.length) : (l.set i x).getD j wt0 = if i = j then x else l.getD j wt0 := by
  simp only [List.getD_eq_getElem?_getD, List.getElem?_set]
  by_cases h : i = j
  · subst h; simp [hi]
  · simp [h]
theorem leV_set {a : Aut} {l m : List Wt} {i : Nat} {x : Wt} (h : leV a.sp l m) (hi : i < l.length) (hx : leW a.sp x (m.getD i wt0)) : leV a.sp (l.set i x) m :=
  ⟨by rw [List.length_set]; exact h.len, fun j hj => by
    rw [getD_setW l i j x hi]
    rw [List.length_set] at hj
    split
    · rename_i e; subst e; exact hx
    · exact h.at_ j hj⟩
theorem leV_up {a : Aut} {l : List Wt} {i : Nat} {x : Wt} (ha : a.Ok) (hl : Vals a l) (hi : i < l.length) (hx : leW a.sp (l.getD i wt0) x) : leV a.sp l (l.set i x) :=
  ⟨by rw [List.length_set], fun j hj => by
    rw [getD_setW l i j x hi]
    split
    · rename_i e; subst e; exact hx
    · exact leW_refl ha.sp (hl.at_ hj)⟩
/-- Nothing more comes by the transitions that count. -/
def Closed (a : Aut) (back : Bool) (cnt : Trn → Bool) (m : List Wt) : Prop := ∀ t ∈ a.trs, cnt t = true → leW a.sp (Ext a.sp back t.w (m.getD t.to.toNat wt0)) (m.getD t.frm.toNat wt0)
theorem newW_le {a : Aut} {back : Bool} {l m : List Wt} {t : Trn} (ha : a.Ok) (hl : Vals a l) (hm : Vals a m) (h : leV a.sp l m) (ht : t ∈ a.trs) (hc : leW a.sp (Ext a.sp back t.w (m.getD t.to.toNat wt0)) (m.getD t.frm.toNat wt0)) : leW a.sp (newW a back l t) (m.getD t.frm.toNat wt0) := by
  obtain ⟨_, h1, h2, _⟩ := hl.new (back := back) ha ht
  have h1' : t.frm.toNat < m.length := h.len ▸ h1
  have h2' : t.to.toNat < m.length := h.len ▸ h2
  have hw := ha.w t ht
  have e1 := Ext_ok (back := back) ha.sp hw (hl.at_ h2)
  have e2 := Ext_ok (back := back) ha.sp hw (hm.at_ h2')
  exact leW_lub ha.sp (hl.at_ h1) e1 (hm.at_ h1') (h.at_ _ h1) (leW_trans ha.sp e1 e2 (hm.at_ h1') (Ext_mono_r ha.sp hw (hl.at_ h2) (hm.at_ h2') (h.at_ _ h2)) hc)
theorem step_vals {a : Aut} {back : Bool} {cnt : Trn → Bool} {x : List Wt × Bool} {t : Trn} (ha : a.Ok) (hx : Vals a x.1) (ht : t ∈ a.trs) : Vals a (stepG a back cnt x t).1 := by
  unfold stepG
  split
  · split
    · exact hx
    · exact hx.set (hx.new ha ht).1 _
  · exact hx
theorem step_le {a : Aut} {back : Bool} {cnt : Trn → Bool} {x : List Wt × Bool} {m : List Wt} {t : Trn} (ha : a.Ok) (hx : Vals a x.1) (hm : Vals a m) (h : leV a.sp x.1 m) (hc : Closed a back cnt m) (ht : t ∈ a.trs) : leV a.sp (stepG a back cnt x t).1 m := by
  unfold stepG
  split
  · rename_i h1
    split
    · exact h
    · obtain ⟨_, h2, _⟩ := hx.new (back := back) ha ht
      exact leV_set h h2 (newW_le ha hx hm h ht (hc t ht h1))
  · exact h
theorem step_up {a : Aut} {back : Bool} {cnt : Trn → Bool} {x : List Wt × Bool} {t : Trn} (ha : a.Ok) (hx : Vals a x.1) (ht : t ∈ a.trs) : leV a.sp x.1 (stepG a back cnt x t).1 := by
  unfold stepG
  split
  · split
    · exact leV_refl ha hx
    · obtain ⟨_, h1, h2, _⟩ := hx.new (back := back) ha ht
      exact leV_up ha hx h1 (leW_left ha.sp (hx.at_ h1) (Ext_ok ha.sp (ha.w t ht) (hx.at_ h2)))
  · exact leV_refl ha hx
theorem fold_valsG {a : Aut} {back : Bool} {cnt : Trn → Bool} (ha : a.Ok) : ∀ (ts : List Trn) (x : List Wt × Bool), (∀ t ∈ ts, t ∈ a.trs) → Vals a x.1 → Vals a (ts.foldl (stepG a back cnt) x).1
  | [], _, _, h => h
  | t :: ts, x, ht, h => fold_valsG ha ts _ (fun y hy => ht y (List.mem_cons_of_mem _ hy)) (step_vals ha h (ht t (List.mem_cons_self ..)))
theorem fold_leG {a : Aut} {back : Bool} {cnt : Trn → Bool} {m : List Wt} (ha : a.Ok) (hm : Vals a m) (hc : Closed a back cnt m) : ∀ (ts : List Trn) (x : List Wt × Bool), (∀ t ∈ ts, t ∈ a.trs) → Vals a x.1 → leV a.sp x.1 m → leV a.sp (ts.foldl (stepG a back cnt) x).1 m
  | [], _, _, _, h => h
  | t :: ts, x, ht, hx, h => fold_leG ha hm hc ts _ (fun y hy => ht y (List.mem_cons_of_mem _ hy)) (step_vals ha hx (ht t (List.mem_cons_self ..))) (step_le ha hx hm h hc (ht t (List.mem_cons_self ..)))
theorem fold_upG {a : Aut} {back : Bool} {cnt : Trn → Bool} (ha : a.Ok) : ∀ (ts : List Trn) (x : List Wt × Bool), (∀ t ∈ ts, t ∈ a.trs) → Vals a x.1 → leV a.sp x.1 (ts.foldl (stepG a back cnt) x).1
  | [], _, _, h => leV_refl ha h
  | t :: ts, x, ht, hx => by
    have hx' := step_vals (back := back) (cnt := cnt) ha hx (ht t (List.mem_cons_self ..))
    have ht' : ∀ y ∈ ts, y ∈ a.trs := fun y hy => ht y (List.mem_cons_of_mem _ hy)
    exact leV_trans ha hx hx' (fold_valsG ha ts _ ht' hx') (step_up ha hx (ht t (List.mem_cons_self ..))) (fold_upG ha ts _ ht' hx')
theorem stepG_flag {a : Aut} {back : Bool} {cnt : Trn → Bool} {x : List Wt × Bool} {t : Trn} (h : (stepG a back cnt x t).2 = false) : stepG a back cnt x t = x ∧ x.2 = false ∧ (cnt t = true → sameW (newW a back x.1 t) (x.1.getD t.frm.toNat wt0) = true) := by
  unfold stepG at *
  split at h
  · rename_i h1
    split at h
    · rename_i h2
      exact ⟨by rw [if_pos h1, if_pos h2], h, fun _ => h2⟩
    · cases h
  · rename_i h1
    exact ⟨by rw [if_neg h1], h, fun h2 => absurd h2 h1⟩
theorem fold_flag {a : Aut} {back : Bool} {cnt : Trn → Bool} : ∀ (ts : List Trn) (x : List Wt × Bool), (ts.foldl (stepG a back cnt) x).2 = false → ts.foldl (stepG a back cnt) x = x ∧ x.2 = false ∧ ∀ t ∈ ts, cnt t = true → sameW (newW a back x.1 t) (x.1.getD t.frm.toNat wt0) = true
  | [], x, h => ⟨rfl, h, fun t ht => by cases ht⟩
  | t :: ts, x, h => by
    rw [List.foldl_cons] at h ⊢
    obtain ⟨h1, h2, h3⟩ := fold_flag ts _ h
    obtain ⟨k1, k2, k3⟩ := stepG_flag h2
    rw [k1] at h1 h3 ⊢
    refine ⟨h1, k2, fun u hu => ?_⟩
    rcases List.mem_cons.1 hu with rfl | hu
    · exact k3
    · exact h3 u hu
theorem grow_props {a : Aut} {back : Bool} {cnt : Trn → Bool} (ha : a.Ok) : ∀ (k : Nat) (l L : List Wt), Vals a l → growT a back cnt k l = some L → leV a.sp l L ∧ Closed a back cnt L ∧ ∀ m, Vals a m → Closed a back cnt m → leV a.sp l m → leV a.sp L m
  | 0, _, _, _, h => by simp [growT] at h
  | k + 1, l, L, hl, h => by
    have hr : Vals a (roundG a back cnt l).1 := fold_valsG ha a.trs (l, false) (fun _ h => h) hl
    have hu : leV a.sp l (roundG a back cnt l).1 := fold_upG ha a.trs (l, false) (fun _ h => h) hl
    rw [growT] at h
    split at h
    · have hL := (grow_props ha k _ L hr h)
      refine ⟨?_, hL.2.1, fun m hm hc hlm => hL.2.2 m hm hc (fold_leG ha hm hc a.trs (l, false) (fun _ h => h) hl hlm)⟩
      have hLv : Vals a L := by
        obtain ⟨L', h1, h2⟩ := grow_ends (back := back) (cnt := cnt) ha (max (rankV a (roundG a back cnt l).1) k) _ hr (Nat.le_max_left ..)
        have h3 := growT_more k _ _ h (max (rankV a (roundG a back cnt l).1) k + 1) (by omega)
        rw [h1] at h3
        rw [← Option.some.inj h3]; exact h2
      exact leV_trans ha hl hr hLv hu hL.1
    · rename_i hf
      have hf' : (roundG a back cnt l).2 = false := by simpa using hf
      obtain ⟨h1, _, h3⟩ := fold_flag a.trs (l, false) hf'
      have h1' : (roundG a back cnt l).1 = l := congrArg Prod.fst h1
      rw [h1'] at h
      obtain rfl := Option.some.inj h
      refine ⟨leV_refl ha hl, fun t ht hc => ?_, fun m _ _ hlm => hlm⟩
      obtain ⟨k1, k2, k3, _⟩ := hl.new (back := back) ha ht
      have e := (sameW_iff ha.sp k1 (hl.at_ k2)).1 (h3 t ht hc)
      have hE := Ext_ok (back := back) ha.sp (ha.w t ht) (hl.at_ k3)
      have := leW_right ha.sp (hl.at_ k2) hE
      rw [show eitherW a.sp (l.getD t.frm.toNat wt0) (Ext a.sp back t.w (l.getD t.to.toNat wt0)) = l.getD t.frm.toNat wt0 from e] at this
      exact this
theorem growV_props {a : Aut} {back : Bool} {cnt : Trn → Bool} {l : List Wt} (ha : a.Ok) (hl : Vals a l) : leV a.sp l (growV a back cnt l) ∧ Closed a back cnt (growV a back cnt l) ∧ ∀ m, Vals a m → Closed a back cnt m → leV a.sp l m → leV a.sp (growV a back cnt l) m :=
  grow_props ha _ _ _ hl (growV_is ha hl).1
/-- An automaton with transitions more. -/
structure More (a b : Aut) : Prop where
  sp : b.sp = a.sp
  st : b.states = a.states
  fin : b.fin = a.fin
  trs : ∃ ts, b.trs = a.trs ++ ts
theorem More.vals {a b : Aut} (h : More a b) {l : List Wt} : Vals b l ↔ Vals a l := ⟨fun k => ⟨by rw [k.len, h.st], by rw [← h.sp]; exact k.ok⟩, fun k => ⟨by rw [k.len, h.st], by rw [h.sp]; exact k.ok⟩⟩
theorem More.closed {a b : Aut} (h : More a b) {back : Bool} {cnt : Trn → Bool} {m : List Wt} (hc : Closed b back cnt m) : Closed a back cnt m := fun t ht hn => by
  obtain ⟨ts, e⟩ := h.trs
  have := hc t (by rw [e]; exact List.mem_append_left _ ht) hn
  rwa [h.sp] at this
theorem More.grow {a b : Aut} (h : More a b) (ha : a.Ok) (hb : b.Ok) {back : Bool} {cnt : Trn → Bool} {l m : List Wt} (hl : Vals a l) (hm : Vals a m) (hlm : leV a.sp l m) : leV a.sp (growV a back cnt l) (growV b back cnt m) := by
  have hm' : Vals b m := h.vals.2 hm
  obtain ⟨h1, h2, _⟩ := growV_props (back := back) (cnt := cnt) hb hm'
  have hv : Vals a (growV b back cnt m) := h.vals.1 (growV_is hb hm').2
  rw [h.sp] at h1
  exact (growV_props (back := back) (cnt := cnt) ha hl).2.2 _ hv (h.closed h2) (leV_trans ha hl hm hv hlm h1)
theorem More.ends {a b : Aut} (h : More a b) : endsW b = endsW a := by rw [endsW, endsW, h.sp, h.st, h.fin]
theorem stepR_le {a b : Aut} (h : More a b) (ha : a.Ok) {back : Bool} {sym : Int} {l m o p : List Wt} {t : Trn} (hl : Vals a l) (hm : Vals a m) (hlm : leV a.sp l m) (ho : Vals a o) (hp : Vals a p) (hop : leV a.sp o p) (ht : t ∈ a.trs) : leV a.sp (stepR a back sym l o t) (stepR b back sym m p t) := by
  unfold stepR
  split
  · obtain ⟨k1, k2, _⟩ := ha.trs t ht
    have n1 := ho.len
    have n2 := hl.len
    have i1 : t.frm.toNat < o.length := by omega
    have i2 : t.to.toNat < l.length := by omega
    have i3 : t.frm.toNat < p.length := hop.len ▸ i1
    have i4 : t.to.toNat < m.length := hlm.len ▸ i2
    have hw := ha.w t ht
    have e1 := Ext_ok (back := back) ha.sp hw (hl.at_ i2)
    have e2 := Ext_ok (back := back) ha.sp hw (hm.at_ i4)
    have e3 := Ext_mono_r (back := back) ha.sp hw (hl.at_ i2) (hm.at_ i4) (hlm.at_ _ i2)
    have e4 := eitherW_ok ha.sp (hp.at_ i3) e2
    rw [h.sp]
    refine ⟨by rw [List.length_set, List.length_set]; exact hop.len, fun j hj => ?_⟩
    rw [List.length_set] at hj
    rw [getD_setW _ _ _ _ i1, getD_setW _ _ _ _ i3]
    split
    · exact leW_lub ha.sp (ho.at_ i1) e1 e4 (leW_trans ha.sp (ho.at_ i1) (hp.at_ i3) e4 (hop.at_ _ i1) (leW_left ha.sp (hp.at_ i3) e2)) (leW_trans ha.sp e1 e2 e4 e3 (leW_right ha.sp (hp.at_ i3) e2))
    · exact hop.at_ j hj
  · exact hop
theorem stepR_up {b : Aut} (hb : b.Ok) {back : Bool} {sym : Int} {m p : List Wt} {t : Trn} (hm : Vals b m) (hp : Vals b p) (ht : t ∈ b.trs) : leV b.sp p (stepR b back sym m p t) := by
  unfold stepR
  split
  · obtain ⟨k1, k2, _⟩ := hb.trs t ht
    have n1 := hp.len
    have n2 := hm.len
    have i1 : t.frm.toNat < p.length := by omega
    have i2 : t.to.toNat < m.length := by omega
    exact leV_up hb hp i1 (leW_left hb.sp (hp.at_ i1) (Ext_ok hb.sp (hb.w t ht) (hm.at_ i2)))
  · exact leV_refl hb hp
theorem foldR_le {a b : Aut} (h : More a b) (ha : a.Ok) (hb : b.Ok) {back : Bool} {sym : Int} {l m : List Wt} (hl : Vals a l) (hm : Vals a m) (hlm : leV a.sp l m) : ∀ (ts : List Trn) (o p : List Wt), (∀ t ∈ ts, t ∈ a.trs) → Vals a o → Vals a p → leV a.sp o p → leV a.sp (ts.foldl (stepR a back sym l) o) (ts.foldl (stepR b back sym m) p)
  | [], _, _, _, _, _, h => h
  | t :: ts, o, p, ht, ho, hp, hop => by
    have ht0 := ht t (List.mem_cons_self ..)
    obtain ⟨us, e⟩ := h.trs
    exact foldR_le h ha hb hl hm hlm ts _ _ (fun y hy => ht y (List.mem_cons_of_mem _ hy)) (stepR_vals ha hl ho ht0) (h.vals.1 (stepR_vals hb (h.vals.2 hm) (h.vals.2 hp) (by rw [e]; exact List.mem_append_left _ ht0))) (stepR_le h ha hl hm hlm ho hp hop ht0)
theorem foldR_up {b : Aut} (hb : b.Ok) {back : Bool} {sym : Int} {m : List Wt} (hm : Vals b m) : ∀ (ts : List Trn) (p : List Wt), (∀ t ∈ ts, t ∈ b.trs) → Vals b p → leV b.sp p (ts.foldl (stepR b back sym m) p)
  | [], _, _, h => leV_refl hb h
  | t :: ts, p, ht, hp => by
    have ht0 := ht t (List.mem_cons_self ..)
    have ht' : ∀ y ∈ ts, y ∈ b.trs := fun y hy => ht y (List.mem_cons_of_mem _ hy)
    have h1 := stepR_vals (back := back) (sym := sym) hb hm hp ht0
    exact leV_trans hb hp h1 (restW_fold hb hm ts _ ht' h1) (stepR_up hb hm hp ht0) (foldR_up hb hm ts _ ht' h1)
theorem More.rest {a b : Aut} (h : More a b) (ha : a.Ok) (hb : b.Ok) {back : Bool} {sym : Int} {l m : List Wt} (hl : Vals a l) (hm : Vals a m) (hlm : leV a.sp l m) : leV a.sp (restW a back sym l) (restW b back sym m) := by
  obtain ⟨ts, e⟩ := h.trs
  have hz := zeros_vals ha
  have hmb := h.vals.2 hm
  have ht1 : ∀ t ∈ a.trs, t ∈ b.trs := fun t ht => by rw [e]; exact List.mem_append_left _ ht
  have ht2 : ∀ t ∈ ts, t ∈ b.trs := fun t ht => by rw [e]; exact List.mem_append_right _ ht
  have hzb : Vals b (List.replicate a.states.toNat (zeroW a.sp)) := h.vals.2 hz
  have h1 := foldR_le (back := back) (sym := sym) h ha hb hl hm hlm a.trs _ _ (fun _ h => h) hz hz (leV_refl ha hz)
  have h2 := restW_fold (back := back) (sym := sym) hb hmb a.trs _ ht1 hzb
  have h3 := foldR_up (back := back) (sym := sym) hb hmb ts _ ht2 h2
  have h4 := restW_fold (back := back) (sym := sym) hb hmb ts _ ht2 h2
  have e1 : restW b back sym m = ts.foldl (stepR b back sym m) (a.trs.foldl (stepR b back sym m) (List.replicate a.states.toNat (zeroW a.sp))) := by
    rw [restW, e, List.foldl_append, h.sp, h.st]
  rw [e1]
  rw [h.sp] at h3
  exact leV_trans ha (restW_vals ha hl) (h.vals.1 h2) (h.vals.1 h4) h1 h3
theorem More.value {a b : Aut} (h : More a b) (ha : a.Ok) (hb : b.Ok) {back : Bool} : ∀ w : List Int, leV a.sp (valV a back w) (valV b back w)
  | [] => by
    show leV a.sp (growV a back sil (endsW a)) (growV b back sil (endsW b))
    rw [h.ends]
    exact h.grow ha hb (ends_vals ha) (ends_vals ha) (leV_refl ha (ends_vals ha))
  | x :: w => by
    have h1 := valV_vals (back := back) ha w
    have h2 := h.vals.1 (valV_vals (back := back) hb w)
    have ih := h.value ha hb (back := back) w
    show leV a.sp (growV a back sil (restW a back x (valV a back w))) (growV b back sil (restW b back x (valV b back w)))
    exact h.grow ha hb (restW_vals ha h1) (h.vals.1 (restW_vals hb (valV_vals hb w))) (h.rest ha hb h1 h2 ih)
end Go.Proofs.YtfpljljjjgicaaaGreatDoor
