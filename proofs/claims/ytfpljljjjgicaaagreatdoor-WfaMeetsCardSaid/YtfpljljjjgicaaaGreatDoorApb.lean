import Derived.Test.YtfpljljjjgicaaaGreatDoorAln
import Derived.Test.YtfpljljjjgicaaaGreatDoorMab
/-
  Extending is associative, with units on either side; a path's weight lies below its word's value, that below the total.
-/
set_option maxHeartbeats 4000000
set_option linter.unusedSimpArgs false
set_option linter.unusedVariables false
namespace Go.Proofs.YtfpljljjjgicaaaGreatDoor
open Go.RowKit
attribute [local irreducible] Wk Tr
theorem ext_bit {n : Int} {b c : Fct} (hb : (b.rows.length : Int) = n) (i j : Nat) (hg : (makesF c b.gen).getLsbD j = false) : ((extF n b c).rows.getD i 0).getLsbD j = true ↔ i < n.toNat ∧ (makesF c (b.rows.getD i 0)).getLsbD j = true := by
  rw [ext_row]
  split
  · rename_i hi
    constructor
    · intro h
      rw [BitVec.getLsbD_and, Bool.and_eq_true] at h
      exact ⟨hi, h.1⟩
    · rintro ⟨_, h⟩
      have hj : j < 64 := BitVec.lt_of_getLsbD h
      rw [BitVec.getLsbD_and, BitVec.getLsbD_not, h, hg]; simp [hj]
  · rename_i hi
    simp [hi]
theorem makes_ext {n : Int} {b c : Fct} (hb : (b.rows.length : Int) = n) (s : BitVec 64) : makesF (extF n b c) s = makesF c (makesF b s) := by
  refine BitVec.eq_of_getLsbD_eq fun j hj => ?_
  rw [Bool.eq_iff_iff, makes_bit, makes_bit]
  have hgen : (extF n b c).gen = makesF c b.gen := rfl
  rw [hgen]
  cases hg : (makesF c b.gen).getLsbD j with
  | true =>
    simp only [true_or, true_iff]
    rw [makes_bit] at hg
    rcases hg with h | ⟨k, h1, h2⟩
    · exact .inl h
    · exact .inr ⟨k, (makes_bit b s k).2 (.inl h1), h2⟩
  | false =>
    constructor
    · rintro (h | ⟨i, h1, h2⟩)
      · cases h
      · rw [ext_bit hb i j hg] at h2
        obtain ⟨_, h2⟩ := h2
        rw [makes_bit] at h2
        rcases h2 with h2 | ⟨k, h3, h4⟩
        · exact .inl h2
        · exact .inr ⟨k, (makes_bit b s k).2 (.inr ⟨i, h1, h3⟩), h4⟩
    · rintro (h | ⟨k, h1, h2⟩)
      · have : (makesF c b.gen).getLsbD j = true := (makes_bit c b.gen j).2 (.inl h)
        rw [this] at hg; cases hg
      · rw [makes_bit] at h1
        rcases h1 with h1 | ⟨i, h3, h4⟩
        · have : (makesF c b.gen).getLsbD j = true := (makes_bit c b.gen j).2 (.inr ⟨k, h1, h2⟩)
          rw [this] at hg; cases hg
        · refine .inr ⟨i, h3, (ext_bit hb i j hg).2 ⟨?_, (makes_bit c _ j).2 (.inr ⟨k, h4, h2⟩)⟩⟩
          rcases Nat.lt_or_ge i b.rows.length with h | h
          · omega
          · rw [getD_off h] at h4; simp at h4
theorem makes_cut (c : Fct) (x g : BitVec 64) : makesF c (x &&& ~~~g) &&& ~~~(makesF c g) = makesF c x &&& ~~~(makesF c g) := by
  refine BitVec.eq_of_getLsbD_eq fun j hj => ?_
  simp only [BitVec.getLsbD_and, BitVec.getLsbD_not, hj, decide_true, Bool.true_and]
  cases hg : (makesF c g).getLsbD j with
  | true => simp
  | false =>
    simp only [Bool.not_false, Bool.and_true]
    rw [Bool.eq_iff_iff, makes_bit, makes_bit]
    constructor
    · rintro (h | ⟨k, h1, h2⟩)
      · exact .inl h
      · rw [BitVec.getLsbD_and, Bool.and_eq_true] at h1
        exact .inr ⟨k, h1.1, h2⟩
    · rintro (h | ⟨k, h1, h2⟩)
      · exact .inl h
      · refine .inr ⟨k, ?_, h2⟩
        have hk : k < 64 := BitVec.lt_of_getLsbD h1
        cases hgk : g.getLsbD k with
        | true =>
          have : (makesF c g).getLsbD j = true := (makes_bit c g j).2 (.inr ⟨k, hgk, h2⟩)
          rw [this] at hg; cases hg
        | false => rw [BitVec.getLsbD_and, BitVec.getLsbD_not, h1, hgk]; simp [hk]
theorem ext_gen (n : Int) (a b : Fct) : (extF n a b).gen = makesF b a.gen := rfl
theorem ext_assoc {n : Int} {a b c : Fct} (ha : (a.rows.length : Int) = n) (hb : (b.rows.length : Int) = n) : extF n (extF n a b) c = extF n a (extF n b c) := by
  refine fct_ext ?_ ?_ fun i => ?_
  · rw [ext_gen, ext_gen, ext_gen, makes_ext hb]
  · simp [extF, canonF]
  · rw [ext_row (a := extF n a b), ext_row (a := a) (b := extF n b c), ext_gen]
    split
    · rename_i hi
      rw [ext_row, if_pos hi, makes_ext hb, makes_ext hb]
      exact makes_cut c _ _
    · rfl
theorem leC_anti {a b : Cel} (ha : wfC a) (hb : wfC b) (h1 : leC a b) (h2 : leC b a) : a = b := by
  rw [leC] at *
  rw [← h1, both_comm ha hb, h2]
theorem wf_behind {a : List Cel} {c : Cel} (ha : ∀ x ∈ a, wfC x) (hc : wfC c) : wfC (behindC a c) := wf_fold ha hc _
theorem start_both {y z : Cel} (hy : wfC y) (hz : wfC z) : (⟨0, (bothC y z).kind, (bothC y z).k⟩ : Cel) = bothC ⟨0, y.kind, y.k⟩ ⟨0, z.kind, z.k⟩ := by
  have h0 : (0 : BitVec 64) ||| 0 = 0 := by decide
  rcases wf_cases hy with ⟨x, rfl⟩ | ⟨x, k, rfl⟩ | rfl
  · rcases wf_cases hz with ⟨u, rfl⟩ | ⟨u, l, rfl⟩ | rfl
    · rw [both_00]; simp only [both_00, h0]
    · rw [both_01]; simp only [both_01, h0]
    · rw [both_2r (wf_0 x)]; simp only [both_2r (wf_0 0)]
  · rcases wf_cases hz with ⟨u, rfl⟩ | ⟨u, l, rfl⟩ | rfl
    · rw [both_10]; simp only [both_10, h0]
    · rw [both_11]
      by_cases h : k = l
      · simp only [if_pos h, both_11, h0]
      · simp only [if_neg h, both_11]
    · rw [both_2r (wf_1 x k)]; simp only [both_2r (wf_1 0 k)]
  · rw [both_2l hz]
    exact (both_2l (wf_start hz)).symm
theorem both_frm {y z : Cel} (hy : wfC y) (hz : wfC z) {i : Nat} (h : (bothC y z).frm.getLsbD i = true) : y.frm.getLsbD i = true ∨ z.frm.getLsbD i = true := by
  have key : bothC y z = ⟨0, 2, 0⟩ ∨ (bothC y z).frm = y.frm ||| z.frm := by
    rcases wf_cases hy with ⟨x, rfl⟩ | ⟨x, k, rfl⟩ | rfl
    · rcases wf_cases hz with ⟨u, rfl⟩ | ⟨u, l, rfl⟩ | rfl
      · exact .inr (by rw [both_00])
      · exact .inr (by rw [both_01])
      · exact .inl (both_2r (wf_0 x))
    · rcases wf_cases hz with ⟨u, rfl⟩ | ⟨u, l, rfl⟩ | rfl
      · exact .inr (by rw [both_10])
      · rw [both_11]
        split
        · exact .inr rfl
        · exact .inl rfl
      · exact .inl (both_2r (wf_1 x k))
    · exact .inl (both_2l hz)
  rcases key with k | k
  · rw [k] at h; simp at h
  · rw [k, BitVec.getLsbD_or, Bool.or_eq_true] at h; exact h
theorem behind_at {a : List Cel} {c : Cel} (ha : ∀ x ∈ a, wfC x) (hc : wfC c) {i : Nat} (hi : i < a.length) (h : c.frm.getLsbD i = true) : leC (a.getD i cel0) (behindC a c) := (le_fold ha hc a.length).2 i hi h
theorem behind_start {a : List Cel} {c : Cel} (ha : ∀ x ∈ a, wfC x) (hc : wfC c) : leC ⟨0, c.kind, c.k⟩ (behindC a c) := (le_fold ha hc a.length).1
theorem behind_both {a : List Cel} {y z : Cel} (ha : ∀ x ∈ a, wfC x) (hy : wfC y) (hz : wfC z) : behindC a (bothC y z) = bothC (behindC a y) (behindC a z) := by
  have wy := wf_behind ha hy
  have wz := wf_behind ha hz
  have wm := wf_both wy wz
  have wb := wf_both hy hz
  have ly := leC_left wy wz
  have lz := leC_right wy wz
  refine leC_anti (wf_behind ha wb) wm ?_ (leC_lub wy wz (wf_behind ha wb) (behind_mono_r ha hy wb (leC_left hy hz)) (behind_mono_r ha hz wb (leC_right hy hz)))
  refine fold_le ha wb wm ?_ a.length fun i hi hb => ?_
  · rw [start_both hy hz]
    exact leC_lub (wf_start hy) (wf_start hz) wm (leC_trans (wf_start hy) wy wm (behind_start ha hy) ly) (leC_trans (wf_start hz) wz wm (behind_start ha hz) lz)
  · rcases both_frm hy hz hb with h | h
    · exact leC_trans (wf_at ha i) wy wm (behind_at ha hy hi h) ly
    · exact leC_trans (wf_at ha i) wz wm (behind_at ha hz hi h) lz
theorem behind_none (a : List Cel) (kd k : Int) : behindC a ⟨0, kd, k⟩ = ⟨0, kd, k⟩ := by
  have : ∀ m, foldC a ⟨0, kd, k⟩ m = ⟨0, kd, k⟩ := by
    intro m
    induction m with
    | zero => rfl
    | succ m ih => rw [foldC, range_fold, behindStep, if_neg (by simp)]; exact ih
  exact this _
theorem behind_assoc {a b : List Cel} {x : Cel} (ha : ∀ y ∈ a, wfC y) (hb : ∀ y ∈ b, wfC y) (hx : wfC x) : behindC (b.map (behindC a)) x = behindC a (behindC b x) := by
  have key : ∀ m, foldC (b.map (behindC a)) x m = behindC a (foldC b x m) := by
    intro m
    induction m with
    | zero => exact (behind_none a _ _).symm
    | succ m ih =>
      rw [foldC, range_fold, behindStep, show foldC b x (m + 1) = behindStep b x (foldC b x m) m from range_fold _ _ _, behindStep]
      split
      · rw [behind_both ha (wf_fold hb hx m) (wf_at hb m), ← ih]
        congr 1
        rcases Nat.lt_or_ge m b.length with h | h
        · rw [getD_at (by simpa using h), getD_at h, List.getElem_map]
        · rw [List.getD_eq_getElem?_getD, List.getElem?_eq_none (by simpa using h), List.getD_eq_getElem?_getD, List.getElem?_eq_none h]
          exact (behind_none a 0 0).symm
      · exact ih
  rw [behindC_is, behindC_is, List.length_map]
  exact key b.length
theorem thenL_assoc {s : Sp} {a b c : Wt} (hs : leafOk s = true) (ha : isL s a = true) (hb : isL s b = true) (hc : isL s c = true) : thenL s (thenL s a b) c = thenL s a (thenL s b c) := by
  cases hza : a.zero with
  | true => rw [isL_Zero hs ha hza, then_Zl, then_Zl, then_Zl]
  | false =>
    cases hzb : b.zero with
    | true => rw [isL_Zero hs hb hzb, then_Zr, then_Zl, then_Zr]
    | false =>
      cases hzc : c.zero with
      | true => rw [isL_Zero hs hc hzc, then_Zr, then_Zr, then_Zr]
      | false =>
        have h1 := isL_then hs ha hb
        have h2 := isL_then hs hb hc
        rcases leaf_tag hs with h | h | h | h
        · rw [then_1 hza hzb h, then_1 hzb hzc h, then_1 (by rfl) hzc h, then_1 hza (by rfl) h]
        · have k1 := cost_ok ((nz_cases hs ha hza).1 h).2 ((nz_cases hs ha hza).1 h).1
          have k2 := cost_ok ((nz_cases hs hb hzb).1 h).2 ((nz_cases hs hb hzb).1 h).1
          have k3 := cost_ok ((nz_cases hs hc hzc).1 h).2 ((nz_cases hs hc hzc).1 h).1
          rw [thenR_2 hs ha hb hza hzb h] at h1 ⊢
          rw [thenR_2 hs hb hc hzb hzc h] at h2 ⊢
          rw [thenR_2 hs h1 hc (by rfl) hzc h, thenR_2 hs ha h2 hza (by rfl) h]
          show wtC (min (min (a.cost + b.cost) s.dim + c.cost) s.dim) = wtC (min (a.cost + min (b.cost + c.cost) s.dim) s.dim)
          congr 1; omega
        · have k1 := checkF_ok ((nz_cases hs ha hza).2.1 h)
          have k2 := checkF_ok ((nz_cases hs hb hzb).2.1 h)
          rw [(thenR_3 hs ha hb hza hzb h).1] at h1 ⊢
          rw [(thenR_3 hs hb hc hzb hzc h).1] at h2 ⊢
          rw [(thenR_3 hs h1 hc (by rfl) hzc h).1, (thenR_3 hs ha h2 hza (by rfl) h).1]
          show wtF (extF s.dim (extF s.dim (fct a) (fct b)) (fct c)) = wtF (extF s.dim (fct a) (extF s.dim (fct b) (fct c)))
          rw [ext_assoc k1.2.1 k2.2.1]
        · obtain ⟨l1, w1⟩ := wf_list ((nz_cases hs ha hza).2.2 h)
          obtain ⟨l2, w2⟩ := wf_list ((nz_cases hs hb hzb).2.2 h)
          obtain ⟨l3, w3⟩ := wf_list ((nz_cases hs hc hzc).2.2 h)
          rw [(thenR_4 hs ha hb hza hzb h).1] at h1 ⊢
          rw [(thenR_4 hs hb hc hzb hzc h).1] at h2 ⊢
          rw [(thenR_4 hs h1 hc (by rfl) hzc h).1, (thenR_4 hs ha h2 hza (by rfl) h).1]
          show wtK (c.cells.map (behindC (b.cells.map (behindC a.cells)))) = wtK ((c.cells.map (behindC b.cells)).map (behindC a.cells))
          rw [List.map_map]
          rw [List.map_congr_left fun x hx => behind_assoc w1 w2 (w3 x hx)]
          rfl
theorem makes_one {n : Int} {s : BitVec 64} (hn : 0 ≤ n ∧ n ≤ 64) (h : outB n s = false) : makesF (oneF n) s = s := by
  refine BitVec.eq_of_getLsbD_eq fun j hj => ?_
  rw [Bool.eq_iff_iff, makes_bit]
  have hrow : ∀ i, i < n.toNat → (oneF n).rows.getD i 0 = worth (i : Int) := fun i hi => by rw [oneF, range_row, if_pos hi]
  constructor
  · rintro (h1 | ⟨i, h1, h2⟩)
    · simp [oneF] at h1
    · have hi := outB_bits hn.1 h i h1
      rw [hrow i (by omega), worth_two, BitVec.getLsbD_twoPow] at h2
      simp at h2
      rw [show j = i by omega]; exact h1
  · intro h1
    have hi := outB_bits hn.1 h j h1
    refine .inr ⟨j, h1, ?_⟩
    rw [hrow j (by omega), worth_two, BitVec.getLsbD_twoPow]
    simp; omega
theorem ext_one_r {n : Int} {a : Fct} (ha : checkF n a = 0) : extF n a (oneF n) = a := by
  obtain ⟨hn, hl, hg, hr, hc, _⟩ := checkF_ok ha
  refine fct_ext (makes_one hn hg) ?_ fun i => ?_
  · simp [extF, canonF]; omega
  · rw [ext_row]
    split
    · rename_i hi
      rw [makes_one hn hg, makes_one hn (getD_out hr i)]
      have := congrArg (fun f : Fct => f.rows.getD i 0) hc
      simp only [canon_row] at this
      exact this
    · rename_i hi; rw [getD_off (by omega)]
theorem worth_bit {i j : Nat} (hi : i < 64) : (worth (i : Int)).getLsbD j = decide (j = i) := by
  rw [worth_two, BitVec.getLsbD_twoPow, Int.toNat_natCast]
  by_cases h : j = i
  · subst h; simp [hi]
  · simp [h]; intro _ h2; exact h h2.symm
theorem behind_worth {a : List Cel} {i : Nat} (ha : ∀ x ∈ a, wfC x) (hi : i < a.length) (h64 : a.length ≤ 64) : behindC a ⟨worth (i : Int), 0, 0⟩ = a.getD i cel0 := by
  have hc : wfC ⟨worth (i : Int), 0, 0⟩ := wf_0 _
  refine leC_anti (wf_behind ha hc) (wf_at ha i) (fold_le ha hc (wf_at ha i) ?_ a.length fun j hj hb => ?_) (behind_at ha hc hi (by rw [worth_bit (by omega)]; simp))
  · show leC ⟨0, 0, 0⟩ _
    rw [leC]
    rcases wf_cases (wf_at ha i) with ⟨x, e⟩ | ⟨x, k, e⟩ | e
    · rw [e, both_00]; simp
    · rw [e, both_01]; simp
    · rw [e]; exact both_2r (wf_0 0)
  · rw [worth_bit (by omega)] at hb
    have : j = i := by simpa using hb
    subst this; exact leC_refl (wf_at ha j)
theorem then_one_r {s : Sp} {a : Wt} (hs : leafOk s = true) (ha : isL s a = true) : thenL s a (oneL s) = a := by
  cases hza : a.zero with
  | true => rw [isL_Zero hs ha hza, then_Zl]
  | false =>
    have h1 := isL_one hs
    have hd := leafOk_dim hs
    rcases isL_cases hs ha with rfl | ⟨_, ⟨h, e⟩ | ⟨h, e, k1, k2⟩ | ⟨h, e, k1⟩ | ⟨h, e, k1⟩⟩
    · cases hza
    · have e1 : oneL s = wt0 := by rw [oneL, if_neg (by omega), if_neg (by omega)]
      rw [e1, then_1 hza (by rfl) h, e]
    · have e1 : oneL s = wt0 := by rw [oneL, if_neg (by omega), if_neg (by omega)]
      have hc := cost_ok k2 k1
      rw [e1] at h1 ⊢
      rw [thenR_2 hs ha h1 hza (by rfl) h]
      show wtC (min (a.cost + 0) s.dim) = a
      rw [show min (a.cost + 0) s.dim = a.cost by omega]; exact e.symm
    · have e1 : oneL s = wtF (oneF s.dim) := by rw [oneL, if_pos h]
      rw [e1] at h1 ⊢
      rw [(thenR_3 hs ha h1 hza (by rfl) h).1]
      show wtF (extF s.dim (fct a) (oneF s.dim)) = a
      rw [ext_one_r k1]; exact e.symm
    · have e1 : oneL s = wtK (oneC s.dim) := by rw [oneL, if_neg (by omega), if_pos h]
      rw [e1] at h1 ⊢
      rw [(thenR_4 hs ha h1 hza (by rfl) h).1]
      obtain ⟨l1, w1⟩ := wf_list k1
      have h64 := hd.2.2.2.2.2 (.inr h)
      show wtK ((oneC s.dim).map (behindC a.cells)) = a
      have e2 : (oneC s.dim).map (behindC a.cells) = a.cells := by
        refine List.ext_getElem (by simp [oneC]; omega) fun i h1 h2 => ?_
        simp only [oneC, List.getElem_map, List.getElem_range]
        rw [behind_worth w1 h2 (by omega), getD_at h2]
      rw [e2]; exact e.symm
theorem thenW_assoc {s : Sp} {a b c : Wt} (hs : spOk s = true) (ha : isB s a = true) (hb : isB s b = true) (hc : isB s c = true) : thenW s (thenW s a b) c = thenW s a (thenW s b c) := by
  rcases spOk_cases hs with ⟨hl, h5⟩ | ⟨p, q, rfl, hp, hq⟩
  · rw [isB_leaf h5] at ha hb hc
    simp only [thenW, if_neg h5]; exact thenL_assoc hl ha hb hc
  · obtain ⟨a0, a1, rfl, h1, h2⟩ := isB_pair ha
    obtain ⟨b0, b1, rfl, h3, h4⟩ := isB_pair hb
    obtain ⟨c0, c1, rfl, h5, h6⟩ := isB_pair hc
    show wtP (thenL p (thenL p a0 b0) c0) (thenL q (thenL q a1 b1) c1) = wtP (thenL p a0 (thenL p b0 c0)) (thenL q a1 (thenL q b1 c1))
    rw [thenL_assoc hp h1 h3 h5, thenL_assoc hq h2 h4 h6]
theorem then_oneW_r {s : Sp} {a : Wt} (hs : spOk s = true) (ha : isB s a = true) : thenW s a (oneW s) = a := by
  rcases spOk_cases hs with ⟨hl, h5⟩ | ⟨p, q, rfl, hp, hq⟩
  · rw [isB_leaf h5] at ha
    rw [thenW, if_neg h5, oneW, if_neg h5]; exact then_one_r hl ha
  · obtain ⟨a0, a1, rfl, h1, h2⟩ := isB_pair ha
    show wtP (thenL p a0 (oneL p)) (thenL q a1 (oneL q)) = wtP a0 a1
    rw [then_one_r hp h1, then_one_r hq h2]
theorem Ext_assoc {s : Sp} {back : Bool} {a b c : Wt} (hs : spOk s = true) (ha : isB s a = true) (hb : isB s b = true) (hc : isB s c = true) : Ext s back (Ext s back a b) c = Ext s back a (Ext s back b c) := by
  unfold Ext
  cases back with
  | true => exact (thenW_assoc hs hc hb ha).symm
  | false => exact thenW_assoc hs ha hb hc
theorem Ext_one {s : Sp} {back : Bool} {a : Wt} (hs : spOk s = true) (ha : isB s a = true) : Ext s back (oneW s) a = a := by
  unfold Ext
  cases back with
  | true => exact then_oneW_r hs ha
  | false => exact then_oneW hs ha
/-- What a path is worth, and its word: nothing, where it is none. -/
def pathF (a : Aut) (back : Bool) : List Int → Int → Wt → List Int → Option (Int × Wt × List Int)
  | [], at_, w, word => some (at_, w, word)
  | n :: l, at_, w, word => if (decide (n < 0) || decide ((a.trs.length : Int) ≤ n)) = true then none else match a.trs[n.toNat]? with
    | none => none
    | some t => if t.frm ≠ at_ then none else pathF a back l t.to (Ext a.sp back w t.w) (if 0 ≤ t.sym then word ++ [t.sym] else word)
theorem path_B {a : Aut} {back : Bool} (ha : a.Ok) : ∀ (l : List Int) (at_ : Int) (w : Wt) (word : List Int) (r : Int × Wt × List Int), isB a.sp w = true → pathF a back l at_ w word = some r → isB a.sp r.2.1 = true
  | [], _, _, _, r, h, e => by rw [pathF] at e; obtain rfl := Option.some.inj e; exact h
  | n :: l, at_, w, word, r, h, e => by
    rw [pathF] at e
    split at e
    · cases e
    · split at e
      · cases e
      · rename_i t ht
        split at e
        · cases e
        · exact path_B ha l _ _ _ r (Ext_ok ha.sp h (ha.w t (List.mem_of_getElem? ht))) e
/-- A path's word has only symbols that may be; the word only grows. -/
theorem path_word {a : Aut} {back : Bool} (ha : a.Ok) : ∀ (l : List Int) (at_ : Int) (w : Wt) (word : List Int) (r : Int × Wt × List Int), (0 ≤ at_ ∧ at_ < a.states) → isB a.sp w = true → pathF a back l at_ w word = some r → (0 ≤ r.1 ∧ r.1 < a.states) ∧ ∃ u, r.2.2 = word ++ u ∧ (∀ x ∈ u, 0 ≤ x ∧ x < a.symbols) ∧ u.length ≤ l.length ∧ (r.1 ∈ a.fin → leW a.sp r.2.1 (Ext a.sp back w ((valV a back u).getD at_.toNat wt0)))
  | [], at_, w, word, r, hat, hw, e => by
    rw [pathF] at e; obtain rfl := Option.some.inj e
    refine ⟨hat, [], by simp, by simp, Nat.le_refl _, fun hf => ?_⟩
    have hv := ends_vals ha
    have hl := hv.len
    have hi : at_.toNat < (endsW a).length := by omega
    have h1 := (growV_props (back := back) (cnt := sil) ha hv).1
    have hg := (growV_is (back := back) (cnt := sil) ha hv).2
    have e1 : (endsW a).getD at_.toNat wt0 = oneW a.sp := by
      have hn : at_.toNat < a.states.toNat := by omega
      rw [endsW_is ha, getD_at (by simpa using hn), List.getElem_map, List.getElem_range, endR, if_pos]
      rw [show ((at_.toNat : Nat) : Int) = at_ by omega]; exact hf
    have h2 := h1.at_ _ hi
    rw [e1] at h2
    have h3 := Ext_mono_r (back := back) ha.sp hw (oneW_ok ha.sp) (hg.at_ (by rw [← h1.len]; exact hi)) h2
    have e2 : Ext a.sp back w (oneW a.sp) = w := by
      unfold Ext
      cases back with
      | true => exact then_oneW ha.sp hw
      | false => exact then_oneW_r ha.sp hw
    rw [e2] at h3
    exact h3
  | n :: l, at_, w, word, r, hat, hw, e => by
    rw [pathF] at e
    split at e
    · cases e
    · split at e
      · cases e
      · rename_i t ht
        have hm := List.mem_of_getElem? ht
        obtain ⟨b1, b2, b3⟩ := ha.trs t hm
        split at e
        · cases e
        · rename_i hfr
          have hfr' : t.frm = at_ := by simpa using hfr
          have hE := Ext_ok (back := back) ha.sp hw (ha.w t hm)
          obtain ⟨k1, u, k2, k3, k4, k5⟩ := path_word ha l _ _ _ r b2 hE e
          have hv := valV_vals (back := back) ha u
          have hl := hv.len
          have hto : t.to.toNat < (valV a back u).length := by omega
          have hfri : t.frm.toNat < (valV a back u).length := by omega
          have hEt := Ext_ok (back := back) ha.sp (ha.w t hm) (hv.at_ hto)
          by_cases hs : 0 ≤ t.sym
          · rw [if_pos hs] at k2
            refine ⟨k1, t.sym :: u, by rw [k2]; simp, ?_, by simp; omega, fun hf => ?_⟩
            · intro x hx
              rcases List.mem_cons.1 hx with rfl | hx
              · exact ⟨hs, b3.2⟩
              · exact k3 x hx
            · have h1 := k5 hf
              rw [Ext_assoc ha.sp hw (ha.w t hm) (hv.at_ hto)] at h1
              have hrv := restW_vals (back := back) (sym := t.sym) ha hv
              have hrl := hrv.len
              have hgv := (growV_is (back := back) (cnt := sil) ha hrv).2
              have hgp := (growV_props (back := back) (cnt := sil) ha hrv).1
              have hri : t.frm.toNat < (restW a back t.sym (valV a back u)).length := by omega
              have hgi : t.frm.toNat < (growV a back sil (restW a back t.sym (valV a back u))).length := by rw [← hgp.len]; exact hri
              have h2 : leW a.sp (Ext a.sp back t.w ((valV a back u).getD t.to.toNat wt0)) ((restW a back t.sym (valV a back u)).getD t.frm.toNat wt0) := by
                obtain ⟨l1, l2, el⟩ := List.append_of_mem hm
                have ht1 : ∀ y ∈ l1, y ∈ a.trs := fun y hy => by rw [el]; exact List.mem_append_left _ hy
                have ht2 : ∀ y ∈ l2, y ∈ a.trs := fun y hy => by rw [el]; exact List.mem_append_right _ (List.mem_cons_of_mem _ hy)
                have p1 := restW_fold (back := back) (sym := t.sym) ha hv l1 _ ht1 (zeros_vals ha)
                have p1l := p1.len
                have p2 := stepR_vals (back := back) (sym := t.sym) ha hv p1 hm
                have p3 := foldR_up (back := back) (sym := t.sym) ha hv l2 _ ht2 p2
                have p4 := restW_fold (back := back) (sym := t.sym) ha hv l2 _ ht2 p2
                have e3 : restW a back t.sym (valV a back u) = l2.foldl (stepR a back t.sym (valV a back u)) (stepR a back t.sym (valV a back u) (l1.foldl (stepR a back t.sym (valV a back u)) (List.replicate a.states.toNat (zeroW a.sp))) t) := by
                  rw [restW]; conv => lhs; rw [el]
                  rw [List.foldl_append, List.foldl_cons]
                rw [e3]
                have hi1 : t.frm.toNat < (l1.foldl (stepR a back t.sym (valV a back u)) (List.replicate a.states.toNat (zeroW a.sp))).length := by omega
                have hi2 : t.frm.toNat < (stepR a back t.sym (valV a back u) (l1.foldl (stepR a back t.sym (valV a back u)) (List.replicate a.states.toNat (zeroW a.sp))) t).length := by have := p2.len; omega
                have h4 : leW a.sp (Ext a.sp back t.w ((valV a back u).getD t.to.toNat wt0)) ((stepR a back t.sym (valV a back u) (l1.foldl (stepR a back t.sym (valV a back u)) (List.replicate a.states.toNat (zeroW a.sp))) t).getD t.frm.toNat wt0) := by
                  rw [stepR, if_pos rfl, getD_setW _ _ _ _ hi1, if_pos rfl]
                  exact leW_right ha.sp (p1.at_ hi1) hEt
                exact leW_trans ha.sp hEt (p2.at_ hi2) (p4.at_ (by have := p4.len; omega)) h4 (p3.at_ _ hi2)
              have h3 := leW_trans ha.sp hEt (hrv.at_ hri) (hgv.at_ hgi) h2 (hgp.at_ _ hri)
              have h4 := Ext_mono_r (back := back) ha.sp hw hEt (hgv.at_ hgi) h3
              rw [← hfr']
              exact leW_trans ha.sp (path_B ha l _ _ _ r hE e) (Ext_ok ha.sp hw hEt) (Ext_ok ha.sp hw (hgv.at_ hgi)) h1 h4
          · rw [if_neg hs] at k2
            refine ⟨k1, u, k2, k3, by simp; omega, fun hf => ?_⟩
            have h1 := k5 hf
            rw [Ext_assoc ha.sp hw (ha.w t hm) (hv.at_ hto)] at h1
            have hcl : Closed a back sil (valV a back u) := by
              cases u with
              | nil => exact (growV_props ha (ends_vals ha)).2.1
              | cons x u => exact (growV_props ha (restW_vals ha (valV_vals ha u))).2.1
            have h2 := hcl t hm (by simp [sil]; omega)
            have h4 := Ext_mono_r (back := back) ha.sp hw hEt (hv.at_ hfri) h2
            rw [← hfr']
            exact leW_trans ha.sp (path_B ha l _ _ _ r hE e) (Ext_ok ha.sp hw hEt) (Ext_ok ha.sp hw (hv.at_ hfri)) h1 h4
/-- Any word's values lie below the total. -/
theorem value_total {a : Aut} {back : Bool} (ha : a.Ok) : ∀ w : List Int, leV a.sp (valV a back w) (growV a back (fun _ => true) (endsW a))
  | [] => by
    obtain ⟨h1, h2, _⟩ := growV_props (back := back) (cnt := fun _ => true) ha (ends_vals ha)
    exact (growV_props ha (ends_vals ha)).2.2 _ (growV_is ha (ends_vals ha)).2 (fun t ht _ => h2 t ht rfl) h1
  | x :: w => by
    obtain ⟨h1, h2, _⟩ := growV_props (back := back) (cnt := fun _ => true) ha (ends_vals ha)
    have hT := (growV_is (back := back) (cnt := fun _ => true) ha (ends_vals ha)).2
    have hTl := hT.len
    have ih := value_total (back := back) ha w
    have hv := valV_vals (back := back) ha w
    have hvl := hv.len
    have hr := restW_vals (back := back) (sym := x) ha hv
    refine (growV_props ha hr).2.2 _ hT (fun t ht _ => h2 t ht rfl) ?_
    have key : ∀ (ts : List Trn) (o : List Wt), (∀ t ∈ ts, t ∈ a.trs) → Vals a o → leV a.sp o (growV a back (fun _ => true) (endsW a)) → leV a.sp (ts.foldl (stepR a back x (valV a back w)) o) (growV a back (fun _ => true) (endsW a)) := by
      intro ts
      induction ts with
      | nil => exact fun o _ _ h => h
      | cons t ts ihs =>
        intro o ht ho h
        have ht0 := ht t (List.mem_cons_self ..)
        refine ihs _ (fun y hy => ht y (List.mem_cons_of_mem _ hy)) (stepR_vals ha hv ho ht0) ?_
        unfold stepR
        split
        · obtain ⟨k1, k2, _⟩ := ha.trs t ht0
          have n1 := ho.len
          have i1 : t.frm.toNat < o.length := by omega
          have i2 : t.to.toNat < (valV a back w).length := by omega
          have i3 : t.frm.toNat < (growV a back (fun _ => true) (endsW a)).length := by omega
          have i4 : t.to.toNat < (growV a back (fun _ => true) (endsW a)).length := by omega
          have hw := ha.w t ht0
          have e1 := Ext_ok (back := back) ha.sp hw (hv.at_ i2)
          have e2 := Ext_ok (back := back) ha.sp hw (hT.at_ i4)
          exact leV_set h i1 (leW_lub ha.sp (ho.at_ i1) e1 (hT.at_ i3) (h.at_ _ i1) (leW_trans ha.sp e1 e2 (hT.at_ i3) (Ext_mono_r ha.sp hw (hv.at_ i2) (hT.at_ i4) (ih.at_ _ i2)) (h2 t ht0 rfl)))
        · exact h
    refine key a.trs _ (fun _ h => h) (zeros_vals ha) ⟨by have := (zeros_vals ha).len; omega, fun i hi => ?_⟩
    have hi' : i < a.states.toNat := by simpa using hi
    rw [getD_at hi, List.getElem_replicate]
    exact leW_zero ha.sp (hT.at_ (by omega))
end Go.Proofs.YtfpljljjjgicaaaGreatDoor
/-
  wfa.Path, the reference's Path, numbers.
-/
set_option maxHeartbeats 4000000
set_option linter.unusedSimpArgs false
set_option linter.unusedVariables false
namespace Go.Proofs.YtfpljljjjgicaaaGreatDoor
open Go.RowKit
attribute [local irreducible] Wk Tr
def pRes (a : Aut) : Option (Int × Wt × List Int) → V
  | none => .tup [wtA wt0, .sl 3 [], .bool false, iV 5]
  | some r => .tup [wtA r.2.1, .sl 3 (r.2.2.map iV), .bool (decide (r.1 ∈ a.fin)), iV 0]
theorem any_mem {l : List Int} {x : Int} : l.any (fun y => decide (x = y)) = decide (x ∈ l) := by
  rw [Bool.eq_iff_iff, List.any_eq_true, decide_eq_true_iff]
  constructor
  · rintro ⟨y, hy, h⟩; rw [of_decide_eq_true h]; exact hy
  · intro h; exact ⟨x, h, by simp⟩

theorem index_int (l : List Int) (x : Int) (hl : l.length ≤ 17592186044416) : FnC Tryz.prog 83 [.sl 3 (l.map iV), iV x] (fun r => r = iV (idx (fun y => decide (x = y)) l)) := by
  refine FnC.of (fn := Tryz.f83) ⟨Tryz.func83, by kernel_rfl, rfl⟩ Tryz.ntmps83 (by simp) fun w0 S0 => ?_
  refine p_go ?_
  refine p_loopK [0, 1, 7] [] (fun st => ∃ i : Nat, (i ≤ l.length) ∧ (∀ j (hj : j < l.length), j < i → decide (x = l[j]) = false) ∧ st.env 8 = iV i) (fun st => l.length - (st.env 8).toN) ?_ fun e ob g1 hK hO hI => ?_
  · exact ⟨0, by omega, fun j hj h => absurd h (by omega), eV_⟩
  · obtain ⟨i, hi, hn, e8⟩ := hI
    dsimp only at e8
    simp only [valsE, List.cons.injEq, and_true] at hK
    have hE := (⟨hK, e8⟩ : _ ∧ _)
    refine p_go ?_
    refine p_splitC (s := 9) (ht := fun hc9 => ?_) (hf := fun hc9 => ?_)
    · have hlt : i < l.length := by simpa using hc9
      refine p_go fun hf => ?_
      refine p_idxMap (j := i) (ht := Tryz.underlying26) (hi := F.ti3.h) (hij := rfl) (hj := hlt) (h := ?_)
      refine p_go ?_
      refine p_splitC (s := 16) (ht := fun hc16 => ?_) (hf := fun hc16 => ?_)
      · refine p_go ?_
        refine p_ret1 (hp := by rw [idx_hit (p := fun y => decide (x = y)) hlt hc16 hn])
      · refine p_go fun hf => ?_
        refine p_add (r := ((i + 1 : Nat) : Int)) (hr := (by first | omega | (simp only [decide_eq_true_eq, decide_eq_false_iff_not, Bool.or_eq_false_iff, Bool.and_eq_true, Bool.not_eq_true', Bool.not_eq_false'] at *; omega))) (hb := (by first | omega | (simp only [decide_eq_true_eq, decide_eq_false_iff_not, Bool.or_eq_false_iff, Bool.and_eq_true, Bool.not_eq_true', Bool.not_eq_false'] at *; omega))) (h := ?_)
        refine p_go ?_
        refine p_some ?_
        refine ⟨⟨(by simp (decide := true) only [valsE, evE, upd, cv, args0, argsFrom, List.length_map, ↓reduceIte, hE] <;> rfl), (by simp (decide := true) only [valsO, updO, upd, true_and, and_true, false_and, and_false, ↓reduceIte, hE] <;> rfl)⟩, ⟨i + 1, hlt, none_next (p := fun y => decide (x = y)) hc16 hn, eV_⟩, ?_⟩
        simp (decide := true) only [upd, e8, V.toN, ↓reduceIte]; omega
    · refine p_go ?_
      refine p_ret1 (hp := by rw [idx_miss (p := fun y => decide (x = y)) fun j hj => hn j hj (by simp at hc9; omega)])

theorem contains_int (l : List Int) (x : Int) (hl : l.length ≤ 17592186044416) : FnC Tryz.prog 50 [.sl 3 (l.map iV), iV x] (fun r => r = .bool (decide (x ∈ l))) := by
  refine FnC.of (fn := Tryz.f50) ⟨Tryz.func50, by kernel_rfl, rfl⟩ Tryz.ntmps50 (by simp) fun w0 S0 => ?_
  refine p_go fun hf => ?_
  refine p_call (hx := rfl) (hb := ⟨Tryz.func83, by kernel_rfl, rfl⟩) (hf := index_int l x hl) (h := ?_)
  refine p_go ?_
  refine p_ret1 (hp := by rw [idx_nonneg, any_mem])

theorem numbersC (a b : List Int) (ha : a.length ≤ 17592186044416) : FnC Tryz.prog 19 [.sl 3 (a.map iV), .sl 3 (b.map iV)] (fun r => r = .bool (decide (a = b))) := by
  refine FnC.of (fn := Tryz.f19) ⟨Tryz.func19, by kernel_rfl, rfl⟩ Tryz.ntmps19 (by simp) fun w0 S0 => ?_
  refine p_go ?_
  refine p_splitC (s := 10) (ht := fun hc10 => ?_) (hf := fun hc10 => ?_)
  · refine p_go ?_
    refine p_ret1 (hp := by have h10 : a ≠ b := (fun h => by rw [h] at hc10; simp at hc10); simp [h10])
  · have h10 : a.length = b.length := by simp at hc10; omega
    refine p_go ?_
    refine p_loopK [0, 1] [] (fun st => ∃ i : Nat, (i ≤ a.length) ∧ (∀ j, j < i → a[j]? = b[j]?) ∧ st.env 5 = iV i) (fun st => a.length - (st.env 5).toN) ?_ fun e ob g1 hK hO hI => ?_
    · exact ⟨0, by omega, fun j h => absurd h (by omega), eV_⟩
    · obtain ⟨i, hi, hs, e5⟩ := hI
      dsimp only at e5
      simp only [valsE, List.cons.injEq, and_true] at hK
      simp only [valsO, List.cons.injEq, and_true] at hO
      have hE := (⟨hK, hO, e5⟩ : _ ∧ _ ∧ _)
      refine p_go ?_
      refine p_splitC (s := 14) (ht := fun hc14 => ?_) (hf := fun hc14 => ?_)
      · have hlt : i < a.length := by simpa using hc14
        have hlt2 : i < b.length := by omega
        refine p_go fun hf => ?_
        refine p_idxMap (j := i) (ht := Tryz.underlying26) (hi := F.ti3.h) (hij := rfl) (hj := hlt) (h := ?_)
        refine p_go fun hf => ?_
        refine p_idxMap (j := i) (ht := Tryz.underlying26) (hi := F.ti3.h) (hij := rfl) (hj := hlt2) (h := ?_)
        refine p_go ?_
        refine p_splitC (s := 25) (ht := fun hc25 => ?_) (hf := fun hc25 => ?_)
        · refine p_go ?_
          refine p_ret1 (hp := by have h25 : a[i] ≠ b[i] := (by simpa using hc25); have h1 : a ≠ b := (fun h => ne_at hlt hlt2 h25 h); simp [h1])
        · have h25 : a[i] = b[i] := by simpa using hc25
          refine p_go fun hf => ?_
          refine p_add (r := ((i + 1 : Nat) : Int)) (hr := (by first | omega | (simp only [decide_eq_true_eq, decide_eq_false_iff_not, Bool.or_eq_false_iff, Bool.and_eq_true, Bool.not_eq_true', Bool.not_eq_false'] at *; omega))) (hb := (by first | omega | (simp only [decide_eq_true_eq, decide_eq_false_iff_not, Bool.or_eq_false_iff, Bool.and_eq_true, Bool.not_eq_true', Bool.not_eq_false'] at *; omega))) (h := ?_)
          refine p_go ?_
          refine p_some ?_
          refine ⟨⟨(by simp (decide := true) only [valsE, evE, upd, cv, args0, argsFrom, List.length_map, ↓reduceIte, hE] <;> rfl), (by simp (decide := true) only [valsO, updO, upd, true_and, and_true, false_and, and_false, ↓reduceIte, hE] <;> rfl)⟩, ⟨i + 1, hlt, same_next hlt hlt2 h25 hs, eV_⟩, ?_⟩
          simp (decide := true) only [upd, e5, V.toN, ↓reduceIte]; omega
      · have hge : a.length ≤ i := by simpa using hc14
        refine p_go ?_
        refine p_ret1 (hp := by have h1 := eq_all h10 hge hs; simp [h1])

theorem path_bad (a : Aut) (back : Bool) (frm : Int) (l : List Int) (ha : a.Sm) (hl : l.length ≤ 1000000) (hb : askedE a [frm] [] ≠ 0) : FnC Tryz.prog 17 [autV a, .bool back, iV frm, .sl 3 (l.map iV)] (fun r => r = .tup [wtA wt0, .sl 3 [], .bool false, iV (askedE a [frm] [])]) := by
  refine FnC.of (fn := Tryz.f17) ⟨Tryz.func17, by kernel_rfl, rfl⟩ Tryz.ntmps17 (by simp) fun w0 S0 => ?_
  refine p_go fun hf => ?_
  refine p_buildSlice (ht := Tryz.underlying26) (hi := F.ti3.h) (h := ?_)
  refine p_callRow (vs := [autV a, .sl 3 ([frm].map iV), .nil]) (0 + 1 + 1) 21 (hb := ⟨Tryz.func30, by kernel_rfl, rfl⟩) (hvs := by simp [V.frz]) (hf := asked_nil a [frm] ha (by simp)) (h := ?_)
  refine p_go ?_
  refine p_isC (s := 24) (b := true) (hc := by simpa using hb) (h := ?_)
  refine p_go fun hf => ?_
  refine p_build (hi := F.ti37.h) (hpl := F.pl37.h) (h := ?_)
  refine p_go ?_
  refine p_nilSl (s := 9) (t := 3) (h := ?_)
  refine p_cellNil (g1 := 0 + 1) (d1 := 8) (i := 3) (el := 30) (h := ?_)
  refine p_cellNil (g1 := 0 + 1) (d1 := 8) (i := 4) (el := 90) (h := ?_)
  refine p_cellNil (g1 := 0 + 1) (d1 := 8) (i := 5) (el := 37) (h := ?_)
  refine p_r4 (hp := by rfl)

theorem rpath_bad (a : Aut) (back : Bool) (frm : Int) (l : List Int) (ha : a.Sm) (hl : l.length ≤ 1000000) (hb : askedE a [frm] [] ≠ 0) : FnC Tryz.prog 18 [autV a, .bool back, iV frm, .sl 3 (l.map iV)] (fun r => r = .tup [wtA wt0, .sl 3 [], .bool false, iV (askedE a [frm] [])]) := by
  refine FnC.of (fn := Tryz.f18) ⟨Tryz.func18, by kernel_rfl, rfl⟩ Tryz.ntmps18 (by simp) fun w0 S0 => ?_
  refine p_go fun hf => ?_
  refine p_buildSlice (ht := Tryz.underlying26) (hi := F.ti3.h) (h := ?_)
  refine p_callRow (vs := [autV a, .sl 3 ([frm].map iV), .nil]) (0 + 1 + 1) 20 (hb := ⟨Tryz.func43, by kernel_rfl, rfl⟩) (hvs := by simp [V.frz]) (hf := rasked_nil a [frm] ha (by simp)) (h := ?_)
  refine p_go ?_
  refine p_isC (s := 23) (b := true) (hc := by simpa using hb) (h := ?_)
  refine p_go fun hf => ?_
  refine p_build (hi := F.ti37.h) (hpl := F.pl37.h) (h := ?_)
  refine p_go ?_
  refine p_nilSl (s := 9) (t := 3) (h := ?_)
  refine p_cellNil (g1 := 0 + 1) (d1 := 8) (i := 3) (el := 30) (h := ?_)
  refine p_cellNil (g1 := 0 + 1) (d1 := 8) (i := 4) (el := 90) (h := ?_)
  refine p_cellNil (g1 := 0 + 1) (d1 := 8) (i := 5) (el := 37) (h := ?_)
  refine p_r4 (hp := by rfl)

theorem path_ok (a : Aut) (back : Bool) (frm : Int) (l : List Int) (ha : a.Sm) (hl : l.length ≤ 1000000) (hb : askedE a [frm] [] = 0) : FnC Tryz.prog 17 [autV a, .bool back, iV frm, .sl 3 (l.map iV)] (fun r => r = pRes a (pathF a back l frm (oneW a.sp) [])) := by
  refine FnC.of (fn := Tryz.f17) ⟨Tryz.func17, by kernel_rfl, rfl⟩ Tryz.ntmps17 (by simp) fun w0 S0 => ?_
  obtain ⟨hok, hfr, _⟩ := askedE_ok hb
  refine p_go fun hf => ?_
  refine p_buildSlice (ht := Tryz.underlying26) (hi := F.ti3.h) (h := ?_)
  refine p_callRow (vs := [autV a, .sl 3 ([frm].map iV), .nil]) (0 + 1 + 1) 21 (hb := ⟨Tryz.func30, by kernel_rfl, rfl⟩) (hvs := by simp [V.frz]) (hf := asked_nil a [frm] ha (by simp)) (h := ?_)
  refine p_go ?_
  refine p_isC (s := 24) (b := false) (hc := by simpa using hb) (h := ?_)
  refine p_go fun hf => ?_
  refine p_call (hx := rfl) (hb := ⟨Tryz.func49, by kernel_rfl, rfl⟩) (hf := wone a.sp hok.sp) (h := ?_)
  refine p_go ?_
  refine p_nilSlot (s := 15) (el := 3) 78 (h := ?_)
  refine p_loopK [1, 4, 8, 14, 31, 32] [(0 + 1, 4), (0 + 1, 8)] (fun st => ∃ (i r n : Nat) (at_ : Int) (w : Wt) (word : List Int) (L : List V), (n = word.length) ∧ (L = word.map iV) ∧ (i ≤ l.length) ∧ (pathF a back l frm (oneW a.sp) [] = pathF a back (l.drop i) at_ w word) ∧ (isB a.sp w = true) ∧ (word.length ≤ i) ∧ st.env 13 = iV at_ ∧ st.env 15 = .row r 78 n ∧ st.env 33 = iV i ∧ st.obj (0 + 1 + 1 + 1 + 1 + 1) 14 = .cells 37 (wtL w) ∧ st.obj r 78 = .row 3 L) (fun st => l.length - (st.env 33).toN) ?_ fun e ob g1 hK hO hI => ?_
  · exact ⟨0, _, 0, frm, oneW a.sp, [], [], rfl, rfl, by omega, rfl, oneW_ok hok.sp, by simp, eV_, eV_, eV_, oB_, oB_⟩
  · obtain ⟨i, r, n, at_, w, word, L, hnl, hL, hi, hp, hW, hwl, e13, e15, e33, o14, o78⟩ := hI
    dsimp only at e13 e15 e33 o14 o78
    simp only [valsE, List.cons.injEq, and_true] at hK
    simp only [valsO, List.cons.injEq, and_true] at hO
    have hE := (⟨hK, hO, e13, e15, e33, o14, o78⟩ : _ ∧ _ ∧ _ ∧ _ ∧ _ ∧ _ ∧ _)
    refine p_go ?_
    refine p_splitC (s := 34) (ht := fun hc34 => ?_) (hf := fun hc34 => ?_)
    · have hlt : i < l.length := by simpa using hc34
      have hdr := List.drop_eq_getElem_cons hlt
      refine p_go fun hf => ?_
      refine p_idxMap (j := i) (ht := Tryz.underlying26) (hi := F.ti3.h) (hij := rfl) (hj := hlt) (h := ?_)
      refine p_go fun hf => ?_
      refine p_split (s := 46) (ht := fun hb46 => ?_) (hf := fun hb46 => ?_)
      · -- slot 46 is true
        refine p_go fun hf => ?_
        refine p_build (hi := F.ti37.h) (hpl := F.pl37.h) (h := ?_)
        refine p_go ?_
        have hnone : pathF a back l frm (oneW a.sp) [] = none := by rw [hp, hdr, pathF, if_pos hb46]
        refine p_nilSl (s := 9) (t := 3) (h := ?_)
        refine p_cellNil (g1 := 0 + 1) (d1 := 8) (i := 3) (el := 30) (h := ?_)
        refine p_cellNil (g1 := 0 + 1) (d1 := 8) (i := 4) (el := 90) (h := ?_)
        refine p_cellNil (g1 := 0 + 1) (d1 := 8) (i := 5) (el := 37) (h := ?_)
        refine p_r4 (hp := by rw [hnone]; rfl)
      · have hn : 0 ≤ l[i] ∧ l[i] < a.trs.length := by have := hb46; simp at this; omega
        have hlt2 : l[i].toNat < a.trs.length := by omega
        have hm := List.getElem_mem hlt2
        have hget : a.trs[l[i].toNat]? = some a.trs[l[i].toNat] := List.getElem?_eq_getElem hlt2
        refine p_go fun hf => ?_
        refine p_idxMap (j := l[i].toNat) (ht := Tryz.underlying27) (hi := F.ti39.h) (hij := by omega) (hj := hlt2) (h := ?_)
        refine p_go ?_
        refine p_splitC (s := 55) (ht := fun hc55 => ?_) (hf := fun hc55 => ?_)
        · refine p_go fun hf => ?_
          refine p_build (hi := F.ti37.h) (hpl := F.pl37.h) (h := ?_)
          refine p_go ?_
          have hnone : pathF a back l frm (oneW a.sp) [] = none := by rw [hp, hdr, pathF, if_neg (by rw [hb46]; decide), hget]; exact if_pos (by simpa using hc55)
          refine p_nilSl (s := 9) (t := 3) (h := ?_)
          refine p_cellNil (g1 := 0 + 1) (d1 := 8) (i := 3) (el := 30) (h := ?_)
          refine p_cellNil (g1 := 0 + 1) (d1 := 8) (i := 4) (el := 90) (h := ?_)
          refine p_cellNil (g1 := 0 + 1) (d1 := 8) (i := 5) (el := 37) (h := ?_)
          refine p_r4 (hp := by rw [hnone]; rfl)
        · have hp2 : pathF a back (l.drop i) at_ w word = pathF a back (l.drop (i + 1)) a.trs[l[i].toNat].to (Ext a.sp back w a.trs[l[i].toNat].w) (if 0 ≤ a.trs[l[i].toNat].sym then word ++ [a.trs[l[i].toNat].sym] else word) := by rw [hdr, pathF, if_neg (by rw [hb46]; decide), hget]; exact if_neg (by simpa using hc55)
          refine p_go fun hf => ?_
          refine p_idxMap (j := l[i].toNat) (ht := Tryz.underlying27) (hi := F.ti39.h) (hij := by omega) (hj := hlt2) (h := ?_)
          refine p_go fun hf => ?_
          refine p_call (hx := rfl) (hb := ⟨Tryz.func37, by kernel_rfl, rfl⟩) (hf := wthen back hok.sp hW (hok.w _ hm)) (h := ?_)
          refine p_go ?_
          refine p_splitC (s := 73) (ht := fun hc73 => ?_) (hf := fun hc73 => ?_)
          · refine p_go fun hf => ?_
            refine p_buildSlice (ht := Tryz.underlying26) (hi := F.ti3.h) (h := ?_)
            refine p_append (k := n + 1) (ht := Tryz.underlying26) (hi := F.ti3.h) (hnl := by simp [hL, hnl]) (hy := by exact ⟨.inl oB_, rfl⟩) (hm := by simp [hL, hnl]) (hlim := by omega) (h := ?_)
            refine p_go fun hf => ?_
            refine p_add (r := ((i + 1 : Nat) : Int)) (hr := (by first | omega | (simp only [decide_eq_true_eq, decide_eq_false_iff_not, Bool.or_eq_false_iff, Bool.and_eq_true, Bool.not_eq_true', Bool.not_eq_false'] at *; omega))) (hb := (by first | omega | (simp only [decide_eq_true_eq, decide_eq_false_iff_not, Bool.or_eq_false_iff, Bool.and_eq_true, Bool.not_eq_true', Bool.not_eq_false'] at *; omega))) (h := ?_)
            refine p_go ?_
            refine p_some ?_
            subst hL
            have hs : 0 ≤ a.trs[l[i].toNat].sym := by simpa using hc73
            rw [if_pos hs] at hp2
            refine ⟨⟨(by simp (decide := true) only [valsE, evE, upd, cv, args0, argsFrom, List.length_map, ↓reduceIte, hE] <;> rfl), (by simp (decide := true) only [valsO, updO, upd, true_and, and_true, false_and, and_false, ↓reduceIte, hE] <;> rfl)⟩, ⟨i + 1, _, n + 1, a.trs[l[i].toNat].to, Ext a.sp back w a.trs[l[i].toNat].w, word ++ [a.trs[l[i].toNat].sym], word.map iV ++ [iV a.trs[l[i].toNat].sym], by simp [hnl], by simp, hlt, hp.trans hp2, Ext_ok hok.sp hW (hok.w _ hm), by simp; omega, eV_, eV_, eV_, oB_, oB_⟩, ?_⟩
            simp (decide := true) only [upd, e33, V.toN, ↓reduceIte]; omega
          · refine p_go fun hf => ?_
            refine p_add (r := ((i + 1 : Nat) : Int)) (hr := (by first | omega | (simp only [decide_eq_true_eq, decide_eq_false_iff_not, Bool.or_eq_false_iff, Bool.and_eq_true, Bool.not_eq_true', Bool.not_eq_false'] at *; omega))) (hb := (by first | omega | (simp only [decide_eq_true_eq, decide_eq_false_iff_not, Bool.or_eq_false_iff, Bool.and_eq_true, Bool.not_eq_true', Bool.not_eq_false'] at *; omega))) (h := ?_)
            refine p_go ?_
            refine p_some ?_
            subst hL
            have hs : ¬ 0 ≤ a.trs[l[i].toNat].sym := by simpa using hc73
            rw [if_neg hs] at hp2
            refine ⟨⟨(by simp (decide := true) only [valsE, evE, upd, cv, args0, argsFrom, List.length_map, ↓reduceIte, hE] <;> rfl), (by simp (decide := true) only [valsO, updO, upd, true_and, and_true, false_and, and_false, ↓reduceIte, hE] <;> rfl)⟩, ⟨i + 1, _, n, a.trs[l[i].toNat].to, Ext a.sp back w a.trs[l[i].toNat].w, word, word.map iV, hnl, rfl, hlt, hp.trans hp2, Ext_ok hok.sp hW (hok.w _ hm), by omega, eV_, eV_, eV_, oB_, oB_⟩, ?_⟩
            simp (decide := true) only [upd, e33, V.toN, ↓reduceIte]; omega
    · have hge : l.length ≤ i := by simpa using hc34
      refine p_go fun hf => ?_
      refine p_call (hx := rfl) (hb := ⟨Tryz.func50, by kernel_rfl, rfl⟩) (hf := contains_int a.fin at_ ha.fin) (h := ?_)
      refine p_go ?_
      subst hL
      subst hnl
      have hfin : pathF a back l frm (oneW a.sp) [] = some (at_, w, word) := by rw [hp, List.drop_eq_nil_of_le hge, pathF]
      refine p_freeze (g1 := r) (d1 := 78) (h := ?_)
      refine p_toSl (s := 9) (hn := by simp) (h := ?_)
      refine p_r4 (hp := by rw [hfin]; rfl)

theorem rpath_ok (a : Aut) (back : Bool) (frm : Int) (l : List Int) (ha : a.Sm) (hl : l.length ≤ 1000000) (hb : askedE a [frm] [] = 0) : FnC Tryz.prog 18 [autV a, .bool back, iV frm, .sl 3 (l.map iV)] (fun r => r = pRes a (pathF a back l frm (oneW a.sp) [])) := by
  refine FnC.of (fn := Tryz.f18) ⟨Tryz.func18, by kernel_rfl, rfl⟩ Tryz.ntmps18 (by simp) fun w0 S0 => ?_
  obtain ⟨hok, hfr, _⟩ := askedE_ok hb
  refine p_go fun hf => ?_
  refine p_buildSlice (ht := Tryz.underlying26) (hi := F.ti3.h) (h := ?_)
  refine p_callRow (vs := [autV a, .sl 3 ([frm].map iV), .nil]) (0 + 1 + 1) 20 (hb := ⟨Tryz.func43, by kernel_rfl, rfl⟩) (hvs := by simp [V.frz]) (hf := rasked_nil a [frm] ha (by simp)) (h := ?_)
  refine p_go ?_
  refine p_isC (s := 23) (b := false) (hc := by simpa using hb) (h := ?_)
  refine p_go fun hf => ?_
  refine p_call (hx := rfl) (hb := ⟨Tryz.func51, by kernel_rfl, rfl⟩) (hf := rOne10 a.sp hok.sp) (h := ?_)
  refine p_go ?_
  refine p_nilSlot (s := 14) (el := 3) 87 (h := ?_)
  refine p_loopK [1, 3, 4, 8, 13] [(0 + 1, 4), (0 + 1, 8)] (fun st => ∃ (i r n : Nat) (at_ : Int) (w : Wt) (word : List Int) (L : List V), (n = word.length) ∧ (L = word.map iV) ∧ (i ≤ l.length) ∧ (pathF a back l frm (oneW a.sp) [] = pathF a back (l.drop i) at_ w word) ∧ (isB a.sp w = true) ∧ (word.length ≤ i) ∧ st.env 14 = .row r 87 n ∧ st.env 15 = iV at_ ∧ st.env 16 = iV i ∧ st.obj (0 + 1 + 1 + 1 + 1) 13 = .cells 37 (wtL w) ∧ st.obj r 87 = .row 3 L) (fun st => l.length - (st.env 16).toN) ?_ fun e ob g1 hK hO hI => ?_
  · exact ⟨0, _, 0, frm, oneW a.sp, [], [], rfl, rfl, by omega, rfl, oneW_ok hok.sp, by simp, eV_, eV_, eV_, oB_, oB_⟩
  · obtain ⟨i, r, n, at_, w, word, L, hnl, hL, hi, hp, hW, hwl, e14, e15, e16, o13, o87⟩ := hI
    dsimp only at e14 e15 e16 o13 o87
    simp only [valsE, List.cons.injEq, and_true] at hK
    simp only [valsO, List.cons.injEq, and_true] at hO
    have hE := (⟨hK, hO, e14, e15, e16, o13, o87⟩ : _ ∧ _ ∧ _ ∧ _ ∧ _ ∧ _ ∧ _)
    refine p_go ?_
    refine p_splitC (s := 33) (ht := fun hc33 => ?_) (hf := fun hc33 => ?_)
    · have hlt : i < l.length := by simpa using hc33
      have hdr := List.drop_eq_getElem_cons hlt
      refine p_go fun hf => ?_
      refine p_idxMap (j := i) (ht := Tryz.underlying26) (hi := F.ti3.h) (hij := rfl) (hj := hlt) (h := ?_)
      refine p_go fun hf => ?_
      refine p_split (s := 41) (ht := fun hb41 => ?_) (hf := fun hb41 => ?_)
      · -- slot 41 is true
        refine p_go fun hf => ?_
        refine p_build (hi := F.ti37.h) (hpl := F.pl37.h) (h := ?_)
        refine p_go ?_
        have hnone : pathF a back l frm (oneW a.sp) [] = none := by rw [hp, hdr, pathF, if_pos (by rw [show decide (l[i] < 0) = true from hb41]; rfl)]
        refine p_nilSl (s := 9) (t := 3) (h := ?_)
        refine p_cellNil (g1 := 0 + 1) (d1 := 8) (i := 3) (el := 30) (h := ?_)
        refine p_cellNil (g1 := 0 + 1) (d1 := 8) (i := 4) (el := 90) (h := ?_)
        refine p_cellNil (g1 := 0 + 1) (d1 := 8) (i := 5) (el := 37) (h := ?_)
        refine p_r4 (hp := by rw [hnone]; rfl)
      · -- slot 41 is false
        refine p_go fun hf => ?_
        refine p_idxMap (j := i) (ht := Tryz.underlying26) (hi := F.ti3.h) (hij := rfl) (hj := hlt) (h := ?_)
        refine p_go fun hf => ?_
        refine p_split (s := 51) (ht := fun hb51 => ?_) (hf := fun hb51 => ?_)
        · -- slot 51 is true
          refine p_go fun hf => ?_
          refine p_build (hi := F.ti37.h) (hpl := F.pl37.h) (h := ?_)
          refine p_go ?_
          have hnone : pathF a back l frm (oneW a.sp) [] = none := by rw [hp, hdr, pathF, if_pos (by rw [show decide ((a.trs.length : Int) ≤ l[i]) = true from hb51, Bool.or_true])]
          refine p_nilSl (s := 9) (t := 3) (h := ?_)
          refine p_cellNil (g1 := 0 + 1) (d1 := 8) (i := 3) (el := 30) (h := ?_)
          refine p_cellNil (g1 := 0 + 1) (d1 := 8) (i := 4) (el := 90) (h := ?_)
          refine p_cellNil (g1 := 0 + 1) (d1 := 8) (i := 5) (el := 37) (h := ?_)
          refine p_r4 (hp := by rw [hnone]; rfl)
        · have hn : 0 ≤ l[i] ∧ l[i] < a.trs.length := by have h1 := hb41; have h2 := hb51; simp at h1 h2; omega
          have hlt2 : l[i].toNat < a.trs.length := by omega
          have hm := List.getElem_mem hlt2
          have hget : a.trs[l[i].toNat]? = some a.trs[l[i].toNat] := List.getElem?_eq_getElem hlt2
          refine p_go fun hf => ?_
          refine p_idxMap (j := i) (ht := Tryz.underlying26) (hi := F.ti3.h) (hij := rfl) (hj := hlt) (h := ?_)
          refine p_go fun hf => ?_
          refine p_idxMap (j := l[i].toNat) (ht := Tryz.underlying27) (hi := F.ti39.h) (hij := by omega) (hj := hlt2) (h := ?_)
          refine p_go ?_
          refine p_splitC (s := 63) (ht := fun hc63 => ?_) (hf := fun hc63 => ?_)
          · refine p_go fun hf => ?_
            refine p_build (hi := F.ti37.h) (hpl := F.pl37.h) (h := ?_)
            refine p_go ?_
            have hnone : pathF a back l frm (oneW a.sp) [] = none := by rw [hp, hdr, pathF, if_neg (by rw [show decide (l[i] < 0) = false from hb41, show decide ((a.trs.length : Int) ≤ l[i]) = false from hb51]; decide), hget]; exact if_pos (by simpa using hc63)
            refine p_nilSl (s := 9) (t := 3) (h := ?_)
            refine p_cellNil (g1 := 0 + 1) (d1 := 8) (i := 3) (el := 30) (h := ?_)
            refine p_cellNil (g1 := 0 + 1) (d1 := 8) (i := 4) (el := 90) (h := ?_)
            refine p_cellNil (g1 := 0 + 1) (d1 := 8) (i := 5) (el := 37) (h := ?_)
            refine p_r4 (hp := by rw [hnone]; rfl)
          · have hp2 : pathF a back (l.drop i) at_ w word = pathF a back (l.drop (i + 1)) a.trs[l[i].toNat].to (Ext a.sp back w a.trs[l[i].toNat].w) (if 0 ≤ a.trs[l[i].toNat].sym then word ++ [a.trs[l[i].toNat].sym] else word) := by rw [hdr, pathF, if_neg (by rw [show decide (l[i] < 0) = false from hb41, show decide ((a.trs.length : Int) ≤ l[i]) = false from hb51]; decide), hget]; exact if_neg (by simpa using hc63)
            refine p_go fun hf => ?_
            refine p_idxMap (j := i) (ht := Tryz.underlying26) (hi := F.ti3.h) (hij := rfl) (hj := hlt) (h := ?_)
            refine p_go fun hf => ?_
            refine p_idxMap (j := l[i].toNat) (ht := Tryz.underlying27) (hi := F.ti39.h) (hij := by omega) (hj := hlt2) (h := ?_)
            refine p_go fun hf => ?_
            refine p_call (hx := rfl) (hb := ⟨Tryz.func52, by kernel_rfl, rfl⟩) (hf := rext10 back hok.sp hW (hok.w _ hm)) (h := ?_)
            refine p_go ?_
            refine p_splitC (s := 82) (ht := fun hc82 => ?_) (hf := fun hc82 => ?_)
            · refine p_go fun hf => ?_
              refine p_buildSlice (ht := Tryz.underlying26) (hi := F.ti3.h) (h := ?_)
              refine p_append (k := n + 1) (ht := Tryz.underlying26) (hi := F.ti3.h) (hnl := by simp [hL, hnl]) (hy := by exact ⟨.inl oB_, rfl⟩) (hm := by simp [hL, hnl]) (hlim := by omega) (h := ?_)
              refine p_go fun hf => ?_
              refine p_add (r := ((i + 1 : Nat) : Int)) (hr := (by first | omega | (simp only [decide_eq_true_eq, decide_eq_false_iff_not, Bool.or_eq_false_iff, Bool.and_eq_true, Bool.not_eq_true', Bool.not_eq_false'] at *; omega))) (hb := (by first | omega | (simp only [decide_eq_true_eq, decide_eq_false_iff_not, Bool.or_eq_false_iff, Bool.and_eq_true, Bool.not_eq_true', Bool.not_eq_false'] at *; omega))) (h := ?_)
              refine p_go ?_
              refine p_some ?_
              subst hL
              have hs : 0 ≤ a.trs[l[i].toNat].sym := by simpa using hc82
              rw [if_pos hs] at hp2
              refine ⟨⟨(by simp (decide := true) only [valsE, evE, upd, cv, args0, argsFrom, List.length_map, ↓reduceIte, hE] <;> rfl), (by simp (decide := true) only [valsO, updO, upd, true_and, and_true, false_and, and_false, ↓reduceIte, hE] <;> rfl)⟩, ⟨i + 1, _, n + 1, a.trs[l[i].toNat].to, Ext a.sp back w a.trs[l[i].toNat].w, word ++ [a.trs[l[i].toNat].sym], word.map iV ++ [iV a.trs[l[i].toNat].sym], by simp [hnl], by simp, hlt, hp.trans hp2, Ext_ok hok.sp hW (hok.w _ hm), by simp; omega, eV_, eV_, eV_, oB_, oB_⟩, ?_⟩
              simp (decide := true) only [upd, e16, V.toN, ↓reduceIte]; omega
            · refine p_go fun hf => ?_
              refine p_add (r := ((i + 1 : Nat) : Int)) (hr := (by first | omega | (simp only [decide_eq_true_eq, decide_eq_false_iff_not, Bool.or_eq_false_iff, Bool.and_eq_true, Bool.not_eq_true', Bool.not_eq_false'] at *; omega))) (hb := (by first | omega | (simp only [decide_eq_true_eq, decide_eq_false_iff_not, Bool.or_eq_false_iff, Bool.and_eq_true, Bool.not_eq_true', Bool.not_eq_false'] at *; omega))) (h := ?_)
              refine p_go ?_
              refine p_some ?_
              subst hL
              have hs : ¬ 0 ≤ a.trs[l[i].toNat].sym := by simpa using hc82
              rw [if_neg hs] at hp2
              refine ⟨⟨(by simp (decide := true) only [valsE, evE, upd, cv, args0, argsFrom, List.length_map, ↓reduceIte, hE] <;> rfl), (by simp (decide := true) only [valsO, updO, upd, true_and, and_true, false_and, and_false, ↓reduceIte, hE] <;> rfl)⟩, ⟨i + 1, _, n, a.trs[l[i].toNat].to, Ext a.sp back w a.trs[l[i].toNat].w, word, word.map iV, hnl, rfl, hlt, hp.trans hp2, Ext_ok hok.sp hW (hok.w _ hm), by omega, eV_, eV_, eV_, oB_, oB_⟩, ?_⟩
              simp (decide := true) only [upd, e16, V.toN, ↓reduceIte]; omega
    · have hge : l.length ≤ i := by simpa using hc33
      refine p_go fun hf => ?_
      refine p_call (hx := rfl) (hb := ⟨Tryz.func53, by kernel_rfl, rfl⟩) (hf := rfinal a at_ ha.fin) (h := ?_)
      refine p_go ?_
      subst hL
      subst hnl
      have hfin : pathF a back l frm (oneW a.sp) [] = some (at_, w, word) := by rw [hp, List.drop_eq_nil_of_le hge, pathF]
      refine p_freeze (g1 := r) (d1 := 87) (h := ?_)
      refine p_toSl (s := 9) (hn := by simp) (h := ?_)
      refine p_r4 (hp := by rw [hfin]; rfl)

end Go.Proofs.YtfpljljjjgicaaaGreatDoor
/-
  WfaPaths.
-/
set_option maxHeartbeats 4000000
set_option linter.unusedSimpArgs false
set_option linter.unusedVariables false
namespace Go.Proofs.YtfpljljjjgicaaaGreatDoor
open Go.RowKit
attribute [local irreducible] Wk Tr
/-- What a path is told to be: its weight, its word, whether it ends well, and the answer. -/
def pathX (a : Aut) (back : Bool) (frm : Int) (l : List Int) : Wt × List Int × Bool × Int :=
  if askedE a [frm] [] ≠ 0 then (wt0, [], false, askedE a [frm] [])
  else match pathF a back l frm (oneW a.sp) [] with
    | none => (wt0, [], false, 5)
    | some r => (r.2.1, r.2.2, decide (r.1 ∈ a.fin), 0)
def xV (x : Wt × List Int × Bool × Int) : V := .tup [wtA x.1, .sl 3 (x.2.1.map iV), .bool x.2.2.1, iV x.2.2.2]
theorem pathX_bad {a : Aut} {back : Bool} {frm : Int} {l : List Int} (h : askedE a [frm] [] ≠ 0) : xV (pathX a back frm l) = .tup [wtA wt0, .sl 3 [], .bool false, iV (askedE a [frm] [])] := by
  rw [pathX, if_pos h]; rfl
theorem pathX_ok {a : Aut} {back : Bool} {frm : Int} {l : List Int} (h : askedE a [frm] [] = 0) : xV (pathX a back frm l) = pRes a (pathF a back l frm (oneW a.sp) []) := by
  rw [pathX, if_neg (by simp [h])]
  cases pathF a back l frm (oneW a.sp) [] <;> rfl
theorem pathC (a : Aut) (back : Bool) (frm : Int) (l : List Int) (ha : a.Sm) (hl : l.length ≤ 1000000) : FnC Tryz.prog 17 [autV a, .bool back, iV frm, .sl 3 (l.map iV)] (fun r => r = xV (pathX a back frm l)) := by
  by_cases h : askedE a [frm] [] = 0
  · rw [pathX_ok h]; exact path_ok a back frm l ha hl h
  · rw [pathX_bad h]; exact path_bad a back frm l ha hl h
theorem rpathC (a : Aut) (back : Bool) (frm : Int) (l : List Int) (ha : a.Sm) (hl : l.length ≤ 1000000) : FnC Tryz.prog 18 [autV a, .bool back, iV frm, .sl 3 (l.map iV)] (fun r => r = xV (pathX a back frm l)) := by
  by_cases h : askedE a [frm] [] = 0
  · rw [pathX_ok h]; exact rpath_ok a back frm l ha hl h
  · rw [pathX_bad h]; exact rpath_bad a back frm l ha hl h
theorem asked_word {a : Aut} {frm : Int} {u : List Int} (h : askedE a [frm] [] = 0) (hu : ∀ x ∈ u, 0 ≤ x ∧ x < a.symbols) : askedE a [frm] u = 0 := by
  obtain ⟨_, h1, _⟩ := askedE_ok h
  have hc : checkE10 a = 0 := by
    unfold askedE at h; split at h
    · exact h
    · rename_i h2; simpa using h2
  have e1 : [frm].any (badS a) = false := List.any_eq_false.2 fun x hx => by have := h1 x hx; simp [badS]; omega
  have e2 : u.any (badY a) = false := List.any_eq_false.2 fun x hx => by have := hu x hx; simp [badY]; omega
  rw [askedE, if_neg (by simp [hc]), e1, e2]; rfl
/-- What is true of a path that is no fault: its weight may be, its word is short and of the symbols; and if it ends well it lies below its word's value, and that below the total. -/
theorem pathX_law {a : Aut} {back : Bool} {frm : Int} {l : List Int} : (pathX a back frm l).2.1.length ≤ l.length ∧ (pathX a back frm l).1 = wt0 ∧ ¬ (pathX a back frm l).2.2.2 = 0 ∨ (pathX a back frm l).2.1.length ≤ l.length ∧ a.Ok ∧ isB a.sp (pathX a back frm l).1 = true ∧ askedE a [frm] [] = 0 ∧ askedE a [frm] (pathX a back frm l).2.1 = 0 ∧ ((pathX a back frm l).2.2.1 = true → leW a.sp (pathX a back frm l).1 (valueW a back frm (pathX a back frm l).2.1)) := by
  by_cases h : askedE a [frm] [] = 0
  · obtain ⟨hok, hfr, _⟩ := askedE_ok h
    rcases he : pathF a back l frm (oneW a.sp) [] with _ | r
    · left; rw [pathX, if_neg (by simp [h]), he]; exact ⟨Nat.zero_le _, rfl, by show ¬ (5 : Int) = 0; decide⟩
    · right
      have e : pathX a back frm l = (r.2.1, r.2.2, decide (r.1 ∈ a.fin), 0) := by rw [pathX, if_neg (by simp [h]), he]
      obtain ⟨hr, u, hu, hus, hul, hle⟩ := path_word hok l frm _ _ r (hfr frm (by simp)) (oneW_ok hok.sp) he
      rw [List.nil_append] at hu
      rw [e]
      have hask : askedE a [frm] u = 0 := asked_word h hus
      refine ⟨by simp only [hu]; exact hul, hok, path_B hok l frm _ _ r (oneW_ok hok.sp) he, h, by simp only [hu]; exact hask, fun hf => ?_⟩
      have hv := vals_at (valV_vals (back := back) hok u) (hfr frm (by simp))
      have := hle (of_decide_eq_true hf)
      rw [Ext_one hok.sp hv] at this
      simp only [hu]
      rw [valueW, if_pos hask]; exact this
  · left; rw [pathX, if_pos h]; exact ⟨Nat.zero_le _, rfl, h⟩
theorem path_len (a : Aut) (back : Bool) (frm : Int) (l : List Int) : (pathX a back frm l).2.1.length ≤ l.length := by
  rcases pathX_law (a := a) (back := back) (frm := frm) (l := l) with ⟨h, _⟩ | ⟨h, _⟩ <;> exact h
theorem rsame_path (a : Aut) (back : Bool) (frm : Int) (l : List Int) : FnC Tryz.prog 16 [wtA (pathX a back frm l).1, wtA (pathX a back frm l).1] (fun r => r = .bool true) := by
  rcases pathX_law (a := a) (back := back) (frm := frm) (l := l) with ⟨_, h, _⟩ | ⟨_, hok, h, _⟩
  · rw [h]; exact rsame_0
  · exact rsame_self hok.sp h
theorem value_under {a : Aut} {back : Bool} {frm : Int} {u : List Int} (h : askedE a [frm] [] = 0) (hu : askedE a [frm] u = 0) : leW a.sp (valueW a back frm u) (totalW a back frm) := by
  obtain ⟨hok, hfr, _⟩ := askedE_ok h
  have h0 := hfr frm (by simp)
  have hl := (valV_vals (back := back) hok u).len
  rw [valueW, if_pos hu, totalW, if_pos h]
  exact (value_total hok u).at_ _ (by omega)
theorem total_B {a : Aut} {back : Bool} {frm : Int} (h : askedE a [frm] [] = 0) : isB a.sp (totalW a back frm) = true := by
  obtain ⟨hok, hfr, _⟩ := askedE_ok h
  rw [totalW, if_pos h]; exact vals_at (growV_is hok (ends_vals hok)).2 (hfr frm (by simp))
theorem numbers_self (l : List Int) (h : l.length ≤ 17592186044416) : FnC Tryz.prog 19 [.sl 3 (l.map iV), .sl 3 (l.map iV)] (fun r => r = .bool true) := by
  have := numbersC l l h
  rwa [decide_eq_true rfl] at this

theorem wfaPaths (a : Aut) (back : Bool) (frm : Int) (l : List Int) (ha : a.Sm) : FnC Tryz.prog 5 [autV a, .bool back, iV frm, .sl 3 (l.map iV)] (fun r => r = .bool true) := by
  refine FnC.of (fn := Tryz.f5) ⟨Tryz.func5, by kernel_rfl, rfl⟩ Tryz.ntmps5 (by simp) fun w0 S0 => ?_
  refine p_go fun hf => ?_
  refine p_call (hx := rfl) (hb := ⟨Tryz.func8, by kernel_rfl, rfl⟩) (hf := awakeC) (h := ?_)
  refine p_go fun hf => ?_
  refine p_call (hx := rfl) (hb := ⟨Tryz.func9, by kernel_rfl, rfl⟩) (hf := smallC a l) (h := ?_)
  refine p_go ?_
  refine p_splitC (s := 30) (ht := fun hc30 => ?_) (hf := fun hc30 => ?_)
  · refine p_go ?_
    refine p_ret1 (hp := by rfl)
  · have hsm : a.trs.length ≤ 300 ∧ l.length ≤ 40 := by simp at hc30; omega
    have hln := path_len a back frm l
    refine p_go fun hf => ?_
    refine p_call (hx := rfl) (hb := ⟨Tryz.func17, by kernel_rfl, rfl⟩) (hf := pathC a back frm l ha (by omega)) (h := ?_)
    refine p_go fun hf => ?_
    refine p_call (hx := rfl) (hb := ⟨Tryz.func18, by kernel_rfl, rfl⟩) (hf := rpathC a back frm l ha (by omega)) (h := ?_)
    refine p_go fun hf => ?_
    refine p_call (hx := rfl) (hb := ⟨Tryz.func16, by kernel_rfl, rfl⟩) (hf := rsame_path a back frm l) (h := ?_)
    refine p_go fun hf => ?_
    refine p_call (hx := rfl) (hb := ⟨Tryz.func19, by kernel_rfl, rfl⟩) (hf := numbers_self (pathX a back frm l).2.1 (by omega)) (h := ?_)
    refine p_go fun hf => ?_
    refine p_neB (ht := Tryz.underlying4) (h := ?_)
    refine p_go ?_
    refine p_splitC (s := 70) (ht := fun hc70 => ?_) (hf := fun hc70 => ?_)
    · refine p_go ?_
      refine p_ret1 (hp := by simp at hc70)
    · refine p_go ?_
      refine p_splitC (s := 76) (ht := fun hc76 => ?_) (hf := fun hc76 => ?_)
      · refine p_go ?_
        refine p_ret1 (hp := by rfl)
      · obtain ⟨hx, hy⟩ : (pathX a back frm l).2.2.2 = 0 ∧ (pathX a back frm l).2.2.1 = true := by simpa using hc76
        obtain ⟨_, hok, hB, h0, hk, hle⟩ : _ ∧ a.Ok ∧ isB a.sp (pathX a back frm l).1 = true ∧ askedE a [frm] [] = 0 ∧ askedE a [frm] (pathX a back frm l).2.1 = 0 ∧ ((pathX a back frm l).2.2.1 = true → leW a.sp (pathX a back frm l).1 (valueW a back frm (pathX a back frm l).2.1)) := (pathX_law (a := a) (back := back) (frm := frm) (l := l)).resolve_left (fun h => h.2.2 hx)
        refine p_go fun hf => ?_
        refine p_call (hx := rfl) (hb := ⟨Tryz.func10, by kernel_rfl, rfl⟩) (hf := valueC a back frm (pathX a back frm l).2.1 ha (by omega)) (h := ?_)
        refine p_go fun hf => ?_
        refine p_call (hx := rfl) (hb := ⟨Tryz.func14, by kernel_rfl, rfl⟩) (hf := totalC a back frm ha) (h := ?_)
        refine p_go fun hf => ?_
        refine p_call (hx := rfl) (hb := ⟨Tryz.func12, by kernel_rfl, rfl⟩) (hf := rbelow a.sp (pathX a back frm l).1 (valueW a back frm (pathX a back frm l).2.1) hok.sp hB (value_B hk)) (h := ?_)
        refine p_go fun hf => ?_
        refine p_call (hx := rfl) (hb := ⟨Tryz.func12, by kernel_rfl, rfl⟩) (hf := rbelow a.sp (valueW a back frm (pathX a back frm l).2.1) (totalW a back frm) hok.sp (value_B hk) (total_B h0)) (h := ?_)
        refine p_go ?_
        have e1 := (sameW_iff hok.sp (eitherW_ok hok.sp hB (value_B (back := back) hk)) (value_B (back := back) hk)).2 (hle hy)
        have e2 := (sameW_iff hok.sp (eitherW_ok hok.sp (value_B (back := back) hk) (total_B (back := back) h0)) (total_B (back := back) h0)).2 (value_under h0 hk)
        refine p_ret1 (hp := by simp only [hk, h0, e1, e2]; rfl)

end Go.Proofs.YtfpljljjjgicaaaGreatDoor
