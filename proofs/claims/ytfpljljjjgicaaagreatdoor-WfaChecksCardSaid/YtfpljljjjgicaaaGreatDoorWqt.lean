import Derived.Test.YtfpljljjjgicaaaGreatDoorWp
import Derived.Test.YtfpljljjjgicaaaGreatDoorZ35
/-
  wfa.Total.
-/
set_option maxHeartbeats 4000000
set_option linter.unusedSimpArgs false
set_option linter.unusedVariables false
namespace Go.Proofs.YtfpljljjjgicaaaGreatDoor
open Go.RowKit
attribute [local irreducible] Wk Tr
theorem ends_vals {a : Aut} (ha : a.Ok) : Vals a (endsW a) := by
  have h0 : Vals a (List.replicate a.states.toNat (zeroW a.sp)) := ⟨by simp, fun w hw => by rw [(List.mem_replicate.1 hw).2]; exact zeroW_ok ha.sp⟩
  have : ∀ (l : List Int) (L : List Wt), Vals a L → Vals a (l.foldl (fun l s => l.set s.toNat (oneW a.sp)) L) := by
    intro l
    induction l with
    | nil => exact fun L h => h
    | cons x l ih => exact fun L h => ih _ (h.set (oneW_ok ha.sp) _)
  exact this _ _ h0
theorem askedE_ok {a : Aut} {frm w : List Int} (h : askedE a frm w = 0) : a.Ok ∧ (∀ x ∈ frm, 0 ≤ x ∧ x < a.states) ∧ ∀ x ∈ w, 0 ≤ x ∧ x < a.symbols := by
  unfold askedE at h
  split at h
  · contradiction
  · rename_i h1
    split at h
    · cases h
    · rename_i h2
      split at h
      · cases h
      · rename_i h3
        have h2' := List.any_eq_false.1 (Bool.not_eq_true _ ▸ h2)
        have h3' := List.any_eq_false.1 (Bool.not_eq_true _ ▸ h3)
        exact ⟨checkE10_ok (by simpa using h1), fun x hx => by have := h2' x hx; simp [badS] at this; omega, fun x hx => by have := h3' x hx; simp [badY] at this; omega⟩
theorem silentC (t : Trn) : FnC Tryz.prog 33 [trV t] (fun r => r = .bool (decide (t.sym < 0))) := by
  refine FnC.of (fn := Tryz.f33) ⟨Tryz.func33, by kernel_rfl, rfl⟩ Tryz.ntmps33 (by simp) fun w0 S0 => ?_
  refine p_go ?_
  refine p_ret1 (hp := by rfl)
end Go.Proofs.YtfpljljjjgicaaaGreatDoor
/-
  Plain laws: a weight combined with itself.
-/
set_option maxHeartbeats 4000000
set_option linter.unusedSimpArgs false
set_option linter.unusedVariables false
namespace Go.Proofs.YtfpljljjjgicaaaGreatDoor
open Go.RowKit
attribute [local irreducible] Wk Tr
theorem comb_self {n : Int} {f : Fct} (h : checkF n f = 0) : combF n f f = f := by
  obtain ⟨h1, h2, h3, h4, h5, _⟩ := checkF_ok h
  have e1 : f.gen ||| f.gen = f.gen := BitVec.eq_of_getLsbD_eq fun i hi => by simp
  have e2 : ((List.range n.toNat).map fun i => f.rows.getD i 0 ||| f.rows.getD i 0) = f.rows := by
    have : n.toNat = f.rows.length := by omega
    rw [this]
    refine Eq.trans ?_ (range_getD (fun r => r) 0 f.rows |>.trans (List.map_id' _))
    exact List.map_congr_left fun i _ => BitVec.eq_of_getLsbD_eq fun i hi => by simp
  rw [combF, e1, e2]; exact h5
theorem both_self {n : Int} {c : Cel} (h : rightC n c = true) : bothC c c = c := by
  obtain ⟨h1, h2⟩ := right_is.1 h
  have e1 : c.frm ||| c.frm = c.frm := BitVec.eq_of_getLsbD_eq fun i hi => by simp
  by_cases hk : c.kind = 0
  · rw [bothC_none hk, if_neg (by omega), e1]
  · rw [bothC_same hk (by simp), e1]
    split
    · rename_i h3
      rcases h2 with h2 | h2 | h2
      · omega
      · omega
      · exact h2.symm
    · rfl
theorem eitherL_self {s : Sp} {a : Wt} (hs : leafOk s = true) (ha : isL s a = true) : eitherL s a a = a := by
  rcases isL_cases hs ha with h | ⟨hz, ⟨h, k⟩ | ⟨h, k, k1, k2⟩ | ⟨h, k, k1⟩ | ⟨h, k, k1⟩⟩
  · rw [h, either_Z]
  · have := (leafOk_dim hs)
    rw [eitherL_0 hz hz (by omega) (by omega) (by omega), k]
  · obtain ⟨m1, m2, m3⟩ := cost_ok k2 k1
    rw [eitherL_2 hz hz h, if_pos (checksE_of m1 (by simp; omega)), least_two m2 m2, show min a.cost a.cost = a.cost by omega]
    exact k.symm
  · rw [eitherL_3 hz hz h, if_pos (checkedF_of k1 k1), comb_self k1]; exact k.symm
  · have e : List.zipWith bothC a.cells a.cells = a.cells := by
      refine List.ext_getElem (by simp) fun i h1 h2 => ?_
      rw [List.getElem_zipWith]
      exact both_self ((cellsE_ok k1).2.2.1 _ (List.getElem_mem h2))
    rw [eitherL_4 hz hz h, if_pos (twoE_of k1 k1), e]; exact k.symm
theorem either_self {s : Sp} {a : Wt} (hs : spOk s = true) (ha : isB s a = true) : eitherW s a a = a := by
  rcases spOk_cases hs with ⟨hl, h5⟩ | ⟨p, q, rfl, hp, hq⟩
  · rw [isB_leaf h5] at ha; rw [eitherW, if_neg h5, eitherL_self hl ha]
  · obtain ⟨a0, a1, rfl, h1, h2⟩ := isB_pair ha
    show wtP (eitherL p a0 a0) (eitherL q a1 a1) = _
    rw [eitherL_self hp h1, eitherL_self hq h2]
end Go.Proofs.YtfpljljjjgicaaaGreatDoor
/-
  Growing ends: a number that falls.
-/
set_option maxHeartbeats 4000000
set_option linter.unusedSimpArgs false
set_option linter.unusedVariables false
namespace Go.Proofs.YtfpljljjjgicaaaGreatDoor
open Go.RowKit
attribute [local irreducible] Wk Tr
theorem or_le (x y : BitVec 64) : x.toNat ≤ (x ||| y).toNat := by
  rw [BitVec.toNat_or]; exact Nat.left_le_or
theorem or_lt {x y : BitVec 64} (h : x ||| y ≠ x) : x.toNat < (x ||| y).toNat :=
  Nat.lt_of_le_of_ne (or_le x y) fun e => h (BitVec.eq_of_toNat_eq e.symm)
def down (x : BitVec 64) : Nat := 2 ^ 64 - x.toNat
theorem down_le (x y : BitVec 64) : down (x ||| y) ≤ down x := by have := or_le x y; unfold down; omega
theorem down_lt {x y : BitVec 64} (h : x ||| y ≠ x) : down (x ||| y) < down x := by have := or_lt h; have := (x ||| y).isLt; unfold down; omega
theorem down_max (x : BitVec 64) : down x ≤ 2 ^ 64 := by unfold down; omega
def cRank (c : Cel) : Nat := if c.kind = 2 then 0 else (if c.kind = 1 then 2 ^ 66 else 2 ^ 67) + down c.frm
theorem cRank_max (c : Cel) : cRank c ≤ 2 ^ 68 := by have := down_max c.frm; unfold cRank; split <;> (try split) <;> omega
def sumN : List Nat → Nat
  | [] => 0
  | n :: l => n + sumN l
def rankL (w : Wt) : Nat := if w.zero = true then 2 ^ 100 else w.cost.toNat + down w.gen + sumN (w.rows.map fun r => down (w.gen ||| r)) + sumN (w.cells.map cRank)
theorem sumN_max {m : Nat} : ∀ {l : List Nat}, (∀ n ∈ l, n ≤ m) → sumN l ≤ l.length * m
  | [], _ => by simp [sumN]
  | n :: l, h => by
    have h1 := h n (by simp)
    have h2 := sumN_max (m := m) (l := l) fun k hk => h k (by simp [hk])
    rw [sumN, List.length_cons, Nat.succ_mul]; omega
theorem sumN_le : ∀ {l l' : List Nat}, l.length = l'.length → (∀ (i : Nat) (h : i < l.length) (h' : i < l'.length), l[i] ≤ l'[i]) → sumN l ≤ sumN l'
  | [], [], _, _ => Nat.le_refl _
  | a :: l, b :: l', hl, h => by
    have h1 := h 0 (by simp) (by simp)
    have h2 := sumN_le (l := l) (l' := l') (by simpa using hl) fun i hi hi' => by have := h (i + 1) (by simpa using hi) (by simpa using hi'); simpa using this
    simp only [List.getElem_cons_zero] at h1
    rw [sumN, sumN]; omega
theorem sumN_lt : ∀ {l l' : List Nat}, l.length = l'.length → (∀ (i : Nat) (h : i < l.length) (h' : i < l'.length), l[i] ≤ l'[i]) → (∃ (i : Nat) (h : i < l.length) (h' : i < l'.length), l[i] < l'[i]) → sumN l < sumN l'
  | [], [], _, _, ⟨i, h, _⟩ => by simp at h
  | a :: l, b :: l', hl, h, ⟨i, hi, hi', hlt⟩ => by
    have h1 := h 0 (by simp) (by simp)
    simp only [List.getElem_cons_zero] at h1
    have hr : ∀ (i : Nat) (h : i < l.length) (h' : i < l'.length), l[i] ≤ l'[i] := fun i hi hi' => by have := h (i + 1) (by simpa using hi) (by simpa using hi'); simpa using this
    have h2 := sumN_le (l := l) (l' := l') (by simpa using hl) hr
    rw [sumN, sumN]
    cases i with
    | zero => simp only [List.getElem_cons_zero] at hlt; omega
    | succ i =>
      have h3 := sumN_lt (l := l) (l' := l') (by simpa using hl) hr ⟨i, by simpa using hi, by simpa using hi', by simpa using hlt⟩
      omega
theorem or_canon (g r : BitVec 64) : g ||| (r &&& ~~~g) = g ||| r := by
  refine BitVec.eq_of_getLsbD_eq fun i hi => ?_
  simp only [BitVec.getLsbD_or, BitVec.getLsbD_and, BitVec.getLsbD_not]
  cases g.getLsbD i <;> cases r.getLsbD i <;> simp [hi]
theorem canon_or {g r : BitVec 64} (h : r &&& ~~~g = r) : (g ||| r) &&& ~~~g = r := by
  refine Eq.trans (BitVec.eq_of_getLsbD_eq fun i hi => ?_) h
  simp only [BitVec.getLsbD_or, BitVec.getLsbD_and, BitVec.getLsbD_not]
  cases g.getLsbD i <;> cases r.getLsbD i <;> simp [hi]
def rowsR (f : Fct) : List Nat := f.rows.map fun r => down (f.gen ||| r)
theorem comb_rows {n : Int} {a b : Fct} (ha : checkF n a = 0) (hb : checkF n b = 0) : (combF n a b).rows.length = a.rows.length ∧ ∀ (i : Nat) (h : i < a.rows.length) (h' : i < b.rows.length) (h2 : i < (combF n a b).rows.length), (combF n a b).rows[i] = (a.rows[i] ||| b.rows[i]) &&& ~~~(a.gen ||| b.gen) := by
  obtain ⟨h1, h2, _⟩ := checkF_ok ha
  have hl : (combF n a b).rows.length = a.rows.length := by simp [combF, canonF]; omega
  refine ⟨hl, fun i h h' h2' => ?_⟩
  simp only [combF, canonF, List.map_map, List.getElem_map, List.getElem_range, Function.comp]
  rw [getD_at h, getD_at h']
theorem comb_rank {n : Int} {a b : Fct} (ha : checkF n a = 0) (hb : checkF n b = 0) (h : combF n a b ≠ a) : down (combF n a b).gen + sumN (rowsR (combF n a b)) < down a.gen + sumN (rowsR a) := by
  obtain ⟨hl, hr⟩ := comb_rows ha hb
  obtain ⟨h1, h2, _, _, h5, _⟩ := checkF_ok ha
  obtain ⟨_, k2, _⟩ := checkF_ok hb
  have hlb : a.rows.length = b.rows.length := by omega
  have hg : (combF n a b).gen = a.gen ||| b.gen := rfl
  have hcan : ∀ (i : Nat) (hi : i < a.rows.length), a.rows[i] &&& ~~~a.gen = a.rows[i] := fun i hi => by
    have := congrArg Fct.rows h5
    have := List.getElem_of_eq this (i := i) (by simpa [canonF] using hi)
    simpa [canonF] using this
  have hor : ∀ (i : Nat) (hi : i < a.rows.length), (combF n a b).gen ||| (combF n a b).rows[i]'(by omega) = (a.gen ||| a.rows[i]) ||| (b.gen ||| b.rows[i]'(by omega)) := fun i hi => by
    rw [hr i hi (by omega) (by omega), hg, or_canon]
    refine BitVec.eq_of_getLsbD_eq fun j hj => ?_
    simp only [BitVec.getLsbD_or]
    cases a.gen.getLsbD j <;> cases b.gen.getLsbD j <;> simp
  have hle : ∀ (i : Nat) (h : i < (rowsR (combF n a b)).length) (h' : i < (rowsR a).length), (rowsR (combF n a b))[i] ≤ (rowsR a)[i] := fun i hi hi' => by
    simp only [rowsR, List.getElem_map]
    rw [hor i (by simpa [rowsR] using hi')]
    exact down_le _ _
  have hsl : (rowsR (combF n a b)).length = (rowsR a).length := by simp [rowsR, hl]
  by_cases hge : a.gen ||| b.gen = a.gen
  · by_cases hall : ∀ (i : Nat) (hi : i < a.rows.length), (a.gen ||| a.rows[i]) ||| (b.gen ||| b.rows[i]'(by omega)) = a.gen ||| a.rows[i]
    · refine absurd ?_ h
      have hrows : (combF n a b).rows = a.rows := List.ext_getElem hl fun i hi hi' => by
        have e1 := hor i hi'
        rw [hall i hi', hg, hge] at e1
        have e2 : (combF n a b).rows[i] &&& ~~~a.gen = (combF n a b).rows[i] := by
          rw [hr i hi' (by omega) hi, hge]
          refine BitVec.eq_of_getLsbD_eq fun j hj => ?_
          simp only [BitVec.getLsbD_and, BitVec.getLsbD_not]
          cases a.gen.getLsbD j <;> simp [hj]
        have := congrArg (fun x : BitVec 64 => x &&& ~~~a.gen) e1
        simp only [canon_or e2, canon_or (hcan i hi')] at this
        exact this
      have hgen : (combF n a b).gen = a.gen := hge
      rcases hc : combF n a b with ⟨g, r⟩
      rw [hc] at hrows hgen
      cases a
      simp only at hrows hgen
      rw [hrows, hgen]
    · obtain ⟨i, hi⟩ := Classical.not_forall.1 hall
      obtain ⟨hi1, hi2⟩ := Classical.not_forall.1 hi
      have h3 := sumN_lt hsl hle ⟨i, by simp [rowsR, hl]; exact hi1, by simp [rowsR]; exact hi1, by
        simp only [rowsR, List.getElem_map]
        rw [hor i hi1]
        exact down_lt hi2⟩
      rw [hg, hge]; omega
  · have h3 := sumN_le hsl hle
    have h4 := down_lt hge
    rw [hg]; omega
theorem cRank_pos {c : Cel} (h : ¬ c.kind = 2) : 0 < cRank c := by unfold cRank; rw [if_neg h]; split <;> omega
theorem both_rank {n : Int} {a b : Cel} (ha : rightC n a = true) (hb : rightC n b = true) (h : bothC a b ≠ a) : cRank (bothC a b) < cRank a := by
  obtain ⟨_, ha2⟩ := right_is.1 ha
  obtain ⟨_, hb2⟩ := right_is.1 hb
  have hz : cRank ⟨0, 2, 0⟩ = 0 := rfl
  by_cases hk : a.kind = 0
  · have hak : a.k = 0 := by
      rcases ha2 with h1 | h1 | h1
      · omega
      · exact h1.2
      · rw [h1]
    rw [bothC_none hk] at h ⊢
    split
    · rw [hz]; exact cRank_pos (by omega)
    · rename_i hb3
      rw [if_neg hb3] at h
      rcases hb2 with h1 | h1 | h1
      · have := down_max (a.frm ||| b.frm)
        have hA : cRank a = 2 ^ 67 + down a.frm := by unfold cRank; rw [if_neg (by omega), if_neg (by omega)]
        have hB : cRank ⟨a.frm ||| b.frm, b.kind, b.k⟩ = 2 ^ 66 + down (a.frm ||| b.frm) := by unfold cRank; rw [if_neg hb3, if_pos h1]
        rw [hA, hB]; omega
      · have hf : a.frm ||| b.frm ≠ a.frm := fun e => h (by
          rcases a with ⟨f, k, kk⟩
          simp only at hk hak e
          simp only [hk, hak, h1.1, h1.2, e])
        have := down_lt hf
        have hA : cRank a = 2 ^ 67 + down a.frm := by unfold cRank; rw [if_neg (by omega), if_neg (by omega)]
        have hB : cRank ⟨a.frm ||| b.frm, b.kind, b.k⟩ = 2 ^ 67 + down (a.frm ||| b.frm) := by unfold cRank; rw [if_neg hb3, if_neg (by simp only; omega)]
        rw [hA, hB]; omega
      · rw [h1] at hb3; exact absurd rfl hb3
  · by_cases h2 : a.kind = 2
    · have ha3 : a = ⟨0, 2, 0⟩ := by
        rcases ha2 with h1 | h1 | h1
        · omega
        · omega
        · exact h1
      refine absurd ?_ h
      by_cases h3 : b.kind ≠ 0 ∧ (a.kind ≠ b.kind ∨ a.k ≠ b.k)
      · rw [bothC_many hk h3, ha3]
      · rw [bothC_same hk h3, if_pos h2, ha3]
    · by_cases h3 : b.kind ≠ 0 ∧ (a.kind ≠ b.kind ∨ a.k ≠ b.k)
      · rw [bothC_many hk h3, hz]; exact cRank_pos h2
      · rw [bothC_same hk h3, if_neg h2] at h ⊢
        have hf : a.frm ||| b.frm ≠ a.frm := fun e => h (by
          rcases a with ⟨f, k, kk⟩
          simp only at e
          simp only [e])
        have := down_lt hf
        unfold cRank
        simp only [if_neg h2]
        omega
theorem rank_max {s : Sp} {w : Wt} (hs : leafOk s = true) (h : isL s w = true) (hz : w.zero = false) : rankL w < 2 ^ 100 := by
  obtain ⟨h1, h2, _⟩ := isL_len hs h
  have hc : w.cost.toNat ≤ 1048576 := by
    rcases isL_cases hs h with k | ⟨_, ⟨_, k⟩ | ⟨_, k, k1, k2⟩ | ⟨_, k, _⟩ | ⟨_, k, _⟩⟩
    · rw [k] at hz; cases hz
    · rw [k]; decide
    · have := cost_ok k2 k1; omega
    · rw [k]; exact Nat.zero_le _
    · rw [k]; exact Nat.zero_le _
  have h3 := down_max w.gen
  have h4 : sumN (w.rows.map fun r => down (w.gen ||| r)) ≤ w.rows.length * 2 ^ 64 := by
    have := sumN_max (m := 2 ^ 64) (l := w.rows.map fun r => down (w.gen ||| r)) fun n hn => by
      obtain ⟨r, _, rfl⟩ := List.mem_map.1 hn; exact down_max _
    simpa using this
  have h5 : sumN (w.cells.map cRank) ≤ w.cells.length * 2 ^ 68 := by
    have := sumN_max (m := 2 ^ 68) (l := w.cells.map cRank) fun n hn => by
      obtain ⟨r, _, rfl⟩ := List.mem_map.1 hn; exact cRank_max _
    simpa using this
  rw [rankL, if_neg (by rw [hz]; decide)]
  omega
theorem zip_rank {n : Int} {a b : List Cel} (ha : cellsE n a = 0) (hb : cellsE n b = 0) (h : List.zipWith bothC a b ≠ a) : sumN ((List.zipWith bothC a b).map cRank) < sumN (a.map cRank) := by
  obtain ⟨_, h2, h3, _⟩ := cellsE_ok ha
  obtain ⟨_, k2, k3, _⟩ := cellsE_ok hb
  have hl : a.length = b.length := by omega
  have hlen : (List.zipWith bothC a b).length = a.length := by simp; omega
  have hle : ∀ (i : Nat) (h : i < ((List.zipWith bothC a b).map cRank).length) (h' : i < (a.map cRank).length), ((List.zipWith bothC a b).map cRank)[i] ≤ (a.map cRank)[i] := fun i hi hi' => by
    simp only [List.getElem_map, List.getElem_zipWith]
    simp only [List.length_map] at hi'
    by_cases e : bothC a[i] (b[i]'(by omega)) = a[i]
    · rw [e]; exact Nat.le_refl _
    · exact Nat.le_of_lt (both_rank (h3 _ (List.getElem_mem _)) (k3 _ (List.getElem_mem _)) e)
  by_cases hall : ∀ (i : Nat) (hi : i < a.length), bothC a[i] (b[i]'(by omega)) = a[i]
  · refine absurd (List.ext_getElem hlen fun i hi hi' => ?_) h
    rw [List.getElem_zipWith]; exact hall i hi'
  · obtain ⟨i, hi⟩ := Classical.not_forall.1 hall
    obtain ⟨hi1, hi2⟩ := Classical.not_forall.1 hi
    refine sumN_lt (by rw [List.length_map, List.length_map, hlen]) hle ⟨i, by rw [List.length_map, hlen]; exact hi1, by rw [List.length_map]; exact hi1, ?_⟩
    simp only [List.getElem_map, List.getElem_zipWith]
    exact both_rank (h3 _ (List.getElem_mem _)) (k3 _ (List.getElem_mem _)) hi2
theorem eitherL_rank {s : Sp} {a b : Wt} (hs : leafOk s = true) (ha : isL s a = true) (hb : isL s b = true) (h : eitherL s a b ≠ a) : rankL (eitherL s a b) < rankL a := by
  cases hza : a.zero with
  | true =>
    have hA : rankL a = 2 ^ 100 := by rw [rankL, if_pos hza]
    have hE : eitherL s a b = b := by rw [eitherL, if_pos hza]
    rw [hE] at h ⊢
    have hzb : b.zero = false := by
      cases hzb : b.zero with
      | false => rfl
      | true =>
        have e1 : a = wtZ := by rcases isL_cases hs ha with k | ⟨k, _⟩; exact k; rw [hza] at k; cases k
        have e2 : b = wtZ := by rcases isL_cases hs hb with k | ⟨k, _⟩; exact k; rw [hzb] at k; cases k
        exact absurd (e2.trans e1.symm) h
    rw [hA]; exact rank_max hs hb hzb
  | false =>
    cases hzb : b.zero with
    | true => exact absurd (by rw [eitherL, if_neg (by rw [hza]; decide), if_pos hzb]) h
    | false =>
      have hna : ¬ a = wtZ := fun h => by rw [h] at hza; cases hza
      have hnb : ¬ b = wtZ := fun h => by rw [h] at hzb; cases hzb
      have hA : rankL a = a.cost.toNat + down a.gen + sumN (a.rows.map fun r => down (a.gen ||| r)) + sumN (a.cells.map cRank) := by rw [rankL, if_neg (by rw [hza]; decide)]
      rcases (isL_cases hs ha).resolve_left hna with ⟨_, ⟨e, e1⟩ | ⟨e, e1, e2, e3⟩ | ⟨e, e1, e2⟩ | ⟨e, e1, e2⟩⟩ <;>
        rcases (isL_cases hs hb).resolve_left hnb with ⟨_, ⟨k, k1⟩ | ⟨k, k1, k2, k3⟩ | ⟨k, k1, k2⟩ | ⟨k, k1, k2⟩⟩ <;> (try omega)
      · exact absurd (by rw [eitherL_0 hza hzb (by omega) (by omega) (by omega), e1]) h
      · obtain ⟨m1, m2, m3⟩ := cost_ok e3 e2
        obtain ⟨_, n2, n3⟩ := cost_ok k3 k2
        have hE : eitherL s a b = wtC (min a.cost b.cost) := by rw [eitherL_2 hza hzb e, if_pos (checksE_of m1 (by simp; omega)), least_two m2 n2]
        rw [hE] at h ⊢
        have hlt : min a.cost b.cost < a.cost := by
          rcases Int.lt_or_le b.cost a.cost with h1 | h1
          · omega
          · exact absurd (by rw [show min a.cost b.cost = a.cost by omega]; exact e1.symm) h
        have hR : ∀ c : Int, rankL (wtC c) = c.toNat + down 0 + 0 + 0 := fun c => rfl
        rw [congrArg rankL e1, hR, hR]; omega
      · have hE : eitherL s a b = wtF (combF s.dim (fct a) (fct b)) := by rw [eitherL_3 hza hzb e, if_pos (checkedF_of e2 k2)]
        rw [hE] at h ⊢
        have hne : combF s.dim (fct a) (fct b) ≠ fct a := fun q => h (by rw [q]; exact e1.symm)
        have := comb_rank e2 k2 hne
        have hR : ∀ f : Fct, rankL (wtF f) = 0 + down f.gen + sumN (rowsR f) + 0 := fun f => rfl
        rw [congrArg rankL e1, hR, hR]; omega
      · have hE : eitherL s a b = wtK (List.zipWith bothC a.cells b.cells) := by rw [eitherL_4 hza hzb e, if_pos (twoE_of e2 k2)]
        rw [hE] at h ⊢
        have hne : List.zipWith bothC a.cells b.cells ≠ a.cells := fun q => h (by rw [q]; exact e1.symm)
        have := zip_rank e2 k2 hne
        have hR : ∀ l : List Cel, rankL (wtK l) = 0 + down 0 + 0 + sumN (l.map cRank) := fun l => rfl
        rw [congrArg rankL e1, hR, hR]; omega
end Go.Proofs.YtfpljljjjgicaaaGreatDoor
/-
  Growing ends: the rank of any weight, of a list.
-/
set_option maxHeartbeats 4000000
set_option linter.unusedSimpArgs false
set_option linter.unusedVariables false
namespace Go.Proofs.YtfpljljjjgicaaaGreatDoor
open Go.RowKit
attribute [local irreducible] Wk Tr
def rankW (s : Sp) (w : Wt) : Nat := if s.tag = 5 then rankL (w.part 0) + rankL (w.part 1) else rankL w
theorem eitherL_le {s : Sp} {a b : Wt} (hs : leafOk s = true) (ha : isL s a = true) (hb : isL s b = true) : rankL (eitherL s a b) ≤ rankL a := by
  by_cases h : eitherL s a b = a
  · rw [h]; exact Nat.le_refl _
  · exact Nat.le_of_lt (eitherL_rank hs ha hb h)
theorem eitherW_rank {s : Sp} {a b : Wt} (hs : spOk s = true) (ha : isB s a = true) (hb : isB s b = true) (h : eitherW s a b ≠ a) : rankW s (eitherW s a b) < rankW s a := by
  rcases spOk_cases hs with ⟨hl, h5⟩ | ⟨p, q, rfl, hp, hq⟩
  · rw [isB_leaf h5] at ha hb
    rw [eitherW, if_neg h5] at h ⊢
    rw [rankW, rankW, if_neg h5, if_neg h5]
    exact eitherL_rank hl ha hb h
  · obtain ⟨a0, a1, rfl, h1, h2⟩ := isB_pair ha
    obtain ⟨b0, b1, rfl, k1, k2⟩ := isB_pair hb
    have h : wtP (eitherL p a0 b0) (eitherL q a1 b1) ≠ wtP a0 a1 := h
    show rankL (eitherL p a0 b0) + rankL (eitherL q a1 b1) < rankL a0 + rankL a1
    have l0 := eitherL_le hp h1 k1
    have l1 := eitherL_le hq h2 k2
    by_cases e : eitherL p a0 b0 = a0
    · by_cases e' : eitherL q a1 b1 = a1
      · exact absurd (by rw [e, e']) h
      · have := eitherL_rank hq h2 k2 e'; omega
    · have := eitherL_rank hp h1 k1 e; omega
theorem sum_set {α : Type} (f : α → Nat) : ∀ (l : List α) (i : Nat) (w : α) (h : i < l.length), f w < f l[i] → sumN ((l.set i w).map f) < sumN (l.map f)
  | x :: l, 0, w, _, hf => by simp only [List.set_cons_zero, List.map_cons, sumN, List.getElem_cons_zero] at hf ⊢; omega
  | x :: l, i + 1, w, h, hf => by
    have := sum_set f l i w (by simpa using h) (by simpa using hf)
    simp only [List.set_cons_succ, List.map_cons, sumN]; omega
def rankV (a : Aut) (l : List Wt) : Nat := sumN (l.map (rankW a.sp))
theorem round_rank {a : Aut} {back : Bool} {cnt : Trn → Bool} (ha : a.Ok) : ∀ (ts : List Trn), (∀ t ∈ ts, t ∈ a.trs) → ∀ (x : List Wt × Bool) (l0 : List Wt), Vals a x.1 → rankV a x.1 ≤ rankV a l0 → (x.2 = true → rankV a x.1 < rankV a l0) →
    Vals a (ts.foldl (stepG a back cnt) x).1 ∧ rankV a (ts.foldl (stepG a back cnt) x).1 ≤ rankV a l0 ∧ ((ts.foldl (stepG a back cnt) x).2 = true → rankV a (ts.foldl (stepG a back cnt) x).1 < rankV a l0)
  | [], _, _, _, h1, h2, h3 => ⟨h1, h2, h3⟩
  | t :: ts, ht, x, l0, h1, h2, h3 => by
    rw [List.foldl_cons]
    obtain ⟨k1, k2, k3, k4, k5, k6⟩ := h1.new (back := back) ha (ht t (by simp))
    have hrest := fun y => round_rank (back := back) (cnt := cnt) ha ts (fun t' h' => ht t' (by simp [h'])) y l0
    by_cases hc : cnt t = true
    · by_cases hs : sameW (newW a back x.1 t) (x.1.getD t.frm.toNat wt0) = true
      · rw [show stepG a back cnt x t = x by rw [stepG, if_pos hc, if_pos hs]]
        exact hrest x h1 h2 h3
      · rw [show stepG a back cnt x t = (x.1.set t.frm.toNat (newW a back x.1 t), true) by rw [stepG, if_pos hc, if_neg hs]]
        have hne : newW a back x.1 t ≠ x.1[t.frm.toNat] := fun e => hs (by rw [getD_at k2]; exact (sameW_iff ha.sp k1 k4).2 e)
        have hlt : rankV a (x.1.set t.frm.toNat (newW a back x.1 t)) < rankV a x.1 := sum_set _ _ _ _ k2 (by
          rw [k6] at hne ⊢
          exact eitherW_rank ha.sp k4 (Ext_ok ha.sp (ha.w t (ht t (by simp))) k5) hne)
        exact hrest _ (h1.set k1 _) (by simp only; omega) (fun _ => by simp only; omega)
    · rw [show stepG a back cnt x t = x by rw [stepG, if_neg hc]]
      exact hrest x h1 h2 h3
theorem grow_ends {a : Aut} {back : Bool} {cnt : Trn → Bool} (ha : a.Ok) : ∀ (n : Nat) (l : List Wt), Vals a l → rankV a l ≤ n → ∃ L1, growT a back cnt (n + 1) l = some L1 ∧ Vals a L1
  | n, l, hv, hn => by
    obtain ⟨h1, h2, h3⟩ := round_rank (back := back) (cnt := cnt) ha a.trs (fun _ h => h) (l, false) l hv (Nat.le_refl _) (fun h => by cases h)
    by_cases hm : (roundG a back cnt l).2 = true
    · have h4 : rankV a (roundG a back cnt l).1 < rankV a l := h3 hm
      cases n with
      | zero => omega
      | succ n =>
        obtain ⟨L1, h5, h6⟩ := grow_ends ha n (roundG a back cnt l).1 h1 (by omega)
        exact ⟨L1, by rw [growT, if_pos hm]; exact h5, h6⟩
    · exact ⟨(roundG a back cnt l).1, by rw [growT, if_neg hm], h1⟩
end Go.Proofs.YtfpljljjjgicaaaGreatDoor
