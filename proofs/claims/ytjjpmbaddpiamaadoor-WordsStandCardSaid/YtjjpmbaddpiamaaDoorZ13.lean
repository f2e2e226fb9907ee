/-
  The abstract machine: tables of bools: rows of rows that are written, and only read at the end.
-/
import Derived.Test.YtjjpmbaddpiamaaDoorZ12
set_option linter.unusedSimpArgs false
set_option linter.unusedVariables false
namespace Go.Proofs.YtjjpmbaddpiamaaDoor
open Go.RowKit
abbrev bRow (n : Nat) (f : Nat → Bool) : List V := (List.range n).map fun j => V.bool (f j)
abbrev tabL (γ : Nat → Nat) (m n : Nat) : List V := (List.range m).map fun i => V.row (γ i) 901 n
abbrev tabS (te : TypeId) (m n : Nat) (B : Nat → Nat → Bool) : List V := (List.range m).map fun i => V.sl te (bRow n (B i))
theorem tabS_congr {te m n : Nat} {B B' : Nat → Nat → Bool} (h : ∀ a b, a < m → b < n → B a b = B' a b) : tabS te m n B = tabS te m n B' := by
  refine List.map_congr_left fun a ha => ?_
  rw [List.mem_range] at ha
  congr 1
  refine List.map_congr_left fun b hb => ?_
  rw [List.mem_range] at hb
  rw [h a b ha hb]
/-- A table's rows lie in objects of their own, one younger than the other. -/
structure Tb (te n : Nat) (B : Nat → Nat → Bool) (γ : Nat → Nat) (lo g : Nat) (o : Nat → Nat → Ob) : Prop where
  low : ∀ i, i < n → lo < γ i
  up : ∀ i, i < n → γ i ≤ g
  inj : ∀ i j, i < j → j < n → γ i < γ j
  row : ∀ i, i < n → o (γ i) 901 = .row te (bRow n (B i))
theorem Tb.put {te n lo g g' i : Nat} {B : Nat → Nat → Bool} {γ : Nat → Nat} {o : Nat → Nat → Ob} (h : Tb te n B γ lo g o) (hi : i < n) (hg : g ≤ g') (f : Nat → Bool) : Tb te n (fun a b => if a = i then f b else B a b) γ lo g' (updO o (γ i) 901 (.row te (bRow n f))) where
  low := h.low
  up j hj := Nat.le_trans (h.up j hj) hg
  inj := h.inj
  row j hj := by
    by_cases e : j = i
    · subst e; simp [updO]
    · have hne : γ j ≠ γ i := by
        rcases Nat.lt_or_gt_of_ne e with h1 | h1
        · have := h.inj j i h1 hi; omega
        · have := h.inj i j h1 hj; omega
      simp only [updO, true_and, if_neg hne, if_neg e]
      exact h.row j hj
theorem Tb.frame {te n lo g g' : Nat} {B : Nat → Nat → Bool} {γ : Nat → Nat} {o o' : Nat → Nat → Ob} (h : Tb te n B γ lo g o) (hg : g ≤ g') (ho : ∀ a, a ≤ g → o' a 901 = o a 901) : Tb te n B γ lo g' o' where
  low := h.low
  up j hj := Nat.le_trans (h.up j hj) hg
  inj := h.inj
  row j hj := (ho _ (h.up j hj)).trans (h.row j hj)
section
variable {P : Program} {w0 : World} {S0 : Nat → Prop} {nt : Nat} {frs : Frs} {e : Nat → V} {ob : Nat → Nat → Ob} {g : Nat} {K : Act → World → Prop}
theorem bRow_rl (n : Nat) (f : Nat → Bool) : (bRow n f).all V.isRL = true := by
  rw [List.all_eq_true]
  intro v hv
  obtain ⟨j, _, rfl⟩ := List.mem_map.1 hv
  rfl
theorem mid_set (γ : Nat → Nat) (te m n k : Nat) (B : Nat → Nat → Bool) (hk : k < m) : ((List.range m).map fun i => if i < k then V.sl te (bRow n (B i)) else V.row (γ i) 901 n).set k (.sl te (bRow n (B k))) = (List.range m).map fun i => if i < k + 1 then V.sl te (bRow n (B i)) else V.row (γ i) 901 n := by
  refine List.ext_getElem (by simp) fun j h1 h2 => ?_
  simp only [List.length_map, List.length_range] at h2
  rw [List.getElem_set]
  by_cases e : k = j
  · subst e; simp
  · rw [if_neg e]
    simp only [List.getElem_map, List.getElem_range]
    by_cases h : j < k
    · rw [if_pos h, if_pos (by omega)]
    · rw [if_neg h, if_neg (by omega)]
/-- A table is only read from here on. -/
theorem p_frzTab {s g1 te t n lo g2 : Nat} {γ : Nat → Nat} {B : Nat → Nat → Bool} (hs : evE e (.tmp s) = .row g1 900 n) (ho : ob g1 900 = .rv t (tabL γ n n)) (hT : Tb te n B γ lo g2 ob) (h : ∀ ob', (∀ g d, d < 900 → ob' g d = ob g d) → Tr ⟨P, w0, S0, nt, frs⟩ ⟨upd e s (.sl t (tabS te n n B)), ob', g⟩ K) : Tr ⟨P, w0, S0, nt, frs⟩ ⟨e, ob, g⟩ K := by
  have key : ∀ j k, k + j = n → ∀ ob1, (∀ g d, d < 900 → ob1 g d = ob g d) → ob1 g1 900 = .rv t ((List.range n).map fun i => if i < k then V.sl te (bRow n (B i)) else V.row (γ i) 901 n) → (∀ i, k ≤ i → i < n → ob1 (γ i) 901 = .row te (bRow n (B i))) → Tr ⟨P, w0, S0, nt, frs⟩ ⟨e, ob1, g⟩ K := by
    intro j
    induction j with
    | zero =>
      intro k hk ob1 hfr ho1 hr
      have e1 : ((List.range n).map fun i => if i < k then V.sl te (bRow n (B i)) else V.row (γ i) 901 n) = tabS te n n B := by
        refine List.map_congr_left fun i hi => ?_
        rw [List.mem_range] at hi
        rw [if_pos (by omega)]
      rw [e1] at ho1
      refine p_ofRv (g1 := g1) (d1 := 900) ho1 (by rw [List.all_eq_true]; intro v hv; obtain ⟨i, _, rfl⟩ := List.mem_map.1 hv; rfl) ?_
      refine p_frzS (s := s) (g1 := g1) (d1 := 900) (n := n) (t := t) (xs := tabS te n n B) hs (by simp [updO]) (by simp) ?_
      refine h _ fun g d hd => ?_
      have : d ≠ 900 := by omega
      simp only [updO, this, false_and, if_false]
      exact hfr g d hd
    | succ j ih =>
      intro k hk ob1 hfr ho1 hr
      have hkn : k < n := by omega
      refine p_freeze (g1 := γ k) (d1 := 901) (hr k (Nat.le_refl _) hkn) ?_
      refine p_rvSl (g1 := g1) (d1 := 900) (i := k) (g2 := γ k) (d2 := 901) (n := n) (el := te) (ys := bRow n (B k)) (by simp only [updO]; rw [if_neg (by omega)]; exact ho1) (by simp [hkn]) (by simp [updO]) (by simp) ?_
      rw [mid_set γ te n n k B hkn]
      refine ih (k + 1) (by omega) _ (fun g d hd => ?_) (by simp [updO]) fun i hi hin => ?_
      · have h1 : d ≠ 900 := by omega
        have h2 : d ≠ 901 := by omega
        simp only [updO, h1, h2, false_and, if_false]
        exact hfr g d hd
      · have hne : γ i ≠ γ k := by have := hT.inj k i (by omega) hin; omega
        simp only [updO, true_and, if_neg hne]
        rw [if_neg (by omega)]
        exact hr i (by omega) hin
  exact key n 0 (by omega) ob (fun _ _ _ => rfl) (by rw [ho]; rfl) fun i _ hi => hT.row i hi
end
end Go.Proofs.YtjjpmbaddpiamaaDoor
