import Derived.Test.YtfpljljjjgicaaaGreatDoorWd
import Derived.KernelRfl
import Derived.Test.YtfpljljjjgicaaaGreatDoorZ35
/-
  Sorting, the plain part: what lies in a range is mixed, orders, heaps.
-/
set_option maxHeartbeats 4000000
set_option linter.unusedSimpArgs false
set_option linter.unusedVariables false
namespace Go.Proofs.YtfpljljjjgicaaaGreatDoor
section
variable {α : Type}
/-- A comparison that is a total order. -/
structure TotC (c : α → α → Int) : Prop where
  asy : ∀ x y, c x y < 0 → ¬ c y x < 0
  tr : ∀ x y z, ¬ c y x < 0 → ¬ c z y < 0 → ¬ c z x < 0
  tot : ∀ x y, ¬ c x y < 0 → ¬ c y x < 0 → x = y
theorem TotC.irr {c : α → α → Int} (h : TotC c) (x : α) : ¬ c x x < 0 := fun k => h.asy x x k k
theorem TotC.lt_le {c : α → α → Int} (h : TotC c) {x y z : α} (h1 : c x y < 0) (h2 : ¬ c z y < 0) : c x z < 0 := Classical.byContradiction fun k => h.tr y z x h2 k h1
theorem sorted_eq {c : α → α → Int} (hc : TotC c) : ∀ {L M : List α}, L.Perm M → L.Pairwise (fun x y => ¬ c y x < 0) → M.Pairwise (fun x y => ¬ c y x < 0) → L = M
  | [], M, hp, _, _ => (List.nil_perm.1 hp).symm
  | x :: L, [], hp, _, _ => absurd hp.length_eq (by simp)
  | x :: L, y :: M, hp, h1, h2 => by
    obtain ⟨a1, a2⟩ := List.pairwise_cons.1 h1
    obtain ⟨b1, b2⟩ := List.pairwise_cons.1 h2
    have e : x = y := by
      have hx : x ∈ y :: M := hp.mem_iff.1 (List.mem_cons_self ..)
      have hy : y ∈ x :: L := hp.mem_iff.2 (List.mem_cons_self ..)
      rcases List.mem_cons.1 hx with h | hx
      · exact h
      · rcases List.mem_cons.1 hy with h | hy
        · exact h.symm
        · exact hc.tot x y (b1 x hx) (a1 y hy)
    subst e
    rw [sorted_eq hc ((List.perm_cons x).1 hp) a2 b2]
end
section
variable {α : Type} [Inhabited α]
abbrev el (L : List α) (i : Nat) : α := L.getD i default
theorem el_at {L : List α} {i : Nat} (h : i < L.length) : el L i = L[i] := getD_at h
def swp (L : List α) (i j : Nat) : List α := (L.set i (el L j)).set j (el L i)
theorem swp_len (L : List α) (i j : Nat) : (swp L i j).length = L.length := by simp [swp]
theorem el_set {L : List α} {i k : Nat} {x : α} (hi : i < L.length) : el (L.set i x) k = if k = i then x else el L k := by
  simp only [el, List.getD_eq_getElem?_getD, List.getElem?_set]
  by_cases h : i = k
  · subst h; simp [hi]
  · rw [if_neg h, if_neg (fun e => h e.symm)]
theorem swp_el {L : List α} {i j : Nat} (hi : i < L.length) (hj : j < L.length) (k : Nat) : el (swp L i j) k = if k = j then el L i else if k = i then el L j else el L k := by
  rw [swp, el_set (by simpa using hj), el_set hi]
theorem swp_perm {L : List α} {i j : Nat} (hi : i < L.length) (hj : j < L.length) : (swp L i j).Perm L := by
  rw [swp, el_at hi, el_at hj]; exact List.set_set_perm hi hj
/-- The same elements, and the same ones at the same places outside of a range. -/
structure Mix (a b : Nat) (L M : List α) : Prop where
  perm : M.Perm L
  out : ∀ i, (i < a ∨ b ≤ i) → el M i = el L i
theorem Mix.len {a b : Nat} {L M : List α} (h : Mix a b L M) : M.length = L.length := h.perm.length_eq
theorem Mix.refl {a b : Nat} {L : List α} : Mix a b L L := ⟨List.Perm.refl _, fun _ _ => rfl⟩
theorem Mix.trans {a b : Nat} {L M N : List α} (h : Mix a b L M) (h' : Mix a b M N) : Mix a b L N := ⟨h'.perm.trans h.perm, fun i hi => (h'.out i hi).trans (h.out i hi)⟩
theorem Mix.wide {a b a' b' : Nat} {L M : List α} (h : Mix a b L M) (ha : a' ≤ a) (hb : b ≤ b') : Mix a' b' L M := ⟨h.perm, fun i hi => h.out i (by omega)⟩
theorem Mix.swp {a b i j : Nat} {L M : List α} (h : Mix a b L M) (hb : b ≤ L.length) (hi : a ≤ i ∧ i < b) (hj : a ≤ j ∧ j < b) : Mix a b L (swp M i j) := by
  have hl := h.len
  refine h.trans ⟨swp_perm (by omega) (by omega), fun k hk => ?_⟩
  rw [swp_el (by omega) (by omega), if_neg (by omega), if_neg (by omega)]
/-- What lies in the range has been in the range. -/
theorem Mix.from_ {a b : Nat} {L M : List α} (h : Mix a b L M) (hb : b ≤ L.length) {i : Nat} (h1 : a ≤ i) (h2 : i < b) : ∃ j, a ≤ j ∧ j < b ∧ el M i = el L j := by
  have hl := h.len
  have hsplit : ∀ N : List α, N = N.take a ++ ((N.take b).drop a ++ N.drop b) := fun N => by
    have e1 : N.take a = (N.take b).take a := by rw [List.take_take, Nat.min_eq_left (by omega)]
    rw [← List.append_assoc, e1, List.take_append_drop, List.take_append_drop]
  have e1 : M.take a = L.take a := by
    refine List.ext_getElem (by simp [hl]) fun k k1 k2 => ?_
    simp only [List.length_take] at k1 k2
    have := h.out k (.inl (by omega))
    rw [el_at (by omega), el_at (by omega)] at this
    simpa using this
  have e2 : M.drop b = L.drop b := by
    refine List.ext_getElem (by simp [hl]) fun k k1 k2 => ?_
    simp only [List.length_drop] at k1 k2
    have := h.out (b + k) (.inr (by omega))
    rw [el_at (by omega), el_at (by omega)] at this
    simpa using this
  have hp := h.perm
  rw [hsplit M, hsplit L, e1, e2] at hp
  have hp' := (List.perm_append_right_iff _).1 ((List.perm_append_left_iff _).1 hp)
  have hm : el M i ∈ (M.take b).drop a := by
    rw [el_at (by omega)]
    exact List.mem_iff_getElem.2 ⟨i - a, by simp; omega, by simp only [List.getElem_drop, List.getElem_take]; congr 1; omega⟩
  obtain ⟨k, hk, e⟩ := List.mem_iff_getElem.1 (hp'.mem_iff.1 hm)
  simp only [List.length_drop, List.length_take] at hk
  refine ⟨a + k, by omega, by omega, ?_⟩
  rw [← e, el_at (by omega)]
  simp
theorem Mix.all {a b : Nat} {L M : List α} (h : Mix a b L M) (hb : b ≤ L.length) {p : α → Prop} (hp : ∀ j, a ≤ j → j < b → p (el L j)) : ∀ i, a ≤ i → i < b → p (el M i) := fun i h1 h2 => by
  obtain ⟨j, k1, k2, e⟩ := h.from_ hb h1 h2
  rw [e]; exact hp j k1 k2
def SortedOn (c : α → α → Int) (a b : Nat) (L : List α) : Prop := ∀ i j, a ≤ i → i < j → j < b → ¬ c (el L j) (el L i) < 0
/-- What lies left of a range is not above what lies in it. -/
def LeftOk (c : α → α → Int) (a b : Nat) (L : List α) : Prop := ∀ i j, i < a → a ≤ j → j < b → ¬ c (el L j) (el L i) < 0
theorem LeftOk.mix {c : α → α → Int} {a b : Nat} {L M : List α} (h : LeftOk c a b L) (hm : Mix a b L M) (hb : b ≤ L.length) : LeftOk c a b M := fun i j h1 h2 h3 => by
  rw [hm.out i (.inl h1)]
  exact hm.all hb (p := fun x => ¬ c x (el L i) < 0) (fun k k1 k2 => h i k h1 k1 k2) j h2 h3
theorem SortedOn.pairwise {c : α → α → Int} {L : List α} (h : SortedOn c 0 L.length L) : L.Pairwise (fun x y => ¬ c y x < 0) := by
  rw [List.pairwise_iff_getElem]
  intro i j hi hj hij
  have := h i j (by omega) hij hj
  rwa [el_at hi, el_at hj] at this
/-- One element that is put in from the right, as far as it has come. -/
def InsAt (c : α → α → Int) (a i j : Nat) (L : List α) : Prop := ∀ p q, a ≤ p → p < q → q ≤ i → q ≠ j → ¬ c (el L q) (el L p) < 0
theorem InsAt.start {c : α → α → Int} {a i : Nat} {L : List α} (h : SortedOn c a i L) : InsAt c a i i L := fun p q h1 h2 h3 h4 => h p q h1 h2 (by omega)
theorem InsAt.stop {c : α → α → Int} (hc : TotC c) {a i j : Nat} {L : List α} (h : InsAt c a i j L) (hj : j = a ∨ a < j ∧ ¬ c (el L j) (el L (j - 1)) < 0) : SortedOn c a (i + 1) L := fun p q h1 h2 h3 => by
  by_cases hq : q = j
  · subst hq
    rcases hj with hj | ⟨_, hj⟩
    · omega
    · by_cases hp : p = q - 1
      · rw [hp]; exact hj
      · exact hc.tr _ _ _ (h p (q - 1) h1 (by omega) (by omega) (by omega)) hj
  · exact h p q h1 h2 (by omega) hq
theorem InsAt.step {c : α → α → Int} (hc : TotC c) {a i j : Nat} {L : List α} (h : InsAt c a i j L) (hi : i < L.length) (hj : a < j) (hji : j ≤ i) (hlt : c (el L j) (el L (j - 1)) < 0) : InsAt c a i (j - 1) (swp L j (j - 1)) := fun p q h1 h2 h3 h4 => by
  rw [swp_el (by omega) (by omega), swp_el (by omega) (by omega), if_neg h4]
  by_cases hq : q = j
  · subst hq
    rw [if_pos rfl]
    by_cases hp : p = q - 1
    · rw [if_pos hp]; exact hc.asy _ _ hlt
    · rw [if_neg hp, if_neg (by omega)]
      exact h p (q - 1) h1 (by omega) (by omega) (by omega)
  · rw [if_neg hq]
    by_cases hp : p = j - 1
    · rw [if_pos hp]; exact h j q (by omega) (by omega) h3 hq
    · rw [if_neg hp]
      by_cases hp' : p = j
      · rw [if_pos hp']; exact h (j - 1) q (by omega) (by omega) h3 hq
      · rw [if_neg hp']; exact h p q h1 h2 h3 hq
end
end Go.Proofs.YtfpljljjjgicaaaGreatDoor
/-
  Sorting, the plain part: parting about a pivot, heaps, and ranges of ranges.
-/
set_option maxHeartbeats 4000000
set_option linter.unusedSimpArgs false
set_option linter.unusedVariables false
namespace Go.Proofs.YtfpljljjjgicaaaGreatDoor
section
variable {α : Type} [Inhabited α]
theorem swp_at {L : List α} {i j : Nat} (hi : i < L.length) (hj : j < L.length) : (L.set i L[j]).set j L[i] = swp L i j := by
  rw [swp, el_at hi, el_at hj]
/-- Parting about a pivot that lies at the range's start, as far as it has come. -/
structure PartI (c : α → α → Int) (a b i j : Nat) (L M : List α) : Prop where
  mix : Mix a b L M
  hi : a + 1 ≤ i
  hij : i ≤ j + 1
  hj : j < b
  lo : ∀ k, a < k → k < i → c (el M k) (el M a) < 0
  up : ∀ k, j < k → k < b → ¬ c (el M k) (el M a) < 0
structure Parted (c : α → α → Int) (a b m : Nat) (L M : List α) : Prop where
  mix : Mix a b L M
  hl : a ≤ m
  hr : m < b
  lo : ∀ k, a ≤ k → k < m → c (el M k) (el M m) < 0
  up : ∀ k, m < k → k < b → ¬ c (el M k) (el M m) < 0
theorem PartI.start {c : α → α → Int} {a b p : Nat} {L : List α} (h : a < b) (hb : b ≤ L.length) (h1 : a ≤ p) (h2 : p < b) : PartI c a b (a + 1) (b - 1) L (swp L a p) :=
  ⟨Mix.refl.swp hb ⟨by omega, by omega⟩ ⟨h1, h2⟩, by omega, by omega, by omega, fun k k1 k2 => by omega, fun k k1 k2 => by omega⟩
theorem PartI.right {c : α → α → Int} {a b i j : Nat} {L M : List α} (h : PartI c a b i j L M) (hc : c (el M i) (el M a) < 0) (hij : i ≤ j) : PartI c a b (i + 1) j L M :=
  ⟨h.mix, by have := h.hi; omega, by omega, h.hj, fun k k1 k2 => by
    by_cases hk : k = i
    · rw [hk]; exact hc
    · exact h.lo k k1 (by omega), h.up⟩
theorem PartI.left {c : α → α → Int} {a b i j : Nat} {L M : List α} (h : PartI c a b i j L M) (hc : ¬ c (el M j) (el M a) < 0) (hij : i ≤ j) : PartI c a b i (j - 1) L M :=
  ⟨h.mix, h.hi, by have := h.hi; omega, by have := h.hj; omega, h.lo, fun k k1 k2 => by
    by_cases hk : k = j
    · rw [hk]; exact hc
    · exact h.up k (by omega) k2⟩
theorem PartI.swap {c : α → α → Int} {a b i j : Nat} {L M : List α} (h : PartI c a b i j L M) (hb : b ≤ L.length) (hc : ¬ c (el M i) (el M a) < 0) (hc' : c (el M j) (el M a) < 0) (hij : i ≤ j) : PartI c a b (i + 1) (j - 1) L (swp M i j) := by
  have hne : i ≠ j := fun e => hc (by rw [e]; exact hc')
  have h1 := h.hi
  have h2 := h.hj
  have hl := h.mix.len
  have he : ∀ k, el (swp M i j) k = if k = j then el M i else if k = i then el M j else el M k := swp_el (by omega) (by omega)
  have ha : el (swp M i j) a = el M a := by rw [he, if_neg (by omega), if_neg (by omega)]
  refine ⟨h.mix.swp hb ⟨by omega, by omega⟩ ⟨by omega, by omega⟩, by omega, by omega, by omega, fun k k1 k2 => ?_, fun k k1 k2 => ?_⟩
  · rw [ha, he, if_neg (by omega)]
    by_cases hk : k = i
    · rw [if_pos hk]; exact hc'
    · rw [if_neg hk]; exact h.lo k k1 (by omega)
  · rw [ha, he]
    by_cases hk : k = j
    · rw [if_pos hk]; exact hc
    · rw [if_neg hk, if_neg (by omega)]; exact h.up k (by omega) k2
theorem PartI.stop {c : α → α → Int} {a b i j : Nat} {L M : List α} (h : PartI c a b i j L M) (hb : b ≤ L.length) (hij : j < i) : Parted c a b j L (swp M j a) := by
  have h1 := h.hi
  have h2 := h.hj
  have h3 := h.hij
  have hl := h.mix.len
  have he : ∀ k, el (swp M j a) k = if k = a then el M j else if k = j then el M a else el M k := swp_el (by omega) (by omega)
  have hm : el (swp M j a) j = el M a := by
    rw [he]
    by_cases hk : j = a
    · rw [if_pos hk, hk]
    · rw [if_neg hk, if_pos rfl]
  refine ⟨h.mix.swp hb ⟨by omega, by omega⟩ ⟨by omega, by omega⟩, by omega, h2, fun k k1 k2 => ?_, fun k k1 k2 => ?_⟩
  · rw [hm, he]
    by_cases hk : k = a
    · rw [if_pos hk]; exact h.lo j (by omega) (by omega)
    · rw [if_neg hk, if_neg (by omega)]; exact h.lo k (by omega) (by omega)
  · rw [hm, he, if_neg (by omega), if_neg (by omega)]; exact h.up k k1 k2
/-- Parting off what equals a pivot. -/
structure PeqI (c : α → α → Int) (a b p i j : Nat) (L M : List α) : Prop where
  mix : Mix a b L M
  at_ : el M a = el L p
  hi : a + 1 ≤ i
  hij : i ≤ j + 1
  hj : j < b
  lo : ∀ k, a < k → k < i → ¬ c (el M a) (el M k) < 0
  up : ∀ k, j < k → k < b → c (el M a) (el M k) < 0
structure Peqed (c : α → α → Int) (a b p m : Nat) (L M : List α) : Prop where
  mix : Mix a b L M
  hl : a < m
  hr : m ≤ b
  lo : ∀ k, a ≤ k → k < m → ¬ c (el L p) (el M k) < 0
  up : ∀ k, m ≤ k → k < b → c (el L p) (el M k) < 0
theorem PeqI.start {c : α → α → Int} {a b p : Nat} {L : List α} (h : a < b) (hb : b ≤ L.length) (h1 : a ≤ p) (h2 : p < b) : PeqI c a b p (a + 1) (b - 1) L (swp L a p) :=
  ⟨Mix.refl.swp hb ⟨by omega, by omega⟩ ⟨h1, h2⟩, by
    rw [swp_el (by omega) (by omega)]
    by_cases hk : a = p
    · rw [if_pos hk, hk]
    · rw [if_neg hk, if_pos rfl], by omega, by omega, by omega, fun k k1 k2 => by omega, fun k k1 k2 => by omega⟩
theorem PeqI.right {c : α → α → Int} {a b p i j : Nat} {L M : List α} (h : PeqI c a b p i j L M) (hc : ¬ c (el M a) (el M i) < 0) (hij : i ≤ j) : PeqI c a b p (i + 1) j L M :=
  ⟨h.mix, h.at_, by have := h.hi; omega, by omega, h.hj, fun k k1 k2 => by
    by_cases hk : k = i
    · rw [hk]; exact hc
    · exact h.lo k k1 (by omega), h.up⟩
theorem PeqI.left {c : α → α → Int} {a b p i j : Nat} {L M : List α} (h : PeqI c a b p i j L M) (hc : c (el M a) (el M j) < 0) (hij : i ≤ j) : PeqI c a b p i (j - 1) L M :=
  ⟨h.mix, h.at_, h.hi, by have := h.hi; omega, by have := h.hj; omega, h.lo, fun k k1 k2 => by
    by_cases hk : k = j
    · rw [hk]; exact hc
    · exact h.up k (by omega) k2⟩
theorem PeqI.swap {c : α → α → Int} {a b p i j : Nat} {L M : List α} (h : PeqI c a b p i j L M) (hb : b ≤ L.length) (hc : c (el M a) (el M i) < 0) (hc' : ¬ c (el M a) (el M j) < 0) (hij : i ≤ j) : PeqI c a b p (i + 1) (j - 1) L (swp M i j) := by
  have hne : i ≠ j := fun e => hc' (by rw [← e]; exact hc)
  have h1 := h.hi
  have h2 := h.hj
  have hl := h.mix.len
  have he : ∀ k, el (swp M i j) k = if k = j then el M i else if k = i then el M j else el M k := swp_el (by omega) (by omega)
  have ha : el (swp M i j) a = el M a := by rw [he, if_neg (by omega), if_neg (by omega)]
  refine ⟨h.mix.swp hb ⟨by omega, by omega⟩ ⟨by omega, by omega⟩, ha.trans h.at_, by omega, by omega, by omega, fun k k1 k2 => ?_, fun k k1 k2 => ?_⟩
  · rw [ha, he, if_neg (by omega)]
    by_cases hk : k = i
    · rw [if_pos hk]; exact hc'
    · rw [if_neg hk]; exact h.lo k k1 (by omega)
  · rw [ha, he]
    by_cases hk : k = j
    · rw [if_pos hk]; exact hc
    · rw [if_neg hk, if_neg (by omega)]; exact h.up k (by omega) k2
theorem PeqI.stop {c : α → α → Int} (hc : TotC c) {a b p i j : Nat} {L M : List α} (h : PeqI c a b p i j L M) (hij : j < i) : Peqed c a b p i L M := by
  have h1 := h.hi
  have h2 := h.hj
  have h3 := h.hij
  refine ⟨h.mix, by omega, by omega, fun k k1 k2 => ?_, fun k k1 k2 => ?_⟩
  · rw [← h.at_]
    by_cases hk : k = a
    · rw [hk]; exact hc.irr _
    · exact h.lo k (by omega) k2
  · rw [← h.at_]; exact h.up k (by omega) k2
/-- Heaps, from an offset on. -/
def HeapAt (c : α → α → Int) (f hi : Nat) (M : List α) (i : Nat) : Prop := ∀ k, (k = 2 * i + 1 ∨ k = 2 * i + 2) → k < hi → ¬ c (el M (f + i)) (el M (f + k)) < 0
def HeapFrom (c : α → α → Int) (f lo hi : Nat) (M : List α) : Prop := ∀ i, lo ≤ i → HeapAt c f hi M i
structure SiftI (c : α → α → Int) (f lo hi root : Nat) (L M : List α) : Prop where
  mix : Mix (f + lo) (f + hi) L M
  le : lo ≤ root
  heap : ∀ i, lo ≤ i → i ≠ root → HeapAt c f hi M i
  par : ∀ i, lo ≤ i → (root = 2 * i + 1 ∨ root = 2 * i + 2) → ∀ k, (k = 2 * root + 1 ∨ k = 2 * root + 2) → k < hi → ¬ c (el M (f + i)) (el M (f + k)) < 0
theorem SiftI.start {c : α → α → Int} {f lo hi : Nat} {L : List α} (h : HeapFrom c f (lo + 1) hi L) : SiftI c f lo hi lo L L :=
  ⟨Mix.refl, Nat.le_refl _, fun i h1 h2 => h i (by omega), fun i h1 h2 => by omega⟩
theorem SiftI.stop1 {c : α → α → Int} {f lo hi root : Nat} {L M : List α} (h : SiftI c f lo hi root L M) (hr : hi ≤ 2 * root + 1) : HeapFrom c f lo hi M := fun i hi' k hk hk' => by
  by_cases e : i = root
  · omega
  · exact h.heap i hi' e k hk hk'
theorem SiftI.stop2 {c : α → α → Int} (hc : TotC c) {f lo hi root ch : Nat} {L M : List α} (h : SiftI c f lo hi root L M) (hbig : ∀ k, (k = 2 * root + 1 ∨ k = 2 * root + 2) → k < hi → ¬ c (el M (f + ch)) (el M (f + k)) < 0) (hn : ¬ c (el M (f + root)) (el M (f + ch)) < 0) : HeapFrom c f lo hi M := fun i hi' k hk hk' => by
  by_cases e : i = root
  · subst e; exact hc.tr _ _ _ (hbig k hk hk') hn
  · exact h.heap i hi' e k hk hk'
theorem SiftI.step {c : α → α → Int} (hc : TotC c) {f lo hi root ch : Nat} {L M : List α} (h : SiftI c f lo hi root L M) (hb : f + hi ≤ L.length) (hch : ch = 2 * root + 1 ∨ ch = 2 * root + 2) (hlt : ch < hi) (hbig : ∀ k, (k = 2 * root + 1 ∨ k = 2 * root + 2) → k < hi → ¬ c (el M (f + ch)) (el M (f + k)) < 0) (hn : c (el M (f + root)) (el M (f + ch)) < 0) : SiftI c f lo hi ch L (swp M (f + root) (f + ch)) := by
  have hle := h.le
  have hl := h.mix.len
  have he : ∀ k, el (swp M (f + root) (f + ch)) (f + k) = if k = ch then el M (f + root) else if k = root then el M (f + ch) else el M (f + k) := fun k => by
    rw [swp_el (by omega) (by omega)]
    simp only [Nat.add_right_inj, Nat.add_left_cancel_iff]
  refine ⟨h.mix.swp hb ⟨by omega, by omega⟩ ⟨by omega, by omega⟩, by omega, fun i h1 h2 k hk hk' => ?_, fun i h1 h2 k hk hk' => ?_⟩
  · rw [he, he, if_neg h2]
    by_cases e : i = root
    · subst e
      rw [if_pos rfl]
      by_cases e2 : k = ch
      · rw [if_pos e2]; exact hc.asy _ _ hn
      · rw [if_neg e2, if_neg (by omega)]; exact hbig k hk hk'
    · rw [if_neg e, if_neg (by omega)]
      by_cases e2 : k = root
      · rw [if_pos e2]; exact h.par i h1 (by omega) ch hch hlt
      · rw [if_neg e2]; exact h.heap i h1 e k hk hk'
  · have e : i = root := by omega
    subst e
    rw [he, he, if_neg (by omega), if_pos rfl, if_neg (by omega), if_neg (by omega)]
    exact h.heap ch (by omega) (by omega) k hk hk'
theorem heap_max {c : α → α → Int} (hc : TotC c) {f hi : Nat} {M : List α} (h : HeapFrom c f 0 hi M) : ∀ k, k < hi → ¬ c (el M f) (el M (f + k)) < 0 := fun k => by
  induction k using Nat.strongRecOn with
  | ind k ih =>
    intro hk
    rcases Nat.eq_zero_or_pos k with e | e
    · subst e; exact hc.irr _
    · have h1 := ih ((k - 1) / 2) (by omega) (by omega)
      exact hc.tr _ _ _ (h ((k - 1) / 2) (Nat.zero_le _) k (by omega) hk) h1
/-- Taking the greatest off a heap, as far as it has come. -/
structure PopI (c : α → α → Int) (a b n : Nat) (L M : List α) : Prop where
  mix : Mix a b L M
  hn : a + n ≤ b
  heap : HeapFrom c a 0 n M
  srt : SortedOn c (a + n) b M
  le : ∀ i j, a ≤ i → i < a + n → a + n ≤ j → j < b → ¬ c (el M j) (el M i) < 0
theorem PopI.start {c : α → α → Int} {a b n : Nat} {L M : List α} (hm : Mix a b L M) (h : HeapFrom c a 0 n M) (hn : a + n = b) : PopI c a b n L M :=
  ⟨hm, by omega, h, fun i j h1 h2 h3 => by omega, fun i j h1 h2 h3 h4 => by omega⟩
theorem PopI.heap1 {c : α → α → Int} {a b n : Nat} {L M : List α} (h : PopI c a b (n + 1) L M) (hb : b ≤ L.length) : HeapFrom c a (0 + 1) n (swp M a (a + n)) := fun i h1 k hk hk' => by
  have hn := h.hn
  have hl := h.mix.len
  have he : ∀ k, el (swp M a (a + n)) (a + k) = if k = n then el M a else if k = 0 then el M (a + n) else el M (a + k) := fun k => by
    rw [swp_el (by omega) (by omega)]
    have e1 : a + k = a + n ↔ k = n := by omega
    have e2 : a + k = a ↔ k = 0 := by omega
    simp only [e1, e2]
  rw [he, he, if_neg (by omega), if_neg (by omega), if_neg (by omega), if_neg (by omega)]
  exact h.heap i (by omega) k hk (by omega)
theorem PopI.step {c : α → α → Int} (hc : TotC c) {a b n : Nat} {L M M2 : List α} (h : PopI c a b (n + 1) L M) (hb : b ≤ L.length) (hm : Mix a (a + n) (swp M a (a + n)) M2) (h2 : HeapFrom c a 0 n M2) : PopI c a b n L M2 := by
  have hn := h.hn
  have hl := h.mix.len
  have hs : (swp M a (a + n)).length = M.length := swp_len ..
  have he : ∀ k, el (swp M a (a + n)) k = if k = a + n then el M a else if k = a then el M (a + n) else el M k := swp_el (by omega) (by omega)
  have hmax := heap_max hc h.heap
  have hat : el M2 (a + n) = el M a := by rw [hm.out _ (.inr (Nat.le_refl _)), he, if_pos rfl]
  have hout : ∀ j, a + n < j → el M2 j = el M j := fun j hj => by rw [hm.out j (.inr (by omega)), he, if_neg (by omega), if_neg (by omega)]
  have hin : ∀ i, a ≤ i → i < a + n → ∃ k, k < n + 1 ∧ el M2 i = el M (a + k) := fun i h3 h4 => by
    obtain ⟨j, k1, k2, e⟩ := hm.from_ (by omega) h3 h4
    rw [he, if_neg (by omega)] at e
    by_cases hj : j = a
    · rw [if_pos hj] at e; exact ⟨n, by omega, e⟩
    · rw [if_neg hj] at e; exact ⟨j - a, by omega, by rw [e, Nat.add_sub_cancel' k1]⟩
  refine ⟨(h.mix.swp hb ⟨by omega, by omega⟩ ⟨by omega, by omega⟩).trans (hm.wide (Nat.le_refl _) (by omega)), by omega, h2, fun i j h3 h4 h5 => ?_, fun i j h3 h4 h5 h6 => ?_⟩
  · rw [hout j (by omega)]
    by_cases hi : i = a + n
    · rw [hi, hat]; exact h.le a j (Nat.le_refl _) (by omega) (by omega) h5
    · rw [hout i (by omega)]; exact h.srt i j (by omega) h4 h5
  · obtain ⟨k, hk, e⟩ := hin i h3 h4
    rw [e]
    by_cases hj : j = a + n
    · rw [hj, hat]; exact hmax k hk
    · rw [hout j (by omega)]; exact h.le (a + k) j (by omega) (by omega) (by omega) h6
theorem PopI.stop {c : α → α → Int} {a b : Nat} {L M : List α} (h : PopI c a b 0 L M) : Mix a b L M ∧ SortedOn c a b M := ⟨h.mix, h.srt⟩
/-- A range of a range that is still to be sorted. -/
structure PdqI (c : α → α → Int) (a0 b0 a b : Nat) (L M : List α) : Prop where
  ha : a0 ≤ a
  hab : a ≤ b
  hb : b ≤ b0
  mix : Mix a0 b0 L M
  left : LeftOk c a b M
  goal : ∀ M', Mix a b M M' → SortedOn c a b M' → SortedOn c a0 b0 M'
theorem PdqI.start {c : α → α → Int} {a b : Nat} {L : List α} (hab : a ≤ b) (h : LeftOk c a b L) : PdqI c a b a b L L := ⟨Nat.le_refl _, hab, Nat.le_refl _, Mix.refl, h, fun _ _ h => h⟩
theorem PdqI.mixed {c : α → α → Int} {a0 b0 a b : Nat} {L M M1 : List α} (h : PdqI c a0 b0 a b L M) (hb : b0 ≤ L.length) (hm : Mix a b M M1) : PdqI c a0 b0 a b L M1 :=
  have hl := h.mix.len
  have h1 := h.hb
  ⟨h.ha, h.hab, h.hb, h.mix.trans (hm.wide h.ha h.hb), h.left.mix hm (by omega), fun M' k1 k2 => h.goal M' (hm.trans k1) k2⟩
theorem PdqI.done {c : α → α → Int} {a0 b0 a b : Nat} {L M M1 : List α} (h : PdqI c a0 b0 a b L M) (hm : Mix a b M M1) (hs : SortedOn c a b M1) : Mix a0 b0 L M1 ∧ SortedOn c a0 b0 M1 := ⟨h.mix.trans (hm.wide h.ha h.hb), h.goal M1 hm hs⟩
theorem PdqI.equal {c : α → α → Int} (hc : TotC c) {a0 b0 a b p m : Nat} {L M M1 : List α} (h : PdqI c a0 b0 a b L M) (hb : b0 ≤ L.length) (hp : a ≤ p ∧ p < b) (ha : 0 < a) (hmin : ¬ c (el M (a - 1)) (el M p) < 0) (he : Peqed c a b p m M M1) : PdqI c a0 b0 m b L M1 := by
  have hl := h.mix.len
  have h1 := h.hb
  have h2 := he.hl
  have h3 := he.hr
  have h4 := h.ha
  have hl1 := he.mix.len
  have hleast : ∀ k, a ≤ k → k < b → ¬ c (el M1 k) (el M p) < 0 := he.mix.all (by omega) (p := fun x => ¬ c x (el M p) < 0) fun k k1 k2 => hc.tr _ _ _ hmin (h.left (a - 1) k (by omega) k1 k2)
  have hlm := h.left.mix he.mix (by omega)
  refine ⟨by omega, h3, h.hb, h.mix.trans (he.mix.wide h.ha h.hb), fun i j k1 k2 k3 => ?_, fun M' k1 k2 => ?_⟩
  · by_cases hi : i < a
    · exact hlm i j hi (by omega) k3
    · exact hc.tr _ _ _ (he.lo i (by omega) k1) (hleast j (by omega) k3)
  · refine h.goal M' (he.mix.trans (k1.wide (by omega) (Nat.le_refl _))) fun i j j1 j2 j3 => ?_
    by_cases hj : j < m
    · rw [k1.out i (.inl (by omega)), k1.out j (.inl hj)]
      exact hc.tr _ _ _ (he.lo i j1 (by omega)) (hleast j (by omega) j3)
    · by_cases hi : i < m
      · rw [k1.out i (.inl hi)]
        refine k1.all (by omega) (p := fun x => ¬ c x (el M1 i) < 0) (fun k q1 q2 => ?_) j (by omega) j3
        exact hc.tr _ _ _ (he.lo i j1 hi) (hleast k (by omega) q2)
      · exact k2 i j (by omega) j2 j3
theorem Parted.leftL {c : α → α → Int} {a b m : Nat} {L M : List α} (h : Parted c a b m L M) (hl : LeftOk c a b L) (hb : b ≤ L.length) : LeftOk c a m M := fun i j h1 h2 h3 => (hl.mix h.mix hb) i j h1 h2 (by have := h.hr; omega)
theorem Parted.leftR {c : α → α → Int} (hc : TotC c) {a b m : Nat} {L M : List α} (h : Parted c a b m L M) (hl : LeftOk c a b L) (hb : b ≤ L.length) : LeftOk c (m + 1) b M := fun i j h1 h2 h3 => by
  by_cases hi : i < a
  · exact (hl.mix h.mix hb) i j hi (by have := h.hl; omega) h3
  · by_cases e : i = m
    · subst e; exact h.up j (by omega) h3
    · exact fun k => hc.asy _ _ (hc.lt_le (h.lo i (by omega) (by omega)) (h.up j (by omega) h3)) k
theorem Parted.sorted {c : α → α → Int} (hc : TotC c) {a b m : Nat} {L M M' : List α} (h : Parted c a b m L M) (hb : b ≤ L.length) (hlo : ∀ k, a ≤ k → k < m → c (el M' k) (el M m) < 0) (hm : el M' m = el M m) (hup : ∀ k, m < k → k < b → ¬ c (el M' k) (el M m) < 0) (h1 : SortedOn c a m M') (h2 : SortedOn c (m + 1) b M') : SortedOn c a b M' := fun i j k1 k2 k3 => by
  by_cases hj : j < m
  · exact h1 i j k1 k2 hj
  · by_cases hi : m < i
    · exact h2 i j (by omega) k2 k3
    · by_cases ei : i = m
      · subst ei; rw [hm]; exact hup j (by omega) k3
      · have l1 := hlo i k1 (by omega)
        by_cases ej : j = m
        · rw [ej, hm]; exact hc.asy _ _ l1
        · exact hc.asy _ _ (hc.lt_le l1 (hup j (by omega) k3))
theorem PdqI.partL {c : α → α → Int} (hc : TotC c) {a0 b0 a b m : Nat} {L M M1 M2 : List α} (h : PdqI c a0 b0 a b L M) (hb : b0 ≤ L.length) (hp : Parted c a b m M M1) (hm : Mix a m M1 M2) (hs : SortedOn c a m M2) : PdqI c a0 b0 (m + 1) b L M2 := by
  have hl := h.mix.len
  have h1 := h.hb
  have h2 := hp.hl
  have h3 := hp.hr
  have h4 := h.ha
  have hl1 := hp.mix.len
  have hl2 := hm.len
  have hlo2 : ∀ k, a ≤ k → k < m → c (el M2 k) (el M1 m) < 0 := hm.all (by omega) (p := fun x => c x (el M1 m) < 0) hp.lo
  have hat2 : el M2 m = el M1 m := hm.out m (.inr (Nat.le_refl _))
  have hup2 : ∀ k, m < k → k < b → ¬ c (el M2 k) (el M1 m) < 0 := fun k k1 k2 => by rw [hm.out k (.inr (by omega))]; exact hp.up k k1 k2
  have hl0 := hp.leftR hc h.left (by omega)
  refine ⟨by omega, by omega, h.hb, h.mix.trans ((hp.mix.trans (hm.wide (Nat.le_refl _) (by omega))).wide h.ha h.hb), fun i j k1 k2 k3 => ?_, fun M' k1 k2 => ?_⟩
  · rw [hm.out j (.inr (by omega))]
    by_cases hi : i < a ∨ m ≤ i
    · rw [hm.out i hi]; exact hl0 i j k1 k2 k3
    · exact hc.asy _ _ (hc.lt_le (hlo2 i (by omega) (by omega)) (hp.up j (by omega) k3))
  · refine h.goal M' ((hp.mix.trans (hm.wide (Nat.le_refl _) (by omega))).trans (k1.wide (by omega) (Nat.le_refl _))) ?_
    refine hp.sorted hc (by omega) (fun k q1 q2 => ?_) ?_ (fun k q1 q2 => ?_) (fun i j j1 j2 j3 => ?_) k2
    · rw [k1.out k (.inl (by omega))]; exact hlo2 k q1 q2
    · rw [k1.out m (.inl (by omega))]; exact hat2
    · exact k1.all (by omega) (p := fun x => ¬ c x (el M1 m) < 0) (fun j q3 q4 => hup2 j (by omega) q4) k (by omega) q2
    · rw [k1.out i (.inl (by omega)), k1.out j (.inl (by omega))]; exact hs i j j1 j2 j3
theorem PdqI.partR {c : α → α → Int} (hc : TotC c) {a0 b0 a b m : Nat} {L M M1 M2 : List α} (h : PdqI c a0 b0 a b L M) (hb : b0 ≤ L.length) (hp : Parted c a b m M M1) (hm : Mix (m + 1) b M1 M2) (hs : SortedOn c (m + 1) b M2) : PdqI c a0 b0 a m L M2 := by
  have hl := h.mix.len
  have h1 := h.hb
  have h2 := hp.hl
  have h3 := hp.hr
  have h4 := h.ha
  have hl1 := hp.mix.len
  have hl2 := hm.len
  have hlo2 : ∀ k, a ≤ k → k < m → c (el M2 k) (el M1 m) < 0 := fun k k1 k2 => by rw [hm.out k (.inl (by omega))]; exact hp.lo k k1 k2
  have hat2 : el M2 m = el M1 m := hm.out m (.inl (by omega))
  have hup2 : ∀ k, m < k → k < b → ¬ c (el M2 k) (el M1 m) < 0 := fun k k1 k2 => hm.all (by omega) (p := fun x => ¬ c x (el M1 m) < 0) (fun j q3 q4 => hp.up j (by omega) q4) k (by omega) k2
  have hl0 := hp.leftL h.left (by omega)
  refine ⟨by omega, by omega, by omega, h.mix.trans ((hp.mix.trans (hm.wide (by omega) (Nat.le_refl _))).wide h.ha h.hb), fun i j k1 k2 k3 => ?_, fun M' k1 k2 => ?_⟩
  · rw [hm.out j (.inl (by omega)), hm.out i (.inl (by omega))]; exact hl0 i j k1 k2 k3
  · refine h.goal M' ((hp.mix.trans (hm.wide (by omega) (Nat.le_refl _))).trans (k1.wide (Nat.le_refl _) (by omega))) ?_
    refine hp.sorted hc (by omega) (fun k q1 q2 => ?_) ?_ (fun k q1 q2 => ?_) k2 (fun i j j1 j2 j3 => ?_)
    · exact k1.all (by omega) (p := fun x => c x (el M1 m) < 0) (fun j q3 q4 => hlo2 j (by omega) q4) k (by omega) q2
    · rw [k1.out m (.inr (by omega))]; exact hat2
    · rw [k1.out k (.inr (by omega))]; exact hup2 k q1 q2
    · rw [k1.out i (.inr (by omega)), k1.out j (.inr (by omega))]; exact hs i j j1 j2 j3
end
end Go.Proofs.YtfpljljjjgicaaaGreatDoor
