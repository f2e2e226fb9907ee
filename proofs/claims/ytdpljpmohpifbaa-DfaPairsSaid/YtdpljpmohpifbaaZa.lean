/-
  Plain laws on deterministic automata: classes of states by first occurrence, refined till they stand.
-/
import Derived.RowKit
set_option linter.unusedSimpArgs false
set_option linter.unusedVariables false
namespace Go.Proofs.Ytdpljpmohpifbaa
section first
variable {α β : Type} [DecidableEq α] [DecidableEq β]
/-- The values of f at 0 .. n - 1, each once, as they first come. -/
def firsts (f : Nat → α) : Nat → List α
  | 0 => []
  | n + 1 => if f n ∈ firsts f n then firsts f n else firsts f n ++ [f n]
theorem mem_firsts {f : Nat → α} {x : α} : ∀ {n : Nat}, x ∈ firsts f n ↔ ∃ i, i < n ∧ f i = x
  | 0 => by simp [firsts]
  | n + 1 => by
    rw [firsts]
    split
    · rename_i h
      rw [mem_firsts]
      constructor
      · rintro ⟨i, h1, h2⟩; exact ⟨i, by omega, h2⟩
      · rintro ⟨i, h1, h2⟩
        by_cases hi : i = n
        · subst hi; rw [h2, mem_firsts] at h; exact h
        · exact ⟨i, by omega, h2⟩
    · rw [List.mem_append, mem_firsts, List.mem_singleton]
      constructor
      · rintro (⟨i, h1, h2⟩ | rfl)
        · exact ⟨i, by omega, h2⟩
        · exact ⟨n, by omega, rfl⟩
      · rintro ⟨i, h1, h2⟩
        by_cases hi : i = n
        · subst hi; exact .inr h2.symm
        · exact .inl ⟨i, by omega, h2⟩
theorem firsts_nodup (f : Nat → α) : ∀ n, (firsts f n).Nodup
  | 0 => by simp [firsts]
  | n + 1 => by
    rw [firsts]
    split
    · exact firsts_nodup f n
    · rename_i h
      rw [List.nodup_append]
      exact ⟨firsts_nodup f n, by simp, fun a ha b hb => by simp at hb; subst hb; intro e; subst e; exact h ha⟩
theorem firsts_le (f : Nat → α) : ∀ n, (firsts f n).length ≤ n
  | 0 => by simp [firsts]
  | n + 1 => by
    have := firsts_le f n
    rw [firsts]; split
    · omega
    · simp; omega
theorem firsts_prefix (f : Nat → α) {n m : Nat} (h : n ≤ m) : firsts f n <+: firsts f m := by
  induction m with
  | zero =>
    have h0 : n = 0 := by omega
    subst h0; exact List.prefix_refl _
  | succ m ih =>
    by_cases hn : n = m + 1
    · subst hn; exact List.prefix_refl _
    · refine (ih (by omega)).trans ?_
      rw [firsts]; split
      · exact List.prefix_refl _
      · exact List.prefix_append _ _
theorem idxOf_prefix {l l' : List α} (h : l <+: l') {x : α} (hx : x ∈ l) : l'.idxOf x = l.idxOf x := by
  obtain ⟨t, rfl⟩ := h
  rw [List.idxOf_append, if_pos hx]
/-- The number of the class of i. -/
def rank (f : Nat → α) (n i : Nat) : Nat := (firsts f n).idxOf (f i)
theorem rank_at (f : Nat → α) {n i m : Nat} (hi : i < n) (hm : n ≤ m) : rank f m i = rank f n i := idxOf_prefix (firsts_prefix f hm) (mem_firsts.2 ⟨i, hi, rfl⟩)
theorem rank_lt (f : Nat → α) {n i : Nat} (hi : i < n) : rank f n i < (firsts f n).length := List.idxOf_lt_length_iff.2 (mem_firsts.2 ⟨i, hi, rfl⟩)
theorem rank_inj (f : Nat → α) {n i j : Nat} (hi : i < n) (hj : j < n) (h : rank f n i = rank f n j) : f i = f j := by
  have h1 := List.getElem_idxOf (rank_lt f hi)
  have h2 := List.getElem_idxOf (rank_lt f hj)
  rw [← h1, ← h2]
  unfold rank at h
  simp only [h]
  rfl
theorem rank_eq (f : Nat → α) {n i j : Nat} (hi : i < n) (hj : j < n) : rank f n i = rank f n j ↔ f i = f j := ⟨rank_inj f hi hj, fun h => by rw [rank, rank, h]⟩
/-- A finer one has at least as many classes; if it has as many, it is no finer. -/
theorem firsts_mono {f : Nat → α} {g : Nat → β} : ∀ n, (∀ i j, i < n → j < n → f i = f j → g i = g j) → (firsts g n).length ≤ (firsts f n).length
  | 0, _ => by simp [firsts]
  | n + 1, h => by
    have ih := firsts_mono n fun i j hi hj => h i j (by omega) (by omega)
    rw [firsts, firsts]
    split
    · split
      · exact ih
      · simp; omega
    · rename_i hg
      rw [if_neg]
      · simp; exact ih
      · intro hf
        obtain ⟨i, hi, he⟩ := mem_firsts.1 hf
        exact hg (mem_firsts.2 ⟨i, hi, h i n (by omega) (by omega) he⟩)
/-- Where one is new. -/
def New (f : Nat → α) (i : Nat) : Prop := f i ∉ firsts f i
theorem new_same {f : Nat → α} {g : Nat → β} : ∀ n, (∀ i j, i < n → j < n → f i = f j → g i = g j) → (firsts g n).length = (firsts f n).length → ∀ i, i < n → (New f i → New g i)
  | 0, _, _, i, hi, _ => by omega
  | n + 1, h, hl, i, hi, hf => by
    have hm := firsts_mono n fun i j hi hj => h i j (by omega) (by omega)
    have hgf : New g n → New f n := fun hg hf => by
      obtain ⟨i, hi, he⟩ := mem_firsts.1 hf
      exact hg (mem_firsts.2 ⟨i, hi, h i n (by omega) (by omega) he⟩)
    rw [firsts, firsts] at hl
    by_cases hg : g n ∈ firsts g n
    · rw [if_pos hg] at hl
      by_cases hf' : f n ∈ firsts f n
      · rw [if_pos hf'] at hl
        have ih := new_same n (fun i j hi hj => h i j (by omega) (by omega)) hl
        by_cases hin : i = n
        · subst hin; exact absurd hf' hf
        · exact ih i (by omega) hf
      · rw [if_neg hf'] at hl; simp at hl; omega
    · have hf' := hgf hg
      rw [if_neg hg, if_neg hf'] at hl
      simp at hl
      have ih := new_same n (fun i j hi hj => h i j (by omega) (by omega)) hl
      by_cases hin : i = n
      · subst hin; exact hg
      · exact ih i (by omega) hf
theorem first_of (f : Nat → α) : ∀ i, ∃ j, j ≤ i ∧ f j = f i ∧ New f j := by
  intro i
  induction i using Nat.strongRecOn with
  | ind i ih =>
    by_cases h : f i ∈ firsts f i
    · obtain ⟨j, hj, he⟩ := mem_firsts.1 h
      obtain ⟨k, h1, h2, h3⟩ := ih j hj
      exact ⟨k, by omega, h2.trans he, h3⟩
    · exact ⟨i, Nat.le_refl _, rfl, h⟩
theorem new_unique {f : Nat → α} {i j : Nat} (hi : New f i) (hj : New f j) (h : f i = f j) : i = j := by
  rcases Nat.lt_trichotomy i j with h1 | h1 | h1
  · exact absurd (mem_firsts.2 ⟨i, h1, h⟩) hj
  · exact h1
  · exact absurd (mem_firsts.2 ⟨j, h1, h.symm⟩) hi
theorem stands {f : Nat → α} {g : Nat → β} {n : Nat} (h : ∀ i j, i < n → j < n → f i = f j → g i = g j) (hl : (firsts g n).length = (firsts f n).length) {i j : Nat} (hi : i < n) (hj : j < n) (he : g i = g j) : f i = f j := by
  obtain ⟨a, ha, ha1, ha2⟩ := first_of f i
  obtain ⟨b, hb, hb1, hb2⟩ := first_of f j
  have h1 := new_same n h hl a (by omega) ha2
  have h2 := new_same n h hl b (by omega) hb2
  have h3 : a = b := new_unique h1 h2 (by rw [h a i (by omega) hi ha1, h b j (by omega) hj hb1, he])
  rw [← ha1, ← hb1, h3]
end first
end Go.Proofs.Ytdpljpmohpifbaa
