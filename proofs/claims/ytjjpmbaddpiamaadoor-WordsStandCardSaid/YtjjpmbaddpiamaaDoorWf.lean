/-
  Lines and columns of places of a text, in plain words; each token stands where it says.
-/
import Derived.Test.YtjjpmbaddpiamaaDoorWe
set_option linter.unusedSimpArgs false
set_option linter.unusedVariables false
set_option maxHeartbeats 4000000
namespace Go.Proofs.YtjjpmbaddpiamaaDoor
open Go.RowKit
attribute [local irreducible] Wk Tr
/-- The line of a place; where this line begins. -/
def lnN (s : ByteArray) : Nat → Nat
  | 0 => 1
  | i + 1 => if bt s i = 10 then lnN s i + 1 else lnN s i
def stN (s : ByteArray) : Nat → Nat
  | 0 => 0
  | i + 1 => if bt s i = 10 then i + 1 else stN s i
theorem ln_le (s : ByteArray) : ∀ i, lnN s i ≤ i + 1
  | 0 => by rw [lnN]; omega
  | i + 1 => by rw [lnN]; have := ln_le s i; split <;> omega
theorem st_le (s : ByteArray) : ∀ i, stN s i ≤ i
  | 0 => by rw [stN]; omega
  | i + 1 => by rw [stN]; have := st_le s i; split <;> omega
theorem ln_mono (s : ByteArray) {i : Nat} : ∀ {j : Nat}, i ≤ j → lnN s i ≤ lnN s j
  | 0, h => by obtain rfl : i = 0 := by omega
               exact Nat.le_refl _
  | j + 1, h => by
    by_cases h1 : i = j + 1
    · rw [h1]; exact Nat.le_refl _
    · have := ln_mono s (i := i) (j := j) (by omega)
      rw [lnN]; split <;> omega
theorem st_ln (s : ByteArray) : ∀ i, lnN s (stN s i) = lnN s i ∧ (stN s i = 0 ∨ bt s (stN s i - 1) = 10)
  | 0 => by rw [stN]; exact ⟨rfl, .inl rfl⟩
  | i + 1 => by
    rw [stN]
    split
    · rename_i h; exact ⟨rfl, .inr h⟩
    · rename_i h
      have h1 := st_ln s i
      refine ⟨?_, h1.2⟩
      rw [h1.1, lnN, if_neg h]
theorem st_before (s : ByteArray) {i j : Nat} (h : j < stN s i) : lnN s j < lnN s i := by
  obtain ⟨h1, h2⟩ := st_ln s i
  rcases h2 with h2 | h2
  · omega
  · obtain ⟨k, hk⟩ : ∃ k, stN s i = k + 1 := ⟨stN s i - 1, by omega⟩
    rw [hk] at h1 h2 h
    rw [show k + 1 - 1 = k by omega] at h2
    rw [← h1, lnN, if_pos h2]
    have := ln_mono s (i := j) (j := k) (by omega)
    omega
theorem no_nl (s : ByteArray) (i : Nat) : ∀ k, (∀ j, i ≤ j → j < i + k → bt s j ≠ 10) → lnN s (i + k) = lnN s i ∧ stN s (i + k) = stN s i
  | 0, _ => ⟨rfl, rfl⟩
  | k + 1, h => by
    obtain ⟨h1, h2⟩ := no_nl s i k fun j a b => h j a (by omega)
    have h3 := h (i + k) (by omega) (by omega)
    rw [show i + (k + 1) = (i + k) + 1 by omega, lnN, stN, if_neg h3, if_neg h3]
    exact ⟨h1, h2⟩
theorem st_none (s : ByteArray) {p : Nat} (h : ∀ j, j < p → bt s j ≠ 10) : stN s p = 0 := by
  have := (no_nl s 0 p fun j _ hj => h j (by omega)).2
  rw [Nat.zero_add] at this
  exact this
theorem st_last (s : ByteArray) {p i : Nat} (hi : i < p) (h : bt s i = 10) (hn : ∀ j, i < j → j < p → bt s j ≠ 10) : stN s p = i + 1 := by
  have := (no_nl s (i + 1) (p - (i + 1)) fun j h1 h2 => hn j (by omega) (by omega)).2
  rw [show i + 1 + (p - (i + 1)) = p by omega] at this
  rw [this, stN, if_pos h]
theorem count_ln (s : ByteArray) : ∀ p, p ≤ s.size → 1 + (s.data.toList.take p).count 10 = lnN s p
  | 0, _ => rfl
  | p + 1, hp => by
    have h1 := count_ln s p (by omega)
    have hlt : p < s.data.toList.length := by rw [← sz_list]; omega
    rw [List.take_add_one, List.getElem?_eq_getElem hlt, Option.toList_some, List.count_append, lnN]
    have hb : (s.data.toList[p] = 10) ↔ bt s p = 10 := by
      have := bt_u8 (s := s) (j := p) (by omega) 10
      rw [List.getElem?_eq_getElem hlt, Option.some.injEq] at this
      exact this
    by_cases h : bt s p = 10
    · rw [if_pos h, hb.2 h]; simp; omega
    · rw [if_neg h, List.count_cons_of_ne (fun e => h (hb.1 e)), List.count_nil]; omega
theorem ext0_list (s : ByteArray) (p : Nat) : (s.extract 0 p).data.toList = s.data.toList.take p := by rw [ext_list, List.drop_zero, Nat.sub_zero]
theorem data_bt (s : ByteArray) {j : Nat} (hj : j < s.size) : ((s.data[j]!).toNat : Int) = bt s j := by
  rw [bt_lt hj]
  have hj' : j < s.data.size := hj
  rw [getElem!_pos s.data j hj']
  rfl
theorem last_st (s : ByteArray) {p : Nat} (hp : p ≤ s.size) : Lib.lastIndexByte (s.extract 0 p) 10 = (stN s p : Int) - 1 := by
  have hsz : (s.extract 0 p).size = p := by rw [sz_ext s hp]; omega
  have hb : ∀ j, j < p → (((s.extract 0 p).data[j]!).toNat : Int) = bt s j := fun j hj => by
    rw [data_bt _ (by omega), bt_ext s hp (by omega), Nat.zero_add]
  unfold Lib.lastIndexByte
  rw [hsz]
  rcases Lib.lastIdx_spec (s.extract 0 p) 10 p with ⟨h1, h2⟩ | ⟨i, h1, h2, h3, h4⟩
  · rw [h1, st_none s fun j hj => by rw [← hb j hj]; exact h2 j hj]; rfl
  · rw [h2, st_last s h1 (by rw [← hb i h1]; exact h3) fun j h5 h6 => by rw [← hb j h6]; exact h4 j h5 h6]
    omega
/-- Tokens that stand one behind the other from a place on. -/
def Laid (s : ByteArray) : Nat → List Tok → Prop
  | _, [] => True
  | lo, t :: r => ∃ p, lo ≤ p ∧ 1 ≤ t.text.size ∧ p + t.text.size ≤ s.size ∧ t.text = s.extract p (p + t.text.size) ∧ t.line = lnN s p ∧ t.col = p - stN s p + 1 ∧ Laid s (p + t.text.size) r
theorem Laid.low {s : ByteArray} {lo lo' : Nat} (h : lo' ≤ lo) : ∀ {r : List Tok}, Laid s lo r → Laid s lo' r
  | [], _ => trivial
  | t :: r, ⟨p, h1, h2⟩ => ⟨p, by omega, h2⟩
theorem hasP {s : ByteArray} (h : Lib.hasPrefix s.data.toList [45, 62] = true) : bt s 1 = 62 := by
  obtain ⟨t, ht⟩ := List.isPrefixOf_iff_prefix.1 h
  rw [bt_list, ← ht]; rfl
/-- No line ends within what stands at a text's beginning. -/
theorem piece_nl {s : ByteArray} (h0 : 0 < s.size) (hb : bt s 0 ≠ 10) : ∀ j, j < (pieceN s).1 → bt s j ≠ 10 := by
  unfold pieceN
  have hrow : ∀ p : Int → Bool, p 10 = false → ∀ u : ByteArray, ∀ j, j < rowN p u → bt u j ≠ 10 := fun p hp u j hj h => by
    have := (rowN_spec p u).2.2 j hj
    rw [h, hp] at this; cases this
  split
  · exact hrow alnB rfl s
  · split
    · exact hrow digB rfl s
    · split
      · intro j hj
        dsimp only at hj
        have hle := (rowN_spec digB (s.extract 1 s.size)).1
        rw [sz_ext s (Nat.le_refl _)] at hle
        cases j with
        | zero => exact hb
        | succ j =>
          have := hrow digB rfl (s.extract 1 s.size) j (by omega)
          rw [bt_ext s (Nat.le_refl _) (by omega)] at this
          rw [show j + 1 = 1 + j by omega]; exact this
      · split
        · rename_i h
          intro j hj
          dsimp only at hj
          have := hasP h
          match j, hj with
          | 0, _ => exact hb
          | 1, _ => rw [this]; decide
        · intro j hj
          dsimp only at hj
          obtain rfl : j = 0 := by omega
          exact hb
theorem tkz_laid (s : ByteArray) : ∀ f i, i ≤ s.size → Laid s i (tkz s f i (lnN s i) (i - stN s i + 1)).1
  | 0, _, _ => trivial
  | f + 1, i, hi => by
    have hst := st_le s i
    rw [tkz]
    split
    · rename_i hlt
      split
      · rename_i h10
        have h := tkz_laid s f (i + 1) (by omega)
        rw [lnN, stN, if_pos h10, if_pos h10, Nat.sub_self] at h
        exact h.low (by omega)
      · rename_i h10
        have h1 : lnN s (i + 1) = lnN s i := by rw [lnN, if_neg h10]
        have h2 : stN s (i + 1) = stN s i := by rw [stN, if_neg h10]
        split
        · have h := tkz_laid s f (i + 1) (by omega)
          rw [h1, h2, show i + 1 - stN s i + 1 = i - stN s i + 1 + 1 by omega] at h
          exact h.low (by omega)
        · split
          · split
            · trivial
            · rename_i hk
              rcases nl_spec s i with ⟨h3, _⟩ | ⟨k, h3, h4, h5, h6⟩
              · rw [h3] at hk; exact absurd hk (by decide)
              · rw [h3, Int.toNat_natCast]
                obtain ⟨h7, h8⟩ := no_nl s i k h6
                have h := tkz_laid s f (i + k) (by omega)
                rw [h7, h8, show i + k - stN s i + 1 = i - stN s i + 1 + k by omega] at h
                exact h.low (by omega)
          · split
            · have hsz := sz_ext s (a := i) (Nat.le_refl s.size)
              have hp := pieceN_le (s := s.extract i s.size) (by omega)
              have hpn := piece_nl (s := s.extract i s.size) (by omega) (by rw [bt_ext s (Nat.le_refl _) (by omega)]; exact h10)
              generalize pieceN (s.extract i s.size) = pc at hp hpn ⊢
              have hez := sz_ext s (a := i) (b := i + pc.1) (by omega)
              obtain ⟨h7, h8⟩ := no_nl s i pc.1 fun j ha hb => by
                have := hpn (j - i) (by omega)
                rw [bt_ext s (Nat.le_refl _) (by omega), show i + (j - i) = j by omega] at this
                exact this
              have h := tkz_laid s f (i + pc.1) (by omega)
              rw [h7, h8, show i + pc.1 - stN s i + 1 = i - stN s i + 1 + pc.1 by omega] at h
              refine ⟨i, Nat.le_refl _, ?_, ?_, ?_, rfl, rfl, ?_⟩
              · dsimp only; omega
              · dsimp only; omega
              · dsimp only; rw [hez, show i + (i + pc.1 - i) = i + pc.1 by omega]
              · dsimp only; rw [hez, show i + (i + pc.1 - i) = i + pc.1 by omega]; exact h
            · trivial
    · trivial
theorem tks_laid (s : ByteArray) : Laid s 0 (tks s).1 := tkz_laid s _ 0 (Nat.zero_le _)
end Go.Proofs.YtjjpmbaddpiamaaDoor
