/-
  What stands at a text's beginning; the tokens of a text, in plain words.
-/
import Derived.Test.YtjjpmbaddpiamaaDoorWbc
import Derived.Test.YtjjpmbaddpiamaaDoorZ15
import Derived.Lib.IndexLaws
set_option linter.unusedSimpArgs false
set_option linter.unusedVariables false
set_option maxHeartbeats 4000000
namespace Go.Proofs.YtjjpmbaddpiamaaDoor
open Go.RowKit
attribute [local irreducible] Wk Tr
theorem ext_list (s : ByteArray) (a b : Nat) : (s.extract a b).data.toList = (s.data.toList.drop a).take (b - a) := Lib.extract_data s a b
theorem sz_list (s : ByteArray) : s.size = s.data.toList.length := by rw [Array.length_toList]; rfl
theorem bt_list (s : ByteArray) (j : Nat) : bt s j = ((s.data.toList[j]?.map fun c => (c.toNat : Int)).getD 0) := by
  unfold bt
  split
  · rename_i h
    rw [sz_list] at h
    rw [List.getElem?_eq_getElem h]; rfl
  · rename_i h
    rw [sz_list] at h
    rw [List.getElem?_eq_none (by omega)]; rfl
theorem bt_ext (s : ByteArray) {a b j : Nat} (hb : b ≤ s.size) (hj : a + j < b) : bt (s.extract a b) j = bt s (a + j) := by
  rw [bt_list, bt_list, ext_list, List.getElem?_take_of_lt (by omega), List.getElem?_drop]
theorem sz_ext (s : ByteArray) {a b : Nat} (hb : b ≤ s.size) : (s.extract a b).size = b - a := by
  rw [sz_list, ext_list, List.length_take, List.length_drop, ← sz_list]; omega
theorem bt_u8 {s : ByteArray} {j : Nat} (hj : j < s.size) (c : UInt8) : s.data.toList[j]? = some c ↔ bt s j = (c.toNat : Int) := by
  rw [bt_list]
  rw [sz_list] at hj
  rw [List.getElem?_eq_getElem hj]
  simp only [Option.map_some, Option.getD_some, Option.some.injEq]
  constructor
  · intro h; rw [h]
  · intro h; exact UInt8.toNat_inj.1 (by omega)
/-- Where the next line ends. -/
theorem nl_spec (s : ByteArray) (i : Nat) : (Lib.indexByte (s.extract i s.size).data.toList 10 = -1 ∧ ∀ j, i ≤ j → j < s.size → bt s j ≠ 10) ∨ ∃ k : Nat, Lib.indexByte (s.extract i s.size).data.toList 10 = (k : Int) ∧ i + k < s.size ∧ bt s (i + k) = 10 ∧ ∀ j, i ≤ j → j < i + k → bt s j ≠ 10 := by
  have hl : (s.extract i s.size).data.toList = s.data.toList.drop i := by
    rw [ext_list, List.take_of_length_le (by rw [List.length_drop, ← sz_list]; omega)]
  rw [hl]
  have key : ∀ j, i ≤ j → j < s.size → ((s.data.toList.drop i)[j - i]? = some (10 : UInt8) ↔ bt s j = 10) := fun j h1 h2 => by
    rw [List.getElem?_drop, show i + (j - i) = j by omega]
    exact bt_u8 h2 10
  by_cases h : Lib.indexByte (s.data.toList.drop i) 10 = -1
  · refine .inl ⟨h, fun j h1 h2 h3 => ?_⟩
    exact Lib.indexByte_none h (j - i) ((key j h1 h2).2 h3)
  · have hge := Lib.indexByte_ge (s.data.toList.drop i) 10
    obtain ⟨k, hk⟩ : ∃ k : Nat, Lib.indexByte (s.data.toList.drop i) 10 = (k : Int) := ⟨(Lib.indexByte (s.data.toList.drop i) 10).toNat, by omega⟩
    obtain ⟨h1, h2⟩ := Lib.indexByte_some hk
    have hlt : i + k < s.size := by
      have := (List.getElem?_eq_some_iff.1 h1).1
      rw [List.length_drop, ← sz_list] at this; omega
    refine .inr ⟨k, hk, hlt, ?_, fun j h3 h4 h5 => ?_⟩
    · refine (key (i + k) (by omega) hlt).1 ?_
      rw [show i + k - i = k by omega]; exact h1
    · exact h2 (j - i) (by omega) ((key j h3 (by omega)).2 h5)
/-- What stands at a text's beginning: how many bytes, and its kind. -/
def pieceN (s : ByteArray) : Nat × Int :=
  if letB (bt s 0) = true then (rowN alnB s, 1)
  else if digB (bt s 0) = true then (rowN digB s, 2)
  else if (decide (bt s 0 = 45) && digB (bt s 1)) = true then (1 + rowN digB (s.extract 1 s.size), 2)
  else if Lib.hasPrefix s.data.toList [45, 62] = true then (2, 3) else (1, 3)
theorem rowN_pos {p : Int → Bool} {s : ByteArray} (h0 : 0 < s.size) (h : p (bt s 0) = true) : 1 ≤ rowN p s := by
  obtain ⟨h1, h2, h3⟩ := rowN_spec p s
  rcases Nat.eq_zero_or_pos (rowN p s) with h4 | h4
  · rw [h4] at h2
    rcases h2 with h2 | h2
    · omega
    · rw [h2] at h; cases h
  · exact h4
theorem alnB_let {c : Int} (h : letB c = true) : alnB c = true := by rw [alnB, h]; rfl
theorem pieceN_le {s : ByteArray} (h0 : 0 < s.size) : 1 ≤ (pieceN s).1 ∧ (pieceN s).1 ≤ s.size := by
  unfold pieceN
  split
  · rename_i h; exact ⟨rowN_pos h0 (alnB_let h), (rowN_spec _ _).1⟩
  · split
    · rename_i h; exact ⟨rowN_pos h0 h, (rowN_spec _ _).1⟩
    · split
      · have := (rowN_spec digB (s.extract 1 s.size)).1
        rw [sz_ext s (Nat.le_refl _)] at this
        dsimp only; omega
      · split
        · rename_i h
          have h1 := (List.isPrefixOf_iff_prefix.1 h).length_le
          rw [← sz_list] at h1
          dsimp only; simp at h1; omega
        · dsimp only; omega
structure Tok where
  kind : Int
  text : ByteArray
  line : Nat
  col : Nat
abbrev tokL (t : Tok) : List V := [iV t.kind, .str t.text, iV t.line, iV t.col]
abbrev tokV (t : Tok) : V := .agg (tokL t)
/-- The tokens from place i on, in a line and column; where none can be. -/
def tkz (s : ByteArray) : Nat → Nat → Nat → Nat → List Tok × Option (Nat × Nat)
  | 0, _, _, _ => ([], none)
  | f + 1, i, ln, cl =>
    if i < s.size then
      if bt s i = 10 then tkz s f (i + 1) (ln + 1) 1
      else if bt s i = 9 ∨ bt s i = 13 ∨ bt s i = 32 then tkz s f (i + 1) ln (cl + 1)
      else if bt s i = 35 then
        if Lib.indexByte (s.extract i s.size).data.toList 10 < 0 then ([], none)
        else tkz s f (i + (Lib.indexByte (s.extract i s.size).data.toList 10).toNat) ln (cl + (Lib.indexByte (s.extract i s.size).data.toList 10).toNat)
      else if rightB (s.extract i (i + (pieceN (s.extract i s.size)).1)) (pieceN (s.extract i s.size)).2 = true then
        (⟨(pieceN (s.extract i s.size)).2, s.extract i (i + (pieceN (s.extract i s.size)).1), ln, cl⟩ :: (tkz s f (i + (pieceN (s.extract i s.size)).1) ln (cl + (pieceN (s.extract i s.size)).1)).1, (tkz s f (i + (pieceN (s.extract i s.size)).1) ln (cl + (pieceN (s.extract i s.size)).1)).2)
      else ([], some (ln, cl))
    else ([], none)
def tks (s : ByteArray) : List Tok × Option (Nat × Nat) := tkz s (s.size + 1) 0 1 1

theorem pieceP (s : ByteArray) (h0 : 0 < s.size) (hs : s.size ≤ 281474976710656) : FnC Tryd.prog 34 [.str s] (fun r => r = .tup [iV (pieceN s).1, iV (pieceN s).2]) := by
  refine FnC.of (fn := Tryd.f34) ⟨Tryd.func34, by kernel_rfl, rfl⟩ Tryd.ntmps34 (by simp) fun w0 S0 => ?_
  refine p_go fun hf => ?_
  refine p_call (hx := rfl) (hb := ⟨Tryd.func40, by kernel_rfl, rfl⟩) (hf := atP s 0) (h := ?_)
  refine p_go fun hf => ?_
  refine p_call (hx := rfl) (hb := ⟨Tryd.func39, by kernel_rfl, rfl⟩) (hf := letterP _) (h := ?_)
  refine p_go ?_
  refine p_splitC (s := 7) (ht := fun hc7 => ?_) (hf := fun hc7 => ?_)
  · refine p_go fun hf => ?_
    refine p_call (hx := rfl) (hb := ⟨Tryd.func41, by kernel_rfl, rfl⟩) (hf := rowP ⟨Tryd.func62, by kernel_rfl, rfl⟩ alnQ (fun c => alnB_lt) s) (h := ?_)
    refine p_go ?_
    refine p_r2 (hp := by rw [pieceN, if_pos hc7])
  · refine p_go fun hf => ?_
    refine p_call (hx := rfl) (hb := ⟨Tryd.func43, by kernel_rfl, rfl⟩) (hf := digitP _) (h := ?_)
    refine p_go ?_
    refine p_splitC (s := 12) (ht := fun hc12 => ?_) (hf := fun hc12 => ?_)
    · refine p_go fun hf => ?_
      refine p_call (hx := rfl) (hb := ⟨Tryd.func41, by kernel_rfl, rfl⟩) (hf := rowP ⟨Tryd.func43, by kernel_rfl, rfl⟩ digitP (fun c => digB_lt) s) (h := ?_)
      refine p_go ?_
      refine p_r2 (hp := by rw [pieceN, if_neg (by rw [hc7]; simp), if_pos hc12])
    · refine p_go fun hf => ?_
      refine p_split (s := 20) (ht := fun hb20 => ?_) (hf := fun hb20 => ?_)
      · -- slot 20 is true
        refine p_go fun hf => ?_
        refine p_call (hx := rfl) (hb := ⟨Tryd.func40, by kernel_rfl, rfl⟩) (hf := atP s 1) (h := ?_)
        refine p_go fun hf => ?_
        refine p_call (hx := rfl) (hb := ⟨Tryd.func43, by kernel_rfl, rfl⟩) (hf := digitP _) (h := ?_)
        refine p_go ?_
        refine p_splitC (s := 17) (ht := fun hc17 => ?_) (hf := fun hc17 => ?_)
        · have hrl := (rowN_spec digB (s.extract 1 s.size)).1
          rw [sz_ext s (Nat.le_refl _)] at hrl
          refine p_go fun hf => ?_
          refine p_strTail (h' := 1) (hh := h0) (h := ?_)
          refine p_call (hx := rfl) (hb := ⟨Tryd.func41, by kernel_rfl, rfl⟩) (hf := rowP ⟨Tryd.func43, by kernel_rfl, rfl⟩ digitP (fun c => digB_lt) (s.extract 1 s.size)) (h := ?_)
          refine p_add (r := ((1 + rowN digB (s.extract 1 s.size) : Nat) : Int)) (hr := (by first | omega | (simp only [decide_eq_true_eq, decide_eq_false_iff_not, Bool.or_eq_false_iff, Bool.and_eq_true, Bool.not_eq_true', Bool.not_eq_false'] at *; omega))) (hb := (by first | omega | (simp only [decide_eq_true_eq, decide_eq_false_iff_not, Bool.or_eq_false_iff, Bool.and_eq_true, Bool.not_eq_true', Bool.not_eq_false'] at *; omega))) (h := ?_)
          refine p_go ?_
          refine p_r2 (hp := by rw [pieceN, if_neg (by rw [hc7]; simp), if_neg (by rw [hc12]; simp), if_pos (by rw [hb20, hc17]; rfl)])
        · refine p_go fun hf => ?_
          refine p_call (hx := rfl) (hb := ⟨Tryd.func63, by kernel_rfl, rfl⟩) (hf := hasPrefix s ⟨#[45, 62]⟩) (h := ?_)
          refine p_go ?_
          refine p_splitC (s := 29) (ht := fun hc29 => ?_) (hf := fun hc29 => ?_)
          · refine p_go ?_
            refine p_r2 (hp := by rw [pieceN, if_neg (by rw [hc7]; simp), if_neg (by rw [hc12]; simp), if_neg (by rw [hb20, hc17]; simp), if_pos hc29]; rfl)
          · refine p_go ?_
            refine p_r2 (hp := by rw [pieceN, if_neg (by rw [hc7]; simp), if_neg (by rw [hc12]; simp), if_neg (by rw [hb20, hc17]; simp), if_neg (by have h := hc29; simpa using h)]; rfl)
      · -- slot 20 is false
        refine p_go fun hf => ?_
        refine p_call (hx := rfl) (hb := ⟨Tryd.func63, by kernel_rfl, rfl⟩) (hf := hasPrefix s ⟨#[45, 62]⟩) (h := ?_)
        refine p_go ?_
        refine p_splitC (s := 29) (ht := fun hc29 => ?_) (hf := fun hc29 => ?_)
        · refine p_go ?_
          refine p_r2 (hp := by rw [pieceN, if_neg (by rw [hc7]; simp), if_neg (by rw [hc12]; simp), if_neg (by rw [hb20]; simp), if_pos hc29]; rfl)
        · refine p_go ?_
          refine p_r2 (hp := by rw [pieceN, if_neg (by rw [hc7]; simp), if_neg (by rw [hc12]; simp), if_neg (by rw [hb20]; simp), if_neg (by have h := hc29; simpa using h)]; rfl)

end Go.Proofs.YtjjpmbaddpiamaaDoor
