/-
  Expressions as data; letters, names, which expressions may be: the program's and the reference's functions.
-/
import Derived.Test.YtjdhkopjigijfaaZ10
import Derived.Test.YtjdhkopjigijfaaF
set_option linter.unusedSimpArgs false
set_option linter.unusedVariables false
set_option maxHeartbeats 4000000
namespace Go.Proofs.Ytjdhkopjigijfaa
open Go.RowKit
attribute [local irreducible] Wk Tr
abbrev iV (n : Int) : V := .int .i64 n
/-- An expression. -/
inductive Rx where
  | mk (op : Int) (name : ByteArray) (kids : List Rx)
namespace Rx
def op : Rx → Int | .mk a _ _ => a
def name : Rx → ByteArray | .mk _ a _ => a
def kids : Rx → List Rx | .mk _ _ a => a
end Rx
mutual
theorem Rx.indA {p : Rx → Prop} (h : ∀ r, (∀ k ∈ r.kids, p k) → p r) : ∀ r, p r
  | .mk a b l => h _ (Rx.indL h l)
theorem Rx.indL {p : Rx → Prop} (h : ∀ r, (∀ k ∈ r.kids, p k) → p r) : ∀ (l : List Rx), ∀ k ∈ l, p k
  | [], k, hk => by cases hk
  | x :: l, k, hk => by
    rcases List.mem_cons.1 hk with h1 | h1
    · exact h1 ▸ Rx.indA h x
    · exact Rx.indL h l k h1
end
theorem Rx.ind {p : Rx → Prop} (r : Rx) (h : ∀ r, (∀ k ∈ r.kids, p k) → p r) : p r := Rx.indA h r
mutual
def rxV : Rx → V
  | .mk o n ks => .agg [iV o, .str n, .sl 25 (rxVs ks)]
def rxVs : List Rx → List V
  | [] => []
  | w :: l => rxV w :: rxVs l
end
theorem rxVs_eq : ∀ l : List Rx, rxVs l = l.map rxV
  | [] => rfl
  | w :: l => by rw [rxVs, rxVs_eq l]; rfl
abbrev rxL (r : Rx) : List V := [iV r.op, .str r.name, .sl 25 (r.kids.map rxV)]
abbrev rxA (r : Rx) : V := .agg (rxL r)
theorem rxV_eq (r : Rx) : rxV r = .agg (rxL r) := by cases r; rw [rxV, rxVs_eq]; rfl
theorem rxV_cells (r : Rx) : (rxV r).cells = rxL r := by rw [rxV_eq]; rfl
/-- No row of an expression is too long. -/
inductive Rx.Sm : Rx → Prop
  | mk {r : Rx} : r.kids.length ≤ 17592186044416 → (∀ k ∈ r.kids, Rx.Sm k) → Rx.Sm r
theorem Rx.Sm.len {r : Rx} (h : r.Sm) : r.kids.length ≤ 17592186044416 := by cases h; assumption
theorem Rx.Sm.kids {r : Rx} (h : r.Sm) : ∀ k ∈ r.kids, Rx.Sm k := by cases h; assumption
def letB (c : Int) : Bool := decide (97 ≤ c) && decide (c ≤ 122) || decide (65 ≤ c) && decide (c ≤ 90) || decide (c = 95)
def digB (c : Int) : Bool := decide (48 ≤ c) && decide (c ≤ 57)
def alnB (c : Int) : Bool := letB c || digB c
def nameB (s : ByteArray) : Bool := !(decide (s = ⟨#[]⟩) || decide (64 < (s.size : Int)) || !letB (bt s 0)) && decide (∀ j < s.size, alnB (bt s j) = true)
theorem size_pos {s : ByteArray} (h : s ≠ ⟨#[]⟩) : 0 < s.size := by
  obtain ⟨⟨l⟩⟩ := s
  cases l with
  | nil => exact absurd rfl h
  | cons a l => simp [ByteArray.size]

theorem letterP (c : Int) : FnC Try.prog 99 [.int .u8 c] (fun r => r = .bool (letB c)) := by
  refine FnC.of (fn := Try.f99) ⟨Try.func99, by kernel_rfl, rfl⟩ Try.ntmps99 (by simp) fun w0 S0 => ?_
  refine p_go ?_
  refine p_ret1 (hp := by rfl)

theorem digitP (c : Int) : FnC Try.prog 100 [.int .u8 c] (fun r => r = .bool (digB c)) := by
  refine FnC.of (fn := Try.f100) ⟨Try.func100, by kernel_rfl, rfl⟩ Try.ntmps100 (by simp) fun w0 S0 => ?_
  refine p_go ?_
  refine p_ret1 (hp := by rfl)

theorem letterR (c : Int) : FnC Try.prog 105 [.int .u8 c] (fun r => r = .bool (letB c)) := by
  refine FnC.of (fn := Try.f105) ⟨Try.func105, by kernel_rfl, rfl⟩ Try.ntmps105 (by simp) fun w0 S0 => ?_
  refine p_go ?_
  refine p_ret1 (hp := by rfl)

theorem digitR (c : Int) : FnC Try.prog 108 [.int .u8 c] (fun r => r = .bool (digB c)) := by
  refine FnC.of (fn := Try.f108) ⟨Try.func108, by kernel_rfl, rfl⟩ Try.ntmps108 (by simp) fun w0 S0 => ?_
  refine p_go ?_
  refine p_ret1 (hp := by rfl)

theorem flipF {b : Bool} (h : (!b) = false) : b = true := by simpa using h
theorem flipT {b : Bool} (h : (!b) = true) : b = false := by simpa using h
theorem ext_lt {p : Nat → Prop} {i : Nat} (h : ∀ j < i, p j) (hi : p i) : ∀ j < i + 1, p j := fun j hj => by
  rcases Nat.lt_succ_iff_lt_or_eq.1 hj with h1 | rfl
  · exact h j h1
  · exact hi

theorem nameP (s : ByteArray) : FnC Try.prog 74 [.str s] (fun r => r = .bool (nameB s)) := by
  refine FnC.of (fn := Try.f74) ⟨Try.func74, by kernel_rfl, rfl⟩ Try.ntmps74 (by simp) fun w0 S0 => ?_
  refine p_go fun hf => ?_
  refine p_strOp (h := ?_)
  refine p_go fun hf => ?_
  refine p_split (s := 11) (ht := fun hb11 => ?_) (hf := fun hb11 => ?_)
  · -- slot 11 is true
    refine p_go ?_
    refine p_ret1 (hp := by unfold nameB; rw [hb11]; rfl)
  · -- slot 11 is false
    refine p_go fun hf => ?_
    refine p_idxB (0) (hj := size_pos (by intro h; subst h; simp at hb11)) (h := ?_)
    refine p_go fun hf => ?_
    refine p_call (hx := rfl) (hb := ⟨Try.func99, by kernel_rfl, rfl⟩) (hf := letterP _) (h := ?_)
    refine p_go ?_
    refine p_splitC (s := 16) (ht := fun hc16 => ?_) (hf := fun hc16 => ?_)
    · refine p_go ?_
      refine p_ret1 (hp := by unfold nameB; rw [hb11, hc16]; rfl)
    · refine p_go ?_
      refine p_loopK [0, 18] [] (fun st => ∃ i : Nat, (i ≤ s.size) ∧ (∀ j < i, alnB (bt s j) = true) ∧ st.env 19 = iV i) (fun st => s.size - (st.env 19).toN) ?_ fun e ob g1 hK hO hI => ?_
      · exact ⟨0, by omega, by omega, eV_⟩
      · obtain ⟨i, hi, hn, e19⟩ := hI
        dsimp only at e19
        simp only [valsE, List.cons.injEq, and_true] at hK
        have hE := (⟨hK, e19⟩ : _ ∧ _)
        refine p_go ?_
        refine p_splitC (s := 20) (ht := fun hc20 => ?_) (hf := fun hc20 => ?_)
        · have hlt : i < s.size := by simpa using hc20
          refine p_go fun hf => ?_
          refine p_idxB (i) (hj := hlt) (h := ?_)
          refine p_call (hx := rfl) (hb := ⟨Try.func99, by kernel_rfl, rfl⟩) (hf := letterP _) (h := ?_)
          refine p_go fun hf => ?_
          refine p_split (s := 27) (ht := fun hb27 => ?_) (hf := fun hb27 => ?_)
          · -- slot 27 is true
            refine p_go fun hf => ?_
            refine p_idxB (i) (hj := hlt) (h := ?_)
            refine p_go fun hf => ?_
            refine p_call (hx := rfl) (hb := ⟨Try.func100, by kernel_rfl, rfl⟩) (hf := digitP _) (h := ?_)
            refine p_go ?_
            refine p_splitC (s := 33) (ht := fun hc33 => ?_) (hf := fun hc33 => ?_)
            · refine p_go ?_
              refine p_ret1 (hp := by unfold nameB; rw [hb11, hc16]; congr 1; symm; simp only [Bool.or_false, Bool.not_false, Bool.true_and, decide_eq_false_iff_not]; intro h; have h1 := h i hlt; simp only [alnB, Bool.or_eq_true] at h1; simp_all)
            · refine p_go fun hf => ?_
              refine p_add (r := ((i + 1 : Nat) : Int)) (hr := (by first | omega | (simp only [decide_eq_true_eq, decide_eq_false_iff_not, Bool.or_eq_false_iff, Bool.and_eq_true, Bool.not_eq_true', Bool.not_eq_false'] at *; omega))) (hb := (by first | omega | (simp only [decide_eq_true_eq, decide_eq_false_iff_not, Bool.or_eq_false_iff, Bool.and_eq_true, Bool.not_eq_true', Bool.not_eq_false'] at *; omega))) (h := ?_)
              refine p_go ?_
              refine p_some ?_
              refine ⟨⟨(by simp (decide := true) only [valsE, evE, upd, cv, args0, argsFrom, List.length_map, ↓reduceIte, hE] <;> rfl), (by simp (decide := true) only [valsO, updO, upd, true_and, and_true, false_and, and_false, ↓reduceIte, hE] <;> rfl)⟩, ⟨i + 1, hlt, ext_lt hn (by rw [alnB, flipF hc33, Bool.or_true]), eV_⟩, ?_⟩
              simp (decide := true) only [upd, e19, V.toN, ↓reduceIte]; omega
          · -- slot 27 is false
            refine p_go fun hf => ?_
            refine p_add (r := ((i + 1 : Nat) : Int)) (hr := (by first | omega | (simp only [decide_eq_true_eq, decide_eq_false_iff_not, Bool.or_eq_false_iff, Bool.and_eq_true, Bool.not_eq_true', Bool.not_eq_false'] at *; omega))) (hb := (by first | omega | (simp only [decide_eq_true_eq, decide_eq_false_iff_not, Bool.or_eq_false_iff, Bool.and_eq_true, Bool.not_eq_true', Bool.not_eq_false'] at *; omega))) (h := ?_)
            refine p_go ?_
            refine p_some ?_
            refine ⟨⟨(by simp (decide := true) only [valsE, evE, upd, cv, args0, argsFrom, List.length_map, ↓reduceIte, hE] <;> rfl), (by simp (decide := true) only [valsO, updO, upd, true_and, and_true, false_and, and_false, ↓reduceIte, hE] <;> rfl)⟩, ⟨i + 1, hlt, ext_lt hn (by rw [alnB, flipF hb27, Bool.true_or]), eV_⟩, ?_⟩
            simp (decide := true) only [upd, e19, V.toN, ↓reduceIte]; omega
        · refine p_go ?_
          refine p_ret1 (hp := by unfold nameB; rw [hb11, hc16]; congr 1; symm; simp only [Bool.or_false, Bool.not_false, Bool.true_and, decide_eq_true_eq]; intro j hj; exact hn j (by simp at hc20; omega))

theorem nameR (s : ByteArray) : FnC Try.prog 87 [.str s] (fun r => r = .bool (nameB s)) := by
  refine FnC.of (fn := Try.f87) ⟨Try.func87, by kernel_rfl, rfl⟩ Try.ntmps87 (by simp) fun w0 S0 => ?_
  refine p_go fun hf => ?_
  refine p_strOp (h := ?_)
  refine p_go fun hf => ?_
  refine p_split (s := 11) (ht := fun hb11 => ?_) (hf := fun hb11 => ?_)
  · -- slot 11 is true
    refine p_go ?_
    refine p_ret1 (hp := by unfold nameB; rw [hb11]; rfl)
  · -- slot 11 is false
    refine p_go fun hf => ?_
    refine p_idxB (0) (hj := size_pos (by intro h; subst h; simp at hb11)) (h := ?_)
    refine p_go fun hf => ?_
    refine p_call (hx := rfl) (hb := ⟨Try.func105, by kernel_rfl, rfl⟩) (hf := letterR _) (h := ?_)
    refine p_go ?_
    refine p_splitC (s := 16) (ht := fun hc16 => ?_) (hf := fun hc16 => ?_)
    · refine p_go ?_
      refine p_ret1 (hp := by unfold nameB; rw [hb11, hc16]; rfl)
    · refine p_go ?_
      refine p_loopK [0] [] (fun st => ∃ i : Nat, (1 ≤ i) ∧ (i ≤ s.size) ∧ (∀ j < i, alnB (bt s j) = true) ∧ st.env 3 = iV i) (fun st => s.size - (st.env 3).toN) ?_ fun e ob g1 hK hO hI => ?_
      · exact ⟨1, by omega, size_pos (by intro h; subst h; simp at hb11), ext_lt (by omega) (by rw [alnB, flipF hc16, Bool.true_or]), eV_⟩
      · obtain ⟨i, h1, hi, hn, e3⟩ := hI
        dsimp only at e3
        simp only [valsE, List.cons.injEq, and_true] at hK
        have hE := (⟨hK, e3⟩ : _ ∧ _)
        refine p_go ?_
        refine p_splitC (s := 20) (ht := fun hc20 => ?_) (hf := fun hc20 => ?_)
        · have hlt : i < s.size := by simpa using hc20
          refine p_go fun hf => ?_
          refine p_idxB (i) (hj := hlt) (h := ?_)
          refine p_call (hx := rfl) (hb := ⟨Try.func105, by kernel_rfl, rfl⟩) (hf := letterR _) (h := ?_)
          refine p_go fun hf => ?_
          refine p_split (s := 28) (ht := fun hb28 => ?_) (hf := fun hb28 => ?_)
          · -- slot 28 is true
            refine p_go fun hf => ?_
            refine p_idxB (i) (hj := hlt) (h := ?_)
            refine p_go fun hf => ?_
            refine p_call (hx := rfl) (hb := ⟨Try.func108, by kernel_rfl, rfl⟩) (hf := digitR _) (h := ?_)
            refine p_go ?_
            refine p_splitC (s := 34) (ht := fun hc34 => ?_) (hf := fun hc34 => ?_)
            · refine p_go ?_
              refine p_ret1 (hp := by unfold nameB; rw [hb11, hc16]; congr 1; symm; simp only [Bool.or_false, Bool.not_false, Bool.true_and, decide_eq_false_iff_not]; intro h; have h1 := h i hlt; simp only [alnB, Bool.or_eq_true] at h1; simp_all)
            · refine p_go fun hf => ?_
              refine p_add (r := ((i + 1 : Nat) : Int)) (hr := (by first | omega | (simp only [decide_eq_true_eq, decide_eq_false_iff_not, Bool.or_eq_false_iff, Bool.and_eq_true, Bool.not_eq_true', Bool.not_eq_false'] at *; omega))) (hb := (by first | omega | (simp only [decide_eq_true_eq, decide_eq_false_iff_not, Bool.or_eq_false_iff, Bool.and_eq_true, Bool.not_eq_true', Bool.not_eq_false'] at *; omega))) (h := ?_)
              refine p_go ?_
              refine p_some ?_
              refine ⟨⟨(by simp (decide := true) only [valsE, evE, upd, cv, args0, argsFrom, List.length_map, ↓reduceIte, hE] <;> rfl), (by simp (decide := true) only [valsO, updO, upd, true_and, and_true, false_and, and_false, ↓reduceIte, hE] <;> rfl)⟩, ⟨i + 1, by omega, hlt, ext_lt hn (by rw [alnB, flipF hc34, Bool.or_true]), eV_⟩, ?_⟩
              simp (decide := true) only [upd, e3, V.toN, ↓reduceIte]; omega
          · -- slot 28 is false
            refine p_go fun hf => ?_
            refine p_add (r := ((i + 1 : Nat) : Int)) (hr := (by first | omega | (simp only [decide_eq_true_eq, decide_eq_false_iff_not, Bool.or_eq_false_iff, Bool.and_eq_true, Bool.not_eq_true', Bool.not_eq_false'] at *; omega))) (hb := (by first | omega | (simp only [decide_eq_true_eq, decide_eq_false_iff_not, Bool.or_eq_false_iff, Bool.and_eq_true, Bool.not_eq_true', Bool.not_eq_false'] at *; omega))) (h := ?_)
            refine p_go ?_
            refine p_some ?_
            refine ⟨⟨(by simp (decide := true) only [valsE, evE, upd, cv, args0, argsFrom, List.length_map, ↓reduceIte, hE] <;> rfl), (by simp (decide := true) only [valsO, updO, upd, true_and, and_true, false_and, and_false, ↓reduceIte, hE] <;> rfl)⟩, ⟨i + 1, by omega, hlt, ext_lt hn (by rw [alnB, flipF hb28, Bool.true_or]), eV_⟩, ?_⟩
            simp (decide := true) only [upd, e3, V.toN, ↓reduceIte]; omega
        · refine p_go ?_
          refine p_ret1 (hp := by unfold nameB; rw [hb11, hc16]; congr 1; symm; simp only [Bool.or_false, Bool.not_false, Bool.true_and, decide_eq_true_eq]; intro j hj; exact hn j (by simp at hc20; omega))

end Go.Proofs.Ytjdhkopjigijfaa
