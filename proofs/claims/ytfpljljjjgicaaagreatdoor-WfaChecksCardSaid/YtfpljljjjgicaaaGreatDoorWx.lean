/-
  The reference's weights: which may be.
-/
import Derived.Test.YtfpljljjjgicaaaGreatDoorWvp
set_option maxHeartbeats 4000000
set_option linter.unusedSimpArgs false
set_option linter.unusedVariables false
namespace Go.Proofs.YtfpljljjjgicaaaGreatDoor
open Go.RowKit
attribute [local irreducible] Wk Tr
theorem not_any_take {α : Type} {p : α → Bool} {l : List α} {i : Nat} (h : (l.take i).any p = true) : l.any p = true := by
  rw [List.any_eq_true] at h ⊢
  obtain ⟨x, hx, hp⟩ := h
  exact ⟨x, List.mem_of_mem_take hx, hp⟩
theorem any_snoc {α : Type} {p : α → Bool} {l : List α} {i : Nat} (h : i < l.length) : (l.take (i + 1)).any p = ((l.take i).any p || p l[i]) := by
  rw [List.take_succ_eq_append_getElem h, List.any_append]; simp
abbrev okP (s : Sp) (i : Nat) : Bool := decide (s.dim = 0) && decide ((s.parts.length : Int) = 2) && !((s.parts.take i).any partBad)
theorem ok_next {x y : Bool} {b : Bool} (h : (b && !x) = true) : (!y) = (b && !(x || y)) := by cases b <;> cases x <;> cases y <;> simp_all
theorem ok_A {s : Sp} {i : Nat} (hi : i < s.parts.length) (h : okP s i = true) (ht : ¬ s.parts[i].tag = 5) : decide (leafE s.parts[i] = 0) = okP s (i + 1) := by
  rw [okP, any_snoc hi, ← ok_next (y := partBad s.parts[i]) h]
  simp [partBad, ht]
theorem ok_B {s : Sp} {i : Nat} (hi : i < s.parts.length) (h : okP s i = true) (ht : s.parts[i].tag = 5) : false = okP s (i + 1) := by
  rw [okP, any_snoc hi, ← ok_next (y := partBad s.parts[i]) h]
  simp [partBad, ht]
theorem pair_bad {s : Sp} {i : Nat} (h5 : s.tag = 5) (h : okP s i = false) : spOk s = false := by
  rw [spOk, if_pos h5]
  simp only [okP, Bool.and_eq_false_iff, Bool.not_eq_false'] at h ⊢
  rcases h with h | h
  · exact .inl h
  · exact .inr (not_any_take h)
theorem pair_ok {s : Sp} {i : Nat} (h5 : s.tag = 5) (h : okP s i = true) (h' : (decide ((i : Int) < (s.parts.length : Int)) && okP s i) = false) : spOk s = true := by
  rw [h, Bool.and_true, decide_eq_false_iff_not] at h'
  rw [spOk, if_pos h5]
  rwa [okP, List.take_of_length_le (by omega)] at h
theorem rspace_leaf (s : Sp) (h5 : ¬ s.tag = 5) : FnC Tryz.prog 39 [spA s] (fun r => r = iV (leafE s)) := by
  refine FnC.of (fn := Tryz.f39) ⟨Tryz.func39, by kernel_rfl, rfl⟩ Tryz.ntmps39 (by simp) fun w0 S0 => ?_
  refine p_go ?_
  refine p_splitC (s := 7) (ht := fun hc7 => ?_) (hf := fun hc7 => ?_)
  · refine p_go ?_
    refine p_splitC (s := 89) (ht := fun hc89 => ?_) (hf := fun hc89 => ?_)
    · refine p_go ?_
      refine p_ret1 (hp := by rw [leafE_f (leaf1 (by simpa using hc7)) (bnt hc89)])
    · refine p_go ?_
      refine p_ret1 (hp := by rw [leafE_t (leaf1 (by simpa using hc7)) (bnf hc89)])
  · refine p_go ?_
    refine p_splitC (s := 18) (ht := fun hc18 => ?_) (hf := fun hc18 => ?_)
    · refine p_go ?_
      refine p_splitC (s := 89) (ht := fun hc89 => ?_) (hf := fun hc89 => ?_)
      · refine p_go ?_
        refine p_ret1 (hp := by rw [leafE_f (leaf2 (by simpa using hc18)) (bnt hc89)])
      · refine p_go ?_
        refine p_ret1 (hp := by rw [leafE_t (leaf2 (by simpa using hc18)) (bnf hc89)])
    · refine p_go ?_
      refine p_splitC (s := 34) (ht := fun hc34 => ?_) (hf := fun hc34 => ?_)
      · refine p_go ?_
        refine p_splitC (s := 89) (ht := fun hc89 => ?_) (hf := fun hc89 => ?_)
        · refine p_go ?_
          refine p_ret1 (hp := by rw [leafE_f (leaf34 (.inl (by simpa using hc34))) (bnt hc89)])
        · refine p_go ?_
          refine p_ret1 (hp := by rw [leafE_t (leaf34 (.inl (by simpa using hc34))) (bnf hc89)])
      · refine p_go ?_
        refine p_splitC (s := 34) (ht := fun hc34x => ?_) (hf := fun hc34x => ?_)
        · refine p_go ?_
          refine p_splitC (s := 89) (ht := fun hc89 => ?_) (hf := fun hc89 => ?_)
          · refine p_go ?_
            refine p_ret1 (hp := by rw [leafE_f (leaf34 (.inr (by simpa using hc34x))) (bnt hc89)])
          · refine p_go ?_
            refine p_ret1 (hp := by rw [leafE_t (leaf34 (.inr (by simpa using hc34x))) (bnf hc89)])
        · refine p_go ?_
          refine p_isC (s := 51) (b := false) (hc := by simpa using h5) (h := ?_)
          refine p_go ?_
          refine p_ret1 (hp := by rw [leafE_f (leaf0 (by simpa using hc7) (by simpa using hc18) (by simpa using hc34) (by simpa using hc34x)) rfl])
theorem rspace_pair (s : Sp) (h5 : s.tag = 5) (hl : s.parts.length ≤ 17592186044416) : FnC Tryz.prog 39 [spA s] (fun r => r = iV (spE s)) := by
  refine FnC.of (fn := Tryz.f39) ⟨Tryz.func39, by kernel_rfl, rfl⟩ Tryz.ntmps39 (by simp) fun w0 S0 => ?_
  refine p_go ?_
  refine p_isC (s := 7) (b := false) (hc := by simp [h5]) (h := ?_)
  refine p_go ?_
  refine p_isC (s := 18) (b := false) (hc := by simp [h5]) (h := ?_)
  refine p_go ?_
  refine p_isC (s := 34) (b := false) (hc := by simp [h5]) (h := ?_)
  refine p_go ?_
  refine p_isC (s := 34) (b := false) (hc := by simp [h5]) (h := ?_)
  refine p_go ?_
  refine p_isC (s := 51) (b := true) (hc := by simp [h5]) (h := ?_)
  refine p_go ?_
  refine p_loopK [1] [(0 + 1, 1)] (fun st => ∃ i : Nat, (i ≤ s.parts.length) ∧ st.env 3 = .bool (okP s i) ∧ st.env 4 = iV i) (fun st => s.parts.length - (st.env 4).toN) ?_ fun e ob g1 hK hO hI => ?_
  · exact ⟨0, by omega, by rw [okP, List.take_zero, List.any_nil, Bool.not_false, Bool.and_true]; exact eV_, eV_⟩
  · obtain ⟨i, hi, e3, e4⟩ := hI
    dsimp only at e3 e4
    simp only [valsE, List.cons.injEq, and_true] at hK
    simp only [valsO, List.cons.injEq, and_true] at hO
    have hE := (⟨hK, hO, e3, e4⟩ : _ ∧ _ ∧ _ ∧ _)
    refine p_go ?_
    refine p_splitC (s := 69) (ht := fun hc69 => ?_) (hf := fun hc69 => ?_)
    · have hlt : i < s.parts.length := by have := hc69; simp at this; omega
      have hok : okP s i = true := by have := hc69; simp only [Bool.and_eq_true] at this ⊢; exact this.2
      refine p_go fun hf => ?_
      refine p_idxMap (j := i) (ht := Tryz.underlying23) (hi := F.ti25.h) (hij := rfl) (hj := hlt) (h := ?_)
      rw [spV_cells]
      refine p_go fun hf => ?_
      refine p_split (s := 79) (ht := fun hb79 => ?_) (hf := fun hb79 => ?_)
      · -- slot 79 is true
        refine p_go fun hf => ?_
        refine p_idxMap (j := i) (ht := Tryz.underlying23) (hi := F.ti25.h) (hij := rfl) (hj := hlt) (h := ?_)
        rw [spV_cells]
        refine p_go fun hf => ?_
        refine p_call (hx := rfl) (hb := ⟨Tryz.func39, by kernel_rfl, rfl⟩) (hf := rspace_leaf s.parts[i] (by simpa using hb79)) (h := ?_)
        refine p_go fun hf => ?_
        refine p_add (r := ((i + 1 : Nat) : Int)) (hr := (by first | omega | (simp only [decide_eq_true_eq, decide_eq_false_iff_not, Bool.or_eq_false_iff, Bool.and_eq_true, Bool.not_eq_true', Bool.not_eq_false'] at *; omega))) (hb := (by first | omega | (simp only [decide_eq_true_eq, decide_eq_false_iff_not, Bool.or_eq_false_iff, Bool.and_eq_true, Bool.not_eq_true', Bool.not_eq_false'] at *; omega))) (h := ?_)
        refine p_go ?_
        refine p_some ?_
        refine ⟨⟨(by simp (decide := true) only [valsE, evE, upd, cv, args0, argsFrom, List.length_map, ↓reduceIte, hE] <;> rfl), (by simp (decide := true) only [valsO, updO, upd, true_and, and_true, false_and, and_false, ↓reduceIte, hE] <;> rfl)⟩, ⟨i + 1, hlt, by refine Eq.trans eV_ ?_; first | exact congrArg V.bool (ok_A hlt hok (by simpa using hb79)) | exact congrArg V.bool (ok_B hlt hok (by simpa using hb79)), eV_⟩, ?_⟩
        simp (decide := true) only [upd, e4, V.toN, ↓reduceIte]; omega
      · -- slot 79 is false
        refine p_go fun hf => ?_
        refine p_add (r := ((i + 1 : Nat) : Int)) (hr := (by first | omega | (simp only [decide_eq_true_eq, decide_eq_false_iff_not, Bool.or_eq_false_iff, Bool.and_eq_true, Bool.not_eq_true', Bool.not_eq_false'] at *; omega))) (hb := (by first | omega | (simp only [decide_eq_true_eq, decide_eq_false_iff_not, Bool.or_eq_false_iff, Bool.and_eq_true, Bool.not_eq_true', Bool.not_eq_false'] at *; omega))) (h := ?_)
        refine p_go ?_
        refine p_some ?_
        refine ⟨⟨(by simp (decide := true) only [valsE, evE, upd, cv, args0, argsFrom, List.length_map, ↓reduceIte, hE] <;> rfl), (by simp (decide := true) only [valsO, updO, upd, true_and, and_true, false_and, and_false, ↓reduceIte, hE] <;> rfl)⟩, ⟨i + 1, hlt, by refine Eq.trans eV_ ?_; first | exact congrArg V.bool (ok_A hlt hok (by simpa using hb79)) | exact congrArg V.bool (ok_B hlt hok (by simpa using hb79)), eV_⟩, ?_⟩
        simp (decide := true) only [upd, e4, V.toN, ↓reduceIte]; omega
    · refine p_go ?_
      refine p_splitC (s := 89) (ht := fun hc89 => ?_) (hf := fun hc89 => ?_)
      · refine p_go ?_
        refine p_ret1 (hp := by rw [spE, pair_bad h5 (bnt hc89)]; rfl)
      · refine p_go ?_
        refine p_ret1 (hp := by rw [spE, pair_ok h5 (bnf hc89) hc69]; rfl)
theorem rspace (s : Sp) (hl : s.parts.length ≤ 17592186044416) : FnC Tryz.prog 39 [spA s] (fun r => r = iV (spE s)) := by
  by_cases h5 : s.tag = 5
  · exact rspace_pair s h5 hl
  · have := rspace_leaf s h5
    rwa [show leafE s = spE s by rw [leafE, spE, spOk, if_neg h5]] at this
theorem cost_is {m c : Int} (hm : 0 ≤ m ∧ m ≤ 1048576) : (decide (0 ≤ c) && decide (c ≤ m)) = (decide (c ≠ -1) && decide (checksE m [c] = 0)) := by
  rw [Bool.eq_iff_iff]
  simp only [Bool.and_eq_true, decide_eq_true_eq]
  constructor
  · rintro ⟨h1, h2⟩; exact ⟨by omega, checksE_of hm (by simp; omega)⟩
  · rintro ⟨h1, h2⟩; have := cost_ok h2 h1; omega
theorem cells_is {n : Int} {l : List Cel} (hn : badN n = false) (h : (l.length : Int) = n) : decide (cellsE n l = 0) = !(l.any fun c => !rightC n c) := by
  rw [cellsE, hn]
  simp only [Bool.false_eq_true, ↓reduceIte, h, ne_eq, not_true_eq_false]
  cases l.any (fun c => !rightC n c) <;> rfl
theorem cells_bad {n : Int} {l : List Cel} (hn : badN n = false) (h : ¬ (l.length : Int) = n) : decide (cellsE n l = 0) = false := by
  rw [cellsE, hn]
  simp [h]
theorem is4_bad {w : Wt} {n : Int} {b : Bool} (hn : badN n = false) (h : b = true → ¬ (w.cells.length : Int) = n) : (b && decide (cellsE n w.cells = 0)) = false := by
  cases b with
  | false => rfl
  | true => rw [cells_bad hn (h rfl)]; rfl
theorem rcell (n : Int) (c : Cel) (h : badN n = false) : FnC Tryz.prog 107 [iV n, celV c] (fun r => r = .bool (rightC n c)) := by
  refine FnC.of (fn := Tryz.f107) ⟨Tryz.func107, by kernel_rfl, rfl⟩ Tryz.ntmps107 (by simp) fun w0 S0 => ?_
  refine p_go fun hf => ?_
  refine p_call (hx := rfl) (hb := ⟨Tryz.func144, by kernel_rfl, rfl⟩) (hf := inside03 n c.frm h) (h := ?_)
  refine p_go ?_
  refine p_splitC (s := 9) (ht := fun hc9 => ?_) (hf := fun hc9 => ?_)
  · refine p_go ?_
    refine p_ret1 (hp := by rw [rightC_bad (by have := hc9; simp [outB] at this; exact this)])
  · have h9 : c.frm &&& ~~~(fullB n) = BitVec.ofInt 64 0 := by have := hc9; simp [outB] at this; exact this
    refine p_go ?_
    refine p_splitC (s := 12) (ht := fun hc12 => ?_) (hf := fun hc12 => ?_)
    · refine p_go ?_
      refine p_ret1 (hp := by rw [rightC_none h9 (by simpa using hc12)])
    · refine p_go ?_
      refine p_splitC (s := 17) (ht := fun hc17 => ?_) (hf := fun hc17 => ?_)
      · refine p_go ?_
        refine p_ret1 (hp := by rw [rightC_one h9 (by simpa using hc17)])
      · refine p_go ?_
        refine p_splitC (s := 19) (ht := fun hc19 => ?_) (hf := fun hc19 => ?_)
        · refine p_go ?_
          refine p_ret1 (hp := by rw [rightC_many h9 (by simpa using hc19)]; have h19 : c.kind = 2 := (by simpa using hc19); rcases c with ⟨a, b, d⟩; simp only at h19; subst h19; by_cases h1 : d = 0 <;> by_cases h2 : a = 0 <;> simp [h1, h2])
        · refine p_go ?_
          refine p_ret1 (hp := by rw [rightC_else (by simpa using hc17) (by simpa using hc12) (by simpa using hc19)])
theorem ris_leaf (s : Sp) (w : Wt) (hs : leafOk s = true) (hw : w.Sm) : FnC Tryz.prog 79 [spA s, wtA w] (fun r => r = .bool (isL s w)) := by
  refine FnC.of (fn := Tryz.f79) ⟨Tryz.func79, by kernel_rfl, rfl⟩ Tryz.ntmps79 (by simp) fun w0 S0 => ?_
  have hr := hw.rows
  have hcl := hw.cells
  have hpt := hw.parts
  obtain ⟨hd, h5, _, ht1, ht4, h64⟩ := leafOk_dim hs
  refine p_go ?_
  refine p_splitC (s := 7) (ht := fun hc7 => ?_) (hf := fun hc7 => ?_)
  · refine p_go fun hf => ?_
    refine p_isW (s := 11) (b := true) (hc := by simp [h5]) (h := ?_)
    refine p_go fun hf => ?_
    refine p_call (hx := rfl) (hb := ⟨Tryz.func105, by kernel_rfl, rfl⟩) (hf := rplain w false false false false) (h := ?_)
    refine p_go ?_
    refine p_ret1 (hp := by rw [isL, if_pos hc7, ← plain_is w 0]; rfl)
  · refine p_go ?_
    refine p_splitC (s := 17) (ht := fun hc17 => ?_) (hf := fun hc17 => ?_)
    · have h17 : s.tag = 1 := by simpa using hc17
      refine p_go fun hf => ?_
      refine p_call (hx := rfl) (hb := ⟨Tryz.func105, by kernel_rfl, rfl⟩) (hf := rplain w false false false false) (h := ?_)
      refine p_go ?_
      refine p_ret1 (hp := by rw [isL, if_neg (by rw [hc7]; decide), ← plain_is w s.tag, isT]; simp [h17])
    · refine p_go ?_
      refine p_splitC (s := 21) (ht := fun hc21 => ?_) (hf := fun hc21 => ?_)
      · have h21 : s.tag = 2 := by simpa using hc21
        refine p_go fun hf => ?_
        refine p_call (hx := rfl) (hb := ⟨Tryz.func105, by kernel_rfl, rfl⟩) (hf := rplain w true false false false) (h := ?_)
        refine p_go ?_
        refine p_ret1 (hp := by rw [isL, if_neg (by rw [hc7]; decide), ← plain_is w s.tag, isT]; simp only [h21, Int.reduceEq, decide_true, decide_false, ↓reduceIte]; rw [Bool.and_assoc, cost_is hd])
      · refine p_go ?_
        refine p_splitC (s := 37) (ht := fun hc37 => ?_) (hf := fun hc37 => ?_)
        · have h37 : s.tag = 3 := by simpa using hc37
          have hbn : badN s.dim = false := by have := h64 (.inl h37); simp [badN]; omega
          refine p_go fun hf => ?_
          refine p_call (hx := rfl) (hb := ⟨Tryz.func105, by kernel_rfl, rfl⟩) (hf := rplain w false true false false) (h := ?_)
          refine p_go fun hf => ?_
          refine p_split (s := 41) (ht := fun hb41 => ?_) (hf := fun hb41 => ?_)
          · -- slot 41 is true
            refine p_go fun hf => ?_
            refine p_call (hx := rfl) (hb := ⟨Tryz.func106, by kernel_rfl, rfl⟩) (hf := check03 s.dim (fct w) hw.rows) (h := ?_)
            refine p_go ?_
            refine p_ret1 (hp := by rw [isL, if_neg (by rw [hc7]; decide), ← plain_is w s.tag, isT]; simp only [h37, Int.reduceEq, decide_true, decide_false, ↓reduceIte]; rw [hb41]; rfl)
          · -- slot 41 is false
            refine p_go ?_
            refine p_ret1 (hp := by rw [isL, if_neg (by rw [hc7]; decide), ← plain_is w s.tag, isT]; simp only [h37, Int.reduceEq, decide_true, decide_false, ↓reduceIte]; rw [hb41]; rfl)
        · have h49 : s.tag = 4 := by simp at hc17 hc21 hc37; omega
          have hbn : badN s.dim = false := by have := h64 (.inr h49); simp [badN]; omega
          refine p_go ?_
          refine p_isC (s := 49) (b := true) (hc := by (simp at hc17 hc21 hc37; simp; omega)) (h := ?_)
          refine p_go fun hf => ?_
          refine p_call (hx := rfl) (hb := ⟨Tryz.func105, by kernel_rfl, rfl⟩) (hf := rplain w false false true false) (h := ?_)
          refine p_go ?_
          refine p_splitC (s := 61) (ht := fun hc61 => ?_) (hf := fun hc61 => ?_)
          · refine p_go ?_
            refine p_ret1 (hp := by rw [isL, if_neg (by rw [hc7]; decide), ← plain_is w s.tag, isT]; simp only [h49, Int.reduceEq, decide_true, decide_false, ↓reduceIte]; rw [is4_bad (w := w) hbn (fun hb => by simpa [hb] using hc61)])
          · have h61 : plainR w false false true false = true ∧ (w.cells.length : Int) = s.dim := by simpa using hc61
            refine p_go ?_
            refine p_loopK [2, 3] [(0 + 1, 2), (0 + 1, 3)] (fun st => ∃ i : Nat, (i ≤ w.cells.length) ∧ (∀ j (hj : j < w.cells.length), j < i → (!rightC s.dim w.cells[j]) = false) ∧ st.env 5 = iV i) (fun st => w.cells.length - (st.env 5).toN) ?_ fun e ob g1 hK hO hI => ?_
            · exact ⟨0, by omega, fun j hj h => absurd h (by omega), eV_⟩
            · obtain ⟨i, hi, hp, e5⟩ := hI
              dsimp only at e5
              simp only [valsE, List.cons.injEq, and_true] at hK
              simp only [valsO, List.cons.injEq, and_true] at hO
              have hE := (⟨hK, hO, e5⟩ : _ ∧ _ ∧ _)
              refine p_go ?_
              refine p_splitC (s := 66) (ht := fun hc66 => ?_) (hf := fun hc66 => ?_)
              · have hlt : i < w.cells.length := by simpa using hc66
                refine p_go fun hf => ?_
                refine p_idxMap (j := i) (ht := Tryz.underlying34) (hi := F.ti90.h) (hij := rfl) (hj := hlt) (h := ?_)
                refine p_go fun hf => ?_
                refine p_call (hx := rfl) (hb := ⟨Tryz.func107, by kernel_rfl, rfl⟩) (hf := rcell s.dim w.cells[i] hbn) (h := ?_)
                refine p_go ?_
                refine p_splitC (s := 77) (ht := fun hc77 => ?_) (hf := fun hc77 => ?_)
                · refine p_go ?_
                  refine p_ret1 (hp := by rw [isL, if_neg (by rw [hc7]; decide), ← plain_is w s.tag, isT]; simp only [h49, Int.reduceEq, decide_true, decide_false, ↓reduceIte]; rw [h61.1, cells_is hbn h61.2, any_hit (p := fun c => !rightC s.dim c) hlt (by simpa using hc77)]; rfl)
                · refine p_go fun hf => ?_
                  refine p_add (r := ((i + 1 : Nat) : Int)) (hr := (by first | omega | (simp only [decide_eq_true_eq, decide_eq_false_iff_not, Bool.or_eq_false_iff, Bool.and_eq_true, Bool.not_eq_true', Bool.not_eq_false'] at *; omega))) (hb := (by first | omega | (simp only [decide_eq_true_eq, decide_eq_false_iff_not, Bool.or_eq_false_iff, Bool.and_eq_true, Bool.not_eq_true', Bool.not_eq_false'] at *; omega))) (h := ?_)
                  refine p_go ?_
                  refine p_some ?_
                  refine ⟨⟨(by simp (decide := true) only [valsE, evE, upd, cv, args0, argsFrom, List.length_map, ↓reduceIte, hE] <;> rfl), (by simp (decide := true) only [valsO, updO, upd, true_and, and_true, false_and, and_false, ↓reduceIte, hE] <;> rfl)⟩, ⟨i + 1, hlt, none_next (p := fun c => !rightC s.dim c) (by simpa using hc77) hp, eV_⟩, ?_⟩
                  simp (decide := true) only [upd, e5, V.toN, ↓reduceIte]; omega
              · have hge : w.cells.length ≤ i := by simpa using hc66
                have hA := any_not (p := fun c => !rightC s.dim c) hge hp
                refine p_go ?_
                refine p_ret1 (hp := by rw [isL, if_neg (by rw [hc7]; decide), ← plain_is w s.tag, isT]; simp only [h49, Int.reduceEq, decide_true, decide_false, ↓reduceIte]; rw [h61.1, cells_is hbn h61.2, hA]; rfl)
theorem ris_pair (p q : Sp) (w : Wt) (hp : leafOk p = true) (hq : leafOk q = true) (hw : w.Sm) (hws : ∀ x ∈ w.parts, x.Sm) : FnC Tryz.prog 79 [pairA p q, wtA w] (fun r => r = .bool (isP p q w)) := by
  refine FnC.of (fn := Tryz.f79) ⟨Tryz.func79, by kernel_rfl, rfl⟩ Tryz.ntmps79 (by simp) fun w0 S0 => ?_
  have hr := hw.rows
  have hcl := hw.cells
  have hpt := hw.parts
  refine p_go ?_
  refine p_splitC (s := 7) (ht := fun hc7 => ?_) (hf := fun hc7 => ?_)
  · refine p_go ?_
    refine p_ret1 (hp := by rw [isP, hc7]; rfl)
  · refine p_go fun hf => ?_
    refine p_call (hx := rfl) (hb := ⟨Tryz.func105, by kernel_rfl, rfl⟩) (hf := rplain w false false false true) (h := ?_)
    refine p_go fun hf => ?_
    refine p_split (s := 80) (ht := fun hb80 => ?_) (hf := fun hb80 => ?_)
    · -- slot 80 is true
      refine p_go fun hf => ?_
      refine p_split (s := 86) (ht := fun hb86 => ?_) (hf := fun hb86 => ?_)
      · have hlen : w.parts.length = 2 := by have := hb86; simp at this; omega
        refine p_go fun hf => ?_
        refine p_idxSl (ht := Tryz.underlying23) (hi := F.ti25.h) (h0 := by decide) (hv := by rfl) (h := ?_)
        rw [spV_cells]
        refine p_go fun hf => ?_
        refine p_idxMap (j := 0) (ht := Tryz.underlying35) (hi := F.ti37.h) (hij := rfl) (hj := by omega) (h := ?_)
        rw [wtV_cells]
        refine p_go fun hf => ?_
        refine p_call (hx := rfl) (hb := ⟨Tryz.func79, by kernel_rfl, rfl⟩) (hf := ris_leaf p w.parts[0] hp (hws _ (List.getElem_mem _))) (h := ?_)
        refine p_go fun hf => ?_
        refine p_split (s := 97) (ht := fun hb97 => ?_) (hf := fun hb97 => ?_)
        · -- slot 97 is true
          refine p_go fun hf => ?_
          refine p_idxSl (ht := Tryz.underlying23) (hi := F.ti25.h) (h0 := by decide) (hv := by rfl) (h := ?_)
          rw [spV_cells]
          refine p_go fun hf => ?_
          refine p_idxMap (j := 1) (ht := Tryz.underlying35) (hi := F.ti37.h) (hij := rfl) (hj := by omega) (h := ?_)
          rw [wtV_cells]
          refine p_go fun hf => ?_
          refine p_call (hx := rfl) (hb := ⟨Tryz.func79, by kernel_rfl, rfl⟩) (hf := ris_leaf q w.parts[1] hq (hws _ (List.getElem_mem _))) (h := ?_)
          refine p_go ?_
          refine p_ret1 (hp := by rw [isP, hc7, ← plain_is w 5]; simp only [Int.reduceEq, decide_true, decide_false, Bool.not_false, Bool.true_and]; rw [hb80, hb86, getD_at (show 0 < w.parts.length by omega), getD_at (show 1 < w.parts.length by omega), hb97]; rfl)
        · -- slot 97 is false
          refine p_go ?_
          refine p_ret1 (hp := by rw [isP, hc7, ← plain_is w 5]; simp only [Int.reduceEq, decide_true, decide_false, Bool.not_false, Bool.true_and]; rw [hb80, hb86, getD_at (show 0 < w.parts.length by omega), hb97]; rfl)
      · -- slot 86 is false
        refine p_go ?_
        refine p_ret1 (hp := by rw [isP, hc7, ← plain_is w 5]; simp only [Int.reduceEq, decide_true, decide_false, Bool.not_false, Bool.true_and]; rw [hb80, hb86]; rfl)
    · -- slot 80 is false
      refine p_go ?_
      refine p_ret1 (hp := by rw [isP, hc7, ← plain_is w 5]; simp only [Int.reduceEq, decide_true, decide_false, Bool.not_false, Bool.true_and]; rw [hb80]; rfl)
theorem risW (s : Sp) (w : Wt) (hs : spOk s = true) (hw : w.Sm2) : FnC Tryz.prog 79 [spA s, wtA w] (fun r => r = .bool (isB s w)) := by
  rcases spOk_cases hs with ⟨hl, h5⟩ | ⟨p, q, rfl, hp, hq⟩
  · have := ris_leaf s w hl hw.sm
    rwa [isB, if_neg h5]
  · exact ris_pair p q w hp hq hw.sm hw.parts
theorem rcheck (s : Sp) (w : Wt) (hsp : s.parts.length ≤ 17592186044416) (hw : w.Sm2) : FnC Tryz.prog 41 [spA s, wtA w] (fun r => r = iV (checkedW s [w])) := by
  refine FnC.of (fn := Tryz.f41) ⟨Tryz.func41, by kernel_rfl, rfl⟩ Tryz.ntmps41 (by simp) fun w0 S0 => ?_
  refine p_go fun hf => ?_
  refine p_call (hx := rfl) (hb := ⟨Tryz.func39, by kernel_rfl, rfl⟩) (hf := rspace s hsp) (h := ?_)
  refine p_go ?_
  refine p_splitC (s := 9) (ht := fun hc9 => ?_) (hf := fun hc9 => ?_)
  · refine p_go ?_
    refine p_ret1 (hp := by simp at hc9; simp [checkedW, hc9])
  · refine p_go fun hf => ?_
    refine p_call (hx := rfl) (hb := ⟨Tryz.func79, by kernel_rfl, rfl⟩) (hf := risW s w (spE_ok (by simpa using hc9)) hw) (h := ?_)
    refine p_go ?_
    refine p_splitC (s := 14) (ht := fun hc14 => ?_) (hf := fun hc14 => ?_)
    · refine p_go ?_
      refine p_ret1 (hp := by simp at hc9 hc14; simp [checkedW, hc9, hc14])
    · refine p_go ?_
      refine p_ret1 (hp := by simp at hc9 hc14; simp [checkedW, hc9, hc14])
end Go.Proofs.YtfpljljjjgicaaaGreatDoor
