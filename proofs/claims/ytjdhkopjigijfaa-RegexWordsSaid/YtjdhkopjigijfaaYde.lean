import Derived.Test.YtjdhkopjigijfaaXw
import Derived.Test.YtjdhkopjigijfaaZ13
/-
  The reference's tables of bools: blank, empty, one behind the other.
-/
set_option linter.unusedSimpArgs false
set_option linter.unusedVariables false
set_option maxHeartbeats 4000000
namespace Go.Proofs.Ytjdhkopjigijfaa
open Go.RowKit
attribute [local irreducible] Wk Tr
/-- What a call that makes a table answers. -/
def TabR (n : Nat) (B : Nat → Nat → Bool) (g : Nat) (r : V) (o : Nat → Nat → Ob) (g' : Nat) : Prop := ∃ G γ, g < G ∧ G ≤ g' ∧ r = .row G 900 n ∧ o G 900 = .rv 81 (tabL γ n n) ∧ Tb 4 n B γ g g' o
/-- A table the rows of which are made up to k. -/
abbrev tabK (γ : Nat → Nat) (k n : Nat) : List V := (List.range n).map fun i => if i < k then V.row (γ i) 901 n else V.nil
theorem tabK_zero (γ : Nat → Nat) (n : Nat) : tabK γ 0 n = List.replicate n V.nil := by
  refine List.ext_getElem (by simp) fun j h1 h2 => ?_
  simp
theorem tabK_end (γ : Nat → Nat) (n : Nat) : tabK γ n n = tabL γ n n := by
  refine List.map_congr_left fun i hi => ?_
  rw [List.mem_range] at hi
  rw [if_pos hi]
theorem tabK_set {γ : Nat → Nat} {k n G : Nat} (hk : k < n) : (tabK γ k n).set k (.row G 901 n) = tabK (fun i => if i = k then G else γ i) (k + 1) n := by
  refine List.ext_getElem (by simp) fun j h1 h2 => ?_
  simp only [List.length_set, List.length_map, List.length_range] at h1
  rw [List.getElem_set]
  simp only [List.getElem_map, List.getElem_range]
  by_cases e : k = j
  · subst e; simp
  · rw [if_neg e]
    by_cases h : j < k
    · rw [if_pos h, if_pos (by omega), if_neg (fun h => e h.symm)]
    · rw [if_neg h, if_neg (by omega)]
theorem bRow_rep (n : Nat) : bRow n (fun _ => false) = List.replicate n (V.bool false) := by
  refine List.ext_getElem (by simp) fun j h1 h2 => ?_
  simp
theorem Tb.ext {te n lo g : Nat} {B B' : Nat → Nat → Bool} {γ : Nat → Nat} {o : Nat → Nat → Ob} (h : Tb te n B γ lo g o) (hB : ∀ a b, a < n → b < n → B a b = B' a b) : Tb te n B' γ lo g o :=
  ⟨h.low, h.up, h.inj, fun i hi => by
    rw [h.row i hi]
    congr 1
    refine List.map_congr_left fun b hb => ?_
    rw [List.mem_range] at hb
    rw [hB i b hi hb]⟩
/-- The rows that have been made. -/
structure Tk (k n : Nat) (γ : Nat → Nat) (lo g : Nat) (o : Nat → Nat → Ob) : Prop where
  low : ∀ i, i < k → lo < γ i
  up : ∀ i, i < k → γ i ≤ g
  inj : ∀ i j, i < j → j < k → γ i < γ j
  row : ∀ i, i < k → o (γ i) 901 = .row 4 (bRow n fun _ => false)
theorem Tk.zero (n : Nat) (γ : Nat → Nat) (lo g : Nat) (o : Nat → Nat → Ob) : Tk 0 n γ lo g o := ⟨fun i h => by omega, fun i h => by omega, fun i j _ h => by omega, fun i h => by omega⟩
theorem Tk.put {k n lo g g' G : Nat} {γ : Nat → Nat} {o o' : Nat → Nat → Ob} (h : Tk k n γ lo g o) (hlo : lo < G) (hG : g < G) (hg : G ≤ g') (hr : o' G 901 = .row 4 (bRow n fun _ => false)) (ho : ∀ a, a ≤ g → o' a 901 = o a 901) : Tk (k + 1) n (fun i => if i = k then G else γ i) lo g' o' where
  low i hi := by
    split
    · exact hlo
    · exact h.low i (by omega)
  up i hi := by
    split
    · exact hg
    · have := h.up i (by omega); omega
  inj i j hij hj := by
    rw [if_neg (by omega : ¬ i = k)]
    split
    · have := h.up i (by omega); omega
    · exact h.inj i j hij (by omega)
  row i hi := by
    split
    · exact hr
    · rw [ho _ (h.up i (by omega))]; exact h.row i (by omega)
theorem Tk.fin {n lo g : Nat} {γ : Nat → Nat} {o : Nat → Nat → Ob} (h : Tk n n γ lo g o) : Tb 4 n (fun _ _ => false) γ lo g o := ⟨h.low, h.up, h.inj, h.row⟩

theorem blankR (n : Nat) (hn : n ≤ 1000) : FnX Try.prog 63 [inV n] [] [] (fun g r o g' => TabR (n + 1) (fun _ _ => false) g r o g') := by
  refine FnX.of (fn := Try.f63) ⟨Try.func63, by kernel_rfl, rfl⟩ Try.ntmps63 (by simp) fun w0 S0 l ob0 g0 K hrow hgl hK0 => ?_
  simp only [valsO, List.cons.injEq, and_true] at hrow
  simp only [List.mem_cons, List.not_mem_nil, or_false, forall_eq_or_imp, forall_eq, forall_const] at hgl
  have hE := hrow
  refine p_go fun hf => ?_
  refine p_add (r := ((n + 1 : Nat) : Int)) (hr := (by first | omega | (simp only [decide_eq_true_eq, decide_eq_false_iff_not, Bool.or_eq_false_iff, Bool.and_eq_true, Bool.not_eq_true', Bool.not_eq_false'] at *; omega))) (hb := (by first | omega | (simp only [decide_eq_true_eq, decide_eq_false_iff_not, Bool.or_eq_false_iff, Bool.and_eq_true, Bool.not_eq_true', Bool.not_eq_false'] at *; omega))) (h := ?_)
  refine p_make (z := .slice none 0 0) (v := .nil) (n := n + 1) (ht := Try.underlying83) (hi := F.ti81.h) (hz := rfl) (hzv := rfl) (hro := rfl) (hb := by omega) (h63 := by omega) (h := ?_)
  refine p_go ?_
  refine p_fresh fun hf => ?_
  refine p_renSlot (s := 3) 900 (h := ?_)
  refine p_toRv (g1 := (g0 + 1 + 1 + 1 + 1)) (d1 := 900) (t := 81) oB_ (by kernel_rfl) (by rw [List.all_eq_true]; intro v hv; rw [List.eq_of_mem_replicate hv]; rfl) ?_
  refine p_loopK [0, 3] [] (fun st => ∃ (i : Nat) (γ : Nat → Nat), (i ≤ n + 1) ∧ ((g0 + 1 + 1 + 1 + 1) ≤ st.gen) ∧ (Tk i (n + 1) γ g0 st.gen st.obj) ∧ (LowQ g0 [] ob0 st.obj) ∧ st.env 4 = inV i ∧ st.obj (g0 + 1 + 1 + 1 + 1) 900 = .rv 81 (tabK γ i (n + 1))) (fun st => n + 1 - (st.env 4).toN) ?_ fun e ob g1 hK hO hI => ?_
  · exact ⟨0, fun _ => 0, by omega, by (try dsimp only); omega, Tk.zero .., (by (try dsimp only); repeat (first | exact hlow | exact LowQ.refl | refine LowQ.or_ ?_ (by assumption) | refine LowQ.up ?_ (by omega) | refine LowQ.at_ ?_ (by simp))), eV_, by rw [tabK_zero]; exact oB_⟩
  · obtain ⟨i, γ, hi, hgen1, hT, hlow, e4, htb⟩ := hI
    dsimp only at e4 htb
    simp only [valsE, List.cons.injEq, and_true] at hK
    simp only [valsO, List.cons.injEq, and_true] at hO
    have hE := (⟨hK, hO, e4, htb⟩ : _ ∧ _ ∧ _ ∧ _)
    dsimp only at hgen1 hT hlow
    refine p_go ?_
    refine p_splitC (s := 10) (ht := fun hc10 => ?_) (hf := fun hc10 => ?_)
    · have hlt : i < n + 1 := by have := hc10; simp at this; omega
      refine p_go fun hf => ?_
      refine p_add (r := ((n + 1 : Nat) : Int)) (hr := (by first | omega | (simp only [decide_eq_true_eq, decide_eq_false_iff_not, Bool.or_eq_false_iff, Bool.and_eq_true, Bool.not_eq_true', Bool.not_eq_false'] at *; omega))) (hb := (by first | omega | (simp only [decide_eq_true_eq, decide_eq_false_iff_not, Bool.or_eq_false_iff, Bool.and_eq_true, Bool.not_eq_true', Bool.not_eq_false'] at *; omega))) (h := ?_)
      refine p_make (z := .bool false) (v := .bool false) (n := n + 1) (ht := Try.underlying81) (hi := F.ti4.h) (hz := rfl) (hzv := rfl) (hro := rfl) (hb := by omega) (h63 := by omega) (h := ?_)
      refine p_bare ?_
      refine p_renSlot (s := 17) 901 (h := ?_)
      refine p_lastOp (h := ?_)
      refine p_rvIdx (i) (ht := Try.underlying83) (hi := F.ti81.h) (hlt := by omega) (h := ?_)
      refine p_rvStore (hi := F.ti81.h) (hlt := by simp; omega) (h := ?_)
      refine p_go fun hf => ?_
      refine p_add (r := ((i + 1 : Nat) : Int)) (hr := (by first | omega | (simp only [decide_eq_true_eq, decide_eq_false_iff_not, Bool.or_eq_false_iff, Bool.and_eq_true, Bool.not_eq_true', Bool.not_eq_false'] at *; omega))) (hb := (by first | omega | (simp only [decide_eq_true_eq, decide_eq_false_iff_not, Bool.or_eq_false_iff, Bool.and_eq_true, Bool.not_eq_true', Bool.not_eq_false'] at *; omega))) (h := ?_)
      refine p_go ?_
      refine p_some ?_
      refine ⟨⟨(by simp (decide := true) only [valsE, evE, upd, cv, args0, argsFrom, List.length_map, ↓reduceIte, hE] <;> rfl), (by simp (decide := true) only [valsO, updO, upd, true_and, and_true, false_and, and_false, ↓reduceIte, hE] <;> rfl)⟩, ⟨i + 1, _, by omega, by (try dsimp only); omega, hT.put (G := g1 + 1 + 1) (by omega) (by omega) (by (try dsimp only); omega) (by rw [bRow_rep]; exact oB_) (fun a ha => by simp only [updO]; repeat rw [if_neg (by omega)]), (by (try dsimp only); repeat (first | exact hlow | exact LowQ.refl | refine LowQ.or_ ?_ (by assumption) | refine LowQ.up ?_ (by omega) | refine LowQ.at_ ?_ (by simp))), eV_, by rw [← tabK_set hlt]; exact oB_⟩, ?_⟩
      simp (decide := true) only [upd, e4, V.toN, ↓reduceIte]; omega
    · have hge : n + 1 ≤ i := by have := hc10; simp at this; omega
      obtain rfl : i = n + 1 := by omega
      rw [tabK_end] at htb
      have hT2 := hT.fin
      have hE := (⟨hK, e4, htb⟩ : _ ∧ _ ∧ _)
      refine p_go ?_
      refine p_retE1 (v := .row ((g0 + 1 + 1 + 1 + 1)) 900 (n + 1)) rfl eV_ (hK0 _ _ _ (by first | (dsimp only; omega) | omega) (by (try dsimp only); repeat (first | exact hlow | exact LowQ.refl | refine LowQ.or_ ?_ (by assumption) | refine LowQ.up ?_ (by omega) | refine LowQ.at_ ?_ (by simp))) (⟨(g0 + 1 + 1 + 1 + 1), γ, by omega, by (try dsimp only); omega, rfl, oB_, hT2.frame (by (try dsimp only); omega) (fun a ha => rfl)⟩))

theorem tabL_at {γ : Nat → Nat} {m n i : Nat} (h : i < m) : (tabL γ m n)[i]? = some (.row (γ i) 901 n) := by simp [h]
theorem tabS_at {te m n i : Nat} {B : Nat → Nat → Bool} (h : i < m) : (tabS te m n B)[i]? = some (.sl te (bRow n (B i))) := by simp [h]
theorem bRow_at {n j : Nat} {f : Nat → Bool} (h : j < n) : (bRow n f)[j]? = some (.bool (f j)) := by simp [h]

theorem Tb.low2 {te n lo lo' g : Nat} {B : Nat → Nat → Bool} {γ : Nat → Nat} {o : Nat → Nat → Ob} (h : Tb te n B γ lo g o) (hl : lo' ≤ lo) : Tb te n B γ lo' g o := ⟨fun i hi => Nat.lt_of_le_of_lt hl (h.low i hi), h.up, h.inj, h.row⟩
theorem emp_step {i a b : Nat} : (if a = i then (if b = i then true else (decide (b = i) && decide (i < i))) else (decide (b = a) && decide (a < i))) = (decide (b = a) && decide (a < i + 1)) := by
  rw [Bool.eq_iff_iff]
  by_cases e : a = i
  · subst e
    by_cases e2 : b = a <;> simp [e2]
  · rw [if_neg e]; simp; omega

theorem emptyR (n : Nat) (hn : n ≤ 1000) : FnX Try.prog 64 [inV n] [] [] (fun g r o g' => TabR (n + 1) (fun a b => decide (b = a)) g r o g') := by
  refine FnX.of (fn := Try.f64) ⟨Try.func64, by kernel_rfl, rfl⟩ Try.ntmps64 (by simp) fun w0 S0 l ob0 g0 K hrow hgl hK0 => ?_
  simp only [valsO, List.cons.injEq, and_true] at hrow
  simp only [List.mem_cons, List.not_mem_nil, or_false, forall_eq_or_imp, forall_eq, forall_const] at hgl
  have hE := hrow
  refine p_go fun hf => ?_
  refine p_callX ([]) (hf := blankR n hn) (hg := by simp <;> omega) (hos := by simp <;> omega) (h := fun r o1 h1 hg1 hlw1 hos1 hR1 => ?_)
  obtain ⟨G, γ, hG, hGg, rfl, htb, hT0⟩ := hR1
  have hlow : LowQ g0 [] ob0 o1 := LowQ.trans (by (try dsimp only); repeat (first | exact hlow | exact LowQ.refl | refine LowQ.or_ ?_ (by assumption) | refine LowQ.up ?_ (by omega) | refine LowQ.at_ ?_ (by simp))) hlw1 (by first | (dsimp only; omega) | omega) (fun k hk => by cases hk)
  have hE := htb
  refine p_go ?_
  refine p_loopK [0, 3] [(G, 900)] (fun st => ∃ i : Nat, (i ≤ n + 1) ∧ (h1 ≤ st.gen) ∧ (Tb 4 (n + 1) (fun a b => decide (b = a) && decide (a < i)) γ (g0 + 1 + 1) st.gen st.obj) ∧ (LowQ g0 [] ob0 st.obj) ∧ st.env 4 = inV i) (fun st => n + 1 - (st.env 4).toN) ?_ fun e ob g1 hK hO hI => ?_
  · exact ⟨0, by omega, by (try dsimp only); omega, (hT0.ext (fun a b _ _ => by simp)).frame (by (try dsimp only); omega) (fun a ha => rfl), (by (try dsimp only); repeat (first | exact hlow | exact LowQ.refl | refine LowQ.or_ ?_ (by assumption) | refine LowQ.up ?_ (by omega) | refine LowQ.at_ ?_ (by simp))), eV_⟩
  · obtain ⟨i, hi, hgen1, hT, hlow, e4⟩ := hI
    dsimp only at e4
    simp only [valsE, List.cons.injEq, and_true] at hK
    simp only [valsO, List.cons.injEq, and_true] at hO
    have hE := (⟨hK, hO, e4⟩ : _ ∧ _ ∧ _)
    dsimp only at hgen1 hT hlow
    refine p_go ?_
    refine p_splitC (s := 9) (ht := fun hc9 => ?_) (hf := fun hc9 => ?_)
    · have hlt : i < n + 1 := by have := hc9; simp at this; omega
      have hri := hT.row i hlt
      have hE := (⟨hK, hO, e4, hri⟩ : _ ∧ _ ∧ _ ∧ _)
      refine p_go fun hf => ?_
      refine p_rvIdx (i) (ht := Try.underlying83) (hi := F.ti81.h) (hlt := hlt) (h := ?_)
      refine p_rvLoad (ht := F.leaf81.h) (hv := tabL_at hlt) (h := ?_)
      refine p_go fun hf => ?_
      refine p_idxRowN (i) (ht := Try.underlying81) (hi := F.ti4.h) (hij := rfl) (hlt := hlt) (h := ?_)
      refine p_storeRowF (f' := fun b => V.bool (if b = i then true else (decide (b = i) && decide (i < i)))) F.ti4.h (TI.cells F.ti4.h) (hlt := hlt) (hf := fun b _ => by split <;> rfl) (h := ?_)
      refine p_go fun hf => ?_
      refine p_add (r := ((i + 1 : Nat) : Int)) (hr := (by first | omega | (simp only [decide_eq_true_eq, decide_eq_false_iff_not, Bool.or_eq_false_iff, Bool.and_eq_true, Bool.not_eq_true', Bool.not_eq_false'] at *; omega))) (hb := (by first | omega | (simp only [decide_eq_true_eq, decide_eq_false_iff_not, Bool.or_eq_false_iff, Bool.and_eq_true, Bool.not_eq_true', Bool.not_eq_false'] at *; omega))) (h := ?_)
      refine p_go ?_
      refine p_some ?_
      have hlg := hT.low i hlt
      refine ⟨⟨(by simp (decide := true) only [valsE, evE, upd, cv, args0, argsFrom, List.length_map, ↓reduceIte, hE] <;> rfl), (by simp (decide := true) only [valsO, updO, upd, true_and, and_true, false_and, and_false, ↓reduceIte, hE] <;> rfl)⟩, ⟨i + 1, by omega, by (try dsimp only); omega, (hT.put hlt (by (try dsimp only); omega) _).ext (fun a b ha hb => emp_step), (by (try dsimp only); repeat (first | exact hlow | exact LowQ.refl | refine LowQ.or_ ?_ (by assumption) | refine LowQ.up ?_ (by omega) | refine LowQ.at_ ?_ (by simp))), eV_⟩, ?_⟩
      simp (decide := true) only [upd, e4, V.toN, ↓reduceIte]; omega
    · have hge : n + 1 ≤ i := by have := hc9; simp at this; omega
      obtain rfl : i = n + 1 := by omega
      refine p_go ?_
      refine p_retE1 (v := .row G 900 (n + 1)) rfl eV_ (hK0 _ _ _ (by first | (dsimp only; omega) | omega) (by (try dsimp only); repeat (first | exact hlow | exact LowQ.refl | refine LowQ.or_ ?_ (by assumption) | refine LowQ.up ?_ (by omega) | refine LowQ.at_ ?_ (by simp))) (⟨G, γ, by omega, by (try dsimp only); omega, rfl, oB_, ((hT.low2 (by omega)).frame (by (try dsimp only); omega) (fun a ha => rfl)).ext (fun a b ha hb => by rw [decide_eq_true ha, Bool.and_true])⟩))

end Go.Proofs.Ytjdhkopjigijfaa
/-
  The reference's tables of bools: one behind the other.
-/
set_option linter.unusedSimpArgs false
set_option linter.unusedVariables false
set_option maxHeartbeats 4000000
namespace Go.Proofs.Ytjdhkopjigijfaa
open Go.RowKit
attribute [local irreducible] Wk Tr
/-- Is there a place between at which the one ends and the other begins? -/
def behB (A C : Nat → Nat → Bool) (i j : Nat) : Bool := (List.range (j + 1)).any fun k => decide (i ≤ k) && A i k && C k j
def BehS (A C : Nat → Nat → Bool) (i k j a b : Nat) : Prop := ∃ m, a ≤ m ∧ m ≤ b ∧ A a m = true ∧ C m b = true ∧ (a < i ∨ a = i ∧ (m < k ∨ m = k ∧ b < j))
/-- What has been looked at ahead of places i, k, j. -/
def BehT (n : Nat) (A C B : Nat → Nat → Bool) (i k j : Nat) : Prop := ∀ a b, a < n → b < n → (B a b = true ↔ BehS A C i k j a b)
section
variable {n i k j : Nat} {A C B : Nat → Nat → Bool}
theorem beh_zero : BehT n A C (fun _ _ => false) 0 0 0 := fun a b _ _ => by
  constructor
  · intro h; cases h
  · rintro ⟨m, h1, h2, _, _, h5⟩; omega
theorem beh_to (h : BehT n A C B i k j) {i' k' j' : Nat} (hs : ∀ a m b, a < n → b < n → a ≤ m → m ≤ b → A a m = true → C m b = true → ((a < i ∨ a = i ∧ (m < k ∨ m = k ∧ b < j)) ↔ (a < i' ∨ a = i' ∧ (m < k' ∨ m = k' ∧ b < j')))) : BehT n A C B i' k' j' := fun a b ha hb => by
  rw [h a b ha hb]
  constructor
  · rintro ⟨m, h1, h2, h3, h4, h5⟩; exact ⟨m, h1, h2, h3, h4, (hs a m b ha hb h1 h2 h3 h4).1 h5⟩
  · rintro ⟨m, h1, h2, h3, h4, h5⟩; exact ⟨m, h1, h2, h3, h4, (hs a m b ha hb h1 h2 h3 h4).2 h5⟩
theorem beh_in (h : BehT n A C B i 0 0) : BehT n A C B i i 0 := beh_to h fun a m b _ _ h1 h2 _ _ => by omega
theorem beh_in2 (h : BehT n A C B i k 0) : BehT n A C B i k k := beh_to h fun a m b _ _ h1 h2 _ _ => by omega
theorem beh_out (h : BehT n A C B i n 0) : BehT n A C B (i + 1) 0 0 := beh_to h fun a m b ha hb h1 h2 _ _ => by omega
theorem beh_skip (h : BehT n A C B i k j) (hA : A i k = false ∨ n ≤ j) : BehT n A C B i (k + 1) 0 := beh_to h fun a m b ha hb h1 h2 h3 h4 => by
  rcases hA with hA | hA
  · have hne : ¬ (a = i ∧ m = k) := fun ⟨e1, e2⟩ => by subst e1; subst e2; rw [hA] at h3; cases h3
    omega
  · omega
theorem beh_put (h : BehT n A C B i k j) (hA : A i k = true) (hik : i ≤ k) (hkj : k ≤ j) (hi : i < n) (hj : j < n) : BehT n A C (fun a b => if a = i then (if b = j then (B i j || C k j) else B i b) else B a b) i k (j + 1) := fun a b ha hb => by
  dsimp only
  by_cases e : a = i
  · subst e
    by_cases e2 : b = j
    · subst e2
      rw [if_pos rfl, if_pos rfl, Bool.or_eq_true, h a b ha hb]
      constructor
      · rintro (⟨m, h1, h2, h3, h4, h5⟩ | h1)
        · exact ⟨m, h1, h2, h3, h4, by omega⟩
        · exact ⟨k, hik, hkj, hA, h1, by omega⟩
      · rintro ⟨m, h1, h2, h3, h4, h5⟩
        by_cases e3 : m = k
        · subst e3; exact .inr h4
        · exact .inl ⟨m, h1, h2, h3, h4, by omega⟩
    · rw [if_pos rfl, if_neg e2, h a b ha hb]
      constructor
      · rintro ⟨m, h1, h2, h3, h4, h5⟩; exact ⟨m, h1, h2, h3, h4, by omega⟩
      · rintro ⟨m, h1, h2, h3, h4, h5⟩; exact ⟨m, h1, h2, h3, h4, by omega⟩
  · rw [if_neg e, h a b ha hb]
    constructor
    · rintro ⟨m, h1, h2, h3, h4, h5⟩; exact ⟨m, h1, h2, h3, h4, by omega⟩
    · rintro ⟨m, h1, h2, h3, h4, h5⟩; exact ⟨m, h1, h2, h3, h4, by omega⟩
theorem beh_end (h : BehT n A C B n 0 0) (a b : Nat) (ha : a < n) (hb : b < n) : B a b = behB A C a b := by
  rw [Bool.eq_iff_iff, h a b ha hb, behB, List.any_eq_true]
  constructor
  · rintro ⟨m, h1, h2, h3, h4, _⟩
    exact ⟨m, List.mem_range.2 (by omega), by rw [h3, h4, decide_eq_true h1]; rfl⟩
  · rintro ⟨m, hm, h1⟩
    rw [List.mem_range] at hm
    simp only [Bool.and_eq_true, decide_eq_true_eq] at h1
    exact ⟨m, h1.1.1, by omega, h1.1.2, h1.2, .inl ha⟩
end

theorem behindR (n : Nat) (hn : n ≤ 1000) (A C : Nat → Nat → Bool) : FnC Try.prog 65 [.sl 81 (tabS 4 (n + 1) (n + 1) A), .sl 81 (tabS 4 (n + 1) (n + 1) C)] (fun r => r = .sl 81 (tabS 4 (n + 1) (n + 1) (behB A C))) := by
  refine FnC.of (fn := Try.f65) ⟨Try.func65, by kernel_rfl, rfl⟩ Try.ntmps65 (by simp) fun w0 S0 => ?_
  refine p_go fun hf => ?_
  refine p_sub (r := (n : Int)) (hr := by simp <;> omega) (hb := by omega) (h := ?_)
  refine p_callX ([]) (hf := blankR n hn) (hg := by simp <;> omega) (hos := by simp <;> omega) (h := fun r o1 h1 hg1 hlw1 hos1 hR1 => ?_)
  obtain ⟨G, γ, hG, hGg, rfl, htb, hT0⟩ := hR1
  have hE := htb
  refine p_go ?_
  refine p_loopK [0, 1, 5] [(G, 900)] (fun st => ∃ (i : Nat) (B : Nat → Nat → Bool), (i ≤ n + 1) ∧ (BehT (n + 1) A C B i 0 0) ∧ (h1 ≤ st.gen) ∧ (Tb 4 (n + 1) B γ 0 st.gen st.obj) ∧ st.env 6 = inV i) (fun st => n + 1 - (st.env 6).toN) ?_ fun e ob g1 hK hO hI => ?_
  · exact ⟨0, _, by omega, beh_zero, by (try dsimp only); omega, (hT0.low2 (by omega)).frame (by (try dsimp only); omega) (fun a ha => rfl), eV_⟩
  · obtain ⟨i, B, hi, hS, hgen1, hT, e6⟩ := hI
    dsimp only at e6
    simp only [valsE, List.cons.injEq, and_true] at hK
    simp only [valsO, List.cons.injEq, and_true] at hO
    have hE := (⟨hK, hO, e6⟩ : _ ∧ _ ∧ _)
    dsimp only at hgen1 hT
    refine p_go ?_
    refine p_splitC (s := 16) (ht := fun hc16 => ?_) (hf := fun hc16 => ?_)
    · have hlt1 : i < n + 1 := by have := hc16; simp at this; omega
      refine p_go ?_
      refine p_loopK [0, 1, 5, 6] [(G, 900)] (fun st => ∃ (k : Nat) (B2 : Nat → Nat → Bool), (i ≤ k ∧ k ≤ n + 1) ∧ (BehT (n + 1) A C B2 i k 0) ∧ (h1 ≤ st.gen) ∧ (Tb 4 (n + 1) B2 γ 0 st.gen st.obj) ∧ st.env 7 = inV k) (fun st => n + 1 - (st.env 7).toN) ?_ fun e ob g2 hK hO hI => ?_
      · exact ⟨i, B, by omega, beh_in hS, by (try dsimp only); omega, hT.frame (by (try dsimp only); omega) (fun a ha => rfl), eV_⟩
      · obtain ⟨k, B2, hk, hS2, hgen2, hT2, e7⟩ := hI
        dsimp only at e7
        simp only [valsE, List.cons.injEq, and_true] at hK
        simp only [valsO, List.cons.injEq, and_true] at hO
        have hE := (⟨hK, hO, e7⟩ : _ ∧ _ ∧ _)
        dsimp only at hgen2 hT2
        refine p_go ?_
        refine p_splitC (s := 23) (ht := fun hc23 => ?_) (hf := fun hc23 => ?_)
        · have hlt2 : k < n + 1 := by have := hc23; simp at this; omega
          refine p_go ?_
          refine p_loopK [0, 1, 5, 6, 7] [(G, 900)] (fun st => ∃ (j : Nat) (B3 : Nat → Nat → Bool), (k ≤ j ∧ j ≤ n + 1) ∧ (BehT (n + 1) A C B3 i k j) ∧ (h1 ≤ st.gen) ∧ (Tb 4 (n + 1) B3 γ 0 st.gen st.obj) ∧ st.env 8 = inV j) (fun st => n + 1 - (st.env 8).toN) ?_ fun e ob g3 hK hO hI => ?_
          · exact ⟨k, B2, by omega, beh_in2 hS2, by (try dsimp only); omega, hT2.frame (by (try dsimp only); omega) (fun a ha => rfl), eV_⟩
          · obtain ⟨j, B3, hj, hS3, hgen3, hT3, e8⟩ := hI
            dsimp only at e8
            simp only [valsE, List.cons.injEq, and_true] at hK
            simp only [valsO, List.cons.injEq, and_true] at hO
            have hE := (⟨hK, hO, e8⟩ : _ ∧ _ ∧ _)
            dsimp only at hgen3 hT3
            refine p_go fun hf => ?_
            refine p_split (s := 31) (ht := fun hb31 => ?_) (hf := fun hb31 => ?_)
            · have hlt3 : j < n + 1 := by have := hb31; simp at this; omega
              refine p_go fun hf => ?_
              refine p_idxSl (ht := Try.underlying83) (hi := F.ti81.h) (h0 := by omega) (hv := by rw [Int.toNat_natCast]; exact tabS_at hlt1) (h := ?_)
              refine p_go fun hf => ?_
              refine p_idxSl (ht := Try.underlying81) (hi := F.ti4.h) (h0 := by omega) (hv := by rw [Int.toNat_natCast]; exact bRow_at hlt2) (h := ?_)
              refine p_go ?_
              refine p_splitC (s := 39) (ht := fun hc39 => ?_) (hf := fun hc39 => ?_)
              · have hA : A i k = true := hc39
                have hri := hT3.row i hlt1
                have hE := (⟨hK, hO, e8, hri⟩ : _ ∧ _ ∧ _ ∧ _)
                refine p_go fun hf => ?_
                refine p_rvIdx (i) (ht := Try.underlying83) (hi := F.ti81.h) (hlt := hlt1) (h := ?_)
                refine p_rvLoad (ht := F.leaf81.h) (hv := tabL_at hlt1) (h := ?_)
                refine p_go fun hf => ?_
                refine p_rvIdx (i) (ht := Try.underlying83) (hi := F.ti81.h) (hlt := hlt1) (h := ?_)
                refine p_rvLoad (ht := F.leaf81.h) (hv := tabL_at hlt1) (h := ?_)
                refine p_go fun hf => ?_
                refine p_idxRowN (j) (ht := Try.underlying81) (hi := F.ti4.h) (hij := rfl) (hlt := hlt3) (h := ?_)
                refine p_loadRowF (ht := F.leaf4.h) (hi := hlt3) (h := ?_)
                refine p_go fun hf => ?_
                refine p_split (s := 54) (ht := fun hb54 => ?_) (hf := fun hb54 => ?_)
                · -- slot 54 is true
                  refine p_go fun hf => ?_
                  refine p_idxRowN (j) (ht := Try.underlying81) (hi := F.ti4.h) (hij := rfl) (hlt := hlt3) (h := ?_)
                  refine p_storeRowF (f' := fun b => V.bool (if b = j then (B3 i j || C k j) else B3 i b)) F.ti4.h (TI.cells F.ti4.h) (hlt := hlt3) (hf := fun b _ => by by_cases e : b = j <;> simp [e, hb54]) (h := ?_)
                  refine p_go fun hf => ?_
                  refine p_add (r := ((j + 1 : Nat) : Int)) (hr := (by first | omega | (simp only [decide_eq_true_eq, decide_eq_false_iff_not, Bool.or_eq_false_iff, Bool.and_eq_true, Bool.not_eq_true', Bool.not_eq_false'] at *; omega))) (hb := (by first | omega | (simp only [decide_eq_true_eq, decide_eq_false_iff_not, Bool.or_eq_false_iff, Bool.and_eq_true, Bool.not_eq_true', Bool.not_eq_false'] at *; omega))) (h := ?_)
                  refine p_go ?_
                  refine p_some ?_
                  refine ⟨⟨(by simp (decide := true) only [valsE, evE, upd, cv, args0, argsFrom, List.length_map, ↓reduceIte, hE] <;> rfl), (by simp (decide := true) only [valsO, updO, upd, true_and, and_true, false_and, and_false, ↓reduceIte, hE] <;> rfl)⟩, ⟨j + 1, _, by omega, beh_put hS3 hA hk.1 hj.1 hlt1 hlt3, by (try dsimp only); omega, hT3.put hlt1 (by (try dsimp only); omega) _, eV_⟩, ?_⟩
                  simp (decide := true) only [upd, e8, V.toN, ↓reduceIte]; omega
                · -- slot 54 is false
                  refine p_go fun hf => ?_
                  refine p_idxSl (ht := Try.underlying83) (hi := F.ti81.h) (h0 := by omega) (hv := by rw [Int.toNat_natCast]; exact tabS_at hlt2) (h := ?_)
                  refine p_go fun hf => ?_
                  refine p_idxSl (ht := Try.underlying81) (hi := F.ti4.h) (h0 := by omega) (hv := by rw [Int.toNat_natCast]; exact bRow_at hlt3) (h := ?_)
                  refine p_go fun hf => ?_
                  refine p_idxRowN (j) (ht := Try.underlying81) (hi := F.ti4.h) (hij := rfl) (hlt := hlt3) (h := ?_)
                  refine p_storeRowF (f' := fun b => V.bool (if b = j then (B3 i j || C k j) else B3 i b)) F.ti4.h (TI.cells F.ti4.h) (hlt := hlt3) (hf := fun b _ => by by_cases e : b = j <;> simp [e, hb54]) (h := ?_)
                  refine p_go fun hf => ?_
                  refine p_add (r := ((j + 1 : Nat) : Int)) (hr := (by first | omega | (simp only [decide_eq_true_eq, decide_eq_false_iff_not, Bool.or_eq_false_iff, Bool.and_eq_true, Bool.not_eq_true', Bool.not_eq_false'] at *; omega))) (hb := (by first | omega | (simp only [decide_eq_true_eq, decide_eq_false_iff_not, Bool.or_eq_false_iff, Bool.and_eq_true, Bool.not_eq_true', Bool.not_eq_false'] at *; omega))) (h := ?_)
                  refine p_go ?_
                  refine p_some ?_
                  refine ⟨⟨(by simp (decide := true) only [valsE, evE, upd, cv, args0, argsFrom, List.length_map, ↓reduceIte, hE] <;> rfl), (by simp (decide := true) only [valsO, updO, upd, true_and, and_true, false_and, and_false, ↓reduceIte, hE] <;> rfl)⟩, ⟨j + 1, _, by omega, beh_put hS3 hA hk.1 hj.1 hlt1 hlt3, by (try dsimp only); omega, hT3.put hlt1 (by (try dsimp only); omega) _, eV_⟩, ?_⟩
                  simp (decide := true) only [upd, e8, V.toN, ↓reduceIte]; omega
              · have hA : A i k = false := hc39
                refine p_go fun hf => ?_
                refine p_add (r := ((k + 1 : Nat) : Int)) (hr := (by first | omega | (simp only [decide_eq_true_eq, decide_eq_false_iff_not, Bool.or_eq_false_iff, Bool.and_eq_true, Bool.not_eq_true', Bool.not_eq_false'] at *; omega))) (hb := (by first | omega | (simp only [decide_eq_true_eq, decide_eq_false_iff_not, Bool.or_eq_false_iff, Bool.and_eq_true, Bool.not_eq_true', Bool.not_eq_false'] at *; omega))) (h := ?_)
                refine p_go ?_
                refine p_some ?_
                refine ⟨⟨(by simp (decide := true) only [valsE, evE, upd, cv, args0, argsFrom, List.length_map, ↓reduceIte, hE] <;> rfl), (by simp (decide := true) only [valsO, updO, upd, true_and, and_true, false_and, and_false, ↓reduceIte, hE] <;> rfl)⟩, ⟨k + 1, B3, by omega, beh_skip hS3 (.inl hA), by (try dsimp only); omega, hT3.frame (by (try dsimp only); omega) (fun a ha => rfl), eV_⟩, ?_⟩
                simp (decide := true) only [upd, e7, V.toN, ↓reduceIte]; omega
            · have hge3 : n + 1 ≤ j := by have := hb31; simp at this; omega
              refine p_go fun hf => ?_
              refine p_add (r := ((k + 1 : Nat) : Int)) (hr := (by first | omega | (simp only [decide_eq_true_eq, decide_eq_false_iff_not, Bool.or_eq_false_iff, Bool.and_eq_true, Bool.not_eq_true', Bool.not_eq_false'] at *; omega))) (hb := (by first | omega | (simp only [decide_eq_true_eq, decide_eq_false_iff_not, Bool.or_eq_false_iff, Bool.and_eq_true, Bool.not_eq_true', Bool.not_eq_false'] at *; omega))) (h := ?_)
              refine p_go ?_
              refine p_some ?_
              refine ⟨⟨(by simp (decide := true) only [valsE, evE, upd, cv, args0, argsFrom, List.length_map, ↓reduceIte, hE] <;> rfl), (by simp (decide := true) only [valsO, updO, upd, true_and, and_true, false_and, and_false, ↓reduceIte, hE] <;> rfl)⟩, ⟨k + 1, B3, by omega, beh_skip hS3 (.inr hge3), by (try dsimp only); omega, hT3.frame (by (try dsimp only); omega) (fun a ha => rfl), eV_⟩, ?_⟩
              simp (decide := true) only [upd, e7, V.toN, ↓reduceIte]; omega
        · have hge : n + 1 ≤ k := by have := hc23; simp at this; omega
          obtain rfl : k = n + 1 := by omega
          refine p_go fun hf => ?_
          refine p_add (r := ((i + 1 : Nat) : Int)) (hr := (by first | omega | (simp only [decide_eq_true_eq, decide_eq_false_iff_not, Bool.or_eq_false_iff, Bool.and_eq_true, Bool.not_eq_true', Bool.not_eq_false'] at *; omega))) (hb := (by first | omega | (simp only [decide_eq_true_eq, decide_eq_false_iff_not, Bool.or_eq_false_iff, Bool.and_eq_true, Bool.not_eq_true', Bool.not_eq_false'] at *; omega))) (h := ?_)
          refine p_go ?_
          refine p_some ?_
          refine ⟨⟨(by simp (decide := true) only [valsE, evE, upd, cv, args0, argsFrom, List.length_map, ↓reduceIte, hE] <;> rfl), (by simp (decide := true) only [valsO, updO, upd, true_and, and_true, false_and, and_false, ↓reduceIte, hE] <;> rfl)⟩, ⟨i + 1, B2, by omega, beh_out hS2, by (try dsimp only); omega, hT2.frame (by (try dsimp only); omega) (fun a ha => rfl), eV_⟩, ?_⟩
          simp (decide := true) only [upd, e6, V.toN, ↓reduceIte]; omega
    · have hge : n + 1 ≤ i := by have := hc16; simp at this; omega
      obtain rfl : i = n + 1 := by omega
      refine p_condF (h := ?_)
      refine p_exit ?_
      refine p_seq (p_region fun hf => ?_)
      refine p_move (h := ?_)
      refine p_assign (h := ?_)
      refine p_end ?_
      refine TrC.ret ?_
      refine p_frzTab (s := 4) (g1 := G) (te := 4) (t := 81) (n := n + 1) eV_ oB_ hT fun ob2 hob2 => ?_
      refine p_ret1 (hp := by rw [tabS_congr (beh_end hS)])

end Go.Proofs.Ytjdhkopjigijfaa
