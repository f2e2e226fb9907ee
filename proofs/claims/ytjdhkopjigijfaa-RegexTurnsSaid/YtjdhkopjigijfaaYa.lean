/-
  Expressions turned round and joined: the program's.
-/
import Derived.Test.YtjdhkopjigijfaaXw
set_option linter.unusedSimpArgs false
set_option linter.unusedVariables false
set_option maxHeartbeats 4000000
namespace Go.Proofs.Ytjdhkopjigijfaa
open Go.RowKit
attribute [local irreducible] Wk Tr
mutual
/-- An expression whose words are backwards. -/
def tnX : Rx → Rx
  | .mk op nm ks => .mk op nm (if op = 5 then (tnXs ks).reverse else tnXs ks)
def tnXs : List Rx → List Rx
  | [] => []
  | k :: ks => tnX k :: tnXs ks
end
theorem tnXs_eq : ∀ l : List Rx, tnXs l = l.map tnX
  | [] => rfl
  | k :: l => by rw [tnXs, tnXs_eq l]; rfl
def ordK (r : Rx) : List Rx := if r.op = 5 then r.kids.reverse else r.kids
theorem tnX_eq (r : Rx) : tnX r = .mk r.op r.name ((ordK r).map tnX) := by
  cases r with
  | mk op nm ks =>
    have h1 : ordK (.mk op nm ks) = if op = 5 then ks.reverse else ks := rfl
    show tnX (.mk op nm ks) = .mk op nm ((ordK (.mk op nm ks)).map tnX)
    rw [tnX, tnXs_eq, h1]
    by_cases h : op = 5
    · rw [if_pos h, if_pos h, List.map_reverse]
    · rw [if_neg h, if_neg h]
theorem ordK_len (r : Rx) : (ordK r).length = r.kids.length := by unfold ordK; split <;> simp
theorem ordK_mem {r k : Rx} : k ∈ ordK r ↔ k ∈ r.kids := by unfold ordK; split <;> simp
theorem tn_op (r : Rx) : (tnX r).op = r.op := by rw [tnX_eq]; rfl
theorem tn_name (r : Rx) : (tnX r).name = r.name := by rw [tnX_eq]; rfl
theorem tn_kids (r : Rx) : (tnX r).kids = (ordK r).map tnX := by rw [tnX_eq]; rfl
theorem tn_sm (r : Rx) (h : r.Sm) : (tnX r).Sm := by
  induction r using Rx.ind with
  | _ r ih =>
    refine .mk (by rw [tn_kids, List.length_map, ordK_len]; exact h.len) fun k hk => ?_
    rw [tn_kids] at hk
    obtain ⟨k', hk', rfl⟩ := List.mem_map.1 hk
    exact ih k' (ordK_mem.1 hk') (h.kids k' (ordK_mem.1 hk'))
/-- The row of Kids, the first i of which are made anew by f. -/
def mkL (f : Rx → Rx) (l : List Rx) (i : Nat) : List Rx := (l.take i).map f ++ l.drop i
theorem mkL_len (f : Rx → Rx) (l : List Rx) (i : Nat) : (mkL f l i).length = l.length := by simp [mkL]; omega
theorem mkL_at {f : Rx → Rx} {l : List Rx} {i : Nat} (h : i < l.length) (h2 : i < (mkL f l i).length) : (mkL f l i)[i] = l[i] := by
  have h3 : (mkL f l i)[i]? = some l[i] := by
    unfold mkL
    rw [List.getElem?_append_right (by simp; omega)]
    simp [show min i l.length = i by omega, h]
  exact (List.getElem?_eq_some_iff.1 h3).2
theorem mkL_zero (f : Rx → Rx) (l : List Rx) : mkL f l 0 = l := by simp [mkL]
theorem mkL_end {f : Rx → Rx} {l : List Rx} {i : Nat} (h : l.length ≤ i) : mkL f l i = l.map f := by
  simp [mkL, List.take_of_length_le h, List.drop_eq_nil_of_le h]
theorem mkL_set {f : Rx → Rx} {l : List Rx} {i : Nat} (h : i < l.length) : ((mkL f l i).map rxV).set i (rxA (f l[i])) = (mkL f l (i + 1)).map rxV := by
  rw [show rxA (f l[i]) = rxV (f l[i]) from (rxV_eq _).symm, ← List.map_set]
  congr 1
  unfold mkL
  rw [List.set_append_right _ _ (by simp; omega), take_step h, List.map_append, List.append_assoc]
  congr 1
  rw [List.length_map, List.length_take, show i - min i l.length = 0 by omega, List.drop_eq_getElem_cons h]
  rfl
theorem clone_rx (l : List Rx) (hl : l.length ≤ 1000000) : FnO Try.prog 69 [.sl 25 (l.map rxV)] 25 (l.map rxV) (fun g d => .row g d l.length) := by
  refine FnO.of (fn := Try.f69) ⟨Try.func69, by kernel_rfl, rfl⟩ Try.ntmps69 (by simp) fun w0 S0 => ?_
  refine p_go fun hf => ?_
  refine p_eqNil (h := fun b hb => ?_)
  refine p_go ?_
  refine p_cond (ht := fun hc => ?_) (hf := fun hc => ?_)
  · have hnil := List.map_eq_nil_iff.1 (hb hc)
    subst hnil
    refine p_go ?_
    refine p_nilSlot (s := 2) (el := 25) 99 (h := ?_)
    refine p_retO1 (0 + 1 + 1 + 1) 99 rfl oB_ eV_ (Ren.row _)
  · refine p_go fun hf => ?_
    refine p_buildSlice (ht := Try.underlying23) (hi := F.ti25.h) (hvs := rfl) (hl := by intro v hv; cases hv) (h := ?_)
    refine p_go fun hf => ?_
    refine p_append (k := l.length) (xs := []) (ht := Try.underlying23) (hi := F.ti25.h) (hnl := rfl) (hy := by exact .inl ⟨rfl, rfl⟩) (hm := by simp) (hlim := by omega) (h := ?_)
    refine p_go ?_
    refine p_retO1 (0 + 1 + 1 + 1) 7 rfl oB_ eV_ (Ren.row _)
/-- A list after some swaps of its ends. -/
def swr (xs : List Rx) (i k : Nat) : Rx := if k < i ∨ xs.length ≤ k + i then xs.getD (xs.length - 1 - k) (.mk 0 ⟨#[]⟩ []) else xs.getD k (.mk 0 ⟨#[]⟩ [])
theorem swr_zero (xs : List Rx) : (List.range xs.length).map (fun k => rxV (swr xs 0 k)) = xs.map rxV := by
  refine List.ext_getElem (by simp) fun j h1 h2 => ?_
  simp only [List.length_map] at h2
  simp only [List.getElem_map, List.getElem_range, swr]
  rw [if_neg (by omega)]
  simp [List.getD, h2]
theorem swr_end {xs : List Rx} {i : Nat} (h : xs.length ≤ 2 * i + 1) : (List.range xs.length).map (fun k => rxV (swr xs i k)) = xs.reverse.map rxV := by
  refine List.ext_getElem (by simp) fun j h1 h2 => ?_
  simp only [List.length_map, List.length_reverse] at h2
  simp only [List.getElem_map, List.getElem_range, List.getElem_reverse, swr]
  split
  · simp [List.getD, show xs.length - 1 - j < xs.length by omega]
  · have : xs.length - 1 - j = j := by omega
    simp [List.getD, h2, this]
theorem swr_next {xs : List Rx} {i : Nat} (h : 2 * i + 1 < xs.length) (k : Nat) (hk : k < xs.length) : rxV (swr xs (i + 1) k) = if k = xs.length - 1 - i then .agg (rxL (swr xs i i)) else if k = i then .agg (rxL (swr xs i (xs.length - 1 - i))) else rxV (swr xs i k) := by
  rw [← rxV_eq, ← rxV_eq]
  by_cases h1 : k = xs.length - 1 - i
  · subst h1
    rw [if_pos rfl]
    simp only [swr]
    rw [if_pos (by omega), if_neg (by omega), show xs.length - 1 - (xs.length - 1 - i) = i by omega]
  · rw [if_neg h1]
    by_cases h2 : k = i
    · subst h2
      rw [if_pos rfl]
      simp only [swr]
      rw [if_pos (by omega), if_neg (by omega)]
    · rw [if_neg h2]
      simp only [swr]
      by_cases h3 : k < i ∨ xs.length ≤ k + i
      · rw [if_pos h3, if_pos (by omega)]
      · rw [if_neg h3, if_neg (by omega)]

theorem reverse_rx (a : Nat) (xs : List Rx) (n : Nat) (hn : n = xs.length) (hl : xs.length ≤ 1000000000) : FnX Try.prog 70 [.row a 6 n] [(a, 6)] [.row 25 (xs.map rxV)] (fun g r o g' => r = .tup [] ∧ o a 6 = .row 25 (xs.reverse.map rxV)) := by
  refine FnX.of (fn := Try.f70) ⟨Try.func70, by kernel_rfl, rfl⟩ Try.ntmps70 (by simp) fun w0 S0 l ob0 g0 K hrow hgl hK0 => ?_
  simp only [valsO, List.cons.injEq, and_true] at hrow
  simp only [List.mem_cons, List.not_mem_nil, or_false, forall_eq_or_imp, forall_eq, forall_const] at hgl
  subst hn
  have hE := hrow
  refine p_go fun hf => ?_
  refine p_sub (hr := rfl) (hb := by omega) (h := ?_)
  refine p_go ?_
  refine p_loopK [0] [] (fun st => ∃ i : Nat, (i ≤ xs.length) ∧ (g0 ≤ st.gen) ∧ (LowQ g0 [(a, 6)] ob0 st.obj) ∧ st.env 2 = inV i ∧ st.env 3 = iV ((xs.length : Int) - 1 - i) ∧ st.obj a 6 = .row 25 ((List.range xs.length).map fun k => rxV (swr xs i k))) (fun st => xs.length - (st.env 2).toN) ?_ fun e ob g1 hK hO hI => ?_
  · exact ⟨0, by omega, by (try dsimp only); omega, (by (try dsimp only); repeat (first | exact hlow | exact LowQ.refl | refine LowQ.or_ ?_ (by assumption) | refine LowQ.up ?_ (by omega) | refine LowQ.at_ ?_ (by simp))), eV_, by refine Eq.trans eV_ ?_; simp, by rw [swr_zero]; exact oB_⟩
  · obtain ⟨i, hi, hgen1, hlow, e2, e3, hrw⟩ := hI
    dsimp only at e2 e3 hrw
    simp only [valsE, List.cons.injEq, and_true] at hK
    simp only [valsO, List.cons.injEq, and_true] at hO
    have hE := (⟨hK, hO, e2, e3, hrw⟩ : _ ∧ _ ∧ _ ∧ _ ∧ _)
    dsimp only at hgen1 hlow
    refine p_go ?_
    refine p_splitC (s := 9) (ht := fun hc9 => ?_) (hf := fun hc9 => ?_)
    · have hlt : 2 * i + 1 < xs.length := by simp at hc9; omega
      refine p_go fun hf => ?_
      refine p_idxRowN ((xs.length - 1 - i)) (ht := Try.underlying23) (hi := F.ti25.h) (hij := by omega) (hlt := by omega) (h := ?_)
      refine p_loadRowAM (l' := rxL (swr xs i (xs.length - 1 - i))) (l := List.range xs.length) (ht := F.agg25.h) (hi := F.ti25.h) (hj := by simp; omega) (hl := by rw [List.getElem_range, rxV_cells]) (h := ?_)
      refine p_go fun hf => ?_
      refine p_idxRowN (i) (ht := Try.underlying23) (hi := F.ti25.h) (hij := rfl) (hlt := by omega) (h := ?_)
      refine p_loadRowAM (l' := rxL (swr xs i i)) (l := List.range xs.length) (ht := F.agg25.h) (hi := F.ti25.h) (hj := by simp; omega) (hl := by rw [List.getElem_range, rxV_cells]) (h := ?_)
      refine p_idxRowN (i) (ht := Try.underlying23) (hi := F.ti25.h) (hij := rfl) (hlt := by omega) (h := ?_)
      refine p_storeRowAF (f' := fun k => if k = i then .agg (rxL (swr xs i (xs.length - 1 - i))) else rxV (swr xs i k)) (l := rxL (swr xs i (xs.length - 1 - i))) (hi := F.ti25.h) (hc := TI.cells F.ti25.h) (hlt := by omega) (hf := fun k _ => rfl) (h := ?_)
      refine p_idxRowN ((xs.length - 1 - i)) (ht := Try.underlying23) (hi := F.ti25.h) (hij := by omega) (hlt := by omega) (h := ?_)
      refine p_storeRowAF (f' := fun k => rxV (swr xs (i + 1) k)) (l := rxL (swr xs i i)) (hi := F.ti25.h) (hc := TI.cells F.ti25.h) (hlt := by omega) (hf := fun k hk => swr_next hlt k hk) (h := ?_)
      refine p_go fun hf => ?_
      refine p_add (r := ((i + 1 : Nat) : Int)) (hr := (by first | omega | (simp only [decide_eq_true_eq, decide_eq_false_iff_not, Bool.or_eq_false_iff, Bool.and_eq_true, Bool.not_eq_true', Bool.not_eq_false'] at *; omega))) (hb := (by first | omega | (simp only [decide_eq_true_eq, decide_eq_false_iff_not, Bool.or_eq_false_iff, Bool.and_eq_true, Bool.not_eq_true', Bool.not_eq_false'] at *; omega))) (h := ?_)
      refine p_go fun hf => ?_
      refine p_sub (hr := rfl) (hb := by omega) (h := ?_)
      refine p_go ?_
      refine p_some ?_
      refine ⟨⟨(by simp (decide := true) only [valsE, evE, upd, cv, args0, argsFrom, List.length_map, ↓reduceIte, hE] <;> rfl), (by simp (decide := true) only [valsO, updO, upd, true_and, and_true, false_and, and_false, ↓reduceIte, hE] <;> rfl)⟩, ⟨i + 1, by omega, by (try dsimp only); omega, (by (try dsimp only); repeat (first | exact hlow | exact LowQ.refl | refine LowQ.or_ ?_ (by assumption) | refine LowQ.up ?_ (by omega) | refine LowQ.at_ ?_ (by simp))), eV_, by rw [show ((xs.length : Int) - 1 - ((i + 1 : Nat) : Int)) = (xs.length : Int) - 1 - i - 1 by omega]; exact eV_, oB_⟩, ?_⟩
      simp (decide := true) only [upd, e2, V.toN, ↓reduceIte]; omega
    · have hge : xs.length ≤ 2 * i + 1 := by simp at hc9; omega
      refine p_go ?_
      refine p_retE0 rfl (hK0 _ _ _ (by first | (dsimp only; omega) | omega) (by (try dsimp only); repeat (first | exact hlow | exact LowQ.refl | refine LowQ.or_ ?_ (by assumption) | refine LowQ.up ?_ (by omega) | refine LowQ.at_ ?_ (by simp))) (⟨rfl, by rw [← swr_end hge]; exact oB_⟩))

theorem turn_gen (x : Rx) (hs : x.kids.length ≤ 1000000) (hrec : ∀ k ∈ x.kids, FnC Try.prog 40 [rxA k] (fun r => r = rxA (tnX k))) : FnC Try.prog 40 [rxA x] (fun r => r = rxA (tnX x)) := by
  refine FnC.of (fn := Try.f40) ⟨Try.func40, by kernel_rfl, rfl⟩ Try.ntmps40 (by simp) fun w0 S0 => ?_
  refine p_go fun hf => ?_
  refine p_callO 6 (hb := ⟨Try.func69, by kernel_rfl, rfl⟩) (hf := clone_rx x.kids hs) (h := ?_)
  refine p_go ?_
  refine p_loopK [1, 2, 10] [(0 + 1, 1), (0 + 1, 2)] (fun st => ∃ i : Nat, (i ≤ x.kids.length) ∧ st.env 11 = inV i ∧ st.obj 2 6 =  .row 25 ((mkL tnX x.kids i).map rxV)) (fun st => x.kids.length - (st.env 11).toN) ?_ fun e ob g1 hK hO hI => ?_
  · exact ⟨0, by omega, eV_, by rw [mkL_zero]; exact oB_⟩
  · obtain ⟨i, hi, e11, hrw⟩ := hI
    dsimp only at e11 hrw
    simp only [valsE, List.cons.injEq, and_true] at hK
    simp only [valsO, List.cons.injEq, and_true] at hO
    have hE := (⟨hK, hO, e11, hrw⟩ : _ ∧ _ ∧ _ ∧ _)
    refine p_go ?_
    refine p_splitC (s := 12) (ht := fun hc12 => ?_) (hf := fun hc12 => ?_)
    · have hlt : i < x.kids.length := by simpa using hc12
      refine p_go fun hf => ?_
      refine p_idxRowN (i) (ht := Try.underlying23) (hi := F.ti25.h) (hij := rfl) (hlt := hlt) (h := ?_)
      refine p_loadRowAM (ht := F.agg25.h) (hi := F.ti25.h) (hj := by rw [mkL_len]; exact hlt) (hl := rxV_cells _) (h := ?_)
      rw [mkL_at hlt]
      refine p_call (hx := rfl) (hb := ⟨Try.func40, by kernel_rfl, rfl⟩) (hf := hrec x.kids[i] (List.getElem_mem hlt)) (h := ?_)
      refine p_idxRowN (i) (ht := Try.underlying23) (hi := F.ti25.h) (hij := rfl) (hlt := hlt) (h := ?_)
      refine p_storeRow (hi := F.ti25.h) (hc := TI.cells F.ti25.h) (hlt := by simp [mkL_len]; exact hlt) (hl := .inr ⟨_, rfl⟩) (hro := rfl) (hsz := rfl) (h := ?_)
      rw [mkL_set hlt]
      refine p_go fun hf => ?_
      refine p_add (r := ((i + 1 : Nat) : Int)) (hr := (by first | omega | (simp only [decide_eq_true_eq, decide_eq_false_iff_not, Bool.or_eq_false_iff, Bool.and_eq_true, Bool.not_eq_true', Bool.not_eq_false'] at *; omega))) (hb := (by first | omega | (simp only [decide_eq_true_eq, decide_eq_false_iff_not, Bool.or_eq_false_iff, Bool.and_eq_true, Bool.not_eq_true', Bool.not_eq_false'] at *; omega))) (h := ?_)
      refine p_go ?_
      refine p_some ?_
      refine ⟨⟨(by simp (decide := true) only [valsE, evE, upd, cv, args0, argsFrom, List.length_map, ↓reduceIte, hE] <;> rfl), (by simp (decide := true) only [valsO, updO, upd, true_and, and_true, false_and, and_false, ↓reduceIte, hE] <;> rfl)⟩, ⟨i + 1, hlt, eV_, oB_⟩, ?_⟩
      simp (decide := true) only [upd, e11, V.toN, ↓reduceIte]; omega
    · have hge : x.kids.length ≤ i := by simpa using hc12
      rw [mkL_end hge] at hrw
      have hE := (⟨hK, hO, e11, hrw⟩ : _ ∧ _ ∧ _ ∧ _)
      refine p_go ?_
      refine p_splitC (s := 27) (ht := fun hc27 => ?_) (hf := fun hc27 => ?_)
      · have h5 : x.op = 5 := by simpa using hc27
        refine p_go fun hf => ?_
        refine p_callX ([(0 + 1, 1), (0 + 1, 2)]) (hf := reverse_rx (2) (x.kids.map tnX) x.kids.length (by rw [List.length_map]) (by rw [List.length_map]; omega)) (hg := by simp <;> omega) (hos := by simp) (h := fun r o6 h6 hg6 hlw6 hos6 hR6 => ?_)
        obtain ⟨rfl, hrw6⟩ := hR6
        simp only [valsO, List.cons.injEq, and_true] at hos6
        have hE := (⟨hK, e11, hos6, hrw6⟩ : _ ∧ _ ∧ _ ∧ _)
        refine p_end ?_
        refine p_freeze (g1 := 2) (d1 := 6) (h := ?_)
        refine p_cellSl (g1 := 0 + 1) (d1 := 1) (i := 2) (g2 := 2) (d2 := 6) (hn := by simp) (h := ?_)
        refine p_go ?_
        refine p_r1 (hp := by rw [show tnX x = .mk x.op x.name (x.kids.map tnX).reverse by rw [tnX_eq, ordK, if_pos h5, List.map_reverse]]; rfl)
      · have h5 : ¬ x.op = 5 := by simpa using hc27
        refine p_condF (h := ?_)
        refine p_skip ?_
        refine p_freeze (g1 := 2) (d1 := 6) (h := ?_)
        refine p_cellSl (g1 := 0 + 1) (d1 := 1) (i := 2) (g2 := 2) (d2 := 6) (hn := by simp) (h := ?_)
        refine p_go ?_
        refine p_r1 (hp := by rw [tnX_eq, ordK, if_neg h5]; rfl)

theorem copied_gen (x : Rx) (hs : x.kids.length ≤ 1000000) (hrec : ∀ k ∈ x.kids, FnC Try.prog 52 [rxA k] (fun r => r = rxA (id k))) : FnC Try.prog 52 [rxA x] (fun r => r = rxA x) := by
  refine FnC.of (fn := Try.f52) ⟨Try.func52, by kernel_rfl, rfl⟩ Try.ntmps52 (by simp) fun w0 S0 => ?_
  refine p_go fun hf => ?_
  refine p_callO 6 (hb := ⟨Try.func69, by kernel_rfl, rfl⟩) (hf := clone_rx x.kids hs) (h := ?_)
  refine p_go ?_
  refine p_loopK [1, 2, 10] [(0 + 1, 1), (0 + 1, 2)] (fun st => ∃ i : Nat, (i ≤ x.kids.length) ∧ st.env 11 = inV i ∧ st.obj 2 6 =  .row 25 ((mkL id x.kids i).map rxV)) (fun st => x.kids.length - (st.env 11).toN) ?_ fun e ob g1 hK hO hI => ?_
  · exact ⟨0, by omega, eV_, by rw [mkL_zero]; exact oB_⟩
  · obtain ⟨i, hi, e11, hrw⟩ := hI
    dsimp only at e11 hrw
    simp only [valsE, List.cons.injEq, and_true] at hK
    simp only [valsO, List.cons.injEq, and_true] at hO
    have hE := (⟨hK, hO, e11, hrw⟩ : _ ∧ _ ∧ _ ∧ _)
    refine p_go ?_
    refine p_splitC (s := 12) (ht := fun hc12 => ?_) (hf := fun hc12 => ?_)
    · have hlt : i < x.kids.length := by simpa using hc12
      refine p_go fun hf => ?_
      refine p_idxRowN (i) (ht := Try.underlying23) (hi := F.ti25.h) (hij := rfl) (hlt := hlt) (h := ?_)
      refine p_loadRowAM (ht := F.agg25.h) (hi := F.ti25.h) (hj := by rw [mkL_len]; exact hlt) (hl := rxV_cells _) (h := ?_)
      rw [mkL_at hlt]
      refine p_call (hx := rfl) (hb := ⟨Try.func52, by kernel_rfl, rfl⟩) (hf := hrec x.kids[i] (List.getElem_mem hlt)) (h := ?_)
      refine p_idxRowN (i) (ht := Try.underlying23) (hi := F.ti25.h) (hij := rfl) (hlt := hlt) (h := ?_)
      refine p_storeRow (hi := F.ti25.h) (hc := TI.cells F.ti25.h) (hlt := by simp [mkL_len]; exact hlt) (hl := .inr ⟨_, rfl⟩) (hro := rfl) (hsz := rfl) (h := ?_)
      rw [mkL_set hlt]
      refine p_go fun hf => ?_
      refine p_add (r := ((i + 1 : Nat) : Int)) (hr := (by first | omega | (simp only [decide_eq_true_eq, decide_eq_false_iff_not, Bool.or_eq_false_iff, Bool.and_eq_true, Bool.not_eq_true', Bool.not_eq_false'] at *; omega))) (hb := (by first | omega | (simp only [decide_eq_true_eq, decide_eq_false_iff_not, Bool.or_eq_false_iff, Bool.and_eq_true, Bool.not_eq_true', Bool.not_eq_false'] at *; omega))) (h := ?_)
      refine p_go ?_
      refine p_some ?_
      refine ⟨⟨(by simp (decide := true) only [valsE, evE, upd, cv, args0, argsFrom, List.length_map, ↓reduceIte, hE] <;> rfl), (by simp (decide := true) only [valsO, updO, upd, true_and, and_true, false_and, and_false, ↓reduceIte, hE] <;> rfl)⟩, ⟨i + 1, hlt, eV_, oB_⟩, ?_⟩
      simp (decide := true) only [upd, e11, V.toN, ↓reduceIte]; omega
    · have hge : x.kids.length ≤ i := by simpa using hc12
      rw [mkL_end hge] at hrw
      have hE := (⟨hK, hO, e11, hrw⟩ : _ ∧ _ ∧ _ ∧ _)
      refine p_condF (h := ?_)
      refine p_exit ?_
      refine p_freeze (g1 := 2) (d1 := 6) (h := ?_)
      refine p_cellSl (g1 := 0 + 1) (d1 := 1) (i := 2) (g2 := 2) (d2 := 6) (hn := by simp) (h := ?_)
      refine p_go ?_
      refine p_r1 (hp := by rw [List.map_id]; rfl)

end Go.Proofs.Ytjdhkopjigijfaa
