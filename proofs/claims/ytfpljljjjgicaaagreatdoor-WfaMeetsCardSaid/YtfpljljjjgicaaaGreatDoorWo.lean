/-
  wfa.asked, ends.
-/
import Derived.Test.YtfpljljjjgicaaaGreatDoorWn
set_option maxHeartbeats 4000000
set_option linter.unusedSimpArgs false
set_option linter.unusedVariables false
namespace Go.Proofs.YtfpljljjjgicaaaGreatDoor
open Go.RowKit
attribute [local irreducible] Wk Tr
def badS (a : Aut) (x : Int) : Bool := decide (x < 0) || decide (a.states ≤ x)
def badY (a : Aut) (x : Int) : Bool := decide (x < 0) || decide (a.symbols ≤ x)
def askedE (a : Aut) (frm w : List Int) : Int := if checkE10 a ≠ 0 then checkE10 a else if frm.any (badS a) then 101 else if w.any (badY a) then 102 else 0
theorem finOk_in {a : Aut} : ∀ {last : Int} {l : List Int}, finOk a last l = true → ∀ x ∈ l, inS a x = true
  | _, [], _, _, h => by cases h
  | last, s :: l, h, x, hx => by
    simp only [finOk, Bool.and_eq_true] at h
    rcases List.mem_cons.1 hx with rfl | hx
    · exact h.1.1
    · exact finOk_in h.2 x hx
/-- What an automaton that may be is like. -/
structure Aut.Ok (a : Aut) : Prop where
  sp : spOk a.sp = true
  many : a.trs.length ≤ 65536
  st : 0 ≤ a.states ∧ a.states ≤ 4096
  sy : 0 ≤ a.symbols ∧ a.symbols ≤ 4096
  fin : ∀ x ∈ a.fin, 0 ≤ x ∧ x < a.states
  trs : ∀ t ∈ a.trs, (0 ≤ t.frm ∧ t.frm < a.states) ∧ (0 ≤ t.to ∧ t.to < a.states) ∧ -1 ≤ t.sym ∧ t.sym < a.symbols
  w : ∀ t ∈ a.trs, isB a.sp t.w = true
theorem checkE10_ok {a : Aut} (h : checkE10 a = 0) : a.Ok := by
  unfold checkE10 at h
  split at h
  · contradiction
  · rename_i h1
    have hs := spE_ok (by simpa using h1)
    split at h
    · cases h
    · rename_i h2
      split at h
      · cases h
      · rename_i h3
        split at h
        · cases h
        · rename_i h4
          split at h
          · cases h
          · rename_i h5
            split at h
            · cases h
            · rename_i h6
              have h5' := List.any_eq_false.1 (Bool.not_eq_true _ ▸ h5)
              have h6' := List.any_eq_false.1 (Bool.not_eq_true _ ▸ h6)
              have hd : 0 ≤ a.states ∧ a.states ≤ 4096 ∧ 0 ≤ a.symbols ∧ a.symbols ≤ 4096 := by simp [dimBad] at h3; omega
              have hf : finOk a (-1) a.fin = true := by simpa using h4
              refine ⟨hs, by omega, by omega, by omega, fun x hx => ?_, fun t ht => ?_, fun t ht => ?_⟩
              · have := finOk_in hf x hx; simp [inS] at this; omega
              · have := h5' t ht; simp [trBad, inS] at this; omega
              · have := h6' t ht
                exact (checkedW_ok (by simpa using this)).2 t.w (by simp)
theorem set_wtx (l : List Wt) (i : Nat) (w : Wt) : (l.map wtV).set i (.agg (wtL w)) = (l.set i w).map wtV := by rw [List.map_set, wtV_eq w]
def endsW (a : Aut) : List Wt := a.fin.foldl (fun l s => l.set s.toNat (oneW a.sp)) (List.replicate a.states.toNat (zeroW a.sp))
theorem fold_len {α β : Type} (f : List β → α → List β) (hf : ∀ l x, (f l x).length = l.length) : ∀ (xs : List α) (l : List β), (xs.foldl f l).length = l.length
  | [], _ => rfl
  | x :: xs, l => by rw [List.foldl_cons, fold_len f hf, hf]
theorem rep_wt (n : Nat) (w : Wt) : ((List.range n).map fun _ => V.agg (wtL w)) = (List.replicate n w).map wtV := by
  rw [List.map_replicate, wtV_eq, replicate_range]

theorem asked10 (a : Aut) (frm w : List Int) (ha : a.Sm) (hf : frm.length ≤ 17592186044416) (hw : w.length ≤ 17592186044416) : FnC Tryz.prog 30 [autV a, .sl 3 (frm.map iV), .sl 3 (w.map iV)] (fun r => r = iV (askedE a frm w)) := by
  refine FnC.of (fn := Tryz.f30) ⟨Tryz.func30, by kernel_rfl, rfl⟩ Tryz.ntmps30 (by simp) fun w0 S0 => ?_
  refine p_go fun hf => ?_
  refine p_call (hx := rfl) (hb := ⟨Tryz.func25, by kernel_rfl, rfl⟩) (hf := check10 a ha) (h := ?_)
  refine p_go ?_
  refine p_splitC (s := 15) (ht := fun hc15 => ?_) (hf := fun hc15 => ?_)
  · refine p_go ?_
    refine p_ret1 (hp := by have h1 : checkE10 a ≠ 0 := (by simpa using hc15); rw [askedE, if_pos h1])
  · have h0 : checkE10 a = 0 := by simpa using hc15
    refine p_go ?_
    refine p_loopK [2, 3, 17, 18] [(0 + 1, 3)] (fun st => ∃ i : Nat, (i ≤ frm.length) ∧ (∀ j (hj : j < frm.length), j < i → badS a frm[j] = false) ∧ st.env 19 = iV i) (fun st => frm.length - (st.env 19).toN) ?_ fun e ob g1 hK hO hI => ?_
    · exact ⟨0, by omega, fun j hj h => by omega, eV_⟩
    · obtain ⟨i, hi, hp, e19⟩ := hI
      dsimp only at e19
      simp only [valsE, List.cons.injEq, and_true] at hK
      simp only [valsO, List.cons.injEq, and_true] at hO
      have hE := (⟨hK, hO, e19⟩ : _ ∧ _ ∧ _)
      refine p_go ?_
      refine p_splitC (s := 20) (ht := fun hc20 => ?_) (hf := fun hc20 => ?_)
      · have hlt : i < frm.length := by simpa using hc20
        refine p_go fun hf => ?_
        refine p_idxMap (j := i) (ht := Tryz.underlying26) (hi := F.ti3.h) (hij := rfl) (hj := hlt) (h := ?_)
        refine p_go ?_
        refine p_splitC (s := 30) (ht := fun hc30 => ?_) (hf := fun hc30 => ?_)
        · refine p_go ?_
          refine p_ret1 (hp := by rw [askedE, if_neg (by rw [h0]; decide), any_hit (p := badS a) hlt hc30]; rfl)
        · refine p_go fun hf => ?_
          refine p_add (r := ((i + 1 : Nat) : Int)) (hr := (by first | omega | (simp only [decide_eq_true_eq, decide_eq_false_iff_not, Bool.or_eq_false_iff, Bool.and_eq_true, Bool.not_eq_true', Bool.not_eq_false'] at *; omega))) (hb := (by first | omega | (simp only [decide_eq_true_eq, decide_eq_false_iff_not, Bool.or_eq_false_iff, Bool.and_eq_true, Bool.not_eq_true', Bool.not_eq_false'] at *; omega))) (h := ?_)
          refine p_go ?_
          refine p_some ?_
          refine ⟨⟨(by simp (decide := true) only [valsE, evE, upd, cv, args0, argsFrom, List.length_map, ↓reduceIte, hE] <;> rfl), (by simp (decide := true) only [valsO, updO, upd, true_and, and_true, false_and, and_false, ↓reduceIte, hE] <;> rfl)⟩, ⟨i + 1, hlt, none_next hc30 hp, eV_⟩, ?_⟩
          simp (decide := true) only [upd, e19, V.toN, ↓reduceIte]; omega
      · have hS : frm.any (badS a) = false := any_not (by simpa using hc20) hp
        refine p_go ?_
        refine p_loopK [3, 32, 33] [(0 + 1, 3)] (fun st => ∃ i : Nat, (i ≤ w.length) ∧ (∀ j (hj : j < w.length), j < i → badY a w[j] = false) ∧ st.env 34 = iV i) (fun st => w.length - (st.env 34).toN) ?_ fun e ob g2 hK hO hI => ?_
        · exact ⟨0, by omega, fun j hj h => by omega, eV_⟩
        · obtain ⟨i, hi, hq, e34⟩ := hI
          dsimp only at e34
          simp only [valsE, List.cons.injEq, and_true] at hK
          simp only [valsO, List.cons.injEq, and_true] at hO
          have hE := (⟨hK, hO, e34⟩ : _ ∧ _ ∧ _)
          refine p_go ?_
          refine p_splitC (s := 35) (ht := fun hc35 => ?_) (hf := fun hc35 => ?_)
          · have hlt : i < w.length := by simpa using hc35
            refine p_go fun hf => ?_
            refine p_idxMap (j := i) (ht := Tryz.underlying26) (hi := F.ti3.h) (hij := rfl) (hj := hlt) (h := ?_)
            refine p_go ?_
            refine p_splitC (s := 45) (ht := fun hc45 => ?_) (hf := fun hc45 => ?_)
            · refine p_go ?_
              refine p_ret1 (hp := by rw [askedE, if_neg (by rw [h0]; decide), hS, any_hit (p := badY a) hlt hc45]; rfl)
            · refine p_go fun hf => ?_
              refine p_add (r := ((i + 1 : Nat) : Int)) (hr := (by first | omega | (simp only [decide_eq_true_eq, decide_eq_false_iff_not, Bool.or_eq_false_iff, Bool.and_eq_true, Bool.not_eq_true', Bool.not_eq_false'] at *; omega))) (hb := (by first | omega | (simp only [decide_eq_true_eq, decide_eq_false_iff_not, Bool.or_eq_false_iff, Bool.and_eq_true, Bool.not_eq_true', Bool.not_eq_false'] at *; omega))) (h := ?_)
              refine p_go ?_
              refine p_some ?_
              refine ⟨⟨(by simp (decide := true) only [valsE, evE, upd, cv, args0, argsFrom, List.length_map, ↓reduceIte, hE] <;> rfl), (by simp (decide := true) only [valsO, updO, upd, true_and, and_true, false_and, and_false, ↓reduceIte, hE] <;> rfl)⟩, ⟨i + 1, hlt, none_next hc45 hq, eV_⟩, ?_⟩
              simp (decide := true) only [upd, e34, V.toN, ↓reduceIte]; omega
          · have hY : w.any (badY a) = false := any_not (by simpa using hc35) hq
            refine p_go ?_
            refine p_ret1 (hp := by rw [askedE, if_neg (by rw [h0]; decide), hS, hY]; rfl)

theorem ends10 (a : Aut) (ha : a.Ok) (hl : a.fin.length ≤ 17592186044416) : FnO Tryz.prog 32 [autV a] 37 ((endsW a).map wtV) (fun g d => .row g d a.states.toNat) := by
  refine FnO.of (fn := Tryz.f32) ⟨Tryz.func32, by kernel_rfl, rfl⟩ Tryz.ntmps32 (by simp) fun w0 S0 => ?_
  have hst := ha.st
  refine p_go fun hf => ?_
  refine p_makeA (n := a.states.toNat) (by decide) (by repeat (first | exact hf _ | with_reducible rfl | rw [updO_off (by decide)])) Tryz.underlying35 F.ti37.h rfl (by decide) (by simp [Value.cells, cv] <;> rfl) rfl (by rw [show ((a.states.toNat : Nat) : Int) = a.states by omega]; exact eV_) (by omega) (by omega) ?_
  refine p_go ?_
  refine p_loopK [1, 3, 11] [(0 + 1, 1)] (fun st => ∃ i : Nat, (i ≤ a.states.toNat) ∧ st.env 12 = iV i ∧ st.obj (0 + 1 + 1) 9 = .row 37 ((List.range a.states.toNat).map fun j => if j < i then V.agg (wtL (zeroW a.sp)) else (V.agg [.bool false, .int .i64 0, .int .u64 0, .nil, .nil, .nil]))) (fun st => a.states.toNat - (st.env 12).toN) ?_ fun e ob g1 hK hO hI => ?_
  · exact ⟨0, by omega, eV_, by refine Eq.trans oB_ ?_; exact congrArg _ (fill_start id (fun _ => V.agg (wtL (zeroW a.sp))) _ _)⟩
  · obtain ⟨i, hi, e12, o9⟩ := hI
    dsimp only at e12 o9
    simp only [valsE, List.cons.injEq, and_true] at hK
    simp only [valsO, List.cons.injEq, and_true] at hO
    have hE := (⟨hK, hO, e12, o9⟩ : _ ∧ _ ∧ _ ∧ _)
    refine p_go ?_
    refine p_splitC (s := 13) (ht := fun hc13 => ?_) (hf := fun hc13 => ?_)
    · have hlt : i < a.states.toNat := by simp at hc13; omega
      refine p_go fun hf => ?_
      refine p_call (hx := rfl) (hb := ⟨Tryz.func35, by kernel_rfl, rfl⟩) (hf := wzero a.sp ha.sp) (h := ?_)
      refine p_idxRowN (i) (ht := Tryz.underlying35) (hi := F.ti37.h) (hij := rfl) (hlt := hlt) (h := ?_)
      refine p_storeRowAF (f' := fun j => if j < i + 1 then V.agg (wtL (zeroW a.sp)) else (V.agg [.bool false, .int .i64 0, .int .u64 0, .nil, .nil, .nil])) F.ti37.h (TI.cells F.ti37.h) eV_ oB_ (hlt) eV_ rfl rfl (fun j _ => fill_next id (fun _ => V.agg (wtL (zeroW a.sp))) (V.agg [.bool false, .int .i64 0, .int .u64 0, .nil, .nil, .nil]) i j rfl) ?_
      refine p_go fun hf => ?_
      refine p_add (r := ((i + 1 : Nat) : Int)) (hr := (by first | omega | (simp only [decide_eq_true_eq, decide_eq_false_iff_not, Bool.or_eq_false_iff, Bool.and_eq_true, Bool.not_eq_true', Bool.not_eq_false'] at *; omega))) (hb := (by first | omega | (simp only [decide_eq_true_eq, decide_eq_false_iff_not, Bool.or_eq_false_iff, Bool.and_eq_true, Bool.not_eq_true', Bool.not_eq_false'] at *; omega))) (h := ?_)
      refine p_go ?_
      refine p_some ?_
      refine ⟨⟨(by simp (decide := true) only [valsE, evE, upd, cv, args0, argsFrom, List.length_map, ↓reduceIte, hE] <;> rfl), (by simp (decide := true) only [valsO, updO, upd, true_and, and_true, false_and, and_false, ↓reduceIte, hE] <;> rfl)⟩, ⟨i + 1, hlt, eV_, oB_⟩, ?_⟩
      simp (decide := true) only [upd, e12, V.toN, ↓reduceIte]; omega
    · have hge : a.states.toNat ≤ i := by simp at hc13; omega
      refine p_go ?_
      refine p_loopK [1, 3, 23, 24] [(0 + 1, 1)] (fun st => ∃ i : Nat, (i ≤ a.fin.length) ∧ st.env 25 = iV i ∧ st.obj (0 + 1 + 1) 9 = .row 37 (((a.fin.take i).foldl (fun l s => l.set s.toNat (oneW a.sp)) (List.replicate a.states.toNat (zeroW a.sp))).map wtV)) (fun st => a.fin.length - (st.env 25).toN) ?_ fun e ob g2 hK hO hI => ?_
      · exact ⟨0, by omega, eV_, by refine Eq.trans oB_ ?_; rw [List.take_zero, List.foldl_nil, ← rep_wt]; exact congrArg _ (List.map_congr_left fun j hj => if_pos (by rw [List.mem_range] at hj; omega))⟩
      · obtain ⟨i, hi2, e25, o9⟩ := hI
        dsimp only at e25 o9
        simp only [valsE, List.cons.injEq, and_true] at hK
        simp only [valsO, List.cons.injEq, and_true] at hO
        have hE := (⟨hK, hO, e25, o9⟩ : _ ∧ _ ∧ _ ∧ _)
        refine p_go ?_
        refine p_splitC (s := 26) (ht := fun hc26 => ?_) (hf := fun hc26 => ?_)
        · have hlt : i < a.fin.length := by simpa using hc26
          have hfi := ha.fin _ (List.getElem_mem hlt)
          have hlt2 : a.fin[i].toNat < a.states.toNat := by omega
          refine p_go fun hf => ?_
          refine p_idxMap (j := i) (ht := Tryz.underlying26) (hi := F.ti3.h) (hij := rfl) (hj := hlt) (h := ?_)
          refine p_go fun hf => ?_
          refine p_call (hx := rfl) (hb := ⟨Tryz.func49, by kernel_rfl, rfl⟩) (hf := wone a.sp ha.sp) (h := ?_)
          refine p_idxRowN (a.fin[i].toNat) (ht := Tryz.underlying35) (hi := F.ti37.h) (hij := by have := hfi; omega) (hlt := hlt2) (h := ?_)
          refine p_storeRow (hi := F.ti37.h) (hc := TI.cells F.ti37.h) (hlt := by simpa [fold_len (fun (l : List Wt) (s : Int) => l.set s.toNat (oneW a.sp)) (fun l x => by simp)] using hlt2) (hl := .inr ⟨_, rfl⟩) (hro := rfl) (hsz := rfl) (h := ?_)
          rw [set_wtx]
          refine p_go fun hf => ?_
          refine p_add (r := ((i + 1 : Nat) : Int)) (hr := (by first | omega | (simp only [decide_eq_true_eq, decide_eq_false_iff_not, Bool.or_eq_false_iff, Bool.and_eq_true, Bool.not_eq_true', Bool.not_eq_false'] at *; omega))) (hb := (by first | omega | (simp only [decide_eq_true_eq, decide_eq_false_iff_not, Bool.or_eq_false_iff, Bool.and_eq_true, Bool.not_eq_true', Bool.not_eq_false'] at *; omega))) (h := ?_)
          refine p_go ?_
          refine p_some ?_
          refine ⟨⟨(by simp (decide := true) only [valsE, evE, upd, cv, args0, argsFrom, List.length_map, ↓reduceIte, hE] <;> rfl), (by simp (decide := true) only [valsO, updO, upd, true_and, and_true, false_and, and_false, ↓reduceIte, hE] <;> rfl)⟩, ⟨i + 1, hlt, eV_, by rw [fold_snoc _ _ hlt]; exact oB_⟩, ?_⟩
          simp (decide := true) only [upd, e25, V.toN, ↓reduceIte]; omega
        · have hge2 : a.fin.length ≤ i := by simpa using hc26
          refine p_go ?_
          refine p_retO1 (0 + 1 + 1) 9 rfl (by rw [endsW, ← List.take_of_length_le hge2]; exact oB_) eV_ (Ren.row _)

end Go.Proofs.YtfpljljjjgicaaaGreatDoor
