import Derived.Test.YtfpljljjjgicaaaGreatDoorAln
/-
  The reference's Below; WfaMore.
-/
set_option maxHeartbeats 4000000
set_option linter.unusedSimpArgs false
set_option linter.unusedVariables false
namespace Go.Proofs.YtfpljljjjgicaaaGreatDoor
open Go.RowKit
attribute [local irreducible] Wk Tr
theorem spE_50 {s : Sp} (h : spE s ≠ 0) : spE s = 50 := by
  unfold spE at *
  split at h
  · contradiction
  · rename_i h1; rw [if_neg h1]
theorem value_B {a : Aut} {back : Bool} {frm : Int} {w : List Int} (h : askedE a [frm] w = 0) : isB a.sp (valueW a back frm w) = true := by
  obtain ⟨hok, hfr, _⟩ := askedE_ok h
  rw [valueW, if_pos h]; exact vals_at (valV_vals hok w) (hfr frm (by simp))
theorem value_le {a b : Aut} {back : Bool} {frm : Int} {w : List Int} (hm : More a b) (h : askedE a [frm] w = 0) (h' : askedE b [frm] w = 0) : leW a.sp (valueW a back frm w) (valueW b back frm w) := by
  obtain ⟨hok, hfr, _⟩ := askedE_ok h
  obtain ⟨hok', _, _⟩ := askedE_ok h'
  have h0 := hfr frm (by simp)
  have hv := valV_vals (back := back) hok w
  have hl := hv.len
  rw [valueW, if_pos h, valueW, if_pos h']
  exact (hm.value hok hok' w).at_ _ (by omega)
theorem asked_more {a b : Aut} {frm : Int} {w : List Int} (hs : b.states = a.states) (hy : b.symbols = a.symbols) (h : askedE a [frm] w = 0) (h' : ¬ askedE b [frm] w = 0) : ¬ checkE10 b = 0 := fun hc => h' (by
  obtain ⟨_, h1, h2⟩ := askedE_ok h
  have e1 : [frm].any (badS b) = false := List.any_eq_false.2 fun x hx => by have := h1 x hx; simp [badS, hs]; omega
  have e2 : w.any (badY b) = false := List.any_eq_false.2 fun x hx => by have := h2 x hx; simp [badY, hy]; omega
  rw [askedE, if_neg (by simp [hc]), e1, e2]; rfl)

theorem rall (s : Sp) (l : List Wt) (hsp : s.parts.length ≤ 17592186044416) (hl : l.length ≤ 17592186044416) (hw : ∀ w ∈ l, w.Sm2) : FnC Tryz.prog 80 [spA s, .sl 37 (l.map wtV)] (fun r => r = iV (checkedW s l)) := by
  refine FnC.of (fn := Tryz.f80) ⟨Tryz.func80, by kernel_rfl, rfl⟩ Tryz.ntmps80 (by simp) fun w0 S0 => ?_
  refine p_go fun hf => ?_
  refine p_call (hx := rfl) (hb := ⟨Tryz.func39, by kernel_rfl, rfl⟩) (hf := rspace s hsp) (h := ?_)
  refine p_go ?_
  refine p_splitC (s := 8) (ht := fun hc8 => ?_) (hf := fun hc8 => ?_)
  · refine p_go ?_
    refine p_ret1 (hp := by have h8 : spE s ≠ 0 := (by simpa using hc8); rw [checkedW, if_pos h8, spE_50 h8])
  · have h8 : spE s = 0 := by simpa using hc8
    have hs := spE_ok h8
    refine p_go ?_
    refine p_loopK [1, 2] [(0 + 1, 2)] (fun st => ∃ i : Nat, (i ≤ l.length) ∧ (∀ j (hj : j < l.length), j < i → (!isB s l[j]) = false) ∧ st.env 5 = iV i) (fun st => l.length - (st.env 5).toN) ?_ fun e ob g1 hK hO hI => ?_
    · exact ⟨0, by omega, fun j hj h => absurd h (by omega), eV_⟩
    · obtain ⟨i, hi, hp, e5⟩ := hI
      dsimp only at e5
      simp only [valsE, List.cons.injEq, and_true] at hK
      simp only [valsO, List.cons.injEq, and_true] at hO
      have hE := (⟨hK, hO, e5⟩ : _ ∧ _ ∧ _)
      refine p_go ?_
      refine p_splitC (s := 12) (ht := fun hc12 => ?_) (hf := fun hc12 => ?_)
      · have hlt : i < l.length := by simpa using hc12
        refine p_go fun hf => ?_
        refine p_idxMap (j := i) (ht := Tryz.underlying35) (hi := F.ti37.h) (hij := rfl) (hj := hlt) (h := ?_)
        rw [wtV_cells]
        refine p_go fun hf => ?_
        refine p_call (hx := rfl) (hb := ⟨Tryz.func79, by kernel_rfl, rfl⟩) (hf := risW s l[i] hs (hw _ (List.getElem_mem hlt))) (h := ?_)
        refine p_go ?_
        refine p_splitC (s := 21) (ht := fun hc21 => ?_) (hf := fun hc21 => ?_)
        · refine p_go ?_
          refine p_ret1 (hp := by rw [checkedW, if_neg (by simp [h8]), any_hit (p := fun w => !isB s w) hlt hc21]; rfl)
        · refine p_go fun hf => ?_
          refine p_add (r := ((i + 1 : Nat) : Int)) (hr := (by first | omega | (simp only [decide_eq_true_eq, decide_eq_false_iff_not, Bool.or_eq_false_iff, Bool.and_eq_true, Bool.not_eq_true', Bool.not_eq_false'] at *; omega))) (hb := (by first | omega | (simp only [decide_eq_true_eq, decide_eq_false_iff_not, Bool.or_eq_false_iff, Bool.and_eq_true, Bool.not_eq_true', Bool.not_eq_false'] at *; omega))) (h := ?_)
          refine p_go ?_
          refine p_some ?_
          refine ⟨⟨(by simp (decide := true) only [valsE, evE, upd, cv, args0, argsFrom, List.length_map, ↓reduceIte, hE] <;> rfl), (by simp (decide := true) only [valsO, updO, upd, true_and, and_true, false_and, and_false, ↓reduceIte, hE] <;> rfl)⟩, ⟨i + 1, hlt, none_next (p := fun w => !isB s w) hc21 hp, eV_⟩, ?_⟩
          simp (decide := true) only [upd, e5, V.toN, ↓reduceIte]; omega
      · have hge : l.length ≤ i := by simpa using hc12
        have hA := any_not (p := fun w => !isB s w) hge hp
        refine p_go ?_
        refine p_ret1 (hp := by rw [checkedW, if_neg (by simp [h8]), hA]; rfl)

theorem rcombine (s : Sp) (l : List Wt) (hs : spOk s = true) (hl : l.length ≤ 17592186044416) (hb : ∀ w ∈ l, isB s w = true) : FnC Tryz.prog 42 [spA s, .sl 37 (l.map wtV)] (fun r => r = .tup [wtA (l.foldl (eitherW s) (zeroW s)), iV 0]) := by
  refine FnC.of (fn := Tryz.f42) ⟨Tryz.func42, by kernel_rfl, rfl⟩ Tryz.ntmps42 (by simp) fun w0 S0 => ?_
  have h0 := checkedW_of hs hb
  refine p_go fun hf => ?_
  refine p_call (hx := rfl) (hb := ⟨Tryz.func80, by kernel_rfl, rfl⟩) (hf := rall s l (spOk_len hs) hl (fun w hw => isB_Sm2 hs (hb w hw))) (h := ?_)
  refine p_go ?_
  refine p_isC (s := 13) (b := false) (hc := by simp [h0]) (h := ?_)
  refine p_go fun hf => ?_
  refine p_call (hx := rfl) (hb := ⟨Tryz.func81, by kernel_rfl, rfl⟩) (hf := rzeroC s hs) (h := ?_)
  refine p_go ?_
  refine p_loopK [1, 2, 4, 7] [(0 + 1, 2), (0 + 1, 4)] (fun st => ∃ i : Nat, (i ≤ l.length) ∧ st.env 8 = iV i ∧ st.obj (0 + 1 + 1 + 1 + 1) 7 = .cells 37 (wtL ((l.take i).foldl (eitherW s) (zeroW s)))) (fun st => l.length - (st.env 8).toN) ?_ fun e ob g1 hK hO hI => ?_
  · exact ⟨0, by omega, eV_, oB_⟩
  · obtain ⟨i, hi, e8, o7⟩ := hI
    dsimp only at e8 o7
    simp only [valsE, List.cons.injEq, and_true] at hK
    simp only [valsO, List.cons.injEq, and_true] at hO
    have hE := (⟨hK, hO, e8, o7⟩ : _ ∧ _ ∧ _ ∧ _)
    refine p_go ?_
    refine p_splitC (s := 21) (ht := fun hc21 => ?_) (hf := fun hc21 => ?_)
    · have hlt : i < l.length := by simpa using hc21
      have hV := foldl_ok (fun a b h h' => eitherW_ok hs h h') (l.take i) (zeroW s) (zeroW_ok hs) (fun x hx => hb x (List.mem_of_mem_take hx))
      refine p_go fun hf => ?_
      refine p_idxMap (j := i) (ht := Tryz.underlying35) (hi := F.ti37.h) (hij := rfl) (hj := hlt) (h := ?_)
      rw [wtV_cells]
      refine p_go fun hf => ?_
      refine p_call (hx := rfl) (hb := ⟨Tryz.func69, by kernel_rfl, rfl⟩) (hf := reitherC hs hV (hb _ (List.getElem_mem hlt))) (h := ?_)
      refine p_go fun hf => ?_
      refine p_add (r := ((i + 1 : Nat) : Int)) (hr := (by first | omega | (simp only [decide_eq_true_eq, decide_eq_false_iff_not, Bool.or_eq_false_iff, Bool.and_eq_true, Bool.not_eq_true', Bool.not_eq_false'] at *; omega))) (hb := (by first | omega | (simp only [decide_eq_true_eq, decide_eq_false_iff_not, Bool.or_eq_false_iff, Bool.and_eq_true, Bool.not_eq_true', Bool.not_eq_false'] at *; omega))) (h := ?_)
      refine p_go ?_
      refine p_some ?_
      refine ⟨⟨(by simp (decide := true) only [valsE, evE, upd, cv, args0, argsFrom, List.length_map, ↓reduceIte, hE] <;> rfl), (by simp (decide := true) only [valsO, updO, upd, true_and, and_true, false_and, and_false, ↓reduceIte, hE] <;> rfl)⟩, ⟨i + 1, hlt, eV_, by rw [fold_snoc _ _ hlt]; exact oB_⟩, ?_⟩
      simp (decide := true) only [upd, e8, V.toN, ↓reduceIte]; omega
    · have hge : l.length ≤ i := by simpa using hc21
      refine p_go ?_
      refine p_r2 (hp := by rw [List.take_of_length_le hge])

theorem rbelow (s : Sp) (a b : Wt) (hs : spOk s = true) (ha : isB s a = true) (hb : isB s b = true) : FnC Tryz.prog 12 [spA s, wtA a, wtA b] (fun r => r = .tup [.bool (sameW (eitherW s a b) b), iV 0]) := by
  refine FnC.of (fn := Tryz.f12) ⟨Tryz.func12, by kernel_rfl, rfl⟩ Tryz.ntmps12 (by simp) fun w0 S0 => ?_
  refine p_go fun hf => ?_
  refine p_buildSlice (ht := Tryz.underlying35) (hi := F.ti37.h) (h := ?_)
  refine p_callRow (vs := [spA s, .sl 37 ([a, b].map wtV)]) (0 + 1 + 1) 14 (hb := ⟨Tryz.func42, by kernel_rfl, rfl⟩) (hvs := by simp [V.frz, wtV_eq]) (hf := (by have := rcombine s [a, b] hs (by simp) (by simp; exact ⟨ha, hb⟩); rw [show [a, b].foldl (eitherW s) (zeroW s) = eitherW s a b by rw [List.foldl_cons, either_zero hs ha]; rfl] at this; exact this)) (h := ?_)
  refine p_go fun hf => ?_
  refine p_split (s := 20) (ht := fun hb20 => ?_) (hf := fun hb20 => ?_)
  · -- slot 20 is true
    refine p_go fun hf => ?_
    refine p_call (hx := rfl) (hb := ⟨Tryz.func16, by kernel_rfl, rfl⟩) (hf := rsameB hs (eitherW_ok hs ha hb) hb) (h := ?_)
    refine p_go ?_
    refine p_r2 (hp := by rfl)
  · exact absurd hb20 (by simp)
end Go.Proofs.YtfpljljjjgicaaaGreatDoor
/-
  WfaMore.
-/
set_option maxHeartbeats 4000000
set_option linter.unusedSimpArgs false
set_option linter.unusedVariables false
namespace Go.Proofs.YtfpljljjjgicaaaGreatDoor
open Go.RowKit
attribute [local irreducible] Wk Tr

theorem wfaMore (a : Aut) (t : Trn) (back : Bool) (frm : Int) (w : List Int) (ha : a.Sm) (htw : t.w.Sm2) : FnC Tryz.prog 3 [autV a, trV t, .bool back, iV frm, .sl 3 (w.map iV)] (fun r => r = .bool true) := by
  refine FnC.of (fn := Tryz.f3) ⟨Tryz.func3, by kernel_rfl, rfl⟩ Tryz.ntmps3 (by simp) fun w0 S0 => ?_
  refine p_go fun hf => ?_
  refine p_call (hx := rfl) (hb := ⟨Tryz.func8, by kernel_rfl, rfl⟩) (hf := awakeC) (h := ?_)
  refine p_go fun hf => ?_
  refine p_call (hx := rfl) (hb := ⟨Tryz.func9, by kernel_rfl, rfl⟩) (hf := smallC a w) (h := ?_)
  refine p_go ?_
  refine p_splitC (s := 23) (ht := fun hc23 => ?_) (hf := fun hc23 => ?_)
  · refine p_go ?_
    refine p_ret1 (hp := by rfl)
  · have hsm : a.trs.length ≤ 300 ∧ w.length ≤ 40 := by simp at hc23; omega
    have hw : w.length ≤ 17592186044416 := by omega
    have hb : ({ a with trs := a.trs ++ [t] } : Aut).Sm := ⟨ha.sp, ha.fin, by simp; omega, fun x hx => by rcases List.mem_append.1 hx with h | h; exact ha.w x h; rw [List.mem_singleton.1 h]; exact htw⟩
    have hmore : More a ({ a with trs := a.trs ++ [t] } : Aut) := ⟨rfl, rfl, rfl, [t], rfl⟩
    refine p_go fun hf => ?_
    refine p_buildSlice (ht := Tryz.underlying27) (hi := F.ti39.h) (hvs := rfl) (hl := by intro v hv; cases hv) (h := ?_)
    refine p_go fun hf => ?_
    refine p_append (k := a.trs.length) (ht := Tryz.underlying27) (hi := F.ti39.h) (hnl := by simp) (hy := by exact .inl ⟨rfl, rfl⟩) (hm := by simp) (hlim := by omega) (h := ?_)
    refine p_go fun hf => ?_
    refine p_buildSlice (ht := Tryz.underlying27) (hi := F.ti39.h) (h := ?_)
    refine p_append (k := a.trs.length + 1) (ht := Tryz.underlying27) (hi := F.ti39.h) (hnl := by simp) (hy := by exact ⟨.inl oB_, rfl⟩) (hm := by simp) (hlim := by omega) (h := ?_)
    refine p_go fun hf => ?_
    refine p_bare ?_
    refine p_freeze (g1 := 0 + 1 + 1 + 1 + 1 + 1) (d1 := 31) (h := ?_)
    refine p_cellSl (g1 := 0 + 1 + 1 + 1 + 1) (d1 := 11) (i := 6) (cs' := autL ({ a with trs := a.trs ++ [t] } : Aut)) (hn := by simp) (hcs := by simp) (h := ?_)
    refine p_lastOp (h := ?_)
    refine p_call (hx := rfl) (hb := ⟨Tryz.func10, by kernel_rfl, rfl⟩) (hf := valueC a back frm w ha hw) (h := ?_)
    refine p_go fun hf => ?_
    refine p_call (hx := rfl) (hb := ⟨Tryz.func10, by kernel_rfl, rfl⟩) (hf := valueC ({ a with trs := a.trs ++ [t] } : Aut) back frm w hb hw) (h := ?_)
    refine p_go ?_
    refine p_splitC (s := 54) (ht := fun hc54 => ?_) (hf := fun hc54 => ?_)
    · have h54 := hc54
      refine p_go fun hf => ?_
      refine p_split (s := 57) (ht := fun hb57 => ?_) (hf := fun hb57 => ?_)
      · -- slot 57 is true
        refine p_go ?_
        refine p_ret1 (hp := by rfl)
      · have h1 : askedE a [frm] w = 0 := by simpa only [decide_eq_false_iff_not, ne_eq, Classical.not_not] using hb57
        refine p_go fun hf => ?_
        refine p_call (hx := rfl) (hb := ⟨Tryz.func11, by kernel_rfl, rfl⟩) (hf := rcheck10 ({ a with trs := a.trs ++ [t] } : Aut) hb) (h := ?_)
        refine p_go ?_
        have h3 := asked_more (a := a) (b := ({ a with trs := a.trs ++ [t] } : Aut)) rfl rfl h1 (by rw [h1] at h54; simpa using h54)
        refine p_ret1 (hp := by simp only [h3, ne_eq, not_false_eq_true, decide_true])
    · obtain ⟨h1, h2⟩ : askedE a [frm] w = 0 ∧ askedE ({ a with trs := a.trs ++ [t] } : Aut) [frm] w = 0 := by simp only [Bool.or_eq_false_iff, decide_eq_false_iff_not, ne_eq, Classical.not_not] at hc54; exact hc54
      obtain ⟨hok, _⟩ := askedE_ok h1
      obtain ⟨hok2, _⟩ := askedE_ok h2
      have hle := value_le (back := back) hmore h1 h2
      refine p_go fun hf => ?_
      refine p_call (hx := rfl) (hb := ⟨Tryz.func12, by kernel_rfl, rfl⟩) (hf := rbelow a.sp (valueW a back frm w) (valueW ({ a with trs := a.trs ++ [t] } : Aut) back frm w) hok.sp (value_B h1) (value_B (a := ({ a with trs := a.trs ++ [t] } : Aut)) h2)) (h := ?_)
      refine p_go ?_
      have h3 : sameW (eitherW a.sp (valueW a back frm w) (valueW ({ a with trs := a.trs ++ [t] } : Aut) back frm w)) (valueW ({ a with trs := a.trs ++ [t] } : Aut) back frm w) = true := (sameW_iff hok.sp (eitherW_ok hok.sp (value_B h1) (value_B (a := ({ a with trs := a.trs ++ [t] } : Aut)) h2)) (value_B (a := ({ a with trs := a.trs ++ [t] } : Aut)) h2)).2 hle
      refine p_ret1 (hp := by rw [h3])

end Go.Proofs.YtfpljljjjgicaaaGreatDoor
