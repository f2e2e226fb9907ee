import Derived.Test.YtfpljljjjgicaaaGreatDoorWlm
/-
  wfa.Check and what is asked.
-/
set_option maxHeartbeats 4000000
set_option linter.unusedSimpArgs false
set_option linter.unusedVariables false
namespace Go.Proofs.YtfpljljjjgicaaaGreatDoor
open Go.RowKit
attribute [local irreducible] Wk Tr
structure Trn where
  (frm sym to : Int)
  (w : Wt)
abbrev trL (t : Trn) : List V := [iV t.frm, iV t.sym, iV t.to, .bool t.w.zero, iV t.w.cost, bV t.w.gen, .sl 30 (t.w.rows.map bV), .sl 90 (t.w.cells.map celV), .sl 37 (t.w.parts.map wtV)]
abbrev trV (t : Trn) : V := .agg (trL t)
structure Aut where
  sp : Sp
  (states symbols : Int)
  fin : List Int
  trs : List Trn
abbrev autL (a : Aut) : List V := [iV a.sp.tag, iV a.sp.dim, .sl 25 (a.sp.parts.map spV), iV a.states, iV a.symbols, .sl 3 (a.fin.map iV), .sl 39 (a.trs.map trV)]
abbrev autV (a : Aut) : V := .agg (autL a)
def inS (a : Aut) (x : Int) : Bool := decide (0 ≤ x) && decide (x < a.states)
def finOk (a : Aut) : Int → List Int → Bool
  | _, [] => true
  | last, s :: l => inS a s && !decide (s ≤ last) && finOk a s l
def trBad (a : Aut) (t : Trn) : Bool := !inS a t.frm || !inS a t.to || decide (t.sym < -1) || decide (a.symbols ≤ t.sym)
def dimBad (a : Aut) : Bool := decide (a.states < 0) || decide (4096 < a.states) || decide (a.symbols < 0) || decide (4096 < a.symbols)
def checkE10 (a : Aut) : Int :=
  if spE a.sp ≠ 0 then spE a.sp else if (65536 : Int) < a.trs.length then 3 else if dimBad a then 100 else if !finOk a (-1) a.fin then 100
  else if a.trs.any (trBad a) then 100 else if a.trs.any (fun t => decide (checkedW a.sp [t.w] ≠ 0)) then 101 - 50 else 0
theorem fin_step {x y : Bool} (h : (!x || y) = false) : (x && !y) = true := by cases x <;> cases y <;> simp_all
theorem fin_bad {x y : Bool} (h : (!x || y) = true) : (x && !y) = false := by cases x <;> cases y <;> simp_all
theorem tr_good {a : Aut} {t : Trn} (h1 : (!inS a t.frm) = false) (h2 : (!inS a t.to || decide (t.sym < -1) || decide (a.symbols ≤ t.sym)) = false) : trBad a t = false := by
  rw [trBad, h1]; simpa [Bool.or_assoc] using h2
theorem tr_bad1 {a : Aut} {t : Trn} (h1 : (!inS a t.frm) = true) : trBad a t = true := by rw [trBad, h1]; rfl
theorem tr_bad2 {a : Aut} {t : Trn} (h1 : (!inS a t.frm) = false) (h2 : (!inS a t.to || decide (t.sym < -1) || decide (a.symbols ≤ t.sym)) = true) : trBad a t = true := by
  rw [trBad, h1]; simpa [Bool.or_assoc] using h2
structure Aut.Sm (a : Aut) : Prop where
  sp : a.sp.parts.length ≤ 17592186044416
  fin : a.fin.length ≤ 17592186044416
  trs : a.trs.length ≤ 17592186044416
  w : ∀ t ∈ a.trs, t.w.Sm2
theorem check10_1 (a : Aut) (x : Int) : FnC Tryz.prog 60 [iV x, .ref (autL a)] (fun r => r = .bool (inS a x)) := by
  refine FnC.of (fn := Tryz.f60) ⟨Tryz.func60, by kernel_rfl, rfl⟩ Tryz.ntmps60 (by simp) fun w0 S0 => ?_
  refine p_go ?_
  refine p_ret1 (hp := by rfl)
theorem check10 (a : Aut) (ha : a.Sm) : FnC Tryz.prog 25 [autV a] (fun r => r = iV (checkE10 a)) := by
  refine FnC.of (fn := Tryz.f25) ⟨Tryz.func25, by kernel_rfl, rfl⟩ Tryz.ntmps25 (by simp) fun w0 S0 => ?_
  have hl1 := ha.fin
  have hl2 := ha.trs
  refine p_go fun hf => ?_
  refine p_call (hx := rfl) (hb := ⟨Tryz.func59, by kernel_rfl, rfl⟩) (hf := space a.sp ha.sp) (h := ?_)
  refine p_go ?_
  refine p_splitC (s := 16) (ht := fun hc16 => ?_) (hf := fun hc16 => ?_)
  · refine p_go ?_
    refine p_ret1 (hp := by have h1 : spE a.sp ≠ 0 := (by simpa using hc16); rw [checkE10, if_pos h1])
  · have h0 : spE a.sp = 0 := by simpa using hc16
    refine p_go ?_
    refine p_splitC (s := 21) (ht := fun hc21 => ?_) (hf := fun hc21 => ?_)
    · refine p_go ?_
      refine p_ret1 (hp := by have h2 : (65536 : Int) < a.trs.length := (by simpa using hc21); rw [checkE10, if_neg (by rw [h0]; decide), if_pos h2])
    · have h21 : ¬ (65536 : Int) < a.trs.length := by simpa using hc21
      refine p_go ?_
      refine p_splitC (s := 39) (ht := fun hc39 => ?_) (hf := fun hc39 => ?_)
      · refine p_go ?_
        refine p_ret1 (hp := by rw [checkE10, if_neg (by rw [h0]; decide), if_neg h21, show dimBad a = true from hc39]; rfl)
      · have h39 : dimBad a = false := hc39
        refine p_go ?_
        refine p_loopK [1, 4, 42, 43] [(0 + 1, 1)] (fun st => ∃ (i : Nat) (last : Int), (i ≤ a.fin.length) ∧ (finOk a (-1) a.fin = finOk a last (a.fin.drop i)) ∧ st.env 5 = iV last ∧ st.env 44 = iV i) (fun st => a.fin.length - (st.env 44).toN) ?_ fun e ob g1 hK hO hI => ?_
        · exact ⟨0, -1, by omega, rfl, eV_, eV_⟩
        · obtain ⟨i, last, hi, hq, e5, e44⟩ := hI
          dsimp only at e5 e44
          simp only [valsE, List.cons.injEq, and_true] at hK
          simp only [valsO, List.cons.injEq, and_true] at hO
          have hE := (⟨hK, hO, e5, e44⟩ : _ ∧ _ ∧ _ ∧ _)
          refine p_go ?_
          refine p_splitC (s := 45) (ht := fun hc45 => ?_) (hf := fun hc45 => ?_)
          · have hlt : i < a.fin.length := by simpa using hc45
            have hd := List.drop_eq_getElem_cons hlt
            refine p_go fun hf => ?_
            refine p_idxMap (j := i) (ht := Tryz.underlying26) (hi := F.ti3.h) (hij := rfl) (hj := hlt) (h := ?_)
            refine p_go fun hf => ?_
            refine p_callFlat [(0 + 1, 1)] (cap := [.ptr (0 + 1) 1 0]) (hb := ⟨Tryz.func60, by kernel_rfl, rfl⟩) (us := [iV a.fin[i]]) (vs := [iV a.fin[i]]) (vs' := [.ref (autL a)]) (hvs := fun e' ob' g' hk => ⟨⟨⟨rfl, rfl⟩, trivial⟩, ⟨_, autL a, autL a, (hk (0 + 1, 1) (by simp)).trans oB_, ⟨⟨rfl, rfl⟩, ⟨rfl, rfl⟩, ⟨rfl, rfl⟩, ⟨rfl, rfl⟩, ⟨rfl, rfl⟩, ⟨rfl, rfl⟩, ⟨rfl, rfl⟩, trivial⟩, rfl⟩, trivial⟩) (hf := check10_1 a a.fin[i]) (h := ?_)
            refine p_go ?_
            refine p_splitC (s := 56) (ht := fun hc56 => ?_) (hf := fun hc56 => ?_)
            · refine p_go ?_
              refine p_ret1 (hp := by rw [checkE10, if_neg (by rw [h0]; decide), if_neg h21, h39, show finOk a (-1) a.fin = false by rw [hq, hd, finOk, fin_bad hc56]; rfl]; rfl)
            · refine p_go fun hf => ?_
              refine p_add (r := ((i + 1 : Nat) : Int)) (hr := (by first | omega | (simp only [decide_eq_true_eq, decide_eq_false_iff_not, Bool.or_eq_false_iff, Bool.and_eq_true, Bool.not_eq_true', Bool.not_eq_false'] at *; omega))) (hb := (by first | omega | (simp only [decide_eq_true_eq, decide_eq_false_iff_not, Bool.or_eq_false_iff, Bool.and_eq_true, Bool.not_eq_true', Bool.not_eq_false'] at *; omega))) (h := ?_)
              refine p_go ?_
              refine p_some ?_
              refine ⟨⟨(by simp (decide := true) only [valsE, evE, upd, cv, args0, argsFrom, List.length_map, ↓reduceIte, hE] <;> rfl), (by simp (decide := true) only [valsO, updO, upd, true_and, and_true, false_and, and_false, ↓reduceIte, hE] <;> rfl)⟩, ⟨i + 1, a.fin[i], hlt, by rw [hq, hd, finOk, fin_step hc56]; rfl, eV_, eV_⟩, ?_⟩
              simp (decide := true) only [upd, e44, V.toN, ↓reduceIte]; omega
          · have hfin : finOk a (-1) a.fin = true := by rw [hq, List.drop_eq_nil_of_le (by simpa using hc45)]; rfl
            refine p_go ?_
            refine p_loopK [1, 4, 60, 61] [(0 + 1, 1)] (fun st => ∃ i : Nat, (i ≤ a.trs.length) ∧ (∀ j (hj : j < a.trs.length), j < i → trBad a a.trs[j] = false) ∧ st.env 62 = iV i) (fun st => a.trs.length - (st.env 62).toN) ?_ fun e ob g2 hK hO hI => ?_
            · exact ⟨0, by omega, fun j hj h => by omega, eV_⟩
            · obtain ⟨i, hi, hp, e62⟩ := hI
              dsimp only at e62
              simp only [valsE, List.cons.injEq, and_true] at hK
              simp only [valsO, List.cons.injEq, and_true] at hO
              have hE := (⟨hK, hO, e62⟩ : _ ∧ _ ∧ _)
              refine p_go ?_
              refine p_splitC (s := 63) (ht := fun hc63 => ?_) (hf := fun hc63 => ?_)
              · have hlt : i < a.trs.length := by simpa using hc63
                refine p_go fun hf => ?_
                refine p_idxMap (j := i) (ht := Tryz.underlying27) (hi := F.ti39.h) (hij := rfl) (hj := hlt) (h := ?_)
                refine p_go fun hf => ?_
                refine p_callFlat [(0 + 1, 1)] (cap := [.ptr (0 + 1) 1 0]) (hb := ⟨Tryz.func60, by kernel_rfl, rfl⟩) (us := [iV a.trs[i].frm]) (vs := [iV a.trs[i].frm]) (vs' := [.ref (autL a)]) (hvs := fun e' ob' g' hk => ⟨⟨⟨rfl, rfl⟩, trivial⟩, ⟨_, autL a, autL a, (hk (0 + 1, 1) (by simp)).trans oB_, ⟨⟨rfl, rfl⟩, ⟨rfl, rfl⟩, ⟨rfl, rfl⟩, ⟨rfl, rfl⟩, ⟨rfl, rfl⟩, ⟨rfl, rfl⟩, ⟨rfl, rfl⟩, trivial⟩, rfl⟩, trivial⟩) (hf := check10_1 a a.trs[i].frm) (h := ?_)
                refine p_go fun hf => ?_
                refine p_split (s := 71) (ht := fun hb71 => ?_) (hf := fun hb71 => ?_)
                · -- slot 71 is true
                  refine p_go ?_
                  refine p_ret1 (hp := by rw [checkE10, if_neg (by rw [h0]; decide), if_neg h21, h39, hfin, any_hit hlt (tr_bad1 hb71)]; rfl)
                · -- slot 71 is false
                  refine p_go fun hf => ?_
                  refine p_callFlat [(0 + 1, 1)] (cap := [.ptr (0 + 1) 1 0]) (hb := ⟨Tryz.func60, by kernel_rfl, rfl⟩) (us := [iV a.trs[i].to]) (vs := [iV a.trs[i].to]) (vs' := [.ref (autL a)]) (hvs := fun e' ob' g' hk => ⟨⟨⟨rfl, rfl⟩, trivial⟩, ⟨_, autL a, autL a, (hk (0 + 1, 1) (by simp)).trans oB_, ⟨⟨rfl, rfl⟩, ⟨rfl, rfl⟩, ⟨rfl, rfl⟩, ⟨rfl, rfl⟩, ⟨rfl, rfl⟩, ⟨rfl, rfl⟩, ⟨rfl, rfl⟩, trivial⟩, rfl⟩, trivial⟩) (hf := check10_1 a a.trs[i].to) (h := ?_)
                  refine p_go ?_
                  refine p_splitC (s := 89) (ht := fun hc89 => ?_) (hf := fun hc89 => ?_)
                  · refine p_go ?_
                    refine p_ret1 (hp := by rw [checkE10, if_neg (by rw [h0]; decide), if_neg h21, h39, hfin, any_hit hlt (tr_bad2 hb71 hc89)]; rfl)
                  · refine p_go fun hf => ?_
                    refine p_add (r := ((i + 1 : Nat) : Int)) (hr := (by first | omega | (simp only [decide_eq_true_eq, decide_eq_false_iff_not, Bool.or_eq_false_iff, Bool.and_eq_true, Bool.not_eq_true', Bool.not_eq_false'] at *; omega))) (hb := (by first | omega | (simp only [decide_eq_true_eq, decide_eq_false_iff_not, Bool.or_eq_false_iff, Bool.and_eq_true, Bool.not_eq_true', Bool.not_eq_false'] at *; omega))) (h := ?_)
                    refine p_go ?_
                    refine p_some ?_
                    refine ⟨⟨(by simp (decide := true) only [valsE, evE, upd, cv, args0, argsFrom, List.length_map, ↓reduceIte, hE] <;> rfl), (by simp (decide := true) only [valsO, updO, upd, true_and, and_true, false_and, and_false, ↓reduceIte, hE] <;> rfl)⟩, ⟨i + 1, hlt, none_next (tr_good hb71 hc89) hp, eV_⟩, ?_⟩
                    simp (decide := true) only [upd, e62, V.toN, ↓reduceIte]; omega
              · have htr : a.trs.any (trBad a) = false := any_not (by simpa using hc63) hp
                refine p_go ?_
                refine p_loopK [1, 92, 93] [(0 + 1, 1)] (fun st => ∃ i : Nat, (i ≤ a.trs.length) ∧ (∀ j (hj : j < a.trs.length), j < i → (fun t : Trn => decide (checkedW a.sp [t.w] ≠ 0)) a.trs[j] = false) ∧ st.env 94 = iV i) (fun st => a.trs.length - (st.env 94).toN) ?_ fun e ob g3 hK hO hI => ?_
                · exact ⟨0, by omega, fun j hj h => by omega, eV_⟩
                · obtain ⟨i, hi, hw, e94⟩ := hI
                  dsimp only at e94
                  simp only [valsE, List.cons.injEq, and_true] at hK
                  simp only [valsO, List.cons.injEq, and_true] at hO
                  have hE := (⟨hK, hO, e94⟩ : _ ∧ _ ∧ _)
                  refine p_go ?_
                  refine p_splitC (s := 95) (ht := fun hc95 => ?_) (hf := fun hc95 => ?_)
                  · have hlt : i < a.trs.length := by simpa using hc95
                    refine p_go fun hf => ?_
                    refine p_idxMap (j := i) (ht := Tryz.underlying27) (hi := F.ti39.h) (hij := rfl) (hj := hlt) (h := ?_)
                    refine p_go fun hf => ?_
                    refine p_call (hx := rfl) (hb := ⟨Tryz.func61, by kernel_rfl, rfl⟩) (hf := wcheck a.sp a.trs[i].w ha.sp (ha.w _ (List.getElem_mem hlt))) (h := ?_)
                    refine p_go ?_
                    refine p_splitC (s := 103) (ht := fun hc103 => ?_) (hf := fun hc103 => ?_)
                    · refine p_go ?_
                      refine p_ret1 (hp := by rw [checkE10, if_neg (by rw [h0]; decide), if_neg h21, h39, hfin, htr, any_hit (p := fun t : Trn => decide (checkedW a.sp [t.w] ≠ 0)) hlt hc103]; rfl)
                    · refine p_go fun hf => ?_
                      refine p_add (r := ((i + 1 : Nat) : Int)) (hr := (by first | omega | (simp only [decide_eq_true_eq, decide_eq_false_iff_not, Bool.or_eq_false_iff, Bool.and_eq_true, Bool.not_eq_true', Bool.not_eq_false'] at *; omega))) (hb := (by first | omega | (simp only [decide_eq_true_eq, decide_eq_false_iff_not, Bool.or_eq_false_iff, Bool.and_eq_true, Bool.not_eq_true', Bool.not_eq_false'] at *; omega))) (h := ?_)
                      refine p_go ?_
                      refine p_some ?_
                      refine ⟨⟨(by simp (decide := true) only [valsE, evE, upd, cv, args0, argsFrom, List.length_map, ↓reduceIte, hE] <;> rfl), (by simp (decide := true) only [valsO, updO, upd, true_and, and_true, false_and, and_false, ↓reduceIte, hE] <;> rfl)⟩, ⟨i + 1, hlt, none_next (p := fun t : Trn => decide (checkedW a.sp [t.w] ≠ 0)) hc103 hw, eV_⟩, ?_⟩
                      simp (decide := true) only [upd, e94, V.toN, ↓reduceIte]; omega
                  · refine p_go ?_
                    refine p_ret1 (hp := by rw [checkE10, if_neg (by rw [h0]; decide), if_neg h21, h39, hfin, htr, any_not (p := fun t : Trn => decide (checkedW a.sp [t.w] ≠ 0)) (show a.trs.length ≤ i by simpa using hc95) hw]; rfl)
end Go.Proofs.YtfpljljjjgicaaaGreatDoor
/-
  wfa.asked, ends.
-/
set_option maxHeartbeats 4000000
set_option linter.unusedSimpArgs false
set_option linter.unusedVariables false
namespace Go.Proofs.YtfpljljjjgicaaaGreatDoor
open Go.RowKit
attribute [local irreducible] Wk Tr
def badS (a : Aut) (x : Int) : Bool := decide (x < 0) || decide (a.states ≤ x)
def badY (a : Aut) (x : Int) : Bool := decide (x < 0) || decide (a.symbols ≤ x)
def askedE (a : Aut) (frm w : List Int) : Int := if checkE10 a ≠ 0 then checkE10 a else if frm.any (badS a) then 101 else if w.any (badY a) then 102 else 0
theorem finOk_in {a : Aut} : ∀ {last : Int} {l : List Int}, finOk a last l = true → ∀ x ∈ l, inS a x = true
  | _, [], _, _, h => by cases h
  | last, s :: l, h, x, hx => by
    simp only [finOk, Bool.and_eq_true] at h
    rcases List.mem_cons.1 hx with rfl | hx
    · exact h.1.1
    · exact finOk_in h.2 x hx
/-- What an automaton that may be is like. -/
structure Aut.Ok (a : Aut) : Prop where
  sp : spOk a.sp = true
  many : a.trs.length ≤ 65536
  st : 0 ≤ a.states ∧ a.states ≤ 4096
  sy : 0 ≤ a.symbols ∧ a.symbols ≤ 4096
  fin : ∀ x ∈ a.fin, 0 ≤ x ∧ x < a.states
  trs : ∀ t ∈ a.trs, (0 ≤ t.frm ∧ t.frm < a.states) ∧ (0 ≤ t.to ∧ t.to < a.states) ∧ -1 ≤ t.sym ∧ t.sym < a.symbols
  w : ∀ t ∈ a.trs, isB a.sp t.w = true
theorem checkE10_ok {a : Aut} (h : checkE10 a = 0) : a.Ok := by
  unfold checkE10 at h
  split at h
  · contradiction
  · rename_i h1
    have hs := spE_ok (by simpa using h1)
    split at h
    · cases h
    · rename_i h2
      split at h
      · cases h
      · rename_i h3
        split at h
        · cases h
        · rename_i h4
          split at h
          · cases h
          · rename_i h5
            split at h
            · cases h
            · rename_i h6
              have h5' := List.any_eq_false.1 (Bool.not_eq_true _ ▸ h5)
              have h6' := List.any_eq_false.1 (Bool.not_eq_true _ ▸ h6)
              have hd : 0 ≤ a.states ∧ a.states ≤ 4096 ∧ 0 ≤ a.symbols ∧ a.symbols ≤ 4096 := by simp [dimBad] at h3; omega
              have hf : finOk a (-1) a.fin = true := by simpa using h4
              refine ⟨hs, by omega, by omega, by omega, fun x hx => ?_, fun t ht => ?_, fun t ht => ?_⟩
              · have := finOk_in hf x hx; simp [inS] at this; omega
              · have := h5' t ht; simp [trBad, inS] at this; omega
              · have := h6' t ht
                exact (checkedW_ok (by simpa using this)).2 t.w (by simp)
theorem set_wtx (l : List Wt) (i : Nat) (w : Wt) : (l.map wtV).set i (.agg (wtL w)) = (l.set i w).map wtV := by rw [List.map_set, wtV_eq w]
def endsW (a : Aut) : List Wt := a.fin.foldl (fun l s => l.set s.toNat (oneW a.sp)) (List.replicate a.states.toNat (zeroW a.sp))
theorem fold_len {α β : Type} (f : List β → α → List β) (hf : ∀ l x, (f l x).length = l.length) : ∀ (xs : List α) (l : List β), (xs.foldl f l).length = l.length
  | [], _ => rfl
  | x :: xs, l => by rw [List.foldl_cons, fold_len f hf, hf]
theorem rep_wt (n : Nat) (w : Wt) : ((List.range n).map fun _ => V.agg (wtL w)) = (List.replicate n w).map wtV := by
  rw [List.map_replicate, wtV_eq, replicate_range]
theorem asked10 (a : Aut) (frm w : List Int) (ha : a.Sm) (hf : frm.length ≤ 17592186044416) (hw : w.length ≤ 17592186044416) : FnC Tryz.prog 30 [autV a, .sl 3 (frm.map iV), .sl 3 (w.map iV)] (fun r => r = iV (askedE a frm w)) := by
  refine FnC.of (fn := Tryz.f30) ⟨Tryz.func30, by kernel_rfl, rfl⟩ Tryz.ntmps30 (by simp) fun w0 S0 => ?_
  refine p_go fun hf => ?_
  refine p_call (hx := rfl) (hb := ⟨Tryz.func25, by kernel_rfl, rfl⟩) (hf := check10 a ha) (h := ?_)
  refine p_go ?_
  refine p_splitC (s := 15) (ht := fun hc15 => ?_) (hf := fun hc15 => ?_)
  · refine p_go ?_
    refine p_ret1 (hp := by have h1 : checkE10 a ≠ 0 := (by simpa using hc15); rw [askedE, if_pos h1])
  · have h0 : checkE10 a = 0 := by simpa using hc15
    refine p_go ?_
    refine p_loopK [2, 3, 17, 18] [(0 + 1, 3)] (fun st => ∃ i : Nat, (i ≤ frm.length) ∧ (∀ j (hj : j < frm.length), j < i → badS a frm[j] = false) ∧ st.env 19 = iV i) (fun st => frm.length - (st.env 19).toN) ?_ fun e ob g1 hK hO hI => ?_
    · exact ⟨0, by omega, fun j hj h => by omega, eV_⟩
    · obtain ⟨i, hi, hp, e19⟩ := hI
      dsimp only at e19
      simp only [valsE, List.cons.injEq, and_true] at hK
      simp only [valsO, List.cons.injEq, and_true] at hO
      have hE := (⟨hK, hO, e19⟩ : _ ∧ _ ∧ _)
      refine p_go ?_
      refine p_splitC (s := 20) (ht := fun hc20 => ?_) (hf := fun hc20 => ?_)
      · have hlt : i < frm.length := by simpa using hc20
        refine p_go fun hf => ?_
        refine p_idxMap (j := i) (ht := Tryz.underlying26) (hi := F.ti3.h) (hij := rfl) (hj := hlt) (h := ?_)
        refine p_go ?_
        refine p_splitC (s := 30) (ht := fun hc30 => ?_) (hf := fun hc30 => ?_)
        · refine p_go ?_
          refine p_ret1 (hp := by rw [askedE, if_neg (by rw [h0]; decide), any_hit (p := badS a) hlt hc30]; rfl)
        · refine p_go fun hf => ?_
          refine p_add (r := ((i + 1 : Nat) : Int)) (hr := (by first | omega | (simp only [decide_eq_true_eq, decide_eq_false_iff_not, Bool.or_eq_false_iff, Bool.and_eq_true, Bool.not_eq_true', Bool.not_eq_false'] at *; omega))) (hb := (by first | omega | (simp only [decide_eq_true_eq, decide_eq_false_iff_not, Bool.or_eq_false_iff, Bool.and_eq_true, Bool.not_eq_true', Bool.not_eq_false'] at *; omega))) (h := ?_)
          refine p_go ?_
          refine p_some ?_
          refine ⟨⟨(by simp (decide := true) only [valsE, evE, upd, cv, args0, argsFrom, List.length_map, ↓reduceIte, hE] <;> rfl), (by simp (decide := true) only [valsO, updO, upd, true_and, and_true, false_and, and_false, ↓reduceIte, hE] <;> rfl)⟩, ⟨i + 1, hlt, none_next hc30 hp, eV_⟩, ?_⟩
          simp (decide := true) only [upd, e19, V.toN, ↓reduceIte]; omega
      · have hS : frm.any (badS a) = false := any_not (by simpa using hc20) hp
        refine p_go ?_
        refine p_loopK [3, 32, 33] [(0 + 1, 3)] (fun st => ∃ i : Nat, (i ≤ w.length) ∧ (∀ j (hj : j < w.length), j < i → badY a w[j] = false) ∧ st.env 34 = iV i) (fun st => w.length - (st.env 34).toN) ?_ fun e ob g2 hK hO hI => ?_
        · exact ⟨0, by omega, fun j hj h => by omega, eV_⟩
        · obtain ⟨i, hi, hq, e34⟩ := hI
          dsimp only at e34
          simp only [valsE, List.cons.injEq, and_true] at hK
          simp only [valsO, List.cons.injEq, and_true] at hO
          have hE := (⟨hK, hO, e34⟩ : _ ∧ _ ∧ _)
          refine p_go ?_
          refine p_splitC (s := 35) (ht := fun hc35 => ?_) (hf := fun hc35 => ?_)
          · have hlt : i < w.length := by simpa using hc35
            refine p_go fun hf => ?_
            refine p_idxMap (j := i) (ht := Tryz.underlying26) (hi := F.ti3.h) (hij := rfl) (hj := hlt) (h := ?_)
            refine p_go ?_
            refine p_splitC (s := 45) (ht := fun hc45 => ?_) (hf := fun hc45 => ?_)
            · refine p_go ?_
              refine p_ret1 (hp := by rw [askedE, if_neg (by rw [h0]; decide), hS, any_hit (p := badY a) hlt hc45]; rfl)
            · refine p_go fun hf => ?_
              refine p_add (r := ((i + 1 : Nat) : Int)) (hr := (by first | omega | (simp only [decide_eq_true_eq, decide_eq_false_iff_not, Bool.or_eq_false_iff, Bool.and_eq_true, Bool.not_eq_true', Bool.not_eq_false'] at *; omega))) (hb := (by first | omega | (simp only [decide_eq_true_eq, decide_eq_false_iff_not, Bool.or_eq_false_iff, Bool.and_eq_true, Bool.not_eq_true', Bool.not_eq_false'] at *; omega))) (h := ?_)
              refine p_go ?_
              refine p_some ?_
              refine ⟨⟨(by simp (decide := true) only [valsE, evE, upd, cv, args0, argsFrom, List.length_map, ↓reduceIte, hE] <;> rfl), (by simp (decide := true) only [valsO, updO, upd, true_and, and_true, false_and, and_false, ↓reduceIte, hE] <;> rfl)⟩, ⟨i + 1, hlt, none_next hc45 hq, eV_⟩, ?_⟩
              simp (decide := true) only [upd, e34, V.toN, ↓reduceIte]; omega
          · have hY : w.any (badY a) = false := any_not (by simpa using hc35) hq
            refine p_go ?_
            refine p_ret1 (hp := by rw [askedE, if_neg (by rw [h0]; decide), hS, hY]; rfl)
theorem ends10 (a : Aut) (ha : a.Ok) (hl : a.fin.length ≤ 17592186044416) : FnO Tryz.prog 32 [autV a] 37 ((endsW a).map wtV) (fun g d => .row g d a.states.toNat) := by
  refine FnO.of (fn := Tryz.f32) ⟨Tryz.func32, by kernel_rfl, rfl⟩ Tryz.ntmps32 (by simp) fun w0 S0 => ?_
  have hst := ha.st
  refine p_go fun hf => ?_
  refine p_makeA (n := a.states.toNat) (by decide) (by repeat (first | exact hf _ | with_reducible rfl | rw [updO_off (by decide)])) Tryz.underlying35 F.ti37.h rfl (by decide) (by simp [Value.cells, cv] <;> rfl) rfl (by rw [show ((a.states.toNat : Nat) : Int) = a.states by omega]; exact eV_) (by omega) (by omega) ?_
  refine p_go ?_
  refine p_loopK [1, 3, 11] [(0 + 1, 1)] (fun st => ∃ i : Nat, (i ≤ a.states.toNat) ∧ st.env 12 = iV i ∧ st.obj (0 + 1 + 1) 9 = .row 37 ((List.range a.states.toNat).map fun j => if j < i then V.agg (wtL (zeroW a.sp)) else (V.agg [.bool false, .int .i64 0, .int .u64 0, .nil, .nil, .nil]))) (fun st => a.states.toNat - (st.env 12).toN) ?_ fun e ob g1 hK hO hI => ?_
  · exact ⟨0, by omega, eV_, by refine Eq.trans oB_ ?_; exact congrArg _ (fill_start id (fun _ => V.agg (wtL (zeroW a.sp))) _ _)⟩
  · obtain ⟨i, hi, e12, o9⟩ := hI
    dsimp only at e12 o9
    simp only [valsE, List.cons.injEq, and_true] at hK
    simp only [valsO, List.cons.injEq, and_true] at hO
    have hE := (⟨hK, hO, e12, o9⟩ : _ ∧ _ ∧ _ ∧ _)
    refine p_go ?_
    refine p_splitC (s := 13) (ht := fun hc13 => ?_) (hf := fun hc13 => ?_)
    · have hlt : i < a.states.toNat := by simp at hc13; omega
      refine p_go fun hf => ?_
      refine p_call (hx := rfl) (hb := ⟨Tryz.func35, by kernel_rfl, rfl⟩) (hf := wzero a.sp ha.sp) (h := ?_)
      refine p_idxRowN (i) (ht := Tryz.underlying35) (hi := F.ti37.h) (hij := rfl) (hlt := hlt) (h := ?_)
      refine p_storeRowAF (f' := fun j => if j < i + 1 then V.agg (wtL (zeroW a.sp)) else (V.agg [.bool false, .int .i64 0, .int .u64 0, .nil, .nil, .nil])) F.ti37.h (TI.cells F.ti37.h) eV_ oB_ (hlt) eV_ rfl rfl (fun j _ => fill_next id (fun _ => V.agg (wtL (zeroW a.sp))) (V.agg [.bool false, .int .i64 0, .int .u64 0, .nil, .nil, .nil]) i j rfl) ?_
      refine p_go fun hf => ?_
      refine p_add (r := ((i + 1 : Nat) : Int)) (hr := (by first | omega | (simp only [decide_eq_true_eq, decide_eq_false_iff_not, Bool.or_eq_false_iff, Bool.and_eq_true, Bool.not_eq_true', Bool.not_eq_false'] at *; omega))) (hb := (by first | omega | (simp only [decide_eq_true_eq, decide_eq_false_iff_not, Bool.or_eq_false_iff, Bool.and_eq_true, Bool.not_eq_true', Bool.not_eq_false'] at *; omega))) (h := ?_)
      refine p_go ?_
      refine p_some ?_
      refine ⟨⟨(by simp (decide := true) only [valsE, evE, upd, cv, args0, argsFrom, List.length_map, ↓reduceIte, hE] <;> rfl), (by simp (decide := true) only [valsO, updO, upd, true_and, and_true, false_and, and_false, ↓reduceIte, hE] <;> rfl)⟩, ⟨i + 1, hlt, eV_, oB_⟩, ?_⟩
      simp (decide := true) only [upd, e12, V.toN, ↓reduceIte]; omega
    · have hge : a.states.toNat ≤ i := by simp at hc13; omega
      refine p_go ?_
      refine p_loopK [1, 3, 23, 24] [(0 + 1, 1)] (fun st => ∃ i : Nat, (i ≤ a.fin.length) ∧ st.env 25 = iV i ∧ st.obj (0 + 1 + 1) 9 = .row 37 (((a.fin.take i).foldl (fun l s => l.set s.toNat (oneW a.sp)) (List.replicate a.states.toNat (zeroW a.sp))).map wtV)) (fun st => a.fin.length - (st.env 25).toN) ?_ fun e ob g2 hK hO hI => ?_
      · exact ⟨0, by omega, eV_, by refine Eq.trans oB_ ?_; rw [List.take_zero, List.foldl_nil, ← rep_wt]; exact congrArg _ (List.map_congr_left fun j hj => if_pos (by rw [List.mem_range] at hj; omega))⟩
      · obtain ⟨i, hi2, e25, o9⟩ := hI
        dsimp only at e25 o9
        simp only [valsE, List.cons.injEq, and_true] at hK
        simp only [valsO, List.cons.injEq, and_true] at hO
        have hE := (⟨hK, hO, e25, o9⟩ : _ ∧ _ ∧ _ ∧ _)
        refine p_go ?_
        refine p_splitC (s := 26) (ht := fun hc26 => ?_) (hf := fun hc26 => ?_)
        · have hlt : i < a.fin.length := by simpa using hc26
          have hfi := ha.fin _ (List.getElem_mem hlt)
          have hlt2 : a.fin[i].toNat < a.states.toNat := by omega
          refine p_go fun hf => ?_
          refine p_idxMap (j := i) (ht := Tryz.underlying26) (hi := F.ti3.h) (hij := rfl) (hj := hlt) (h := ?_)
          refine p_go fun hf => ?_
          refine p_call (hx := rfl) (hb := ⟨Tryz.func49, by kernel_rfl, rfl⟩) (hf := wone a.sp ha.sp) (h := ?_)
          refine p_idxRowN (a.fin[i].toNat) (ht := Tryz.underlying35) (hi := F.ti37.h) (hij := by have := hfi; omega) (hlt := hlt2) (h := ?_)
          refine p_storeRow (hi := F.ti37.h) (hc := TI.cells F.ti37.h) (hlt := by simpa [fold_len (fun (l : List Wt) (s : Int) => l.set s.toNat (oneW a.sp)) (fun l x => by simp)] using hlt2) (hl := .inr ⟨_, rfl⟩) (hro := rfl) (hsz := rfl) (h := ?_)
          rw [set_wtx]
          refine p_go fun hf => ?_
          refine p_add (r := ((i + 1 : Nat) : Int)) (hr := (by first | omega | (simp only [decide_eq_true_eq, decide_eq_false_iff_not, Bool.or_eq_false_iff, Bool.and_eq_true, Bool.not_eq_true', Bool.not_eq_false'] at *; omega))) (hb := (by first | omega | (simp only [decide_eq_true_eq, decide_eq_false_iff_not, Bool.or_eq_false_iff, Bool.and_eq_true, Bool.not_eq_true', Bool.not_eq_false'] at *; omega))) (h := ?_)
          refine p_go ?_
          refine p_some ?_
          refine ⟨⟨(by simp (decide := true) only [valsE, evE, upd, cv, args0, argsFrom, List.length_map, ↓reduceIte, hE] <;> rfl), (by simp (decide := true) only [valsO, updO, upd, true_and, and_true, false_and, and_false, ↓reduceIte, hE] <;> rfl)⟩, ⟨i + 1, hlt, eV_, by rw [fold_snoc _ _ hlt]; exact oB_⟩, ?_⟩
          simp (decide := true) only [upd, e25, V.toN, ↓reduceIte]; omega
        · have hge2 : a.fin.length ≤ i := by simpa using hc26
          refine p_go ?_
          refine p_retO1 (0 + 1 + 1) 9 rfl (by rw [endsW, ← List.take_of_length_le hge2]; exact oB_) eV_ (Ren.row _)
end Go.Proofs.YtfpljljjjgicaaaGreatDoor
