import Derived.Test.YtjdhkopjigijfaaYa
/-
  Expressions turned round and joined: the reference's; Turn and Join of both.
-/
set_option linter.unusedSimpArgs false
set_option linter.unusedVariables false
set_option maxHeartbeats 4000000
namespace Go.Proofs.Ytjdhkopjigijfaa
open Go.RowKit
attribute [local irreducible] Wk Tr
theorem turnP (x : Rx) (hx : x.sz ≤ 1000000) : FnC Try.prog 40 [rxA x] (fun r => r = rxA (tnX x)) := by
  induction x using Rx.ind with
  | _ x ih =>
    have h1 := Rx.szL_len x.kids
    have h2 := x.sz_eq
    exact turn_gen x (by omega) fun k hk => ih k hk (by have := Rx.szL_mem hk; omega)
theorem copiedP (x : Rx) (hx : x.sz ≤ 1000000) : FnC Try.prog 52 [rxA x] (fun r => r = rxA x) := by
  induction x using Rx.ind with
  | _ x ih =>
    have h1 := Rx.szL_len x.kids
    have h2 := x.sz_eq
    exact copied_gen x (by omega) fun k hk => ih k hk (by have := Rx.szL_mem hk; omega)
/-- The answer of Turn. -/
def tuX (x : Rx) : Rx := if errE x = 0 then tnX x else zeroR
def firstE : List Rx → Int
  | [] => 0
  | k :: l => if errE k = 0 then firstE l else errE k
theorem firstE_at {l : List Rx} {i : Nat} (h : i < l.length) (hall : ∀ j (hj : j < l.length), j < i → errE l[j] = 0) (he : errE l[i] ≠ 0) : firstE l = errE l[i] := by
  induction l generalizing i with
  | nil => simp at h
  | cons a l ih =>
    rw [firstE]
    cases i with
    | zero => rw [if_neg (by simpa using he)]; rfl
    | succ i =>
      have h0 : errE a = 0 := hall 0 (by simp) (by omega)
      rw [if_pos h0]
      exact ih (by simpa using h) (fun j hj hji => hall (j + 1) (by simpa using hj) (by omega)) he
theorem firstE_end {l : List Rx} (hall : ∀ j (hj : j < l.length), errE l[j] = 0) : firstE l = 0 := by
  induction l with
  | nil => rfl
  | cons a l ih =>
    have h0 : errE a = 0 := hall 0 (by simp)
    rw [firstE, if_pos h0]
    exact ih fun j hj => hall (j + 1) (by simpa using hj)
/-- The answer of Join. -/
def jnE (op : Int) (l : List Rx) : Int := if op ≠ 5 ∧ op ≠ 6 then 1 else if firstE l = 0 then errE (joinR op l) else firstE l
def jnX (op : Int) (l : List Rx) : Rx := if jnE op l = 0 then joinR op l else zeroR
theorem jk_len {op : Int} {l : List Rx} (h : ∀ j (hj : j < l.length), errE l[j] = 0) : (jkL op l).length ≤ l.length * 500 := by
  unfold jkL
  induction l with
  | nil => simp
  | cons a l ih =>
    rw [List.flatMap_cons, List.length_append, List.length_cons, Nat.add_mul]
    have h1 := (errE_ok.1 (h 0 (by simp))).sz
    have h2 := a.sz_eq
    have h3 := Rx.szL_len a.kids
    have h4 := ih fun j hj => h (j + 1) (by simpa using hj)
    simp only [List.getElem_cons_zero] at h1
    split
    · omega
    · simp only [List.length_singleton]; omega
theorem join_sm {op : Int} {l : List Rx} (hl : l.length ≤ 1000) (hs : ∀ k ∈ l, k.Sm) (h : ∀ j (hj : j < l.length), errE l[j] = 0) : (joinR op l).Sm := by
  have hj := jk_len (op := op) h
  unfold joinR
  split
  · rename_i a; exact hs _ (by simp)
  · split <;> exact .mk (by simp [Rx.kids]) (by simp [Rx.kids])
  · refine .mk (by show (jkL op l).length ≤ _; omega) fun k hk => ?_
    have hk' : k ∈ jkL op l := hk
    unfold jkL at hk'
    obtain ⟨m, hm, hk'⟩ := List.mem_flatMap.1 hk'
    split at hk'
    · exact (hs m hm).kids k hk'
    · rw [List.mem_singleton] at hk'; exact hk' ▸ hs m hm

theorem tuP (x : Rx) (hs : x.Sm) : FnC Try.prog 19 [rxA x] (fun r => r = .tup [rxA (tuX x), iV (errE x)]) := by
  refine FnC.of (fn := Try.f19) ⟨Try.func19, by kernel_rfl, rfl⟩ Try.ntmps19 (by simp) fun w0 S0 => ?_
  refine p_go fun hf => ?_
  refine p_call (hx := rfl) (hb := ⟨Try.func23, by kernel_rfl, rfl⟩) (hf := checkP x hs) (h := ?_)
  refine p_go ?_
  refine p_splitC (s := 8) (ht := fun hc8 => ?_) (hf := fun hc8 => ?_)
  · have he : errE x ≠ 0 := by simpa using hc8
    refine p_go fun hf => ?_
    refine p_build (hi := F.ti25.h) (hpl := F.pl25.h) (h := ?_)
    refine p_move (h := ?_)
    refine p_storeAll F.ti25.h (h := ?_)
    refine p_assign (h := ?_)
    refine p_end ?_
    refine TrC.ret ?_
    refine p_cellNil (g1 := 0 + 1) (d1 := 2) (i := 2) (el := 25) (h := ?_)
    refine p_r2 (hp := by rw [tuX, if_neg he]; rfl)
  · have he : errE x = 0 := by simpa using hc8
    have hxok := errE_ok.1 he
    refine p_go fun hf => ?_
    refine p_call (hx := rfl) (hb := ⟨Try.func40, by kernel_rfl, rfl⟩) (hf := turnP x (by have := hxok.sz; omega)) (h := ?_)
    refine p_go ?_
    refine p_r2 (hp := by rw [tuX, if_pos he, he])

theorem turned_gen (x : Rx) (hs : x.kids.length ≤ 1000000) (hrec : ∀ k ∈ x.kids, FnC Try.prog 54 [rxA k] (fun r => r = rxA (tnX k))) : FnC Try.prog 54 [rxA x] (fun r => r = rxA (tnX x)) := by
  refine FnC.of (fn := Try.f54) ⟨Try.func54, by kernel_rfl, rfl⟩ Try.ntmps54 (by simp) fun w0 S0 => ?_
  refine p_go fun hf => ?_
  refine p_build (hi := F.ti25.h) (hpl := F.pl25.h) (h := ?_)
  refine p_go ?_
  refine p_fresh fun hf => ?_
  refine p_nilCell (g1 := 0 + 1 + 1) (d1 := 3) (i := 2) (el := 25) 900 (h := ?_)
  refine p_loopK [1, 2, 3] [(0 + 1, 1), (0 + 1, 2)] (fun st => ∃ (i c1 : Nat), (i ≤ x.kids.length) ∧ (0 + 1 + 1 < c1) ∧ (c1 ≤ st.gen) ∧ st.env 4 = inV i ∧ st.obj (0 + 1 + 1) 3 = .cells 25 [iV x.op, .str x.name, .row c1 900 i] ∧ st.obj c1 900 = .row 25 ((((ordK x).take i).map tnX).map rxV)) (fun st => x.kids.length - (st.env 4).toN) ?_ fun e ob g1 hK hO hI => ?_
  · exact ⟨0, _, by omega, by (try dsimp only); omega, Nat.le_refl _, eV_, oB_, oB_⟩
  · obtain ⟨i, c1, hi, hc1, hcg1, e4, hcl, hrw⟩ := hI
    dsimp only at e4 hcl hrw
    simp only [valsE, List.cons.injEq, and_true] at hK
    simp only [valsO, List.cons.injEq, and_true] at hO
    have hE := (⟨hK, hO, e4, hcl, hrw⟩ : _ ∧ _ ∧ _ ∧ _ ∧ _)
    dsimp only at hcg1
    refine p_go ?_
    refine p_splitC (s := 15) (ht := fun hc15 => ?_) (hf := fun hc15 => ?_)
    · have hlt : i < x.kids.length := by simpa using hc15
      have hlto : i < (ordK x).length := by rw [ordK_len]; exact hlt
      have hst : ((ordK x).take (i + 1)).map tnX = ((ordK x).take i).map tnX ++ [tnX ((ordK x)[i]'(by rw [ordK_len]; exact hlt))] := by rw [List.take_add_one, List.getElem?_eq_getElem (by rw [ordK_len]; exact hlt), List.map_append]; rfl
      have htl : ((((ordK x).take i).map tnX).map rxV).length = i := by simp only [List.length_map, List.length_take, ordK_len]; omega
      refine p_go ?_
      refine p_splitC (s := 21) (ht := fun hc21 => ?_) (hf := fun hc21 => ?_)
      · have h5 : x.op = 5 := by simpa using hc21
        obtain ⟨j, hj, hlt2, hkj⟩ : ∃ (j : Nat), ((x.kids.length : Int) - 1 - (i : Int) = j) ∧ ∃ h : j < x.kids.length, x.kids[j] = (ordK x)[i] := ⟨x.kids.length - 1 - i, by omega, by omega, by simp [ordK, h5]⟩
        refine p_go fun hf => ?_
        refine p_sub (hr := rfl) (hb := by omega) (h := ?_)
        refine p_go fun hf => ?_
        refine p_sub (hr := rfl) (hb := by omega) (h := ?_)
        refine p_go fun hf => ?_
        refine p_idxMap (j := j) (ht := Try.underlying23) (hi := F.ti25.h) (hij := hj) (hj := hlt2) (h := ?_)
        rw [rxV_cells, hkj]
        refine p_go fun hf => ?_
        refine p_call (hx := rfl) (hb := ⟨Try.func54, by kernel_rfl, rfl⟩) (hf := hrec _ (ordK_mem.1 (List.getElem_mem hlto))) (h := ?_)
        refine p_buildSlice (ht := Try.underlying23) (hi := F.ti25.h) (h := ?_)
        refine p_append (ht := Try.underlying23) (hi := F.ti25.h) (u := .row _ 36 1) (ys := [rxA (tnX ((ordK x)[i]'hlto))]) (hnl := htl.symm) (hy := ⟨.inl oB_, rfl⟩) (k := i + 1) (hm := by rw [htl]; rfl) (hlim := by omega) (h := ?_)
        (first | refine p_fieldPtr (hf := F.fld25_2.h) (h := ?_) | refine p_fieldRef (hf := F.fld25_2.h) (h := ?_) | refine p_fieldRow (hf := F.fld25_2.h) (h := ?_))
        refine p_store1 F.ti23.h (h := ?_)
        refine p_endD ?_
        refine p_region fun hf => ?_
        refine p_move (h := ?_)
        refine p_bare ?_
        refine p_renCell (g1 := 0 + 1 + 1) (d1 := 3) (i := 2) 900 (h := ?_)
        refine p_lastOp (h := ?_)
        refine p_add (r := ((i + 1 : Nat) : Int)) (hr := (by first | omega | (simp only [decide_eq_true_eq, decide_eq_false_iff_not, Bool.or_eq_false_iff, Bool.and_eq_true, Bool.not_eq_true', Bool.not_eq_false'] at *; omega))) (hb := (by first | omega | (simp only [decide_eq_true_eq, decide_eq_false_iff_not, Bool.or_eq_false_iff, Bool.and_eq_true, Bool.not_eq_true', Bool.not_eq_false'] at *; omega))) (h := ?_)
        refine p_go ?_
        refine p_some ?_
        refine ⟨⟨(by simp (decide := true) only [valsE, evE, upd, cv, args0, argsFrom, List.length_map, ↓reduceIte, hE] <;> rfl), (by simp (decide := true) only [valsO, updO, upd, true_and, and_true, false_and, and_false, ↓reduceIte, hE] <;> rfl)⟩, ⟨i + 1, _, hlt, by (try dsimp only); omega, Nat.le_refl _, eV_, oB_, by rw [hst, List.map_append, List.map_singleton, rxV_eq]; exact oB_⟩, ?_⟩
        simp (decide := true) only [upd, e4, V.toN, ↓reduceIte]; omega
      · have h5 : ¬ x.op = 5 := by simpa using hc21
        obtain ⟨j, hj, hlt2, hkj⟩ : ∃ (j : Nat), ((i : Int) = j) ∧ ∃ h : j < x.kids.length, x.kids[j] = (ordK x)[i] := ⟨i, rfl, hlt, by simp [ordK, h5]⟩
        refine p_go fun hf => ?_
        refine p_idxMap (j := j) (ht := Try.underlying23) (hi := F.ti25.h) (hij := hj) (hj := hlt2) (h := ?_)
        rw [rxV_cells, hkj]
        refine p_go fun hf => ?_
        refine p_call (hx := rfl) (hb := ⟨Try.func54, by kernel_rfl, rfl⟩) (hf := hrec _ (ordK_mem.1 (List.getElem_mem hlto))) (h := ?_)
        refine p_buildSlice (ht := Try.underlying23) (hi := F.ti25.h) (h := ?_)
        refine p_append (ht := Try.underlying23) (hi := F.ti25.h) (u := .row _ 36 1) (ys := [rxA (tnX ((ordK x)[i]'hlto))]) (hnl := htl.symm) (hy := ⟨.inl oB_, rfl⟩) (k := i + 1) (hm := by rw [htl]; rfl) (hlim := by omega) (h := ?_)
        (first | refine p_fieldPtr (hf := F.fld25_2.h) (h := ?_) | refine p_fieldRef (hf := F.fld25_2.h) (h := ?_) | refine p_fieldRow (hf := F.fld25_2.h) (h := ?_))
        refine p_store1 F.ti23.h (h := ?_)
        refine p_endD ?_
        refine p_region fun hf => ?_
        refine p_move (h := ?_)
        refine p_bare ?_
        refine p_renCell (g1 := 0 + 1 + 1) (d1 := 3) (i := 2) 900 (h := ?_)
        refine p_lastOp (h := ?_)
        refine p_add (r := ((i + 1 : Nat) : Int)) (hr := (by first | omega | (simp only [decide_eq_true_eq, decide_eq_false_iff_not, Bool.or_eq_false_iff, Bool.and_eq_true, Bool.not_eq_true', Bool.not_eq_false'] at *; omega))) (hb := (by first | omega | (simp only [decide_eq_true_eq, decide_eq_false_iff_not, Bool.or_eq_false_iff, Bool.and_eq_true, Bool.not_eq_true', Bool.not_eq_false'] at *; omega))) (h := ?_)
        refine p_go ?_
        refine p_some ?_
        refine ⟨⟨(by simp (decide := true) only [valsE, evE, upd, cv, args0, argsFrom, List.length_map, ↓reduceIte, hE] <;> rfl), (by simp (decide := true) only [valsO, updO, upd, true_and, and_true, false_and, and_false, ↓reduceIte, hE] <;> rfl)⟩, ⟨i + 1, _, hlt, by (try dsimp only); omega, Nat.le_refl _, eV_, oB_, by rw [hst, List.map_append, List.map_singleton, rxV_eq]; exact oB_⟩, ?_⟩
        simp (decide := true) only [upd, e4, V.toN, ↓reduceIte]; omega
    · have hge : ¬ i < x.kids.length := by simpa using hc15
      have htk : (ordK x).take i = ordK x := List.take_of_length_le (by rw [ordK_len]; omega)
      have hie : i = x.kids.length := by omega
      rw [htk] at hrw
      have hE := (⟨hK, hO, e4, hcl, hrw⟩ : _ ∧ _ ∧ _ ∧ _ ∧ _)
      refine p_condF (h := ?_)
      refine p_exit ?_
      refine p_freeze (g1 := c1) (d1 := 900) (h := ?_)
      refine p_cellSl (g1 := 0 + 1 + 1) (d1 := 3) (i := 2) (g2 := c1) (d2 := 900) (hn := by rw [List.length_map, List.length_map, ordK_len, hie]) (h := ?_)
      refine p_go ?_
      refine p_r1 (hp := by rw [tnX_eq]; rfl)

theorem turnedR (x : Rx) (hx : x.sz ≤ 1000000) : FnC Try.prog 54 [rxA x] (fun r => r = rxA (tnX x)) := by
  induction x using Rx.ind with
  | _ x ih =>
    have h1 := Rx.szL_len x.kids
    have h2 := x.sz_eq
    exact turned_gen x (by omega) fun k hk => ih k hk (by have := Rx.szL_mem hk; omega)

theorem tuR (x : Rx) (hs : x.Sm) : FnC Try.prog 28 [rxA x] (fun r => r = .tup [rxA (tuX x), iV (errE x)]) := by
  refine FnC.of (fn := Try.f28) ⟨Try.func28, by kernel_rfl, rfl⟩ Try.ntmps28 (by simp) fun w0 S0 => ?_
  refine p_go fun hf => ?_
  refine p_call (hx := rfl) (hb := ⟨Try.func20, by kernel_rfl, rfl⟩) (hf := checkRE x hs) (h := ?_)
  refine p_go ?_
  refine p_splitC (s := 8) (ht := fun hc8 => ?_) (hf := fun hc8 => ?_)
  · have he : errE x ≠ 0 := by simpa using hc8
    refine p_go fun hf => ?_
    refine p_build (hi := F.ti25.h) (hpl := F.pl25.h) (h := ?_)
    refine p_move (h := ?_)
    refine p_storeAll F.ti25.h (h := ?_)
    refine p_assign (h := ?_)
    refine p_end ?_
    refine TrC.ret ?_
    refine p_cellNil (g1 := 0 + 1) (d1 := 2) (i := 2) (el := 25) (h := ?_)
    refine p_r2 (hp := by rw [tuX, if_neg he]; rfl)
  · have he : errE x = 0 := by simpa using hc8
    have hxok := errE_ok.1 he
    refine p_go fun hf => ?_
    refine p_call (hx := rfl) (hb := ⟨Try.func54, by kernel_rfl, rfl⟩) (hf := turnedR x (by have := hxok.sz; omega)) (h := ?_)
    refine p_go ?_
    refine p_r2 (hp := by rw [tuX, if_pos he, he])

theorem joinP (op : Int) (l : List Rx) (hl : l.length ≤ 20) (hsm : ∀ k ∈ l, k.Sm) : FnC Try.prog 26 [iV op, .sl 25 (l.map rxV)] (fun r => r = .tup [rxA (jnX op l), iV (jnE op l)]) := by
  refine FnC.of (fn := Try.f26) ⟨Try.func26, by kernel_rfl, rfl⟩ Try.ntmps26 (by simp) fun w0 S0 => ?_
  refine p_go ?_
  refine p_splitC (s := 16) (ht := fun hc16 => ?_) (hf := fun hc16 => ?_)
  · have hop : op ≠ 5 ∧ op ≠ 6 := by simpa using hc16
    have hE0 : jnE op l = 1 := by rw [jnE, if_pos hop]
    have hX : jnX op l = zeroR := by rw [jnX, if_neg (by rw [hE0]; decide)]
    refine p_go fun hf => ?_
    refine p_build (hi := F.ti25.h) (hpl := F.pl25.h) (h := ?_)
    refine p_storeAll F.ti25.h (h := ?_)
    refine p_assign (h := ?_)
    refine p_end ?_
    refine TrC.ret ?_
    refine p_cellNil (g1 := 0 + 1) (d1 := 4) (i := 2) (el := 25) (h := ?_)
    refine p_r2 (hp := by rw [hX, hE0]; rfl)
  · have hop : ¬ (op ≠ 5 ∧ op ≠ 6) := by simpa using hc16
    refine p_go ?_
    refine p_loopK [0, 1, 4, 18, 19] [(0 + 1, 4)] (fun st => ∃ i : Nat, (i ≤ l.length) ∧ (∀ j (hj : j < l.length), j < i → errE l[j] = 0) ∧ st.env 20 = inV i) (fun st => l.length - (st.env 20).toN) ?_ fun e ob g1 hK hO hI => ?_
    · exact ⟨0, by omega, fun _ _ h => by omega, eV_⟩
    · obtain ⟨i, hi, hall, e20⟩ := hI
      dsimp only at e20
      simp only [valsE, List.cons.injEq, and_true] at hK
      simp only [valsO, List.cons.injEq, and_true] at hO
      have hE := (⟨hK, hO, e20⟩ : _ ∧ _ ∧ _)
      refine p_go ?_
      refine p_splitC (s := 21) (ht := fun hc21 => ?_) (hf := fun hc21 => ?_)
      · have hlt : i < l.length := by simpa using hc21
        refine p_go fun hf => ?_
        refine p_idxMap (j := i) (ht := Try.underlying23) (hi := F.ti25.h) (hij := rfl) (hj := hlt) (h := ?_)
        rw [rxV_cells]
        refine p_go fun hf => ?_
        refine p_call (hx := rfl) (hb := ⟨Try.func23, by kernel_rfl, rfl⟩) (hf := checkP l[i] (hsm _ (List.getElem_mem hlt))) (h := ?_)
        refine p_go ?_
        refine p_splitC (s := 27) (ht := fun hc27 => ?_) (hf := fun hc27 => ?_)
        · have he : errE l[i] ≠ 0 := by simpa using hc27
          have hF := firstE_at hlt hall he
          have hE0 : jnE op l = errE l[i] := by rw [jnE, if_neg hop, if_neg (by rw [hF]; exact he), hF]
          have hX : jnX op l = zeroR := by rw [jnX, if_neg (by rw [hE0]; exact he)]
          refine p_go fun hf => ?_
          refine p_build (hi := F.ti25.h) (hpl := F.pl25.h) (h := ?_)
          refine p_move (h := ?_)
          refine p_storeAll F.ti25.h (h := ?_)
          refine p_assign (h := ?_)
          refine p_end ?_
          refine TrC.ret ?_
          refine p_cellNil (g1 := 0 + 1) (d1 := 4) (i := 2) (el := 25) (h := ?_)
          refine p_r2 (hp := by rw [hX, hE0]; rfl)
        · have he : errE l[i] = 0 := by simpa using hc27
          refine p_go fun hf => ?_
          refine p_add (r := ((i + 1 : Nat) : Int)) (hr := (by first | omega | (simp only [decide_eq_true_eq, decide_eq_false_iff_not, Bool.or_eq_false_iff, Bool.and_eq_true, Bool.not_eq_true', Bool.not_eq_false'] at *; omega))) (hb := (by first | omega | (simp only [decide_eq_true_eq, decide_eq_false_iff_not, Bool.or_eq_false_iff, Bool.and_eq_true, Bool.not_eq_true', Bool.not_eq_false'] at *; omega))) (h := ?_)
          refine p_go ?_
          refine p_some ?_
          refine ⟨⟨(by simp (decide := true) only [valsE, evE, upd, cv, args0, argsFrom, List.length_map, ↓reduceIte, hE] <;> rfl), (by simp (decide := true) only [valsO, updO, upd, true_and, and_true, false_and, and_false, ↓reduceIte, hE] <;> rfl)⟩, ⟨i + 1, hlt, fun j hj h => (Nat.lt_succ_iff_lt_or_eq.1 h).elim (hall j hj) (fun h => by subst h; exact he), eV_⟩, ?_⟩
          simp (decide := true) only [upd, e20, V.toN, ↓reduceIte]; omega
      · have hge : ¬ i < l.length := by simpa using hc21
        have hal : ∀ j (hj : j < l.length), errE l[j] = 0 := fun j hj => hall j hj (by omega)
        have hE0 : jnE op l = errE (joinR op l) := by rw [jnE, if_neg hop, if_pos (firstE_end hal)]
        refine p_go fun hf => ?_
        refine p_call (hx := rfl) (hb := ⟨Try.func51, by kernel_rfl, rfl⟩) (hf := (by have h := joinedP op l (by omega) (by have := jk_len (op := op) hal; omega); rw [rxV_eq] at h; exact h)) (h := ?_)
        refine p_go fun hf => ?_
        refine p_call (hx := rfl) (hb := ⟨Try.func23, by kernel_rfl, rfl⟩) (hf := checkP (joinR op l) (join_sm (by omega) hsm hal)) (h := ?_)
        refine p_go ?_
        refine p_splitC (s := 37) (ht := fun hc37 => ?_) (hf := fun hc37 => ?_)
        · have hej : errE (joinR op l) ≠ 0 := by simpa using hc37
          have hX : jnX op l = zeroR := by rw [jnX, if_neg (by rw [hE0]; exact hej)]
          refine p_go fun hf => ?_
          refine p_build (hi := F.ti25.h) (hpl := F.pl25.h) (h := ?_)
          refine p_move (h := ?_)
          refine p_storeAll F.ti25.h (h := ?_)
          refine p_assign (h := ?_)
          refine p_end ?_
          refine TrC.ret ?_
          refine p_cellNil (g1 := 0 + 1) (d1 := 4) (i := 2) (el := 25) (h := ?_)
          refine p_r2 (hp := by rw [hX, hE0]; rfl)
        · have hej : errE (joinR op l) = 0 := by simpa using hc37
          have hX : jnX op l = joinR op l := by rw [jnX, if_pos (by rw [hE0]; exact hej)]
          refine p_go fun hf => ?_
          refine p_call (hx := rfl) (hb := ⟨Try.func52, by kernel_rfl, rfl⟩) (hf := copiedP (joinR op l) (by have := (errE_ok.1 hej).sz; omega)) (h := ?_)
          refine p_go ?_
          refine p_r2 (hp := by rw [hX, hE0, hej])

theorem joinRf (op : Int) (l : List Rx) (hl : l.length ≤ 20) (hsm : ∀ k ∈ l, k.Sm) : FnC Try.prog 27 [iV op, .sl 25 (l.map rxV)] (fun r => r = .tup [rxA (jnX op l), iV (jnE op l)]) := by
  refine FnC.of (fn := Try.f27) ⟨Try.func27, by kernel_rfl, rfl⟩ Try.ntmps27 (by simp) fun w0 S0 => ?_
  refine p_go ?_
  refine p_splitC (s := 15) (ht := fun hc15 => ?_) (hf := fun hc15 => ?_)
  · have hop : op ≠ 5 ∧ op ≠ 6 := by simpa using hc15
    have hE0 : jnE op l = 1 := by rw [jnE, if_pos hop]
    have hX : jnX op l = zeroR := by rw [jnX, if_neg (by rw [hE0]; decide)]
    refine p_go fun hf => ?_
    refine p_build (hi := F.ti25.h) (hpl := F.pl25.h) (h := ?_)
    refine p_storeAll F.ti25.h (h := ?_)
    refine p_assign (h := ?_)
    refine p_end ?_
    refine TrC.ret ?_
    refine p_cellNil (g1 := 0 + 1) (d1 := 4) (i := 2) (el := 25) (h := ?_)
    refine p_r2 (hp := by rw [hX, hE0]; rfl)
  · have hop : ¬ (op ≠ 5 ∧ op ≠ 6) := by simpa using hc15
    refine p_go ?_
    refine p_loopK [0, 1, 4] [(0 + 1, 4)] (fun st => ∃ i : Nat, (i ≤ l.length) ∧ (∀ j (hj : j < l.length), j < i → errE l[j] = 0) ∧ st.env 6 = inV i) (fun st => l.length - (st.env 6).toN) ?_ fun e ob g1 hK hO hI => ?_
    · exact ⟨0, by omega, fun _ _ h => by omega, eV_⟩
    · obtain ⟨i, hi, hall, e6⟩ := hI
      dsimp only at e6
      simp only [valsE, List.cons.injEq, and_true] at hK
      simp only [valsO, List.cons.injEq, and_true] at hO
      have hE := (⟨hK, hO, e6⟩ : _ ∧ _ ∧ _)
      refine p_go ?_
      refine p_splitC (s := 20) (ht := fun hc20 => ?_) (hf := fun hc20 => ?_)
      · have hlt : i < l.length := by simpa using hc20
        refine p_go fun hf => ?_
        refine p_idxMap (j := i) (ht := Try.underlying23) (hi := F.ti25.h) (hij := rfl) (hj := hlt) (h := ?_)
        rw [rxV_cells]
        refine p_go fun hf => ?_
        refine p_call (hx := rfl) (hb := ⟨Try.func20, by kernel_rfl, rfl⟩) (hf := checkRE l[i] (hsm _ (List.getElem_mem hlt))) (h := ?_)
        refine p_go ?_
        refine p_splitC (s := 29) (ht := fun hc29 => ?_) (hf := fun hc29 => ?_)
        · have he : errE l[i] ≠ 0 := by simpa using hc29
          have hF := firstE_at hlt hall he
          have hE0 : jnE op l = errE l[i] := by rw [jnE, if_neg hop, if_neg (by rw [hF]; exact he), hF]
          have hX : jnX op l = zeroR := by rw [jnX, if_neg (by rw [hE0]; exact he)]
          refine p_go fun hf => ?_
          refine p_build (hi := F.ti25.h) (hpl := F.pl25.h) (h := ?_)
          refine p_move (h := ?_)
          refine p_storeAll F.ti25.h (h := ?_)
          refine p_assign (h := ?_)
          refine p_end ?_
          refine TrC.ret ?_
          refine p_cellNil (g1 := 0 + 1) (d1 := 4) (i := 2) (el := 25) (h := ?_)
          refine p_r2 (hp := by rw [hX, hE0]; rfl)
        · have he : errE l[i] = 0 := by simpa using hc29
          refine p_go fun hf => ?_
          refine p_add (r := ((i + 1 : Nat) : Int)) (hr := (by first | omega | (simp only [decide_eq_true_eq, decide_eq_false_iff_not, Bool.or_eq_false_iff, Bool.and_eq_true, Bool.not_eq_true', Bool.not_eq_false'] at *; omega))) (hb := (by first | omega | (simp only [decide_eq_true_eq, decide_eq_false_iff_not, Bool.or_eq_false_iff, Bool.and_eq_true, Bool.not_eq_true', Bool.not_eq_false'] at *; omega))) (h := ?_)
          refine p_go ?_
          refine p_some ?_
          refine ⟨⟨(by simp (decide := true) only [valsE, evE, upd, cv, args0, argsFrom, List.length_map, ↓reduceIte, hE] <;> rfl), (by simp (decide := true) only [valsO, updO, upd, true_and, and_true, false_and, and_false, ↓reduceIte, hE] <;> rfl)⟩, ⟨i + 1, hlt, fun j hj h => (Nat.lt_succ_iff_lt_or_eq.1 h).elim (hall j hj) (fun h => by subst h; exact he), eV_⟩, ?_⟩
          simp (decide := true) only [upd, e6, V.toN, ↓reduceIte]; omega
      · have hge : ¬ i < l.length := by simpa using hc20
        have hal : ∀ j (hj : j < l.length), errE l[j] = 0 := fun j hj => hall j hj (by omega)
        have hE0 : jnE op l = errE (joinR op l) := by rw [jnE, if_neg hop, if_pos (firstE_end hal)]
        refine p_go fun hf => ?_
        refine p_call (hx := rfl) (hb := ⟨Try.func53, by kernel_rfl, rfl⟩) (hf := joinedR op l (by omega) (by have := jk_len (op := op) hal; omega)) (h := ?_)
        refine p_go fun hf => ?_
        refine p_call (hx := rfl) (hb := ⟨Try.func20, by kernel_rfl, rfl⟩) (hf := checkRE (joinR op l) (join_sm (by omega) hsm hal)) (h := ?_)
        refine p_go ?_
        refine p_splitC (s := 38) (ht := fun hc38 => ?_) (hf := fun hc38 => ?_)
        · have hej : errE (joinR op l) ≠ 0 := by simpa using hc38
          have hX : jnX op l = zeroR := by rw [jnX, if_neg (by rw [hE0]; exact hej)]
          refine p_go fun hf => ?_
          refine p_build (hi := F.ti25.h) (hpl := F.pl25.h) (h := ?_)
          refine p_move (h := ?_)
          refine p_storeAll F.ti25.h (h := ?_)
          refine p_assign (h := ?_)
          refine p_end ?_
          refine TrC.ret ?_
          refine p_cellNil (g1 := 0 + 1) (d1 := 4) (i := 2) (el := 25) (h := ?_)
          refine p_r2 (hp := by rw [hX, hE0]; rfl)
        · have hej : errE (joinR op l) = 0 := by simpa using hc38
          have hX : jnX op l = joinR op l := by rw [jnX, if_pos (by rw [hE0]; exact hej)]
          refine p_go ?_
          refine p_r2 (hp := by rw [hX, hE0, hej])

end Go.Proofs.Ytjdhkopjigijfaa
/-
  RegexJoins: its law as a contract.
-/
set_option linter.unusedSimpArgs false
set_option linter.unusedVariables false
set_option maxHeartbeats 4000000
namespace Go.Proofs.Ytjdhkopjigijfaa
open Go.RowKit
attribute [local irreducible] Wk Tr
theorem zero_sm : zeroR.Sm := .mk (by simp [zeroR, Rx.kids]) (by simp [zeroR, Rx.kids])
theorem tu_sm {x : Rx} (h : x.Sm) : (tuX x).Sm := by
  unfold tuX; split
  · exact tn_sm x h
  · exact zero_sm
theorem jn_sm {op : Int} {l : List Rx} (hl : l.length ≤ 1000) (hs : ∀ k ∈ l, k.Sm) : (jnX op l).Sm := by
  unfold jnX; split
  · rename_i h
    refine join_sm hl hs fun j hj => ?_
    by_cases hop : op ≠ 5 ∧ op ≠ 6
    · rw [jnE, if_pos hop] at h; cases h
    · rw [jnE, if_neg hop] at h
      by_cases hf : firstE l = 0
      · clear h hop hs hl
        induction l generalizing j with
        | nil => simp at hj
        | cons a l ih =>
          rw [firstE] at hf
          by_cases ha : errE a = 0
          · rw [if_pos ha] at hf
            cases j with
            | zero => exact ha
            | succ j => exact ih j (by simpa using hj) hf
          · rw [if_neg ha] at hf; exact absurd hf ha
      · rw [if_neg hf] at h; exact absurd h hf
  · exact zero_sm

theorem joins_T (op : Int) (l : List Rx) (hs : ∀ k ∈ l, k.Sm) (h20 : 20 < l.length) : FnC Try.prog 8 [iV op, .sl 25 (l.map rxV)] (fun r => r = .bool true) := by
  refine FnC.of (fn := Try.f8) ⟨Try.func8, by kernel_rfl, rfl⟩ Try.ntmps8 (by simp) fun w0 S0 => ?_
  obtain ⟨L, hL⟩ : ∃ L, L = l.take 20 := ⟨_, rfl⟩
  have hlen : L.length ≤ 20 := by rw [hL]; simp; omega
  have hsm : ∀ k ∈ L, k.Sm := fun k hk => hs k (by rw [hL] at hk; exact List.mem_of_mem_take hk)
  refine p_go ?_
  refine p_isC (s := 16) (b := true) (hc := by simp; omega) (h := ?_)
  refine p_go fun hf => ?_
  refine p_partHi (l := 20) (ys := L.map rxV) (ht := Try.underlying23) (hi := F.ti25.h) (hl := by simp; omega) (hys := by rw [hL, List.map_take]) (h := ?_)
  refine p_go fun hf => ?_
  refine p_call (hx := rfl) (hb := ⟨Try.func26, by kernel_rfl, rfl⟩) (hf := joinP op L hlen hsm) (h := ?_)
  refine p_go fun hf => ?_
  refine p_call (hx := rfl) (hb := ⟨Try.func27, by kernel_rfl, rfl⟩) (hf := joinRf op L hlen hsm) (h := ?_)
  refine p_go fun hf => ?_
  refine p_call (hx := rfl) (hb := ⟨Try.func11, by kernel_rfl, rfl⟩) (hf := sameR (jnX op L) (jn_sm (by omega) hsm) (jnX op L) (jn_sm (by omega) hsm)) (h := ?_)
  refine p_go ?_
  refine p_splitC (s := 39) (ht := fun hc39 => ?_) (hf := fun hc39 => ?_)
  · have hF : False := by rw [eqB_self] at hc39; simp at hc39
    refine p_go ?_
    refine p_ret1 (hp := by exact hF.elim)
  · refine p_go ?_
    refine p_loopK [1] [] (fun st => ∃ i : Nat, (i ≤ L.length) ∧ st.env 9 = inV i) (fun st => L.length - (st.env 9).toN) ?_ fun e ob g1 hK hO hI => ?_
    · exact ⟨0, by omega, eV_⟩
    · obtain ⟨i, hi, e9⟩ := hI
      dsimp only at e9
      simp only [valsE, List.cons.injEq, and_true] at hK
      simp only [valsO, List.cons.injEq, and_true] at hO
      have hE := (⟨hK, hO, e9⟩ : _ ∧ _ ∧ _)
      refine p_go ?_
      refine p_splitC (s := 43) (ht := fun hc43 => ?_) (hf := fun hc43 => ?_)
      · have hlt : i < L.length := by simpa using hc43
        refine p_go fun hf => ?_
        refine p_idxMap (j := i) (ht := Try.underlying23) (hi := F.ti25.h) (hij := rfl) (hj := hlt) (h := ?_)
        rw [rxV_cells]
        refine p_go fun hf => ?_
        refine p_call (hx := rfl) (hb := ⟨Try.func19, by kernel_rfl, rfl⟩) (hf := tuP L[i] (hsm _ (List.getElem_mem hlt))) (h := ?_)
        refine p_go fun hf => ?_
        refine p_idxMap (j := i) (ht := Try.underlying23) (hi := F.ti25.h) (hij := rfl) (hj := hlt) (h := ?_)
        rw [rxV_cells]
        refine p_go fun hf => ?_
        refine p_call (hx := rfl) (hb := ⟨Try.func28, by kernel_rfl, rfl⟩) (hf := tuR L[i] (hsm _ (List.getElem_mem hlt))) (h := ?_)
        refine p_go fun hf => ?_
        refine p_call (hx := rfl) (hb := ⟨Try.func11, by kernel_rfl, rfl⟩) (hf := sameR (tuX L[i]) (tu_sm (hsm _ (List.getElem_mem hlt))) (tuX L[i]) (tu_sm (hsm _ (List.getElem_mem hlt)))) (h := ?_)
        refine p_go ?_
        refine p_splitC (s := 70) (ht := fun hc70 => ?_) (hf := fun hc70 => ?_)
        · have hF : False := by rw [eqB_self] at hc70; simp at hc70
          refine p_go ?_
          refine p_ret1 (hp := by exact hF.elim)
        · refine p_go fun hf => ?_
          refine p_add (r := ((i + 1 : Nat) : Int)) (hr := (by first | omega | (simp only [decide_eq_true_eq, decide_eq_false_iff_not, Bool.or_eq_false_iff, Bool.and_eq_true, Bool.not_eq_true', Bool.not_eq_false'] at *; omega))) (hb := (by first | omega | (simp only [decide_eq_true_eq, decide_eq_false_iff_not, Bool.or_eq_false_iff, Bool.and_eq_true, Bool.not_eq_true', Bool.not_eq_false'] at *; omega))) (h := ?_)
          refine p_go ?_
          refine p_some ?_
          refine ⟨⟨(by simp (decide := true) only [valsE, evE, upd, cv, args0, argsFrom, List.length_map, ↓reduceIte, hE] <;> rfl), (by simp (decide := true) only [valsO, updO, upd, true_and, and_true, false_and, and_false, ↓reduceIte, hE] <;> rfl)⟩, ⟨i + 1, hlt, eV_⟩, ?_⟩
          simp (decide := true) only [upd, e9, V.toN, ↓reduceIte]; omega
      · refine p_go fun hf => ?_
        refine p_call (hx := rfl) (hb := ⟨Try.func12, by kernel_rfl, rfl⟩) (hf := alive07) (h := ?_)
        refine p_go ?_
        refine p_ret1 (hp := by rfl)

theorem joins_F (op : Int) (L : List Rx) (hsm : ∀ k ∈ L, k.Sm) (h20 : ¬ 20 < L.length) : FnC Try.prog 8 [iV op, .sl 25 (L.map rxV)] (fun r => r = .bool true) := by
  refine FnC.of (fn := Try.f8) ⟨Try.func8, by kernel_rfl, rfl⟩ Try.ntmps8 (by simp) fun w0 S0 => ?_
  have hlen : L.length ≤ 20 := by omega
  refine p_go ?_
  refine p_isC (s := 16) (b := false) (hc := by simp; omega) (h := ?_)
  refine p_go fun hf => ?_
  refine p_call (hx := rfl) (hb := ⟨Try.func26, by kernel_rfl, rfl⟩) (hf := joinP op L hlen hsm) (h := ?_)
  refine p_go fun hf => ?_
  refine p_call (hx := rfl) (hb := ⟨Try.func27, by kernel_rfl, rfl⟩) (hf := joinRf op L hlen hsm) (h := ?_)
  refine p_go fun hf => ?_
  refine p_call (hx := rfl) (hb := ⟨Try.func11, by kernel_rfl, rfl⟩) (hf := sameR (jnX op L) (jn_sm (by omega) hsm) (jnX op L) (jn_sm (by omega) hsm)) (h := ?_)
  refine p_go ?_
  refine p_splitC (s := 39) (ht := fun hc39 => ?_) (hf := fun hc39 => ?_)
  · have hF : False := by rw [eqB_self] at hc39; simp at hc39
    refine p_go ?_
    refine p_ret1 (hp := by exact hF.elim)
  · refine p_go ?_
    refine p_loopK [1] [] (fun st => ∃ i : Nat, (i ≤ L.length) ∧ st.env 9 = inV i) (fun st => L.length - (st.env 9).toN) ?_ fun e ob g1 hK hO hI => ?_
    · exact ⟨0, by omega, eV_⟩
    · obtain ⟨i, hi, e9⟩ := hI
      dsimp only at e9
      simp only [valsE, List.cons.injEq, and_true] at hK
      simp only [valsO, List.cons.injEq, and_true] at hO
      have hE := (⟨hK, hO, e9⟩ : _ ∧ _ ∧ _)
      refine p_go ?_
      refine p_splitC (s := 43) (ht := fun hc43 => ?_) (hf := fun hc43 => ?_)
      · have hlt : i < L.length := by simpa using hc43
        refine p_go fun hf => ?_
        refine p_idxMap (j := i) (ht := Try.underlying23) (hi := F.ti25.h) (hij := rfl) (hj := hlt) (h := ?_)
        rw [rxV_cells]
        refine p_go fun hf => ?_
        refine p_call (hx := rfl) (hb := ⟨Try.func19, by kernel_rfl, rfl⟩) (hf := tuP L[i] (hsm _ (List.getElem_mem hlt))) (h := ?_)
        refine p_go fun hf => ?_
        refine p_idxMap (j := i) (ht := Try.underlying23) (hi := F.ti25.h) (hij := rfl) (hj := hlt) (h := ?_)
        rw [rxV_cells]
        refine p_go fun hf => ?_
        refine p_call (hx := rfl) (hb := ⟨Try.func28, by kernel_rfl, rfl⟩) (hf := tuR L[i] (hsm _ (List.getElem_mem hlt))) (h := ?_)
        refine p_go fun hf => ?_
        refine p_call (hx := rfl) (hb := ⟨Try.func11, by kernel_rfl, rfl⟩) (hf := sameR (tuX L[i]) (tu_sm (hsm _ (List.getElem_mem hlt))) (tuX L[i]) (tu_sm (hsm _ (List.getElem_mem hlt)))) (h := ?_)
        refine p_go ?_
        refine p_splitC (s := 70) (ht := fun hc70 => ?_) (hf := fun hc70 => ?_)
        · have hF : False := by rw [eqB_self] at hc70; simp at hc70
          refine p_go ?_
          refine p_ret1 (hp := by exact hF.elim)
        · refine p_go fun hf => ?_
          refine p_add (r := ((i + 1 : Nat) : Int)) (hr := (by first | omega | (simp only [decide_eq_true_eq, decide_eq_false_iff_not, Bool.or_eq_false_iff, Bool.and_eq_true, Bool.not_eq_true', Bool.not_eq_false'] at *; omega))) (hb := (by first | omega | (simp only [decide_eq_true_eq, decide_eq_false_iff_not, Bool.or_eq_false_iff, Bool.and_eq_true, Bool.not_eq_true', Bool.not_eq_false'] at *; omega))) (h := ?_)
          refine p_go ?_
          refine p_some ?_
          refine ⟨⟨(by simp (decide := true) only [valsE, evE, upd, cv, args0, argsFrom, List.length_map, ↓reduceIte, hE] <;> rfl), (by simp (decide := true) only [valsO, updO, upd, true_and, and_true, false_and, and_false, ↓reduceIte, hE] <;> rfl)⟩, ⟨i + 1, hlt, eV_⟩, ?_⟩
          simp (decide := true) only [upd, e9, V.toN, ↓reduceIte]; omega
      · refine p_go fun hf => ?_
        refine p_call (hx := rfl) (hb := ⟨Try.func12, by kernel_rfl, rfl⟩) (hf := alive07) (h := ?_)
        refine p_go ?_
        refine p_ret1 (hp := by rfl)

theorem regexJoins (op : Int) (l : List Rx) (hl : l.length ≤ 17592186044416) (hs : ∀ k ∈ l, k.Sm) : FnC Try.prog 8 [.int .i64 op, .sl 25 (l.map rxV)] (fun r => r = .bool true) := by
  by_cases h : 20 < l.length
  · exact joins_T op l hs h
  · exact joins_F op l hs h

end Go.Proofs.Ytjdhkopjigijfaa
