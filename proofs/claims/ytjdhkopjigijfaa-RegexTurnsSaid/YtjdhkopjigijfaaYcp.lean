import Derived.Test.YtjdhkopjigijfaaYa
/-
  Expressions turned round and joined: the reference's; Turn and Join of both.
-/
set_option linter.unusedSimpArgs false
set_option linter.unusedVariables false
set_option maxHeartbeats 4000000
namespace Go.Proofs.Ytjdhkopjigijfaa
open Go.RowKit
attribute [local irreducible] Wk Tr
theorem turnP (x : Rx) (hx : x.sz ≤ 1000000) : FnC Try.prog 40 [rxA x] (fun r => r = rxA (tnX x)) := by
  induction x using Rx.ind with
  | _ x ih =>
    have h1 := Rx.szL_len x.kids
    have h2 := x.sz_eq
    exact turn_gen x (by omega) fun k hk => ih k hk (by have := Rx.szL_mem hk; omega)
theorem copiedP (x : Rx) (hx : x.sz ≤ 1000000) : FnC Try.prog 52 [rxA x] (fun r => r = rxA x) := by
  induction x using Rx.ind with
  | _ x ih =>
    have h1 := Rx.szL_len x.kids
    have h2 := x.sz_eq
    exact copied_gen x (by omega) fun k hk => ih k hk (by have := Rx.szL_mem hk; omega)
/-- The answer of Turn. -/
def tuX (x : Rx) : Rx := if errE x = 0 then tnX x else zeroR
def firstE : List Rx → Int
  | [] => 0
  | k :: l => if errE k = 0 then firstE l else errE k
theorem firstE_at {l : List Rx} {i : Nat} (h : i < l.length) (hall : ∀ j (hj : j < l.length), j < i → errE l[j] = 0) (he : errE l[i] ≠ 0) : firstE l = errE l[i] := by
  induction l generalizing i with
  | nil => simp at h
  | cons a l ih =>
    rw [firstE]
    cases i with
    | zero => rw [if_neg (by simpa using he)]; rfl
    | succ i =>
      have h0 : errE a = 0 := hall 0 (by simp) (by omega)
      rw [if_pos h0]
      exact ih (by simpa using h) (fun j hj hji => hall (j + 1) (by simpa using hj) (by omega)) he
theorem firstE_end {l : List Rx} (hall : ∀ j (hj : j < l.length), errE l[j] = 0) : firstE l = 0 := by
  induction l with
  | nil => rfl
  | cons a l ih =>
    have h0 : errE a = 0 := hall 0 (by simp)
    rw [firstE, if_pos h0]
    exact ih fun j hj => hall (j + 1) (by simpa using hj)
/-- The answer of Join. -/
def jnE (op : Int) (l : List Rx) : Int := if op ≠ 5 ∧ op ≠ 6 then 1 else if firstE l = 0 then errE (joinR op l) else firstE l
def jnX (op : Int) (l : List Rx) : Rx := if jnE op l = 0 then joinR op l else zeroR
theorem jk_len {op : Int} {l : List Rx} (h : ∀ j (hj : j < l.length), errE l[j] = 0) : (jkL op l).length ≤ l.length * 500 := by
  unfold jkL
  induction l with
  | nil => simp
  | cons a l ih =>
    rw [List.flatMap_cons, List.length_append, List.length_cons, Nat.add_mul]
    have h1 := (errE_ok.1 (h 0 (by simp))).sz
    have h2 := a.sz_eq
    have h3 := Rx.szL_len a.kids
    have h4 := ih fun j hj => h (j + 1) (by simpa using hj)
    simp only [List.getElem_cons_zero] at h1
    split
    · omega
    · simp only [List.length_singleton]; omega
theorem join_sm {op : Int} {l : List Rx} (hl : l.length ≤ 1000) (hs : ∀ k ∈ l, k.Sm) (h : ∀ j (hj : j < l.length), errE l[j] = 0) : (joinR op l).Sm := by
  have hj := jk_len (op := op) h
  unfold joinR
  split
  · rename_i a; exact hs _ (by simp)
  · split <;> exact .mk (by simp [Rx.kids]) (by simp [Rx.kids])
  · refine .mk (by show (jkL op l).length ≤ _; omega) fun k hk => ?_
    have hk' : k ∈ jkL op l := hk
    unfold jkL at hk'
    obtain ⟨m, hm, hk'⟩ := List.mem_flatMap.1 hk'
    split at hk'
    · exact (hs m hm).kids k hk'
    · rw [List.mem_singleton] at hk'; exact hk' ▸ hs m hm

theorem tuP (x : Rx) (hs : x.Sm) : FnC Try.prog 19 [rxA x] (fun r => r = .tup [rxA (tuX x), iV (errE x)]) := by
  refine FnC.of (fn := Try.f19) ⟨Try.func19, by kernel_rfl, rfl⟩ Try.ntmps19 (by simp) fun w0 S0 => ?_
  refine p_go fun hf => ?_
  refine p_call (hx := rfl) (hb := ⟨Try.func23, by kernel_rfl, rfl⟩) (hf := checkP x hs) (h := ?_)
  refine p_go ?_
  refine p_splitC (s := 8) (ht := fun hc8 => ?_) (hf := fun hc8 => ?_)
  · have he : errE x ≠ 0 := by simpa using hc8
    refine p_go fun hf => ?_
    refine p_build (hi := F.ti25.h) (hpl := F.pl25.h) (h := ?_)
    refine p_move (h := ?_)
    refine p_storeAll F.ti25.h (h := ?_)
    refine p_assign (h := ?_)
    refine p_end ?_
    refine TrC.ret ?_
    refine p_cellNil (g1 := 0 + 1) (d1 := 2) (i := 2) (el := 25) (h := ?_)
    refine p_r2 (hp := by rw [tuX, if_neg he]; rfl)
  · have he : errE x = 0 := by simpa using hc8
    have hxok := errE_ok.1 he
    refine p_go fun hf => ?_
    refine p_call (hx := rfl) (hb := ⟨Try.func40, by kernel_rfl, rfl⟩) (hf := turnP x (by have := hxok.sz; omega)) (h := ?_)
    refine p_go ?_
    refine p_r2 (hp := by rw [tuX, if_pos he, he])

theorem turned_gen (x : Rx) (hs : x.kids.length ≤ 1000000) (hrec : ∀ k ∈ x.kids, FnC Try.prog 54 [rxA k] (fun r => r = rxA (tnX k))) : FnC Try.prog 54 [rxA x] (fun r => r = rxA (tnX x)) := by
  refine FnC.of (fn := Try.f54) ⟨Try.func54, by kernel_rfl, rfl⟩ Try.ntmps54 (by simp) fun w0 S0 => ?_
  refine p_go fun hf => ?_
  refine p_build (hi := F.ti25.h) (hpl := F.pl25.h) (h := ?_)
  refine p_go ?_
  refine p_fresh fun hf => ?_
  refine p_nilCell (g1 := 0 + 1 + 1) (d1 := 3) (i := 2) (el := 25) 900 (h := ?_)
  refine p_loopK [1, 2, 3] [(0 + 1, 1), (0 + 1, 2)] (fun st => ∃ (i c1 : Nat), (i ≤ x.kids.length) ∧ (0 + 1 + 1 < c1) ∧ (c1 ≤ st.gen) ∧ st.env 4 = inV i ∧ st.obj (0 + 1 + 1) 3 = .cells 25 [iV x.op, .str x.name, .row c1 900 i] ∧ st.obj c1 900 = .row 25 ((((ordK x).take i).map tnX).map rxV)) (fun st => x.kids.length - (st.env 4).toN) ?_ fun e ob g1 hK hO hI => ?_
  · exact ⟨0, _, by omega, by (try dsimp only); omega, Nat.le_refl _, eV_, oB_, oB_⟩
  · obtain ⟨i, c1, hi, hc1, hcg1, e4, hcl, hrw⟩ := hI
    dsimp only at e4 hcl hrw
    simp only [valsE, List.cons.injEq, and_true] at hK
    simp only [valsO, List.cons.injEq, and_true] at hO
    have hE := (⟨hK, hO, e4, hcl, hrw⟩ : _ ∧ _ ∧ _ ∧ _ ∧ _)
    dsimp only at hcg1
    refine p_go ?_
    refine p_splitC (s := 15) (ht := fun hc15 => ?_) (hf := fun hc15 => ?_)
    · have hlt : i < x.kids.length := by simpa using hc15
      have hlto : i < (ordK x).length := by rw [ordK_len]; exact hlt
      have hst : ((ordK x).take (i + 1)).map tnX = ((ordK x).take i).map tnX ++ [tnX ((ordK x)[i]'(by rw [ordK_len]; exact hlt))] := by rw [List.take_add_one, List.getElem?_eq_getElem (by rw [ordK_len]; exact hlt), List.map_append]; rfl
      have htl : ((((ordK x).take i).map tnX).map rxV).length = i := by simp only [List.length_map, List.length_take, ordK_len]; omega
      refine p_go ?_
      refine p_splitC (s := 21) (ht := fun hc21 => ?_) (hf := fun hc21 => ?_)
      · have h5 : x.op = 5 := by simpa using hc21
        obtain ⟨j, hj, hlt2, hkj⟩ : ∃ (j : Nat), ((x.kids.length : Int) - 1 - (i : Int) = j) ∧ ∃ h : j < x.kids.length, x.kids[j] = (ordK x)[i] := ⟨x.kids.length - 1 - i, by omega, by omega, by simp [ordK, h5]⟩
        refine p_go fun hf => ?_
        refine p_sub (hr := rfl) (hb := by omega) (h := ?_)
        refine p_go fun hf => ?_
        refine p_sub (hr := rfl) (hb := by omega) (h := ?_)
        refine p_go fun hf => ?_
        refine p_idxMap (j := j) (ht := Try.underlying23) (hi := F.ti25.h) (hij := hj) (hj := hlt2) (h := ?_)
        rw [rxV_cells, hkj]
        refine p_go fun hf => ?_
        refine p_call (hx := rfl) (hb := ⟨Try.func54, by kernel_rfl, rfl⟩) (hf := hrec _ (ordK_mem.1 (List.getElem_mem hlto))) (h := ?_)
        refine p_buildSlice (ht := Try.underlying23) (hi := F.ti25.h) (h := ?_)
        refine p_append (ht := Try.underlying23) (hi := F.ti25.h) (u := .row _ 36 1) (ys := [rxA (tnX ((ordK x)[i]'hlto))]) (hnl := htl.symm) (hy := ⟨.inl oB_, rfl⟩) (k := i + 1) (hm := by rw [htl]; rfl) (hlim := by omega) (h := ?_)
        (first | refine p_fieldPtr (hf := F.fld25_2.h) (h := ?_) | refine p_fieldRef (hf := F.fld25_2.h) (h := ?_) | refine p_fieldRow (hf := F.fld25_2.h) (h := ?_))
        refine p_store1 F.ti23.h (h := ?_)
        refine p_endD ?_
        refine p_region fun hf => ?_
        refine p_move (h := ?_)
        refine p_bare ?_
        refine p_renCell (g1 := 0 + 1 + 1) (d1 := 3) (i := 2) 900 (h := ?_)
        refine p_lastOp (h := ?_)
        refine p_add (r := ((i + 1 : Nat) : Int)) (hr := (by first | omega | (simp only [decide_eq_true_eq, decide_eq_false_iff_not, Bool.or_eq_false_iff, Bool.and_eq_true, Bool.not_eq_true', Bool.not_eq_false'] at *; omega))) (hb := (by first | omega | (simp only [decide_eq_true_eq, decide_eq_false_iff_not, Bool.or_eq_false_iff, Bool.and_eq_true, Bool.not_eq_true', Bool.not_eq_false'] at *; omega))) (h := ?_)
        refine p_go ?_
        refine p_some ?_
        refine ⟨⟨(by simp (decide := true) only [valsE, evE, upd, cv, args0, argsFrom, List.length_map, ↓reduceIte, hE] <;> rfl), (by simp (decide := true) only [valsO, updO, upd, true_and, and_true, false_and, and_false, ↓reduceIte, hE] <;> rfl)⟩, ⟨i + 1, _, hlt, by (try dsimp only); omega, Nat.le_refl _, eV_, oB_, by rw [hst, List.map_append, List.map_singleton, rxV_eq]; exact oB_⟩, ?_⟩
        simp (decide := true) only [upd, e4, V.toN, ↓reduceIte]; omega
      · have h5 : ¬ x.op = 5 := by simpa using hc21
        obtain ⟨j, hj, hlt2, hkj⟩ : ∃ (j : Nat), ((i : Int) = j) ∧ ∃ h : j < x.kids.length, x.kids[j] = (ordK x)[i] := ⟨i, rfl, hlt, by simp [ordK, h5]⟩
        refine p_go fun hf => ?_
        refine p_idxMap (j := j) (ht := Try.underlying23) (hi := F.ti25.h) (hij := hj) (hj := hlt2) (h := ?_)
        rw [rxV_cells, hkj]
        refine p_go fun hf => ?_
        refine p_call (hx := rfl) (hb := ⟨Try.func54, by kernel_rfl, rfl⟩) (hf := hrec _ (ordK_mem.1 (List.getElem_mem hlto))) (h := ?_)
        refine p_buildSlice (ht := Try.underlying23) (hi := F.ti25.h) (h := ?_)
        refine p_append (ht := Try.underlying23) (hi := F.ti25.h) (u := .row _ 36 1) (ys := [rxA (tnX ((ordK x)[i]'hlto))]) (hnl := htl.symm) (hy := ⟨.inl oB_, rfl⟩) (k := i + 1) (hm := by rw [htl]; rfl) (hlim := by omega) (h := ?_)
        (first | refine p_fieldPtr (hf := F.fld25_2.h) (h := ?_) | refine p_fieldRef (hf := F.fld25_2.h) (h := ?_) | refine p_fieldRow (hf := F.fld25_2.h) (h := ?_))
        refine p_store1 F.ti23.h (h := ?_)
        refine p_endD ?_
        refine p_region fun hf => ?_
        refine p_move (h := ?_)
        refine p_bare ?_
        refine p_renCell (g1 := 0 + 1 + 1) (d1 := 3) (i := 2) 900 (h := ?_)
        refine p_lastOp (h := ?_)
        refine p_add (r := ((i + 1 : Nat) : Int)) (hr := (by first | omega | (simp only [decide_eq_true_eq, decide_eq_false_iff_not, Bool.or_eq_false_iff, Bool.and_eq_true, Bool.not_eq_true', Bool.not_eq_false'] at *; omega))) (hb := (by first | omega | (simp only [decide_eq_true_eq, decide_eq_false_iff_not, Bool.or_eq_false_iff, Bool.and_eq_true, Bool.not_eq_true', Bool.not_eq_false'] at *; omega))) (h := ?_)
        refine p_go ?_
        refine p_some ?_
        refine ⟨⟨(by simp (decide := true) only [valsE, evE, upd, cv, args0, argsFrom, List.length_map, ↓reduceIte, hE] <;> rfl), (by simp (decide := true) only [valsO, updO, upd, true_and, and_true, false_and, and_false, ↓reduceIte, hE] <;> rfl)⟩, ⟨i + 1, _, hlt, by (try dsimp only); omega, Nat.le_refl _, eV_, oB_, by rw [hst, List.map_append, List.map_singleton, rxV_eq]; exact oB_⟩, ?_⟩
        simp (decide := true) only [upd, e4, V.toN, ↓reduceIte]; omega
    · have hge : ¬ i < x.kids.length := by simpa using hc15
      have htk : (ordK x).take i = ordK x := List.take_of_length_le (by rw [ordK_len]; omega)
      have hie : i = x.kids.length := by omega
      rw [htk] at hrw
      have hE := (⟨hK, hO, e4, hcl, hrw⟩ : _ ∧ _ ∧ _ ∧ _ ∧ _)
      refine p_condF (h := ?_)
      refine p_exit ?_
      refine p_freeze (g1 := c1) (d1 := 900) (h := ?_)
      refine p_cellSl (g1 := 0 + 1 + 1) (d1 := 3) (i := 2) (g2 := c1) (d2 := 900) (hn := by rw [List.length_map, List.length_map, ordK_len, hie]) (h := ?_)
      refine p_go ?_
      refine p_r1 (hp := by rw [tnX_eq]; rfl)

theorem turnedR (x : Rx) (hx : x.sz ≤ 1000000) : FnC Try.prog 54 [rxA x] (fun r => r = rxA (tnX x)) := by
  induction x using Rx.ind with
  | _ x ih =>
    have h1 := Rx.szL_len x.kids
    have h2 := x.sz_eq
    exact turned_gen x (by omega) fun k hk => ih k hk (by have := Rx.szL_mem hk; omega)

theorem tuR (x : Rx) (hs : x.Sm) : FnC Try.prog 28 [rxA x] (fun r => r = .tup [rxA (tuX x), iV (errE x)]) := by
  refine FnC.of (fn := Try.f28) ⟨Try.func28, by kernel_rfl, rfl⟩ Try.ntmps28 (by simp) fun w0 S0 => ?_
  refine p_go fun hf => ?_
  refine p_call (hx := rfl) (hb := ⟨Try.func20, by kernel_rfl, rfl⟩) (hf := checkRE x hs) (h := ?_)
  refine p_go ?_
  refine p_splitC (s := 8) (ht := fun hc8 => ?_) (hf := fun hc8 => ?_)
  · have he : errE x ≠ 0 := by simpa using hc8
    refine p_go fun hf => ?_
    refine p_build (hi := F.ti25.h) (hpl := F.pl25.h) (h := ?_)
    refine p_move (h := ?_)
    refine p_storeAll F.ti25.h (h := ?_)
    refine p_assign (h := ?_)
    refine p_end ?_
    refine TrC.ret ?_
    refine p_cellNil (g1 := 0 + 1) (d1 := 2) (i := 2) (el := 25) (h := ?_)
    refine p_r2 (hp := by rw [tuX, if_neg he]; rfl)
  · have he : errE x = 0 := by simpa using hc8
    have hxok := errE_ok.1 he
    refine p_go fun hf => ?_
    refine p_call (hx := rfl) (hb := ⟨Try.func54, by kernel_rfl, rfl⟩) (hf := turnedR x (by have := hxok.sz; omega)) (h := ?_)
    refine p_go ?_
    refine p_r2 (hp := by rw [tuX, if_pos he, he])

theorem joinP (op : Int) (l : List Rx) (hl : l.length ≤ 20) (hsm : ∀ k ∈ l, k.Sm) : FnC Try.prog 26 [iV op, .sl 25 (l.map rxV)] (fun r => r = .tup [rxA (jnX op l), iV (jnE op l)]) := by
  refine FnC.of (fn := Try.f26) ⟨Try.func26, by kernel_rfl, rfl⟩ Try.ntmps26 (by simp) fun w0 S0 => ?_
  refine p_go ?_
  refine p_splitC (s := 16) (ht := fun hc16 => ?_) (hf := fun hc16 => ?_)
  · have hop : op ≠ 5 ∧ op ≠ 6 := by simpa using hc16
    have hE0 : jnE op l = 1 := by rw [jnE, if_pos hop]
    have hX : jnX op l = zeroR := by rw [jnX, if_neg (by rw [hE0]; decide)]
    refine p_go fun hf => ?_
    refine p_build (hi := F.ti25.h) (hpl := F.pl25.h) (h := ?_)
    refine p_storeAll F.ti25.h (h := ?_)
    refine p_assign (h := ?_)
    refine p_end ?_
    refine TrC.ret ?_
    refine p_cellNil (g1 := 0 + 1) (d1 := 4) (i := 2) (el := 25) (h := ?_)
    refine p_r2 (hp := by rw [hX, hE0]; rfl)
  · have hop : ¬ (op ≠ 5 ∧ op ≠ 6) := by simpa using hc16
    refine p_go ?_
    refine p_loopK [0, 1, 4, 18, 19] [(0 + 1, 4)] (fun st => ∃ i : Nat, (i ≤ l.length) ∧ (∀ j (hj : j < l.length), j < i → errE l[j] = 0) ∧ st.env 20 = inV i) (fun st => l.length - (st.env 20).toN) ?_ fun e ob g1 hK hO hI => ?_
    · exact ⟨0, by omega, fun _ _ h => by omega, eV_⟩
    · obtain ⟨i, hi, hall, e20⟩ := hI
      dsimp only at e20
      simp only [valsE, List.cons.injEq, and_true] at hK
      simp only [valsO, List.cons.injEq, and_true] at hO
      have hE := (⟨hK, hO, e20⟩ : _ ∧ _ ∧ _)
      refine p_go ?_
      refine p_splitC (s := 21) (ht := fun hc21 => ?_) (hf := fun hc21 => ?_)
      · have hlt : i < l.length := by simpa using hc21
        refine p_go fun hf => ?_
        refine p_idxMap (j := i) (ht := Try.underlying23) (hi := F.ti25.h) (hij := rfl) (hj := hlt) (h := ?_)
        rw [rxV_cells]
        refine p_go fun hf => ?_
        refine p_call (hx := rfl) (hb := ⟨Try.func23, by kernel_rfl, rfl⟩) (hf := checkP l[i] (hsm _ (List.getElem_mem hlt))) (h := ?_)
        refine p_go ?_
        refine p_splitC (s := 27) (ht := fun hc27 => ?_) (hf := fun hc27 => ?_)
        · have he : errE l[i] ≠ 0 := by simpa using hc27
          have hF := firstE_at hlt hall he
          have hE0 : jnE op l = errE l[i] := by rw [jnE, if_neg hop, if_neg (by rw [hF]; exact he), hF]
          have hX : jnX op l = zeroR := by rw [jnX, if_neg (by rw [hE0]; exact he)]
          refine p_go fun hf => ?_
          refine p_build (hi := F.ti25.h) (hpl := F.pl25.h) (h := ?_)
          refine p_move (h := ?_)
          refine p_storeAll F.ti25.h (h := ?_)
          refine p_assign (h := ?_)
          refine p_end ?_
          refine TrC.ret ?_
          refine p_cellNil (g1 := 0 + 1) (d1 := 4) (i := 2) (el := 25) (h := ?_)
          refine p_r2 (hp := by rw [hX, hE0]; rfl)
        · have he : errE l[i] = 0 := by simpa using hc27
          refine p_go fun hf => ?_
          refine p_add (r := ((i + 1 : Nat) : Int)) (hr := (by first | omega | (simp only [decide_eq_true_eq, decide_eq_false_iff_not, Bool.or_eq_false_iff, Bool.and_eq_true, Bool.not_eq_true', Bool.not_eq_false'] at *; omega))) (hb := (by first | omega | (simp only [decide_eq_true_eq, decide_eq_false_iff_not, Bool.or_eq_false_iff, Bool.and_eq_true, Bool.not_eq_true', Bool.not_eq_false'] at *; omega))) (h := ?_)
          refine p_go ?_
          refine p_some ?_
          refine ⟨⟨(by simp (decide := true) only [valsE, evE, upd, cv, args0, argsFrom, List.length_map, ↓reduceIte, hE] <;> rfl), (by simp (decide := true) only [valsO, updO, upd, true_and, and_true, false_and, and_false, ↓reduceIte, hE] <;> rfl)⟩, ⟨i + 1, hlt, fun j hj h => (Nat.lt_succ_iff_lt_or_eq.1 h).elim (hall j hj) (fun h => by subst h; exact he), eV_⟩, ?_⟩
          simp (decide := true) only [upd, e20, V.toN, ↓reduceIte]; omega
      · have hge : ¬ i < l.length := by simpa using hc21
        have hal : ∀ j (hj : j < l.length), errE l[j] = 0 := fun j hj => hall j hj (by omega)
        have hE0 : jnE op l = errE (joinR op l) := by rw [jnE, if_neg hop, if_pos (firstE_end hal)]
        refine p_go fun hf => ?_
        refine p_call (hx := rfl) (hb := ⟨Try.func51, by kernel_rfl, rfl⟩) (hf := (by have h := joinedP op l (by omega) (by have := jk_len (op := op) hal; omega); rw [rxV_eq] at h; exact h)) (h := ?_)
        refine p_go fun hf => ?_
        refine p_call (hx := rfl) (hb := ⟨Try.func23, by kernel_rfl, rfl⟩) (hf := checkP (joinR op l) (join_sm (by omega) hsm hal)) (h := ?_)
        refine p_go ?_
        refine p_splitC (s := 37) (ht := fun hc37 => ?_) (hf := fun hc37 => ?_)
        · have hej : errE (joinR op l) ≠ 0 := by simpa using hc37
          have hX : jnX op l = zeroR := by rw [jnX, if_neg (by rw [hE0]; exact hej)]
          refine p_go fun hf => ?_
          refine p_build (hi := F.ti25.h) (hpl := F.pl25.h) (h := ?_)
          refine p_move (h := ?_)
          refine p_storeAll F.ti25.h (h := ?_)
          refine p_assign (h := ?_)
          refine p_end ?_
          refine TrC.ret ?_
          refine p_cellNil (g1 := 0 + 1) (d1 := 4) (i := 2) (el := 25) (h := ?_)
          refine p_r2 (hp := by rw [hX, hE0]; rfl)
        · have hej : errE (joinR op l) = 0 := by simpa using hc37
          have hX : jnX op l = joinR op l := by rw [jnX, if_pos (by rw [hE0]; exact hej)]
          refine p_go fun hf => ?_
          refine p_call (hx := rfl) (hb := ⟨Try.func52, by kernel_rfl, rfl⟩) (hf := copiedP (joinR op l) (by have := (errE_ok.1 hej).sz; omega)) (h := ?_)
          refine p_go ?_
          refine p_r2 (hp := by rw [hX, hE0, hej])

theorem joinRf (op : Int) (l : List Rx) (hl : l.length ≤ 20) (hsm : ∀ k ∈ l, k.Sm) : FnC Try.prog 27 [iV op, .sl 25 (l.map rxV)] (fun r => r = .tup [rxA (jnX op l), iV (jnE op l)]) := by
  refine FnC.of (fn := Try.f27) ⟨Try.func27, by kernel_rfl, rfl⟩ Try.ntmps27 (by simp) fun w0 S0 => ?_
  refine p_go ?_
  refine p_splitC (s := 15) (ht := fun hc15 => ?_) (hf := fun hc15 => ?_)
  · have hop : op ≠ 5 ∧ op ≠ 6 := by simpa using hc15
    have hE0 : jnE op l = 1 := by rw [jnE, if_pos hop]
    have hX : jnX op l = zeroR := by rw [jnX, if_neg (by rw [hE0]; decide)]
    refine p_go fun hf => ?_
    refine p_build (hi := F.ti25.h) (hpl := F.pl25.h) (h := ?_)
    refine p_storeAll F.ti25.h (h := ?_)
    refine p_assign (h := ?_)
    refine p_end ?_
    refine TrC.ret ?_
    refine p_cellNil (g1 := 0 + 1) (d1 := 4) (i := 2) (el := 25) (h := ?_)
    refine p_r2 (hp := by rw [hX, hE0]; rfl)
  · have hop : ¬ (op ≠ 5 ∧ op ≠ 6) := by simpa using hc15
    refine p_go ?_
    refine p_loopK [0, 1, 4] [(0 + 1, 4)] (fun st => ∃ i : Nat, (i ≤ l.length) ∧ (∀ j (hj : j < l.length), j < i → errE l[j] = 0) ∧ st.env 6 = inV i) (fun st => l.length - (st.env 6).toN) ?_ fun e ob g1 hK hO hI => ?_
    · exact ⟨0, by omega, fun _ _ h => by omega, eV_⟩
    · obtain ⟨i, hi, hall, e6⟩ := hI
      dsimp only at e6
      simp only [valsE, List.cons.injEq, and_true] at hK
      simp only [valsO, List.cons.injEq, and_true] at hO
      have hE := (⟨hK, hO, e6⟩ : _ ∧ _ ∧ _)
      refine p_go ?_
      refine p_splitC (s := 20) (ht := fun hc20 => ?_) (hf := fun hc20 => ?_)
      · have hlt : i < l.length := by simpa using hc20
        refine p_go fun hf => ?_
        refine p_idxMap (j := i) (ht := Try.underlying23) (hi := F.ti25.h) (hij := rfl) (hj := hlt) (h := ?_)
        rw [rxV_cells]
        refine p_go fun hf => ?_
        refine p_call (hx := rfl) (hb := ⟨Try.func20, by kernel_rfl, rfl⟩) (hf := checkRE l[i] (hsm _ (List.getElem_mem hlt))) (h := ?_)
        refine p_go ?_
        refine p_splitC (s := 29) (ht := fun hc29 => ?_) (hf := fun hc29 => ?_)
        · have he : errE l[i] ≠ 0 := by simpa using hc29
          have hF := firstE_at hlt hall he
          have hE0 : jnE op l = errE l[i] := by rw [jnE, if_neg hop, if_neg (by rw [hF]; exact he), hF]
          have hX : jnX op l = zeroR := by rw [jnX, if_neg (by rw [hE0]; exact he)]
          refine p_go fun hf => ?_
          refine p_build (hi := F.ti25.h) (hpl := F.pl25.h) (h := ?_)
          refine p_move (h := ?_)
          refine p_storeAll F.ti25.h (h := ?_)
          refine p_assign (h := ?_)
          refine p_end ?_
          refine TrC.ret ?_
          refine p_cellNil (g1 := 0 + 1) (d1 := 4) (i := 2) (el := 25) (h := ?_)
          refine p_r2 (hp := by rw [hX, hE0]; rfl)
        · have he : errE l[i] = 0 := by simpa using hc29
          refine p_go fun hf => ?_
          refine p_add (r := ((i + 1 : Nat) : Int)) (hr := (by first | omega | (simp only [decide_eq_true_eq, decide_eq_false_iff_not, Bool.or_eq_false_iff, Bool.and_eq_true, Bool.not_eq_true', Bool.not_eq_false'] at *; omega))) (hb := (by first | omega | (simp only [decide_eq_true_eq, decide_eq_false_iff_not, Bool.or_eq_false_iff, Bool.and_eq_true, Bool.not_eq_true', Bool.not_eq_false'] at *; omega))) (h := ?_)
          refine p_go ?_
          refine p_some ?_
          refine ⟨⟨(by simp (decide := true) only [valsE, evE, upd, cv, args0, argsFrom, List.length_map, ↓reduceIte, hE] <;> rfl), (by simp (decide := true) only [valsO, updO, upd, true_and, and_true, false_and, and_false, ↓reduceIte, hE] <;> rfl)⟩, ⟨i + 1, hlt, fun j hj h => (Nat.lt_succ_iff_lt_or_eq.1 h).elim (hall j hj) (fun h => by subst h; exact he), eV_⟩, ?_⟩
          simp (decide := true) only [upd, e6, V.toN, ↓reduceIte]; omega
      · have hge : ¬ i < l.length := by simpa using hc20
        have hal : ∀ j (hj : j < l.length), errE l[j] = 0 := fun j hj => hall j hj (by omega)
        have hE0 : jnE op l = errE (joinR op l) := by rw [jnE, if_neg hop, if_pos (firstE_end hal)]
        refine p_go fun hf => ?_
        refine p_call (hx := rfl) (hb := ⟨Try.func53, by kernel_rfl, rfl⟩) (hf := joinedR op l (by omega) (by have := jk_len (op := op) hal; omega)) (h := ?_)
        refine p_go fun hf => ?_
        refine p_call (hx := rfl) (hb := ⟨Try.func20, by kernel_rfl, rfl⟩) (hf := checkRE (joinR op l) (join_sm (by omega) hsm hal)) (h := ?_)
        refine p_go ?_
        refine p_splitC (s := 38) (ht := fun hc38 => ?_) (hf := fun hc38 => ?_)
        · have hej : errE (joinR op l) ≠ 0 := by simpa using hc38
          have hX : jnX op l = zeroR := by rw [jnX, if_neg (by rw [hE0]; exact hej)]
          refine p_go fun hf => ?_
          refine p_build (hi := F.ti25.h) (hpl := F.pl25.h) (h := ?_)
          refine p_move (h := ?_)
          refine p_storeAll F.ti25.h (h := ?_)
          refine p_assign (h := ?_)
          refine p_end ?_
          refine TrC.ret ?_
          refine p_cellNil (g1 := 0 + 1) (d1 := 4) (i := 2) (el := 25) (h := ?_)
          refine p_r2 (hp := by rw [hX, hE0]; rfl)
        · have hej : errE (joinR op l) = 0 := by simpa using hc38
          have hX : jnX op l = joinR op l := by rw [jnX, if_pos (by rw [hE0]; exact hej)]
          refine p_go ?_
          refine p_r2 (hp := by rw [hX, hE0, hej])

end Go.Proofs.Ytjdhkopjigijfaa
/-
  Words backwards, and complements, in plain words.
-/
set_option maxHeartbeats 4000000
set_option linter.unusedSimpArgs false
set_option linter.unusedVariables false
namespace Go.Proofs.Ytjdhkopjigijfaa
open Go.RowKit
attribute [local irreducible] Wk Tr
theorem starF_cons {s : Nat → Nat → Bool} {n a b c : Nat} (hs : ∀ a b, s a b = true → a ≤ b) (ha : a ≤ n) (hb : b ≤ n) (h : s a b = true) (hc : starF s n n b c = true) : starF s n n a c = true :=
  starF_mem (S := fun c => starF s n n a c = true) (fun p q hp hq h' => starF_step hs n a p q hp (by omega) hq h') n b c (starF_step hs n a a b (star_self n) (by omega) hb h) hc
theorem star_rev {s s' : Nat → Nat → Bool} {n : Nat} (hs : ∀ a b, s a b = true → a ≤ b) (h : ∀ a b, a ≤ n → b ≤ n → s' a b = true → s (n - b) (n - a) = true) {i j : Nat} (hi : i ≤ n) (hst : starF s' n n i j = true) : starF s n n (n - j) (n - i) = true := by
  have := starF_mem (s := s') (n := n) (S := fun c => c ≤ n ∧ starF s n n (n - c) (n - i) = true) (fun a b ha hb hab => ⟨hb, starF_cons hs (by omega) (by omega) (h a b ha.1 hb hab) ha.2⟩) n i j ⟨hi, star_self n⟩ hst
  exact this.2
theorem seq_rev {w : List ByteArray} : ∀ (l : List Rx), (∀ k ∈ l, ∀ i j, i ≤ w.length → j ≤ w.length → spanB w.reverse (tnX k) i j = spanB w k (w.length - j) (w.length - i)) → ∀ i j, i ≤ w.length → j ≤ w.length → seqB w.reverse (l.reverse.map tnX) i j = seqB w l (w.length - j) (w.length - i)
  | [], _, i, j, hi, hj => by
    simp only [List.reverse_nil, List.map_nil, seqB]
    by_cases h : j = i
    · rw [h]; simp
    · rw [decide_eq_false h, decide_eq_false (by omega)]
  | k :: l, hk, i, j, hi, hj => by
    have ih := seq_rev l fun k' hk' => hk k' (List.mem_cons_of_mem _ hk')
    rw [Bool.eq_iff_iff, List.reverse_cons, List.map_append, List.map_singleton, seqB_snoc _ _ _ (by simpa using hj) _ _ (by simpa using hi), seqB, List.any_eq_true]
    constructor
    · rintro ⟨m, hm, h1, h2⟩
      rw [List.length_reverse] at hm
      rw [ih i m hi hm] at h1
      rw [hk k (List.mem_cons_self ..) m j hm hj] at h2
      exact ⟨w.length - m, List.mem_range.2 (by omega), by rw [h1, h2]; rfl⟩
    · rintro ⟨m, hm, h⟩
      rw [List.mem_range] at hm
      rw [Bool.and_eq_true] at h
      refine ⟨w.length - m, by rw [List.length_reverse]; omega, ?_, ?_⟩
      · rw [ih i _ hi (by omega), show w.length - (w.length - m) = m by omega]; exact h.2
      · rw [hk k (List.mem_cons_self ..) _ j (by omega) hj, show w.length - (w.length - m) = m by omega]; exact h.1
theorem rev_at {w : List ByteArray} {i : Nat} (h : i < w.length) : w.reverse[i]? = w[w.length - 1 - i]? := by
  rw [List.getElem?_reverse h]
theorem hd_rev {w : List ByteArray} {l : List Rx} (h : ∀ k ∈ l, ∀ i j, i ≤ w.length → j ≤ w.length → spanB w.reverse (tnX k) i j = spanB w k (w.length - j) (w.length - i)) (i j : Nat) (hi : i ≤ w.length) (hj : j ≤ w.length) : hdB w.reverse (l.map tnX) i j = hdB w l (w.length - j) (w.length - i) := by
  cases l with
  | nil => rfl
  | cons k l => rw [List.map_cons, hdB, hdB]; exact h k (List.mem_cons_self ..) i j hi hj
/-- The words backwards are those of the expression turned round. -/
theorem span_rev (w : List ByteArray) (x : Rx) : ∀ i j, i ≤ w.length → j ≤ w.length → spanB w.reverse (tnX x) i j = spanB w x (w.length - j) (w.length - i) := by
  induction x using Rx.ind with
  | _ x ih =>
    intro i j hi hj
    rw [spanB_eq w.reverse, spanB_eq w, tn_op, tn_name, tn_kids, List.length_reverse]
    by_cases h1 : x.op = 1
    · rw [if_pos h1, if_pos h1]
      by_cases hj1 : j = i + 1
      · rw [decide_eq_true hj1, decide_eq_true (by omega : w.length - i = w.length - j + 1), rev_at (by omega), show w.length - 1 - i = w.length - j by omega]
      · rw [decide_eq_false hj1, decide_eq_false (by omega : ¬ w.length - i = w.length - j + 1)]; rfl
    rw [if_neg h1, if_neg h1]
    by_cases h2 : x.op = 2
    · rw [if_pos h2, if_pos h2]
      by_cases hj1 : j = i + 1
      · rw [decide_eq_true hj1, decide_eq_true (by omega : w.length - i = w.length - j + 1), decide_eq_true (by omega : i < w.length), decide_eq_true (by omega : w.length - j < w.length)]
      · rw [decide_eq_false hj1, decide_eq_false (by omega : ¬ w.length - i = w.length - j + 1)]; rfl
    rw [if_neg h2, if_neg h2]
    by_cases h3 : x.op = 3
    · rw [if_pos h3, if_pos h3]
      by_cases hj1 : j = i
      · rw [decide_eq_true hj1, decide_eq_true (by omega : w.length - i = w.length - j)]
      · rw [decide_eq_false hj1, decide_eq_false (by omega : ¬ w.length - i = w.length - j)]
    rw [if_neg h3, if_neg h3]
    by_cases h5 : x.op = 5
    · rw [if_pos h5, if_pos h5, ordK, if_pos h5]
      exact seq_rev x.kids ih i j hi hj
    rw [if_neg h5, if_neg h5, ordK, if_neg h5]
    by_cases h6 : x.op = 6
    · rw [if_pos h6, if_pos h6, altB_any, altB_any, List.any_map, Bool.eq_iff_iff, List.any_eq_true, List.any_eq_true]
      constructor
      · rintro ⟨k, hk, h⟩; exact ⟨k, hk, by rw [← ih k hk i j hi hj]; exact h⟩
      · rintro ⟨k, hk, h⟩; exact ⟨k, hk, by rw [Function.comp, ih k hk i j hi hj]; exact h⟩
    rw [if_neg h6, if_neg h6]
    by_cases h7 : x.op = 7
    · rw [if_pos h7, if_pos h7, Bool.eq_iff_iff]
      have hh := hd_rev ih
      constructor
      · exact fun h => star_rev hdB_le (fun a b ha hb hab => by rw [← hh a b ha hb]; exact hab) hi h
      · intro h
        have := star_rev (s := hdB w.reverse (x.kids.map tnX)) (s' := hdB w x.kids) (n := w.length) hdB_le (fun a b ha hb hab => by rw [hh _ _ (by omega) (by omega), show w.length - (w.length - a) = a by omega, show w.length - (w.length - b) = b by omega]; exact hab) (by omega) h
        rwa [show w.length - (w.length - i) = i by omega, show w.length - (w.length - j) = j by omega] at this
    rw [if_neg h7, if_neg h7]
    by_cases h8 : x.op = 8
    · rw [if_pos h8, if_pos h8, hd_rev ih i j hi hj]
      congr 1
      by_cases hij : i ≤ j
      · rw [decide_eq_true hij, decide_eq_true (by omega : w.length - j ≤ w.length - i)]
      · rw [decide_eq_false hij, decide_eq_false (by omega : ¬ w.length - j ≤ w.length - i)]
    rw [if_neg h8, if_neg h8]
theorem tn_sz (x : Rx) : (tnX x).sz = x.sz := by
  induction x using Rx.ind with
  | _ x ih =>
    have key : ∀ l : List Rx, (∀ k ∈ l, (tnX k).sz = k.sz) → Rx.szL (l.map tnX) = Rx.szL l := by
      intro l
      induction l with
      | nil => intro _; rfl
      | cons a l ihl => intro h; rw [List.map_cons, Rx.szL, Rx.szL, h a (List.mem_cons_self ..), ihl fun k hk => h k (List.mem_cons_of_mem _ hk)]
    have hrev : ∀ l : List Rx, Rx.szL l.reverse = Rx.szL l := by
      intro l
      induction l with
      | nil => rfl
      | cons a l ihl => rw [List.reverse_cons, szL_snoc, ihl, Rx.szL, Nat.add_comm]
    rw [(tnX x).sz_eq, x.sz_eq, tn_kids, key _ fun k hk => ih k (ordK_mem.1 hk), ordK]
    split
    · rw [hrev]
    · rfl
theorem all_ord {x : Rx} {p : Rx → Bool} : (ordK x).all p = x.kids.all p := by unfold ordK; split <;> simp
theorem tn_dp (x : Rx) : ∀ m, dpB (tnX x) m = dpB x m := by
  induction x using Rx.ind with
  | _ x ih =>
    intro m
    cases m with
    | zero => rw [dpB_zero, dpB_zero]
    | succ m =>
      rw [dpB_eq, dpB_eq, tn_kids, List.all_map, all_ord, Bool.eq_iff_iff, List.all_eq_true, List.all_eq_true]
      constructor
      · intro h k hk; rw [← ih k hk m]; exact h k hk
      · intro h k hk; rw [Function.comp, ih k hk m]; exact h k hk
theorem tn_right (x : Rx) : rightB (tnX x) = rightB x := by
  induction x using Rx.ind with
  | _ x ih =>
    have h1 : (tnX x).kids.all rightB = x.kids.all rightB := by
      rw [tn_kids, List.all_map, all_ord, Bool.eq_iff_iff, List.all_eq_true, List.all_eq_true]
      constructor
      · intro h k hk; rw [← ih k hk]; exact h k hk
      · intro h k hk; rw [Function.comp, ih k hk]; exact h k hk
    have h2 : nodeB (tnX x) = nodeB x := by
      have h3 : ((tnX x).kids.all fun k => !decide (k.op = (tnX x).op)) = (x.kids.all fun k => !decide (k.op = x.op)) := by
        rw [tn_kids, List.all_map, all_ord, tn_op]
        congr 1
        funext k
        rw [Function.comp, tn_op]
      unfold nodeB
      rw [h3, tn_op, tn_name, tn_kids, List.length_map, ordK_len]
    rw [rightB_eq, rightB_eq, h1, h2]
theorem tn_ok {x : Rx} (h : x.Ok) : (tnX x).Ok := ⟨by rw [tn_sz]; exact h.sz, by rw [tn_dp]; exact h.dp, by rw [tn_right]; exact h.right⟩
theorem tn_tn (x : Rx) : tnX (tnX x) = x := by
  induction x using Rx.ind with
  | _ x ih =>
    refine rx_ext (by rw [tn_op, tn_op]) (by rw [tn_name, tn_name]) ?_
    have h1 : ordK (tnX x) = x.kids.map tnX := by
      unfold ordK
      rw [tn_op, tn_kids, ordK]
      split
      · rw [← List.map_reverse, List.reverse_reverse]
      · rfl
    rw [tn_kids, h1, List.map_map]
    conv => rhs; rw [← List.map_id x.kids]
    exact List.map_congr_left fun k hk => ih k hk
theorem tu_err {x : Rx} (h : errE x = 0) : errE (tuX x) = 0 := by
  rw [tuX, if_pos h]
  exact errE_ok.2 (tn_ok (errE_ok.1 h))
theorem tu_tu {x : Rx} (h : errE x = 0) : tuX (tuX x) = x := by
  have h1 := tu_err h
  rw [tuX, if_pos h1, tuX, if_pos h, tn_tn]
theorem mt_tu {x : Rx} (h : errE x = 0) (w : List ByteArray) : mtB (tuX x) w.reverse = mtB x w := by
  rw [mtB, mtB, decide_eq_true h, decide_eq_true (tu_err h), List.length_reverse]
  congr 2
  rw [tuX, if_pos h, span_rev w x 0 w.length (by omega) (Nat.le_refl _), Nat.sub_self, Nat.sub_zero]
theorem mt_err {x : Rx} (h : errE x = 0) {w : List ByteArray} (hw : w.length ≤ 100) : mtE x w = 0 := by rw [mtE, if_pos h, if_neg (by omega)]
def notX (x : Rx) : Rx := .mk 8 ⟨#[]⟩ [x]
theorem mt_not {x : Rx} (h : errE x = 0) (hn : errE (notX x) = 0) {w : List ByteArray} (hw : w.length ≤ 100) : mtB (notX x) w = !mtB x w := by
  rw [mtB, mtB, decide_eq_true h, decide_eq_true hn, decide_eq_true hw, spanB_eq w (notX x)]
  simp [notX, Rx.op, Rx.kids, hdB]
theorem not_sm {x : Rx} (h : x.Sm) : (notX x).Sm := .mk (by simp [notX, Rx.kids]) fun k hk => by
  have : k ∈ [x] := hk
  rw [List.mem_singleton] at this; exact this ▸ h
end Go.Proofs.Ytjdhkopjigijfaa
