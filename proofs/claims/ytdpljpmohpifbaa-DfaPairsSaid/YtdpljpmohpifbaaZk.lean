/-
  The reference's Least and Not, walked; automata that are alike, by dfa and by the reference.
-/
import Derived.Test.YtdpljpmohpifbaaZj
set_option linter.unusedSimpArgs false
set_option linter.unusedVariables false
namespace Go.Proofs.Ytdpljpmohpifbaa
open Go.RowKit

theorem LeastRef (d : Dfa) (hfit : d.fits) : FnC Try.prog 18 [dfaV d] (fun r => r = .tup [dfaV (if decide (d.err ≠ 0) then Dfa.zero else d.leastR), iV d.err]) := by
  refine FnC.of (fn := Try.f18) ⟨Try.func18, by kernel_rfl, rfl⟩ Try.ntmps18 (by simp) fun w0 S0 => ?_
  refine p_seq (p_region fun hf => ?_)
  refine p_box (h := ?_)
  refine p_alloc (hi := F.ti25) (h := ?_)
  refine p_assign (h := ?_)
  refine p_end ?_
  refine p_seq (p_region fun hf => ?_)
  (first | refine p_loadA (ht := F.agg25) (hi := F.ti25) (h := ?_) | refine p_loadRefA (ht := F.agg25) (hi := F.ti25) (h := ?_))
  refine p_call (hx := rfl) (hb := ⟨Try.func22, by kernel_rfl, rfl⟩) (hf := checkR d hfit) (h := ?_)
  refine p_assign (h := ?_)
  refine p_end ?_
  refine p_seq ?_
  refine p_seq (p_region fun hf => ?_)
  refine p_move (h := ?_)
  refine p_num (h := ?_)
  refine p_end ?_
  refine p_splitC (s := 8) (ht := fun hc8 => ?_) (hf := fun hc8 => ?_)
  · refine p_condT (h := ?_)
    refine p_seq (p_region fun hf => ?_)
    refine p_build (hi := F.ti25) (hpl := F.pl25) (h := ?_)
    refine p_move (h := ?_)
    refine p_storeAll F.ti25 (h := ?_)
    refine p_assign (h := ?_)
    refine p_end ?_
    refine TrC.ret ?_
    refine p_cellNil (g1 := 0 + 1) (d1 := 2) (i := 1) (el := 26) (h := ?_)
    refine p_cellNil (g1 := 0 + 1) (d1 := 2) (i := 2) (el := 4) (h := ?_)
    refine p_rets2 rfl (res_cell eV_ oB_ F.agg25 F.ti25 rfl rfl) ⟨eV_, rfl⟩ (by simp only [hc8, ↓reduceIte]; rfl)
  · refine p_condF (h := ?_)
    have hok := Dfa.ok_err hc8
    refine p_skip ?_
    refine p_seq (p_region fun hf => ?_)
    (first | refine p_loadA (ht := F.agg25) (hi := F.ti25) (h := ?_) | refine p_loadRefA (ht := F.agg25) (hi := F.ti25) (h := ?_))
    refine p_call (hx := rfl) (hb := ⟨Try.func34, by kernel_rfl, rfl⟩) (hf := leastRef d hok) (h := ?_)
    refine p_storeAll F.ti25 (h := ?_)
    refine p_assign (h := ?_)
    refine p_end ?_
    refine TrC.ret ?_
    refine p_rets2 rfl (res_cell eV_ oB_ F.agg25 F.ti25 rfl rfl) ⟨eV_, rfl⟩ (by simp only [hc8, Bool.false_eq_true, ↓reduceIte]; simp at hc8; rw [hc8])

theorem NotRef (d : Dfa) (hfit : d.fits) : FnC Try.prog 20 [dfaV d] (fun r => r = .tup [dfaV (if decide (d.err ≠ 0) then Dfa.zero else d.notR), iV d.err]) := by
  refine FnC.of (fn := Try.f20) ⟨Try.func20, by kernel_rfl, rfl⟩ Try.ntmps20 (by simp) fun w0 S0 => ?_
  refine p_seq (p_region fun hf => ?_)
  refine p_box (h := ?_)
  refine p_alloc (hi := F.ti25) (h := ?_)
  refine p_assign (h := ?_)
  refine p_end ?_
  refine p_seq (p_region fun hf => ?_)
  (first | refine p_loadA (ht := F.agg25) (hi := F.ti25) (h := ?_) | refine p_loadRefA (ht := F.agg25) (hi := F.ti25) (h := ?_))
  refine p_call (hx := rfl) (hb := ⟨Try.func22, by kernel_rfl, rfl⟩) (hf := checkR d hfit) (h := ?_)
  refine p_assign (h := ?_)
  refine p_end ?_
  refine p_seq ?_
  refine p_seq (p_region fun hf => ?_)
  refine p_move (h := ?_)
  refine p_num (h := ?_)
  refine p_end ?_
  refine p_splitC (s := 10) (ht := fun hc10 => ?_) (hf := fun hc10 => ?_)
  · refine p_condT (h := ?_)
    refine p_seq (p_region fun hf => ?_)
    refine p_build (hi := F.ti25) (hpl := F.pl25) (h := ?_)
    refine p_move (h := ?_)
    refine p_storeAll F.ti25 (h := ?_)
    refine p_assign (h := ?_)
    refine p_end ?_
    refine TrC.ret ?_
    refine p_cellNil (g1 := 0 + 1) (d1 := 2) (i := 1) (el := 26) (h := ?_)
    refine p_cellNil (g1 := 0 + 1) (d1 := 2) (i := 2) (el := 4) (h := ?_)
    refine p_rets2 rfl (res_cell eV_ oB_ F.agg25 F.ti25 rfl rfl) ⟨eV_, rfl⟩ (by simp only [hc10, ↓reduceIte]; rfl)
  · refine p_condF (h := ?_)
    have hok := Dfa.ok_err hc10
    have hacc := hok.acc
    have hn1 := hok.n1
    refine p_skip ?_
    refine p_seq (p_region fun hf => ?_)
    (first | refine p_fieldPtr (hf := F.fld25_0) (h := ?_) | refine p_fieldRef (hf := F.fld25_0) (h := ?_) | refine p_fieldRow (hf := F.fld25_0) (h := ?_))
    (first | refine p_load (ht := F.leaf3) (h := ?_) | refine p_loadRef (ht := F.leaf3) (h := ?_))
    (first | refine p_fieldPtr (hf := F.fld25_1) (h := ?_) | refine p_fieldRef (hf := F.fld25_1) (h := ?_) | refine p_fieldRow (hf := F.fld25_1) (h := ?_))
    (first | refine p_load (ht := F.leaf22) (h := ?_) | refine p_loadRef (ht := F.leaf22) (h := ?_))
    refine p_build (hi := F.ti25) (hpl := F.pl25) (h := ?_)
    refine p_alloc (hi := F.ti25) (h := ?_)
    refine p_storeAll F.ti25 (h := ?_)
    refine p_end ?_
    refine p_seq ?_
    refine p_seq (p_region fun hf => ?_)
    refine p_assign (h := ?_)
    refine p_end ?_
    refine p_nilCell (g1 := 0 + 1 + 1 + 1 + 1) (d1 := 5) (i := 2) (el := 4) 34 (h := ?_)
    refine TrC.block ?_
    refine p_loop (fun st => ∃ i q : Nat, i ≤ d.acc.length ∧ st.env 1 = .ptr (0 + 1) 1 0 ∧ st.env 2 = .ptr (0 + 1) 2 0 ∧ st.env 5 = .ptr (0 + 1 + 1 + 1 + 1) 5 0 ∧ st.env 6 = iV i ∧ st.obj (0 + 1) 1 = .cells 25 (dfaL d) ∧ st.obj (0 + 1) 2 = .cells 25 [iV 0, .nil, .nil] ∧ st.obj (0 + 1 + 1 + 1 + 1) 5 = .cells 25 [iV d.sym, .sl 26 (d.next.map rowV), .row q 34 i] ∧ st.obj q 34 = .row 4 (((d.acc.take i).map fun b => !b).map .bool)) (fun st => d.acc.length - (st.env 6).toN) ?_ fun e ob g1 hI => ?_
    · exact ⟨0, _, by omega, eV_, eV_, eV_, eV_, oB_, oB_, oB_, oB_⟩
    · obtain ⟨i, q, hi, e1, e2, e5, e6, o1, o2, o5, o34⟩ := hI
      dsimp only at e1 e2 e5 e6 o1 o2 o5 o34
      have hE := (⟨e1, e2, e5, e6, o1, o2, o5, o34⟩ : _ ∧ _ ∧ _ ∧ _ ∧ _ ∧ _ ∧ _ ∧ _)
      refine p_seq ?_
      refine p_seq (p_region fun hf => ?_)
      refine p_move (h := ?_)
      (first | refine p_fieldPtr (hf := F.fld25_2) (h := ?_) | refine p_fieldRef (hf := F.fld25_2) (h := ?_) | refine p_fieldRow (hf := F.fld25_2) (h := ?_))
      (first | refine p_load (ht := F.leaf23) (h := ?_) | refine p_loadRef (ht := F.leaf23) (h := ?_))
      refine p_len (ht := Try.underlying23) (h := ?_)
      refine p_num (h := ?_)
      refine p_end ?_
      refine p_splitC (s := 22) (ht := fun hc22 => ?_) (hf := fun hc22 => ?_)
      · refine p_condT (h := ?_)
        have hlt : i < d.acc.length := by simpa using hc22
        refine p_skip ?_
        refine p_seq ?_
        refine TrC.block ?_
        refine p_draw F.mixed fun hf => ?_
        (first | refine p_fieldPtr (hf := F.fld25_2) (h := ?_) | refine p_fieldRef (hf := F.fld25_2) (h := ?_) | refine p_fieldRow (hf := F.fld25_2) (h := ?_))
        (first | refine p_load (ht := F.leaf23) (h := ?_) | refine p_loadRef (ht := F.leaf23) (h := ?_))
        (first | refine p_fieldPtr (hf := F.fld25_2) (h := ?_) | refine p_fieldRef (hf := F.fld25_2) (h := ?_) | refine p_fieldRow (hf := F.fld25_2) (h := ?_))
        (first | refine p_load (ht := F.leaf23) (h := ?_) | refine p_loadRef (ht := F.leaf23) (h := ?_))
        refine p_move (h := ?_)
        refine p_idxMap (j := i) (ht := Try.underlying23) (hi := F.ti4) (hij := rfl) (hj := hlt) (h := ?_)
        (first | refine p_load (ht := F.leaf4) (h := ?_) | refine p_loadRef (ht := F.leaf4) (h := ?_))
        refine p_not (h := ?_)
        refine p_buildSlice (ht := Try.underlying23) (hi := F.ti4) (h := ?_)
        refine p_append (k := i + 1) (ht := Try.underlying23) (hi := F.ti4) (hnl := by simp; omega) (hy := by exact ⟨.inl oB_, rfl⟩) (hm := by simp; omega) (hlim := by omega) (h := ?_)
        (first | refine p_fieldPtr (hf := F.fld25_2) (h := ?_) | refine p_fieldRef (hf := F.fld25_2) (h := ?_) | refine p_fieldRow (hf := F.fld25_2) (h := ?_))
        refine p_store1 F.ti23 (h := ?_)
        refine p_endD ?_
        refine p_region fun hf => ?_
        refine p_move (h := ?_)
        refine p_add (r := ((i + 1 : Nat) : Int)) (hr := by omega) (hb := by omega) (h := ?_)
        refine p_assign (h := ?_)
        refine p_end ?_
        refine p_some ?_
        refine ⟨⟨i + 1, _, hlt, eV_, eV_, eV_, eV_, oB_, oB_, oB_, by refine Eq.trans oB_ ?_; rw [List.take_add_one, List.getElem?_eq_getElem hlt, List.map_append, List.map_append]; rfl⟩, ?_⟩
        simp (decide := true) only [upd, e6, V.toN, ↓reduceIte]; omega
      · refine p_condF (h := ?_)
        obtain rfl : i = d.acc.length := by simp at hc22; omega
        rw [List.take_length] at o34
        have hE := (⟨e1, e2, e5, e6, o1, o2, o5, o34⟩ : _ ∧ _ ∧ _ ∧ _ ∧ _ ∧ _ ∧ _ ∧ _)
        refine p_exit ?_
        refine p_freeze (g1 := q) (d1 := 34) (h := ?_)
        refine p_cellSl (g1 := 0 + 1 + 1 + 1 + 1) (d1 := 5) (i := 2) (hn := by simp) (h := ?_)
        refine p_seq (p_region fun hf => ?_)
        (first | refine p_loadA (ht := F.agg25) (hi := F.ti25) (h := ?_) | refine p_loadRefA (ht := F.agg25) (hi := F.ti25) (h := ?_))
        refine p_call (hx := rfl) (hb := ⟨Try.func34, by kernel_rfl, rfl⟩) (hf := leastRef d.flip hok.flip) (h := ?_)
        refine p_storeAll F.ti25 (h := ?_)
        refine p_assign (h := ?_)
        refine p_end ?_
        refine TrC.ret ?_
        refine p_rets2 rfl (res_cell eV_ oB_ F.agg25 F.ti25 rfl rfl) ⟨eV_, rfl⟩ (by simp only [hc10, Bool.false_eq_true, ↓reduceIte]; simp at hc10; rw [hc10]; rfl)

theorem equal_bool (a b : List Bool) (hl : a.length ≤ 1000000000) : FnC Try.prog 38 [.sl 4 (a.map .bool), .sl 4 (b.map .bool)] (fun r => r = .bool (decide (a = b))) := by
  refine FnC.of (fn := Try.f38) ⟨Try.func38, by kernel_rfl, rfl⟩ Try.ntmps38 (by simp) fun w0 S0 => ?_
  refine p_seq (p_region fun hf => ?_)
  refine p_assign (h := ?_)
  refine p_end ?_
  refine p_seq ?_
  refine p_seq (p_region fun hf => ?_)
  refine p_move (h := ?_)
  refine p_len (ht := Try.underlying23) (h := ?_)
  refine p_move (h := ?_)
  refine p_len (ht := Try.underlying23) (h := ?_)
  refine p_num (h := ?_)
  refine p_end ?_
  refine p_splitC (s := 10) (ht := fun hc10 => ?_) (hf := fun hc10 => ?_)
  · refine p_condT (h := ?_)
    refine p_seq (p_region fun hf => ?_)
    refine p_assign (h := ?_)
    refine p_end ?_
    refine TrC.ret ?_
    refine p_ret1 (hp := by rw [decide_eq_false fun e => by subst e; simp at hc10])
  · refine p_condF (h := ?_)
    have hlen : a.length = b.length := by simp at hc10; omega
    refine p_skip ?_
    refine p_seq ?_
    refine p_seq (p_region fun hf => ?_)
    refine p_move (h := ?_)
    refine p_len (ht := Try.underlying23) (h := ?_)
    refine p_move (h := ?_)
    refine p_end ?_
    refine TrC.block ?_
    refine p_loop (fun st => ∃ i : Nat, i ≤ a.length ∧ (∀ j (h1 : j < a.length) (h2 : j < b.length), j < i → a[j] = b[j]) ∧ st.env 0 = .sl 4 (a.map .bool) ∧ st.env 1 = .sl 4 (b.map .bool) ∧ st.env 12 = iV a.length ∧ st.env 13 = iV i) (fun st => a.length - (st.env 13).toN) ?_ fun e ob g1 hI => ?_
    · exact ⟨0, by omega, fun j _ _ h => by omega, eV_, eV_, eV_, eV_⟩
    · obtain ⟨i, hi, hal, e0, e1, e12, e13⟩ := hI
      dsimp only at e0 e1 e12 e13
      have hE := (⟨e0, e1, e12, e13⟩ : _ ∧ _ ∧ _ ∧ _)
      refine p_seq (p_region fun hf => ?_)
      refine p_num (h := ?_)
      refine p_end ?_
      refine p_seq ?_
      refine p_splitC (s := 14) (ht := fun hc14 => ?_) (hf := fun hc14 => ?_)
      · refine p_condT (h := ?_)
        have hlt : i < a.length := by simpa using hc14
        have hlt2 : i < b.length := by omega
        refine p_skip ?_
        refine p_seq ?_
        refine TrC.block ?_
        refine p_seq (p_region fun hf => ?_)
        refine p_move (h := ?_)
        refine p_assign (h := ?_)
        refine p_end ?_
        refine p_seq (p_draw F.mixed fun hf => ?_)
        refine p_move (h := ?_)
        refine p_move (h := ?_)
        refine p_idxMap (j := i) (ht := Try.underlying23) (hi := F.ti4) (hij := rfl) (hj := hlt) (h := ?_)
        (first | refine p_load (ht := F.leaf4) (h := ?_) | refine p_loadRef (ht := F.leaf4) (h := ?_))
        refine p_move (h := ?_)
        refine p_move (h := ?_)
        refine p_idxMap (j := i) (ht := Try.underlying23) (hi := F.ti4) (hij := rfl) (hj := hlt2) (h := ?_)
        (first | refine p_load (ht := F.leaf4) (h := ?_) | refine p_loadRef (ht := F.leaf4) (h := ?_))
        refine p_neB (ht := Try.underlying4) (h := ?_)
        refine p_endD ?_
        refine p_splitC (s := 24) (ht := fun hc24 => ?_) (hf := fun hc24 => ?_)
        · refine p_condT (h := ?_)
          refine p_seq (p_region fun hf => ?_)
          refine p_assign (h := ?_)
          refine p_end ?_
          refine TrC.ret ?_
          refine p_ret1 (hp := by rw [decide_eq_false fun e => by subst e; simp at hc24])
        · refine p_condF (h := ?_)
          refine p_skip ?_
          refine p_region fun hf => ?_
          refine p_add (r := ((i + 1 : Nat) : Int)) (hr := by omega) (hb := by omega) (h := ?_)
          refine p_move (h := ?_)
          refine p_end ?_
          refine p_some ?_
          refine ⟨⟨i + 1, hlt, fun j h1 h2 hj => ?_, eV_, eV_, eV_, eV_⟩, ?_⟩
          · rcases Nat.lt_succ_iff_lt_or_eq.1 hj with h | h
            · exact hal j h1 h2 h
            · subst h; simpa using hc24
          · simp (decide := true) only [upd, e13, V.toN, ↓reduceIte]; omega
      · refine p_condF (h := ?_)
        refine p_exit ?_
        refine p_seq (p_region fun hf => ?_)
        refine p_assign (h := ?_)
        refine p_end ?_
        refine TrC.ret ?_
        refine p_ret1 (hp := by rw [decide_eq_true (List.ext_getElem hlen fun j h1 h2 => hal j h1 h2 (by simp at hc14; omega))])

theorem equal_int (a b : List Int) (hl : a.length ≤ 1000000000) : FnC Try.prog 41 [.sl 3 (a.map iV), .sl 3 (b.map iV)] (fun r => r = .bool (decide (a = b))) := by
  refine FnC.of (fn := Try.f41) ⟨Try.func41, by kernel_rfl, rfl⟩ Try.ntmps41 (by simp) fun w0 S0 => ?_
  refine p_seq (p_region fun hf => ?_)
  refine p_assign (h := ?_)
  refine p_end ?_
  refine p_seq ?_
  refine p_seq (p_region fun hf => ?_)
  refine p_move (h := ?_)
  refine p_len (ht := Try.underlying26) (h := ?_)
  refine p_move (h := ?_)
  refine p_len (ht := Try.underlying26) (h := ?_)
  refine p_num (h := ?_)
  refine p_end ?_
  refine p_splitC (s := 10) (ht := fun hc10 => ?_) (hf := fun hc10 => ?_)
  · refine p_condT (h := ?_)
    refine p_seq (p_region fun hf => ?_)
    refine p_assign (h := ?_)
    refine p_end ?_
    refine TrC.ret ?_
    refine p_ret1 (hp := by rw [decide_eq_false fun e => by subst e; simp at hc10])
  · refine p_condF (h := ?_)
    have hlen : a.length = b.length := by simp at hc10; omega
    refine p_skip ?_
    refine p_seq ?_
    refine p_seq (p_region fun hf => ?_)
    refine p_move (h := ?_)
    refine p_len (ht := Try.underlying26) (h := ?_)
    refine p_move (h := ?_)
    refine p_end ?_
    refine TrC.block ?_
    refine p_loop (fun st => ∃ i : Nat, i ≤ a.length ∧ (∀ j (h1 : j < a.length) (h2 : j < b.length), j < i → a[j] = b[j]) ∧ st.env 0 = .sl 3 (a.map iV) ∧ st.env 1 = .sl 3 (b.map iV) ∧ st.env 12 = iV a.length ∧ st.env 13 = iV i) (fun st => a.length - (st.env 13).toN) ?_ fun e ob g1 hI => ?_
    · exact ⟨0, by omega, fun j _ _ h => by omega, eV_, eV_, eV_, eV_⟩
    · obtain ⟨i, hi, hal, e0, e1, e12, e13⟩ := hI
      dsimp only at e0 e1 e12 e13
      have hE := (⟨e0, e1, e12, e13⟩ : _ ∧ _ ∧ _ ∧ _)
      refine p_seq (p_region fun hf => ?_)
      refine p_num (h := ?_)
      refine p_end ?_
      refine p_seq ?_
      refine p_splitC (s := 14) (ht := fun hc14 => ?_) (hf := fun hc14 => ?_)
      · refine p_condT (h := ?_)
        have hlt : i < a.length := by simpa using hc14
        have hlt2 : i < b.length := by omega
        refine p_skip ?_
        refine p_seq ?_
        refine TrC.block ?_
        refine p_seq (p_region fun hf => ?_)
        refine p_move (h := ?_)
        refine p_assign (h := ?_)
        refine p_end ?_
        refine p_seq (p_draw F.mixed fun hf => ?_)
        refine p_move (h := ?_)
        refine p_move (h := ?_)
        refine p_idxMap (j := i) (ht := Try.underlying26) (hi := F.ti3) (hij := rfl) (hj := hlt) (h := ?_)
        (first | refine p_load (ht := F.leaf3) (h := ?_) | refine p_loadRef (ht := F.leaf3) (h := ?_))
        refine p_move (h := ?_)
        refine p_move (h := ?_)
        refine p_idxMap (j := i) (ht := Try.underlying26) (hi := F.ti3) (hij := rfl) (hj := hlt2) (h := ?_)
        (first | refine p_load (ht := F.leaf3) (h := ?_) | refine p_loadRef (ht := F.leaf3) (h := ?_))
        refine p_num (h := ?_)
        refine p_endD ?_
        refine p_splitC (s := 24) (ht := fun hc24 => ?_) (hf := fun hc24 => ?_)
        · refine p_condT (h := ?_)
          refine p_seq (p_region fun hf => ?_)
          refine p_assign (h := ?_)
          refine p_end ?_
          refine TrC.ret ?_
          refine p_ret1 (hp := by rw [decide_eq_false fun e => by subst e; simp at hc24])
        · refine p_condF (h := ?_)
          refine p_skip ?_
          refine p_region fun hf => ?_
          refine p_add (r := ((i + 1 : Nat) : Int)) (hr := by omega) (hb := by omega) (h := ?_)
          refine p_move (h := ?_)
          refine p_end ?_
          refine p_some ?_
          refine ⟨⟨i + 1, hlt, fun j h1 h2 hj => ?_, eV_, eV_, eV_, eV_⟩, ?_⟩
          · rcases Nat.lt_succ_iff_lt_or_eq.1 hj with h | h
            · exact hal j h1 h2 h
            · subst h; simpa using hc24
          · simp (decide := true) only [upd, e13, V.toN, ↓reduceIte]; omega
      · refine p_condF (h := ?_)
        refine p_exit ?_
        refine p_seq (p_region fun hf => ?_)
        refine p_assign (h := ?_)
        refine p_end ?_
        refine TrC.ret ?_
        refine p_ret1 (hp := by rw [decide_eq_true (List.ext_getElem hlen fun j h1 h2 => hal j h1 h2 (by simp at hc14; omega))])

theorem same1 (a b : List Int) (hl : a.length ≤ 1000000000) : FnC Try.prog 40 [rowV a, rowV b] (fun r => r = .bool (decide (a = b))) := by
  refine FnC.of (fn := Try.f40) ⟨Try.func40, by kernel_rfl, rfl⟩ Try.ntmps40 (by simp) fun w0 S0 => ?_
  refine p_seq (p_region fun hf => ?_)
  refine p_assign (h := ?_)
  refine p_end ?_
  refine p_seq (p_region fun hf => ?_)
  refine p_move (h := ?_)
  refine p_move (h := ?_)
  refine p_call (hx := rfl) (hb := ⟨Try.func41, by kernel_rfl, rfl⟩) (hf := equal_int a b hl) (h := ?_)
  refine p_assign (h := ?_)
  refine p_end ?_
  refine TrC.ret ?_
  refine p_ret1 (hp := by rfl)

theorem equalFunc (a b : List (List Int)) (hl : a.length ≤ 1000000000) (hr : ∀ r ∈ a, r.length ≤ 1000000000) : FnC Try.prog 39 [.sl 26 (a.map rowV), .sl 26 (b.map rowV), .fn 40 []] (fun r => r = .bool (decide (a = b))) := by
  refine FnC.of (fn := Try.f39) ⟨Try.func39, by kernel_rfl, rfl⟩ Try.ntmps39 (by simp) fun w0 S0 => ?_
  refine p_seq (p_region fun hf => ?_)
  refine p_assign (h := ?_)
  refine p_end ?_
  refine p_seq ?_
  refine p_seq (p_region fun hf => ?_)
  refine p_move (h := ?_)
  refine p_len (ht := Try.underlying22) (h := ?_)
  refine p_move (h := ?_)
  refine p_len (ht := Try.underlying22) (h := ?_)
  refine p_num (h := ?_)
  refine p_end ?_
  refine p_splitC (s := 14) (ht := fun hc14 => ?_) (hf := fun hc14 => ?_)
  · refine p_condT (h := ?_)
    refine p_seq (p_region fun hf => ?_)
    refine p_assign (h := ?_)
    refine p_end ?_
    refine TrC.ret ?_
    refine p_ret1 (hp := by rw [decide_eq_false fun e => by subst e; simp at hc14])
  · refine p_condF (h := ?_)
    have hlen : a.length = b.length := by simp at hc14; omega
    refine p_skip ?_
    refine p_seq ?_
    refine p_seq (p_region fun hf => ?_)
    refine p_move (h := ?_)
    refine p_len (ht := Try.underlying22) (h := ?_)
    refine p_move (h := ?_)
    refine p_end ?_
    refine TrC.block ?_
    refine p_loop (fun st => ∃ i : Nat, i ≤ a.length ∧ (∀ j (h1 : j < a.length) (h2 : j < b.length), j < i → a[j] = b[j]) ∧ st.env 0 = .sl 26 (a.map rowV) ∧ st.env 1 = .sl 26 (b.map rowV) ∧ st.env 2 = .fn 40 [] ∧ st.env 15 = .sl 26 (a.map rowV) ∧ st.env 16 = iV a.length ∧ st.env 17 = iV i) (fun st => a.length - (st.env 17).toN) ?_ fun e ob g1 hI => ?_
    · exact ⟨0, by omega, fun j _ _ h => by omega, eV_, eV_, eV_, eV_, eV_, eV_⟩
    · obtain ⟨i, hi, hal, e0, e1, e2, e15, e16, e17⟩ := hI
      dsimp only at e0 e1 e2 e15 e16 e17
      have hE := (⟨e0, e1, e2, e15, e16, e17⟩ : _ ∧ _ ∧ _ ∧ _ ∧ _ ∧ _)
      refine p_seq (p_region fun hf => ?_)
      refine p_num (h := ?_)
      refine p_end ?_
      refine p_seq ?_
      refine p_splitC (s := 18) (ht := fun hc18 => ?_) (hf := fun hc18 => ?_)
      · refine p_condT (h := ?_)
        have hlt : i < a.length := by simpa using hc18
        have hlt2 : i < b.length := by omega
        refine p_skip ?_
        refine p_seq ?_
        refine TrC.block ?_
        refine p_seq (p_region fun hf => ?_)
        refine p_move (h := ?_)
        refine p_idxMap (j := i) (ht := Try.underlying22) (hi := F.ti26) (hij := rfl) (hj := hlt) (h := ?_)
        (first | refine p_load (ht := F.leaf26) (h := ?_) | refine p_loadRef (ht := F.leaf26) (h := ?_))
        refine p_assign (h := ?_)
        refine p_assign (h := ?_)
        refine p_end ?_
        refine p_seq (p_region fun hf => ?_)
        refine p_move (h := ?_)
        refine p_move (h := ?_)
        refine p_idxMap (j := i) (ht := Try.underlying22) (hi := F.ti26) (hij := rfl) (hj := hlt2) (h := ?_)
        (first | refine p_load (ht := F.leaf26) (h := ?_) | refine p_loadRef (ht := F.leaf26) (h := ?_))
        refine p_assign (h := ?_)
        refine p_end ?_
        refine p_seq (p_region fun hf => ?_)
        refine p_move (h := ?_)
        refine p_move (h := ?_)
        refine p_move (h := ?_)
        refine p_call (hb := ⟨Try.func40, by kernel_rfl, rfl⟩) (hf := same1 a[i] b[i] (hr _ (List.getElem_mem hlt))) (h := ?_)
        refine p_not (h := ?_)
        refine p_end ?_
        refine p_splitC (s := 30) (ht := fun hc30 => ?_) (hf := fun hc30 => ?_)
        · refine p_condT (h := ?_)
          refine p_seq (p_region fun hf => ?_)
          refine p_assign (h := ?_)
          refine p_end ?_
          refine TrC.ret ?_
          refine p_ret1 (hp := by rw [decide_eq_false fun e => by subst e; simp at hc30])
        · refine p_condF (h := ?_)
          refine p_skip ?_
          refine p_region fun hf => ?_
          refine p_add (r := ((i + 1 : Nat) : Int)) (hr := by omega) (hb := by omega) (h := ?_)
          refine p_move (h := ?_)
          refine p_end ?_
          refine p_some ?_
          refine ⟨⟨i + 1, hlt, fun j h1 h2 hj => ?_, eV_, eV_, eV_, eV_, eV_, eV_⟩, ?_⟩
          · rcases Nat.lt_succ_iff_lt_or_eq.1 hj with h | h
            · exact hal j h1 h2 h
            · subst h; simpa using hc30
          · simp (decide := true) only [upd, e17, V.toN, ↓reduceIte]; omega
      · refine p_condF (h := ?_)
        refine p_exit ?_
        refine p_seq (p_region fun hf => ?_)
        refine p_assign (h := ?_)
        refine p_end ?_
        refine TrC.ret ?_
        refine p_ret1 (hp := by rw [decide_eq_true (List.ext_getElem hlen fun j h1 h2 => hal j h1 h2 (by simp at hc18; omega))])

def sameD (a b : Dfa) : Bool := decide (a.sym = b.sym) && (decide (a.acc = b.acc) && decide (a.next = b.next))
theorem sameD_refl (a : Dfa) : sameD a a = true := by simp [sameD]

theorem same09 (a b : Dfa) (ha : a.fits) : FnC Try.prog 24 [dfaV a, dfaV b] (fun r => r = .bool (sameD a b)) := by
  refine FnC.of (fn := Try.f24) ⟨Try.func24, by kernel_rfl, rfl⟩ Try.ntmps24 (by simp) fun w0 S0 => ?_
  refine p_seq (p_region fun hf => ?_)
  refine p_box (h := ?_)
  refine p_box (h := ?_)
  refine p_assign (h := ?_)
  refine p_end ?_
  refine p_seq (p_region fun hf => ?_)
  (first | refine p_fieldPtr (hf := F.fld25_0) (h := ?_) | refine p_fieldRef (hf := F.fld25_0) (h := ?_) | refine p_fieldRow (hf := F.fld25_0) (h := ?_))
  (first | refine p_load (ht := F.leaf3) (h := ?_) | refine p_loadRef (ht := F.leaf3) (h := ?_))
  (first | refine p_fieldPtr (hf := F.fld25_0) (h := ?_) | refine p_fieldRef (hf := F.fld25_0) (h := ?_) | refine p_fieldRow (hf := F.fld25_0) (h := ?_))
  (first | refine p_load (ht := F.leaf3) (h := ?_) | refine p_loadRef (ht := F.leaf3) (h := ?_))
  refine p_num (h := ?_)
  refine p_move (h := ?_)
  refine p_split (s := 10) (ht := fun hb10 => ?_) (hf := fun hb10 => ?_)
  · -- slot 10 is true
    refine p_guardYes (h := ?_)
    (first | refine p_fieldPtr (hf := F.fld25_2) (h := ?_) | refine p_fieldRef (hf := F.fld25_2) (h := ?_) | refine p_fieldRow (hf := F.fld25_2) (h := ?_))
    refine p_guardYes (h := ?_)
    (first | refine p_load (ht := F.leaf23) (h := ?_) | refine p_loadRef (ht := F.leaf23) (h := ?_))
    refine p_guardYes (h := ?_)
    (first | refine p_fieldPtr (hf := F.fld25_2) (h := ?_) | refine p_fieldRef (hf := F.fld25_2) (h := ?_) | refine p_fieldRow (hf := F.fld25_2) (h := ?_))
    refine p_guardYes (h := ?_)
    (first | refine p_load (ht := F.leaf23) (h := ?_) | refine p_loadRef (ht := F.leaf23) (h := ?_))
    refine p_guardYes (h := ?_)
    refine p_call (hx := rfl) (hb := ⟨Try.func38, by kernel_rfl, rfl⟩) (hf := equal_bool a.acc b.acc ha.2.1) (h := ?_)
    refine p_pick (h := ?_)
    refine p_move (h := ?_)
    refine p_split (s := 17) (ht := fun hb17 => ?_) (hf := fun hb17 => ?_)
    · -- slot 17 is true
      refine p_guardYes (h := ?_)
      (first | refine p_fieldPtr (hf := F.fld25_1) (h := ?_) | refine p_fieldRef (hf := F.fld25_1) (h := ?_) | refine p_fieldRow (hf := F.fld25_1) (h := ?_))
      refine p_guardYes (h := ?_)
      (first | refine p_load (ht := F.leaf22) (h := ?_) | refine p_loadRef (ht := F.leaf22) (h := ?_))
      refine p_guardYes (h := ?_)
      (first | refine p_fieldPtr (hf := F.fld25_1) (h := ?_) | refine p_fieldRef (hf := F.fld25_1) (h := ?_) | refine p_fieldRow (hf := F.fld25_1) (h := ?_))
      refine p_guardYes (h := ?_)
      (first | refine p_load (ht := F.leaf22) (h := ?_) | refine p_loadRef (ht := F.leaf22) (h := ?_))
      refine p_guardYes (h := ?_)
      refine p_call (hx := rfl) (hb := ⟨Try.func39, by kernel_rfl, rfl⟩) (hf := equalFunc a.next b.next ha.1 ha.2.2) (h := ?_)
      refine p_pick (h := ?_)
      refine p_assign (h := ?_)
      refine p_end ?_
      refine TrC.ret ?_
      refine p_ret1 (hp := by simp [sameD, hb10, hb17])
    · -- slot 17 is false
      iterate 5 (refine p_guardNo (h := ?_))
      refine p_pick (h := ?_)
      refine p_assign (h := ?_)
      refine p_end ?_
      refine TrC.ret ?_
      refine p_ret1 (hp := by simp only [sameD, hb10, hb17, Bool.false_and, Bool.and_false])
  · -- slot 10 is false
    iterate 5 (refine p_guardNo (h := ?_))
    refine p_pick (h := ?_)
    refine p_move (h := ?_)
    iterate 5 (refine p_guardNo (h := ?_))
    refine p_pick (h := ?_)
    refine p_assign (h := ?_)
    refine p_end ?_
    refine TrC.ret ?_
    refine p_ret1 (hp := by simp only [sameD, hb10, Bool.false_and])

theorem sameRef (a b : Dfa) (ha : a.fits) : FnC Try.prog 23 [dfaV a, dfaV b] (fun r => r = .bool (sameD a b)) := by
  refine FnC.of (fn := Try.f23) ⟨Try.func23, by kernel_rfl, rfl⟩ Try.ntmps23 (by simp) fun w0 S0 => ?_
  refine p_seq (p_region fun hf => ?_)
  refine p_box (h := ?_)
  refine p_box (h := ?_)
  refine p_assign (h := ?_)
  refine p_end ?_
  refine p_seq ?_
  refine p_seq (p_region fun hf => ?_)
  (first | refine p_fieldPtr (hf := F.fld25_0) (h := ?_) | refine p_fieldRef (hf := F.fld25_0) (h := ?_) | refine p_fieldRow (hf := F.fld25_0) (h := ?_))
  (first | refine p_load (ht := F.leaf3) (h := ?_) | refine p_loadRef (ht := F.leaf3) (h := ?_))
  (first | refine p_fieldPtr (hf := F.fld25_0) (h := ?_) | refine p_fieldRef (hf := F.fld25_0) (h := ?_) | refine p_fieldRow (hf := F.fld25_0) (h := ?_))
  (first | refine p_load (ht := F.leaf3) (h := ?_) | refine p_loadRef (ht := F.leaf3) (h := ?_))
  refine p_num (h := ?_)
  refine p_move (h := ?_)
  refine p_split (s := 13) (ht := fun hb13 => ?_) (hf := fun hb13 => ?_)
  · -- slot 13 is true
    iterate 7 (refine p_guardNo (h := ?_))
    refine p_pick (h := ?_)
    refine p_move (h := ?_)
    iterate 7 (refine p_guardNo (h := ?_))
    refine p_pick (h := ?_)
    refine p_end ?_
    refine p_condT (h := ?_)
    refine p_seq (p_region fun hf => ?_)
    refine p_assign (h := ?_)
    refine p_end ?_
    refine TrC.ret ?_
    refine p_ret1 (hp := by rw [show sameD a b = false from Bool.eq_false_iff.2 fun e => ?_]; simp [sameD] at e; simp [e.1] at hb13)
  · -- slot 13 is false
    refine p_guardYes (h := ?_)
    (first | refine p_fieldPtr (hf := F.fld25_1) (h := ?_) | refine p_fieldRef (hf := F.fld25_1) (h := ?_) | refine p_fieldRow (hf := F.fld25_1) (h := ?_))
    refine p_guardYes (h := ?_)
    (first | refine p_load (ht := F.leaf22) (h := ?_) | refine p_loadRef (ht := F.leaf22) (h := ?_))
    refine p_guardYes (h := ?_)
    refine p_len (ht := Try.underlying22) (h := ?_)
    refine p_guardYes (h := ?_)
    (first | refine p_fieldPtr (hf := F.fld25_1) (h := ?_) | refine p_fieldRef (hf := F.fld25_1) (h := ?_) | refine p_fieldRow (hf := F.fld25_1) (h := ?_))
    refine p_guardYes (h := ?_)
    (first | refine p_load (ht := F.leaf22) (h := ?_) | refine p_loadRef (ht := F.leaf22) (h := ?_))
    refine p_guardYes (h := ?_)
    refine p_len (ht := Try.underlying22) (h := ?_)
    refine p_guardYes (h := ?_)
    refine p_num (h := ?_)
    refine p_pick (h := ?_)
    refine p_move (h := ?_)
    refine p_split (s := 22) (ht := fun hb22 => ?_) (hf := fun hb22 => ?_)
    · -- slot 22 is true
      iterate 7 (refine p_guardNo (h := ?_))
      refine p_pick (h := ?_)
      refine p_end ?_
      refine p_condT (h := ?_)
      refine p_seq (p_region fun hf => ?_)
      refine p_assign (h := ?_)
      refine p_end ?_
      refine TrC.ret ?_
      refine p_ret1 (hp := by rw [show sameD a b = false from Bool.eq_false_iff.2 fun e => ?_]; simp [sameD] at e; simp [e.2.2] at hb22)
    · -- slot 22 is false
      refine p_guardYes (h := ?_)
      (first | refine p_fieldPtr (hf := F.fld25_2) (h := ?_) | refine p_fieldRef (hf := F.fld25_2) (h := ?_) | refine p_fieldRow (hf := F.fld25_2) (h := ?_))
      refine p_guardYes (h := ?_)
      (first | refine p_load (ht := F.leaf23) (h := ?_) | refine p_loadRef (ht := F.leaf23) (h := ?_))
      refine p_guardYes (h := ?_)
      refine p_len (ht := Try.underlying23) (h := ?_)
      refine p_guardYes (h := ?_)
      (first | refine p_fieldPtr (hf := F.fld25_2) (h := ?_) | refine p_fieldRef (hf := F.fld25_2) (h := ?_) | refine p_fieldRow (hf := F.fld25_2) (h := ?_))
      refine p_guardYes (h := ?_)
      (first | refine p_load (ht := F.leaf23) (h := ?_) | refine p_loadRef (ht := F.leaf23) (h := ?_))
      refine p_guardYes (h := ?_)
      refine p_len (ht := Try.underlying23) (h := ?_)
      refine p_guardYes (h := ?_)
      refine p_num (h := ?_)
      refine p_pick (h := ?_)
      refine p_end ?_
      refine p_splitC (s := 30) (ht := fun hc30 => ?_) (hf := fun hc30 => ?_)
      · refine p_condT (h := ?_)
        refine p_seq (p_region fun hf => ?_)
        refine p_assign (h := ?_)
        refine p_end ?_
        refine TrC.ret ?_
        refine p_ret1 (hp := by rw [show sameD a b = false from Bool.eq_false_iff.2 fun e => ?_]; simp [sameD] at e; simp [e.2.1] at hc30)
      · refine p_condF (h := ?_)
        have hal0 : a.acc.length = b.acc.length := by simp at hc30; omega
        have hnl : a.next.length = b.next.length := by simp at hb22; omega
        refine p_skip ?_
        refine p_seq ?_
        refine p_seq (p_region fun hf => ?_)
        refine p_assign (h := ?_)
        refine p_end ?_
        refine TrC.block ?_
        refine p_loop (fun st => ∃ i : Nat, i ≤ a.acc.length ∧ (∀ j (h1 : j < a.acc.length) (h2 : j < b.acc.length), j < i → a.acc[j] = b.acc[j]) ∧ st.env 2 = .ptr (0 + 1) 2 0 ∧ st.env 3 = .ptr (0 + 1) 3 0 ∧ st.env 5 = iV i ∧ st.obj (0 + 1) 2 = .cells 25 (dfaL a) ∧ st.obj (0 + 1) 3 = .cells 25 (dfaL b)) (fun st => a.acc.length - (st.env 5).toN) ?_ fun e ob g1 hI => ?_
        · exact ⟨0, by omega, fun j _ _ h => by omega, eV_, eV_, eV_, oB_, oB_⟩
        · obtain ⟨i, hi, hal, e2, e3, e5, o2, o3⟩ := hI
          dsimp only at e2 e3 e5 o2 o3
          have hE := (⟨e2, e3, e5, o2, o3⟩ : _ ∧ _ ∧ _ ∧ _ ∧ _)
          have hf2 := ha.2.1
          refine p_seq ?_
          refine p_seq (p_region fun hf => ?_)
          refine p_move (h := ?_)
          (first | refine p_fieldPtr (hf := F.fld25_2) (h := ?_) | refine p_fieldRef (hf := F.fld25_2) (h := ?_) | refine p_fieldRow (hf := F.fld25_2) (h := ?_))
          (first | refine p_load (ht := F.leaf23) (h := ?_) | refine p_loadRef (ht := F.leaf23) (h := ?_))
          refine p_len (ht := Try.underlying23) (h := ?_)
          refine p_num (h := ?_)
          refine p_end ?_
          refine p_splitC (s := 35) (ht := fun hc35 => ?_) (hf := fun hc35 => ?_)
          · refine p_condT (h := ?_)
            have hlt : i < a.acc.length := by simpa using hc35
            have hlt2 : i < b.acc.length := by omega
            refine p_skip ?_
            refine p_seq ?_
            refine TrC.block ?_
            refine p_seq (p_draw F.mixed fun hf => ?_)
            (first | refine p_fieldPtr (hf := F.fld25_2) (h := ?_) | refine p_fieldRef (hf := F.fld25_2) (h := ?_) | refine p_fieldRow (hf := F.fld25_2) (h := ?_))
            (first | refine p_load (ht := F.leaf23) (h := ?_) | refine p_loadRef (ht := F.leaf23) (h := ?_))
            refine p_move (h := ?_)
            refine p_idxMap (j := i) (ht := Try.underlying23) (hi := F.ti4) (hij := rfl) (hj := hlt) (h := ?_)
            (first | refine p_load (ht := F.leaf4) (h := ?_) | refine p_loadRef (ht := F.leaf4) (h := ?_))
            (first | refine p_fieldPtr (hf := F.fld25_2) (h := ?_) | refine p_fieldRef (hf := F.fld25_2) (h := ?_) | refine p_fieldRow (hf := F.fld25_2) (h := ?_))
            (first | refine p_load (ht := F.leaf23) (h := ?_) | refine p_loadRef (ht := F.leaf23) (h := ?_))
            refine p_move (h := ?_)
            refine p_idxMap (j := i) (ht := Try.underlying23) (hi := F.ti4) (hij := rfl) (hj := hlt2) (h := ?_)
            (first | refine p_load (ht := F.leaf4) (h := ?_) | refine p_loadRef (ht := F.leaf4) (h := ?_))
            refine p_neB (ht := Try.underlying4) (h := ?_)
            refine p_endD ?_
            refine p_splitC (s := 48) (ht := fun hc48 => ?_) (hf := fun hc48 => ?_)
            · refine p_condT (h := ?_)
              refine p_seq (p_region fun hf => ?_)
              refine p_assign (h := ?_)
              refine p_end ?_
              refine TrC.ret ?_
              refine p_ret1 (hp := by rw [show sameD a b = false from Bool.eq_false_iff.2 fun e => ?_]; simp [sameD] at e; simp [e.2.1] at hc48)
            · refine p_condF (h := ?_)
              refine p_skip ?_
              refine p_region fun hf => ?_
              refine p_move (h := ?_)
              refine p_add (r := ((i + 1 : Nat) : Int)) (hr := by omega) (hb := by omega) (h := ?_)
              refine p_assign (h := ?_)
              refine p_end ?_
              refine p_some ?_
              refine ⟨⟨i + 1, hlt, fun j h1 h2 hj => ?_, eV_, eV_, eV_, oB_, oB_⟩, ?_⟩
              · rcases Nat.lt_succ_iff_lt_or_eq.1 hj with h | h
                · exact hal j h1 h2 h
                · subst h; simpa using hc48
              · simp (decide := true) only [upd, e5, V.toN, ↓reduceIte]; omega
          · refine p_condF (h := ?_)
            refine p_exit ?_
            refine p_seq ?_
            refine p_seq (p_region fun hf => ?_)
            refine p_assign (h := ?_)
            refine p_end ?_
            refine TrC.block ?_
            refine p_loop (fun st => ∃ i : Nat, i ≤ a.next.length ∧ (∀ j (h1 : j < a.next.length) (h2 : j < b.next.length), j < i → a.next[j] = b.next[j]) ∧ st.env 2 = .ptr (0 + 1) 2 0 ∧ st.env 3 = .ptr (0 + 1) 3 0 ∧ st.env 6 = iV i ∧ st.obj (0 + 1) 2 = .cells 25 (dfaL a) ∧ st.obj (0 + 1) 3 = .cells 25 (dfaL b)) (fun st => a.next.length - (st.env 6).toN) ?_ fun e ob g2 hI => ?_
            · exact ⟨0, by omega, fun j _ _ h => by omega, eV_, eV_, eV_, oB_, oB_⟩
            · obtain ⟨i, hi, hal2, e2, e3, e6, o2, o3⟩ := hI
              dsimp only at e2 e3 e6 o2 o3
              have hE := (⟨e2, e3, e6, o2, o3⟩ : _ ∧ _ ∧ _ ∧ _ ∧ _)
              have hf1 := ha.1
              refine p_seq ?_
              refine p_seq (p_region fun hf => ?_)
              refine p_move (h := ?_)
              (first | refine p_fieldPtr (hf := F.fld25_1) (h := ?_) | refine p_fieldRef (hf := F.fld25_1) (h := ?_) | refine p_fieldRow (hf := F.fld25_1) (h := ?_))
              (first | refine p_load (ht := F.leaf22) (h := ?_) | refine p_loadRef (ht := F.leaf22) (h := ?_))
              refine p_len (ht := Try.underlying22) (h := ?_)
              refine p_num (h := ?_)
              refine p_end ?_
              refine p_splitC (s := 53) (ht := fun hc53 => ?_) (hf := fun hc53 => ?_)
              · refine p_condT (h := ?_)
                have hlt : i < a.next.length := by simpa using hc53
                have hlt2 : i < b.next.length := by omega
                refine p_skip ?_
                refine p_seq ?_
                refine TrC.block ?_
                refine p_seq ?_
                refine p_seq (p_draw F.mixed fun hf => ?_)
                (first | refine p_fieldPtr (hf := F.fld25_1) (h := ?_) | refine p_fieldRef (hf := F.fld25_1) (h := ?_) | refine p_fieldRow (hf := F.fld25_1) (h := ?_))
                (first | refine p_load (ht := F.leaf22) (h := ?_) | refine p_loadRef (ht := F.leaf22) (h := ?_))
                refine p_move (h := ?_)
                refine p_idxMap (j := i) (ht := Try.underlying22) (hi := F.ti26) (hij := rfl) (hj := hlt) (h := ?_)
                (first | refine p_load (ht := F.leaf26) (h := ?_) | refine p_loadRef (ht := F.leaf26) (h := ?_))
                refine p_len (ht := Try.underlying26) (h := ?_)
                (first | refine p_fieldPtr (hf := F.fld25_1) (h := ?_) | refine p_fieldRef (hf := F.fld25_1) (h := ?_) | refine p_fieldRow (hf := F.fld25_1) (h := ?_))
                (first | refine p_load (ht := F.leaf22) (h := ?_) | refine p_loadRef (ht := F.leaf22) (h := ?_))
                refine p_move (h := ?_)
                refine p_idxMap (j := i) (ht := Try.underlying22) (hi := F.ti26) (hij := rfl) (hj := hlt2) (h := ?_)
                (first | refine p_load (ht := F.leaf26) (h := ?_) | refine p_loadRef (ht := F.leaf26) (h := ?_))
                refine p_len (ht := Try.underlying26) (h := ?_)
                refine p_num (h := ?_)
                refine p_endD ?_
                refine p_splitC (s := 68) (ht := fun hc68 => ?_) (hf := fun hc68 => ?_)
                · refine p_condT (h := ?_)
                  refine p_seq (p_region fun hf => ?_)
                  refine p_assign (h := ?_)
                  refine p_end ?_
                  refine TrC.ret ?_
                  refine p_ret1 (hp := by rw [show sameD a b = false from Bool.eq_false_iff.2 fun e => ?_]; simp [sameD] at e; simp [e.2.2] at hc68)
                · refine p_condF (h := ?_)
                  have hrl : a.next[i].length = b.next[i].length := by simp at hc68; omega
                  refine p_skip ?_
                  refine p_seq (p_region fun hf => ?_)
                  refine p_assign (h := ?_)
                  refine p_end ?_
                  refine TrC.block ?_
                  refine p_loop (fun st => ∃ k : Nat, k ≤ a.next[i].length ∧ (∀ j (h1 : j < a.next[i].length) (h2 : j < b.next[i].length), j < k → a.next[i][j] = b.next[i][j]) ∧ st.env 2 = .ptr (0 + 1) 2 0 ∧ st.env 3 = .ptr (0 + 1) 3 0 ∧ st.env 6 = iV i ∧ st.env 7 = iV k ∧ st.obj (0 + 1) 2 = .cells 25 (dfaL a) ∧ st.obj (0 + 1) 3 = .cells 25 (dfaL b)) (fun st => a.next[i].length - (st.env 7).toN) ?_ fun e ob g3 hI => ?_
                  · exact ⟨0, by omega, fun j _ _ h => by omega, eV_, eV_, eV_, eV_, oB_, oB_⟩
                  · obtain ⟨k, hk, hm, f2, f3, f6, f7, p2, p3⟩ := hI
                    dsimp only at f2 f3 f6 f7 p2 p3
                    have hE := (⟨f2, f3, f6, f7, p2, p3⟩ : _ ∧ _ ∧ _ ∧ _ ∧ _ ∧ _)
                    have hf3 := ha.2.2 _ (List.getElem_mem hlt)
                    refine p_seq ?_
                    refine p_seq (p_region fun hf => ?_)
                    refine p_move (h := ?_)
                    (first | refine p_fieldPtr (hf := F.fld25_1) (h := ?_) | refine p_fieldRef (hf := F.fld25_1) (h := ?_) | refine p_fieldRow (hf := F.fld25_1) (h := ?_))
                    (first | refine p_load (ht := F.leaf22) (h := ?_) | refine p_loadRef (ht := F.leaf22) (h := ?_))
                    refine p_move (h := ?_)
                    refine p_idxMap (j := i) (ht := Try.underlying22) (hi := F.ti26) (hij := rfl) (hj := hlt) (h := ?_)
                    (first | refine p_load (ht := F.leaf26) (h := ?_) | refine p_loadRef (ht := F.leaf26) (h := ?_))
                    refine p_len (ht := Try.underlying26) (h := ?_)
                    refine p_num (h := ?_)
                    refine p_end ?_
                    refine p_splitC (s := 76) (ht := fun hc76 => ?_) (hf := fun hc76 => ?_)
                    · refine p_condT (h := ?_)
                      have hk1 : k < a.next[i].length := by simpa using hc76
                      have hk2 : k < b.next[i].length := by omega
                      refine p_skip ?_
                      refine p_seq ?_
                      refine TrC.block ?_
                      refine p_seq (p_draw F.mixed fun hf => ?_)
                      (first | refine p_fieldPtr (hf := F.fld25_1) (h := ?_) | refine p_fieldRef (hf := F.fld25_1) (h := ?_) | refine p_fieldRow (hf := F.fld25_1) (h := ?_))
                      (first | refine p_load (ht := F.leaf22) (h := ?_) | refine p_loadRef (ht := F.leaf22) (h := ?_))
                      refine p_move (h := ?_)
                      refine p_idxMap (j := i) (ht := Try.underlying22) (hi := F.ti26) (hij := rfl) (hj := hlt) (h := ?_)
                      (first | refine p_load (ht := F.leaf26) (h := ?_) | refine p_loadRef (ht := F.leaf26) (h := ?_))
                      refine p_move (h := ?_)
                      refine p_idxMap (j := k) (ht := Try.underlying26) (hi := F.ti3) (hij := rfl) (hj := hk1) (h := ?_)
                      (first | refine p_load (ht := F.leaf3) (h := ?_) | refine p_loadRef (ht := F.leaf3) (h := ?_))
                      (first | refine p_fieldPtr (hf := F.fld25_1) (h := ?_) | refine p_fieldRef (hf := F.fld25_1) (h := ?_) | refine p_fieldRow (hf := F.fld25_1) (h := ?_))
                      (first | refine p_load (ht := F.leaf22) (h := ?_) | refine p_loadRef (ht := F.leaf22) (h := ?_))
                      refine p_move (h := ?_)
                      refine p_idxMap (j := i) (ht := Try.underlying22) (hi := F.ti26) (hij := rfl) (hj := hlt2) (h := ?_)
                      (first | refine p_load (ht := F.leaf26) (h := ?_) | refine p_loadRef (ht := F.leaf26) (h := ?_))
                      refine p_move (h := ?_)
                      refine p_idxMap (j := k) (ht := Try.underlying26) (hi := F.ti3) (hij := rfl) (hj := hk2) (h := ?_)
                      (first | refine p_load (ht := F.leaf3) (h := ?_) | refine p_loadRef (ht := F.leaf3) (h := ?_))
                      refine p_num (h := ?_)
                      refine p_endD ?_
                      refine p_splitC (s := 95) (ht := fun hc95 => ?_) (hf := fun hc95 => ?_)
                      · refine p_condT (h := ?_)
                        refine p_seq (p_region fun hf => ?_)
                        refine p_assign (h := ?_)
                        refine p_end ?_
                        refine TrC.ret ?_
                        refine p_ret1 (hp := by rw [show sameD a b = false from Bool.eq_false_iff.2 fun e => ?_]; simp [sameD] at e; simp [e.2.2] at hc95)
                      · refine p_condF (h := ?_)
                        refine p_skip ?_
                        refine p_region fun hf => ?_
                        refine p_move (h := ?_)
                        refine p_add (r := ((k + 1 : Nat) : Int)) (hr := by omega) (hb := by omega) (h := ?_)
                        refine p_assign (h := ?_)
                        refine p_end ?_
                        refine p_some ?_
                        refine ⟨⟨k + 1, hk1, fun j h1 h2 hj => ?_, eV_, eV_, eV_, eV_, oB_, oB_⟩, ?_⟩
                        · rcases Nat.lt_succ_iff_lt_or_eq.1 hj with h | h
                          · exact hm j h1 h2 h
                          · subst h; simpa using hc95
                        · simp (decide := true) only [upd, f7, V.toN, ↓reduceIte]; omega
                    · refine p_condF (h := ?_)
                      refine p_exit ?_
                      refine p_region fun hf => ?_
                      refine p_move (h := ?_)
                      refine p_add (r := ((i + 1 : Nat) : Int)) (hr := by omega) (hb := by omega) (h := ?_)
                      refine p_assign (h := ?_)
                      refine p_end ?_
                      refine p_some ?_
                      refine ⟨⟨i + 1, hlt, fun j h1 h2 hj => ?_, eV_, eV_, eV_, oB_, oB_⟩, ?_⟩
                      · rcases Nat.lt_succ_iff_lt_or_eq.1 hj with h | h
                        · exact hal2 j h1 h2 h
                        · subst h; exact List.ext_getElem hrl fun q q1 q2 => hm q q1 q2 (by simp at hc76; omega)
                      · simp (decide := true) only [upd, e6, f6, V.toN, ↓reduceIte]; omega
              · refine p_condF (h := ?_)
                refine p_exit ?_
                refine p_seq (p_region fun hf => ?_)
                refine p_assign (h := ?_)
                refine p_end ?_
                refine TrC.ret ?_
                refine p_ret1 (hp := by rw [show sameD a b = true from ?_]; simp only [sameD, Bool.and_eq_true, decide_eq_true_eq]; exact ⟨by simpa using hb13, List.ext_getElem hal0 fun j h1 h2 => hal j h1 h2 (by simp at hc35; omega), List.ext_getElem hnl fun j h1 h2 => hal2 j h1 h2 (by simp at hc53; omega)⟩)

end Go.Proofs.Ytdpljpmohpifbaa
