/-
  The reference's Same of systems and automata, walked, where both are the same: they answer true.
-/
import Derived.Test.YtfjciangbmjlmaaHj
set_option linter.unusedSimpArgs false
set_option linter.unusedVariables false
namespace Go.Proofs.Ytfjciangbmjlmaa
open Go.RowKit
structure Rul where
  (p g q : Int)
  (w : List Int)
  (f : Wgt)
  (ps : List Wgt)
abbrev rulV (r : Rul) : V := .agg [iV r.p, iV r.g, iV r.q, .sl 3 (r.w.map iV), .bool false, iV r.f.cost, uV r.f.gen, .sl 74 (r.f.rows.map uV), .sl 110 (r.f.cells.map celT), .sl 81 (r.ps.map lwV)]
structure WFit (f : Wgt) (ps : List Wgt) : Prop where
  one : f.Fit
  all : ∀ p ∈ ps, p.Fit
  len : ps.length ≤ 1000000000
structure Rul.Fit (r : Rul) : Prop where
  w : r.w.length ≤ 1000000000
  f : WFit r.f r.ps
structure Trn where
  (a s b : Int)
  (f : Wgt)
  (ps : List Wgt)
abbrev trnV (r : Trn) : V := .agg [iV r.a, iV r.s, iV r.b, .bool false, iV r.f.cost, uV r.f.gen, .sl 74 (r.f.rows.map uV), .sl 110 (r.f.cells.map celT), .sl 81 (r.ps.map lwV)]

theorem sameP (t d n k : Int) (sp : List Spc) (rs : List Rul) (hsp : sp.length ≤ 1000000000) (hrs : rs.length ≤ 1000000000) (hr : ∀ r ∈ rs, r.Fit) : FnC Try.prog 22 [.agg [iV t, iV d, .sl 35 (sp.map spcV), iV n, iV k, .sl 92 (rs.map rulV)], .agg [iV t, iV d, .sl 35 (sp.map spcV), iV n, iV k, .sl 92 (rs.map rulV)]] (fun r => r = .bool true) := by
  refine FnC.of (fn := Try.f22) ⟨Try.func22, by kernel_rfl, rfl⟩ Try.ntmps22 (by simp) fun w0 S0 => ?_
  refine p_seq (p_region fun hf => ?_)
  refine p_box (h := ?_)
  refine p_box (h := ?_)
  refine p_assign (h := ?_)
  refine p_end ?_
  refine p_seq ?_
  refine p_seq (p_region fun hf => ?_)
  (first | refine p_fieldPtr (hf := F.fld38_0) (h := ?_) | refine p_fieldRef (hf := F.fld38_0) (h := ?_) | refine p_fieldRow (hf := F.fld38_0) (h := ?_))
  (first | refine p_loadA (ht := F.agg35) (hi := F.ti35) (h := ?_) | refine p_loadRefA (ht := F.agg35) (hi := F.ti35) (h := ?_))
  (first | refine p_fieldPtr (hf := F.fld38_0) (h := ?_) | refine p_fieldRef (hf := F.fld38_0) (h := ?_) | refine p_fieldRow (hf := F.fld38_0) (h := ?_))
  (first | refine p_loadA (ht := F.agg35) (hi := F.ti35) (h := ?_) | refine p_loadRefA (ht := F.agg35) (hi := F.ti35) (h := ?_))
  refine p_call (hx := rfl) (hb := ⟨Try.func42, by kernel_rfl, rfl⟩) (hf := sameSpace1 t d sp hsp) (h := ?_)
  refine p_not (h := ?_)
  refine p_move (h := ?_)
  refine p_isW (s := 14) (b := false) (hc := by first | rfl | decide | (simp; done) | (simp; omega)) (h := ?_)
  refine p_guardYes (h := ?_)
  (first | refine p_fieldPtr (hf := F.fld38_1) (h := ?_) | refine p_fieldRef (hf := F.fld38_1) (h := ?_) | refine p_fieldRow (hf := F.fld38_1) (h := ?_))
  refine p_guardYes (h := ?_)
  (first | refine p_load (ht := F.leaf3) (h := ?_) | refine p_loadRef (ht := F.leaf3) (h := ?_))
  refine p_guardYes (h := ?_)
  (first | refine p_fieldPtr (hf := F.fld38_1) (h := ?_) | refine p_fieldRef (hf := F.fld38_1) (h := ?_) | refine p_fieldRow (hf := F.fld38_1) (h := ?_))
  refine p_guardYes (h := ?_)
  (first | refine p_load (ht := F.leaf3) (h := ?_) | refine p_loadRef (ht := F.leaf3) (h := ?_))
  refine p_guardYes (h := ?_)
  refine p_num (h := ?_)
  refine p_pick (h := ?_)
  refine p_move (h := ?_)
  refine p_isW (s := 21) (b := false) (hc := by first | rfl | decide | (simp; done) | (simp; omega)) (h := ?_)
  refine p_guardYes (h := ?_)
  (first | refine p_fieldPtr (hf := F.fld38_2) (h := ?_) | refine p_fieldRef (hf := F.fld38_2) (h := ?_) | refine p_fieldRow (hf := F.fld38_2) (h := ?_))
  refine p_guardYes (h := ?_)
  (first | refine p_load (ht := F.leaf3) (h := ?_) | refine p_loadRef (ht := F.leaf3) (h := ?_))
  refine p_guardYes (h := ?_)
  (first | refine p_fieldPtr (hf := F.fld38_2) (h := ?_) | refine p_fieldRef (hf := F.fld38_2) (h := ?_) | refine p_fieldRow (hf := F.fld38_2) (h := ?_))
  refine p_guardYes (h := ?_)
  (first | refine p_load (ht := F.leaf3) (h := ?_) | refine p_loadRef (ht := F.leaf3) (h := ?_))
  refine p_guardYes (h := ?_)
  refine p_num (h := ?_)
  refine p_pick (h := ?_)
  refine p_move (h := ?_)
  refine p_isW (s := 28) (b := false) (hc := by first | rfl | decide | (simp; done) | (simp; omega)) (h := ?_)
  refine p_guardYes (h := ?_)
  (first | refine p_fieldPtr (hf := F.fld38_3) (h := ?_) | refine p_fieldRef (hf := F.fld38_3) (h := ?_) | refine p_fieldRow (hf := F.fld38_3) (h := ?_))
  refine p_guardYes (h := ?_)
  (first | refine p_load (ht := F.leaf36) (h := ?_) | refine p_loadRef (ht := F.leaf36) (h := ?_))
  refine p_guardYes (h := ?_)
  refine p_len (ht := Try.underlying36) (h := ?_)
  refine p_guardYes (h := ?_)
  (first | refine p_fieldPtr (hf := F.fld38_3) (h := ?_) | refine p_fieldRef (hf := F.fld38_3) (h := ?_) | refine p_fieldRow (hf := F.fld38_3) (h := ?_))
  refine p_guardYes (h := ?_)
  (first | refine p_load (ht := F.leaf36) (h := ?_) | refine p_loadRef (ht := F.leaf36) (h := ?_))
  refine p_guardYes (h := ?_)
  refine p_len (ht := Try.underlying36) (h := ?_)
  refine p_guardYes (h := ?_)
  refine p_num (h := ?_)
  refine p_pick (h := ?_)
  refine p_end ?_
  refine p_isC (s := 36) (b := false) (hc := by first | rfl | decide | (simp; done) | (simp; omega)) (h := ?_)
  refine p_condF (h := ?_)
  refine p_skip ?_
  refine p_seq ?_
  refine p_seq (p_region fun hf => ?_)
  refine p_assign (h := ?_)
  refine p_end ?_
  refine TrC.block ?_
  refine p_loop (fun st => ∃ i : Nat, i ≤ rs.length ∧ st.env 2 = .ptr (0 + 1) 2 0 ∧ st.env 3 = .ptr (0 + 1) 3 0 ∧ st.env 5 = iV i ∧ st.obj (0 + 1) 2 = .cells 38 [iV t, iV d, .sl 35 (sp.map spcV), iV n, iV k, .sl 92 (rs.map rulV)] ∧ st.obj (0 + 1) 3 = .cells 38 [iV t, iV d, .sl 35 (sp.map spcV), iV n, iV k, .sl 92 (rs.map rulV)]) (fun st => rs.length - (st.env 5).toN) ?_ fun e ob g1 hI => ?_
  · exact ⟨0, by omega, eV_, eV_, eV_, oB_, oB_⟩
  · obtain ⟨i, hi, e2, e3, e5, o2, o3⟩ := hI
    dsimp only at e2 e3 e5 o2 o3
    have hE := (⟨e2, e3, e5, o2, o3⟩ : _ ∧ _ ∧ _ ∧ _ ∧ _)
    refine p_seq ?_
    refine p_seq (p_region fun hf => ?_)
    refine p_move (h := ?_)
    (first | refine p_fieldPtr (hf := F.fld38_3) (h := ?_) | refine p_fieldRef (hf := F.fld38_3) (h := ?_) | refine p_fieldRow (hf := F.fld38_3) (h := ?_))
    (first | refine p_load (ht := F.leaf36) (h := ?_) | refine p_loadRef (ht := F.leaf36) (h := ?_))
    refine p_len (ht := Try.underlying36) (h := ?_)
    refine p_num (h := ?_)
    refine p_end ?_
    refine p_splitC (s := 41) (ht := fun hc41 => ?_) (hf := fun hc41 => ?_)
    · refine p_condT (h := ?_)
      have hlt : i < rs.length := by simpa using hc41
      refine p_skip ?_
      refine p_seq ?_
      refine TrC.block ?_
      refine p_seq (p_draw F.mixed fun hf => ?_)
      (first | refine p_fieldPtr (hf := F.fld38_3) (h := ?_) | refine p_fieldRef (hf := F.fld38_3) (h := ?_) | refine p_fieldRow (hf := F.fld38_3) (h := ?_))
      (first | refine p_load (ht := F.leaf36) (h := ?_) | refine p_loadRef (ht := F.leaf36) (h := ?_))
      refine p_move (h := ?_)
      refine p_idxMap (j := i) (ht := Try.underlying36) (hi := F.ti92) (hij := rfl) (hj := hlt) (h := ?_)
      (first | refine p_loadA (ht := F.agg92) (hi := F.ti92) (h := ?_) | refine p_loadRefA (ht := F.agg92) (hi := F.ti92) (h := ?_))
      (first | refine p_fieldPtr (hf := F.fld38_3) (h := ?_) | refine p_fieldRef (hf := F.fld38_3) (h := ?_) | refine p_fieldRow (hf := F.fld38_3) (h := ?_))
      (first | refine p_load (ht := F.leaf36) (h := ?_) | refine p_loadRef (ht := F.leaf36) (h := ?_))
      refine p_move (h := ?_)
      refine p_idxMap (j := i) (ht := Try.underlying36) (hi := F.ti92) (hij := rfl) (hj := hlt) (h := ?_)
      (first | refine p_loadA (ht := F.agg92) (hi := F.ti92) (h := ?_) | refine p_loadRefA (ht := F.agg92) (hi := F.ti92) (h := ?_))
      refine p_alloc (hi := F.ti92) (h := ?_)
      refine p_alloc (hi := F.ti92) (h := ?_)
      refine p_storeAll F.ti92 (h := ?_)
      refine p_storeAll F.ti92 (h := ?_)
      refine p_endD ?_
      refine p_seq (p_region fun hf => ?_)
      (first | refine p_fieldPtr (hf := F.fld92_0) (h := ?_) | refine p_fieldRef (hf := F.fld92_0) (h := ?_) | refine p_fieldRow (hf := F.fld92_0) (h := ?_))
      (first | refine p_load (ht := F.leaf3) (h := ?_) | refine p_loadRef (ht := F.leaf3) (h := ?_))
      (first | refine p_fieldPtr (hf := F.fld92_0) (h := ?_) | refine p_fieldRef (hf := F.fld92_0) (h := ?_) | refine p_fieldRow (hf := F.fld92_0) (h := ?_))
      (first | refine p_load (ht := F.leaf3) (h := ?_) | refine p_loadRef (ht := F.leaf3) (h := ?_))
      refine p_num (h := ?_)
      refine p_move (h := ?_)
      refine p_isW (s := 59) (b := false) (hc := by first | rfl | decide | (simp; done) | (simp; omega)) (h := ?_)
      refine p_guardYes (h := ?_)
      (first | refine p_fieldPtr (hf := F.fld92_1) (h := ?_) | refine p_fieldRef (hf := F.fld92_1) (h := ?_) | refine p_fieldRow (hf := F.fld92_1) (h := ?_))
      refine p_guardYes (h := ?_)
      (first | refine p_load (ht := F.leaf3) (h := ?_) | refine p_loadRef (ht := F.leaf3) (h := ?_))
      refine p_guardYes (h := ?_)
      (first | refine p_fieldPtr (hf := F.fld92_1) (h := ?_) | refine p_fieldRef (hf := F.fld92_1) (h := ?_) | refine p_fieldRow (hf := F.fld92_1) (h := ?_))
      refine p_guardYes (h := ?_)
      (first | refine p_load (ht := F.leaf3) (h := ?_) | refine p_loadRef (ht := F.leaf3) (h := ?_))
      refine p_guardYes (h := ?_)
      refine p_num (h := ?_)
      refine p_pick (h := ?_)
      refine p_move (h := ?_)
      refine p_isW (s := 66) (b := false) (hc := by first | rfl | decide | (simp; done) | (simp; omega)) (h := ?_)
      refine p_guardYes (h := ?_)
      (first | refine p_fieldPtr (hf := F.fld92_2) (h := ?_) | refine p_fieldRef (hf := F.fld92_2) (h := ?_) | refine p_fieldRow (hf := F.fld92_2) (h := ?_))
      refine p_guardYes (h := ?_)
      (first | refine p_load (ht := F.leaf3) (h := ?_) | refine p_loadRef (ht := F.leaf3) (h := ?_))
      refine p_guardYes (h := ?_)
      (first | refine p_fieldPtr (hf := F.fld92_2) (h := ?_) | refine p_fieldRef (hf := F.fld92_2) (h := ?_) | refine p_fieldRow (hf := F.fld92_2) (h := ?_))
      refine p_guardYes (h := ?_)
      (first | refine p_load (ht := F.leaf3) (h := ?_) | refine p_loadRef (ht := F.leaf3) (h := ?_))
      refine p_guardYes (h := ?_)
      refine p_num (h := ?_)
      refine p_pick (h := ?_)
      refine p_move (h := ?_)
      refine p_isW (s := 73) (b := false) (hc := by first | rfl | decide | (simp; done) | (simp; omega)) (h := ?_)
      refine p_guardYes (h := ?_)
      (first | refine p_fieldPtr (hf := F.fld92_3) (h := ?_) | refine p_fieldRef (hf := F.fld92_3) (h := ?_) | refine p_fieldRow (hf := F.fld92_3) (h := ?_))
      refine p_guardYes (h := ?_)
      (first | refine p_load (ht := F.leaf23) (h := ?_) | refine p_loadRef (ht := F.leaf23) (h := ?_))
      refine p_guardYes (h := ?_)
      (first | refine p_fieldPtr (hf := F.fld92_3) (h := ?_) | refine p_fieldRef (hf := F.fld92_3) (h := ?_) | refine p_fieldRow (hf := F.fld92_3) (h := ?_))
      refine p_guardYes (h := ?_)
      (first | refine p_load (ht := F.leaf23) (h := ?_) | refine p_loadRef (ht := F.leaf23) (h := ?_))
      refine p_guardYes (h := ?_)
      refine p_call (hx := rfl) (hb := ⟨Try.func43, by kernel_rfl, rfl⟩) (hf := sameWord11 _ (hr _ (List.getElem_mem hlt)).w) (h := ?_)
      refine p_guardYes (h := ?_)
      refine p_not (h := ?_)
      refine p_pick (h := ?_)
      refine p_move (h := ?_)
      refine p_isW (s := 81) (b := false) (hc := by first | rfl | decide | (simp; done) | (simp; omega)) (h := ?_)
      refine p_guardYes (h := ?_)
      (first | refine p_fieldPtr (hf := F.fld92_4) (h := ?_) | refine p_fieldRef (hf := F.fld92_4) (h := ?_) | refine p_fieldRow (hf := F.fld92_4) (h := ?_))
      refine p_guardYes (h := ?_)
      (first | refine p_loadA (ht := F.agg81) (hi := F.ti81) (h := ?_) | refine p_loadRefA (ht := F.agg81) (hi := F.ti81) (h := ?_))
      refine p_guardYes (h := ?_)
      (first | refine p_fieldPtr (hf := F.fld92_4) (h := ?_) | refine p_fieldRef (hf := F.fld92_4) (h := ?_) | refine p_fieldRow (hf := F.fld92_4) (h := ?_))
      refine p_guardYes (h := ?_)
      (first | refine p_loadA (ht := F.agg81) (hi := F.ti81) (h := ?_) | refine p_loadRefA (ht := F.agg81) (hi := F.ti81) (h := ?_))
      refine p_guardYes (h := ?_)
      refine p_call (hx := rfl) (hb := ⟨Try.func24, by kernel_rfl, rfl⟩) (hf := sameW rs[i].f rs[i].ps (hr _ (List.getElem_mem hlt)).f.one (hr _ (List.getElem_mem hlt)).f.all (hr _ (List.getElem_mem hlt)).f.len) (h := ?_)
      refine p_guardYes (h := ?_)
      refine p_not (h := ?_)
      refine p_pick (h := ?_)
      refine p_end ?_
      refine p_isC (s := 88) (b := false) (hc := by first | rfl | decide | (simp; done) | (simp; omega)) (h := ?_)
      refine p_condF (h := ?_)
      refine p_skip ?_
      refine p_region fun hf => ?_
      refine p_move (h := ?_)
      refine p_add (r := ((i + 1 : Nat) : Int)) (hr := by omega) (hb := by omega) (h := ?_)
      refine p_assign (h := ?_)
      refine p_end ?_
      refine p_some ?_
      refine ⟨⟨i + 1, hlt, eV_, eV_, eV_, oB_, oB_⟩, ?_⟩
      simp (decide := true) only [upd, e5, V.toN, ↓reduceIte]; omega
    · refine p_condF (h := ?_)
      refine p_exit ?_
      refine p_seq (p_region fun hf => ?_)
      refine p_assign (h := ?_)
      refine p_end ?_
      refine TrC.ret ?_
      refine p_ret1 (hp := by rfl)

theorem sameA (t d n k : Int) (sp : List Spc) (fin : List Int) (ts : List Trn) (hsp : sp.length ≤ 1000000000) (hfin : fin.length ≤ 1000000000) (hts : ts.length ≤ 1000000000) (hr : ∀ r ∈ ts, WFit r.f r.ps) : FnC Try.prog 23 [.agg [iV t, iV d, .sl 35 (sp.map spcV), iV n, iV k, .sl 3 (fin.map iV), .sl 112 (ts.map trnV)], .agg [iV t, iV d, .sl 35 (sp.map spcV), iV n, iV k, .sl 3 (fin.map iV), .sl 112 (ts.map trnV)]] (fun r => r = .bool true) := by
  refine FnC.of (fn := Try.f23) ⟨Try.func23, by kernel_rfl, rfl⟩ Try.ntmps23 (by simp) fun w0 S0 => ?_
  refine p_seq (p_region fun hf => ?_)
  refine p_box (h := ?_)
  refine p_box (h := ?_)
  refine p_assign (h := ?_)
  refine p_end ?_
  refine p_seq ?_
  refine p_seq (p_region fun hf => ?_)
  (first | refine p_fieldPtr (hf := F.fld69_0) (h := ?_) | refine p_fieldRef (hf := F.fld69_0) (h := ?_) | refine p_fieldRow (hf := F.fld69_0) (h := ?_))
  (first | refine p_loadA (ht := F.agg35) (hi := F.ti35) (h := ?_) | refine p_loadRefA (ht := F.agg35) (hi := F.ti35) (h := ?_))
  (first | refine p_fieldPtr (hf := F.fld69_0) (h := ?_) | refine p_fieldRef (hf := F.fld69_0) (h := ?_) | refine p_fieldRow (hf := F.fld69_0) (h := ?_))
  (first | refine p_loadA (ht := F.agg35) (hi := F.ti35) (h := ?_) | refine p_loadRefA (ht := F.agg35) (hi := F.ti35) (h := ?_))
  refine p_call (hx := rfl) (hb := ⟨Try.func42, by kernel_rfl, rfl⟩) (hf := sameSpace1 t d sp hsp) (h := ?_)
  refine p_not (h := ?_)
  refine p_move (h := ?_)
  refine p_isW (s := 15) (b := false) (hc := by first | rfl | decide | (simp; done) | (simp; omega)) (h := ?_)
  refine p_guardYes (h := ?_)
  (first | refine p_fieldPtr (hf := F.fld69_1) (h := ?_) | refine p_fieldRef (hf := F.fld69_1) (h := ?_) | refine p_fieldRow (hf := F.fld69_1) (h := ?_))
  refine p_guardYes (h := ?_)
  (first | refine p_load (ht := F.leaf3) (h := ?_) | refine p_loadRef (ht := F.leaf3) (h := ?_))
  refine p_guardYes (h := ?_)
  (first | refine p_fieldPtr (hf := F.fld69_1) (h := ?_) | refine p_fieldRef (hf := F.fld69_1) (h := ?_) | refine p_fieldRow (hf := F.fld69_1) (h := ?_))
  refine p_guardYes (h := ?_)
  (first | refine p_load (ht := F.leaf3) (h := ?_) | refine p_loadRef (ht := F.leaf3) (h := ?_))
  refine p_guardYes (h := ?_)
  refine p_num (h := ?_)
  refine p_pick (h := ?_)
  refine p_move (h := ?_)
  refine p_isW (s := 22) (b := false) (hc := by first | rfl | decide | (simp; done) | (simp; omega)) (h := ?_)
  refine p_guardYes (h := ?_)
  (first | refine p_fieldPtr (hf := F.fld69_2) (h := ?_) | refine p_fieldRef (hf := F.fld69_2) (h := ?_) | refine p_fieldRow (hf := F.fld69_2) (h := ?_))
  refine p_guardYes (h := ?_)
  (first | refine p_load (ht := F.leaf3) (h := ?_) | refine p_loadRef (ht := F.leaf3) (h := ?_))
  refine p_guardYes (h := ?_)
  (first | refine p_fieldPtr (hf := F.fld69_2) (h := ?_) | refine p_fieldRef (hf := F.fld69_2) (h := ?_) | refine p_fieldRow (hf := F.fld69_2) (h := ?_))
  refine p_guardYes (h := ?_)
  (first | refine p_load (ht := F.leaf3) (h := ?_) | refine p_loadRef (ht := F.leaf3) (h := ?_))
  refine p_guardYes (h := ?_)
  refine p_num (h := ?_)
  refine p_pick (h := ?_)
  refine p_move (h := ?_)
  refine p_isW (s := 29) (b := false) (hc := by first | rfl | decide | (simp; done) | (simp; omega)) (h := ?_)
  refine p_guardYes (h := ?_)
  (first | refine p_fieldPtr (hf := F.fld69_3) (h := ?_) | refine p_fieldRef (hf := F.fld69_3) (h := ?_) | refine p_fieldRow (hf := F.fld69_3) (h := ?_))
  refine p_guardYes (h := ?_)
  (first | refine p_load (ht := F.leaf23) (h := ?_) | refine p_loadRef (ht := F.leaf23) (h := ?_))
  refine p_guardYes (h := ?_)
  refine p_len (ht := Try.underlying23) (h := ?_)
  refine p_guardYes (h := ?_)
  (first | refine p_fieldPtr (hf := F.fld69_3) (h := ?_) | refine p_fieldRef (hf := F.fld69_3) (h := ?_) | refine p_fieldRow (hf := F.fld69_3) (h := ?_))
  refine p_guardYes (h := ?_)
  (first | refine p_load (ht := F.leaf23) (h := ?_) | refine p_loadRef (ht := F.leaf23) (h := ?_))
  refine p_guardYes (h := ?_)
  refine p_len (ht := Try.underlying23) (h := ?_)
  refine p_guardYes (h := ?_)
  refine p_num (h := ?_)
  refine p_pick (h := ?_)
  refine p_move (h := ?_)
  refine p_isW (s := 38) (b := false) (hc := by first | rfl | decide | (simp; done) | (simp; omega)) (h := ?_)
  refine p_guardYes (h := ?_)
  (first | refine p_fieldPtr (hf := F.fld69_4) (h := ?_) | refine p_fieldRef (hf := F.fld69_4) (h := ?_) | refine p_fieldRow (hf := F.fld69_4) (h := ?_))
  refine p_guardYes (h := ?_)
  (first | refine p_load (ht := F.leaf67) (h := ?_) | refine p_loadRef (ht := F.leaf67) (h := ?_))
  refine p_guardYes (h := ?_)
  refine p_len (ht := Try.underlying67) (h := ?_)
  refine p_guardYes (h := ?_)
  (first | refine p_fieldPtr (hf := F.fld69_4) (h := ?_) | refine p_fieldRef (hf := F.fld69_4) (h := ?_) | refine p_fieldRow (hf := F.fld69_4) (h := ?_))
  refine p_guardYes (h := ?_)
  (first | refine p_load (ht := F.leaf67) (h := ?_) | refine p_loadRef (ht := F.leaf67) (h := ?_))
  refine p_guardYes (h := ?_)
  refine p_len (ht := Try.underlying67) (h := ?_)
  refine p_guardYes (h := ?_)
  refine p_num (h := ?_)
  refine p_pick (h := ?_)
  refine p_end ?_
  refine p_isC (s := 46) (b := false) (hc := by first | rfl | decide | (simp; done) | (simp; omega)) (h := ?_)
  refine p_condF (h := ?_)
  refine p_skip ?_
  refine p_seq ?_
  refine p_seq (p_region fun hf => ?_)
  refine p_assign (h := ?_)
  refine p_end ?_
  refine TrC.block ?_
  refine p_loop (fun st => ∃ i : Nat, i ≤ fin.length ∧ st.env 2 = .ptr (0 + 1) 2 0 ∧ st.env 3 = .ptr (0 + 1) 3 0 ∧ st.env 5 = iV i ∧ st.obj (0 + 1) 2 = .cells 69 [iV t, iV d, .sl 35 (sp.map spcV), iV n, iV k, .sl 3 (fin.map iV), .sl 112 (ts.map trnV)] ∧ st.obj (0 + 1) 3 = .cells 69 [iV t, iV d, .sl 35 (sp.map spcV), iV n, iV k, .sl 3 (fin.map iV), .sl 112 (ts.map trnV)]) (fun st => fin.length - (st.env 5).toN) ?_ fun e ob g1 hI => ?_
  · exact ⟨0, by omega, eV_, eV_, eV_, oB_, oB_⟩
  · obtain ⟨i, hi, e2, e3, e5, o2, o3⟩ := hI
    dsimp only at e2 e3 e5 o2 o3
    have hE := (⟨e2, e3, e5, o2, o3⟩ : _ ∧ _ ∧ _ ∧ _ ∧ _)
    refine p_seq ?_
    refine p_seq (p_region fun hf => ?_)
    refine p_move (h := ?_)
    (first | refine p_fieldPtr (hf := F.fld69_3) (h := ?_) | refine p_fieldRef (hf := F.fld69_3) (h := ?_) | refine p_fieldRow (hf := F.fld69_3) (h := ?_))
    (first | refine p_load (ht := F.leaf23) (h := ?_) | refine p_loadRef (ht := F.leaf23) (h := ?_))
    refine p_len (ht := Try.underlying23) (h := ?_)
    refine p_num (h := ?_)
    refine p_end ?_
    refine p_splitC (s := 51) (ht := fun hc51 => ?_) (hf := fun hc51 => ?_)
    · refine p_condT (h := ?_)
      have hlt : i < fin.length := by simpa using hc51
      refine p_skip ?_
      refine p_seq ?_
      refine TrC.block ?_
      refine p_seq (p_draw F.mixed fun hf => ?_)
      (first | refine p_fieldPtr (hf := F.fld69_3) (h := ?_) | refine p_fieldRef (hf := F.fld69_3) (h := ?_) | refine p_fieldRow (hf := F.fld69_3) (h := ?_))
      (first | refine p_load (ht := F.leaf23) (h := ?_) | refine p_loadRef (ht := F.leaf23) (h := ?_))
      refine p_move (h := ?_)
      refine p_idxMap (j := i) (ht := Try.underlying23) (hi := F.ti3) (hij := rfl) (hj := hlt) (h := ?_)
      (first | refine p_load (ht := F.leaf3) (h := ?_) | refine p_loadRef (ht := F.leaf3) (h := ?_))
      (first | refine p_fieldPtr (hf := F.fld69_3) (h := ?_) | refine p_fieldRef (hf := F.fld69_3) (h := ?_) | refine p_fieldRow (hf := F.fld69_3) (h := ?_))
      (first | refine p_load (ht := F.leaf23) (h := ?_) | refine p_loadRef (ht := F.leaf23) (h := ?_))
      refine p_move (h := ?_)
      refine p_idxMap (j := i) (ht := Try.underlying23) (hi := F.ti3) (hij := rfl) (hj := hlt) (h := ?_)
      (first | refine p_load (ht := F.leaf3) (h := ?_) | refine p_loadRef (ht := F.leaf3) (h := ?_))
      refine p_num (h := ?_)
      refine p_endD ?_
      refine p_isC (s := 64) (b := false) (hc := by first | rfl | decide | (simp; done) | (simp; omega)) (h := ?_)
      refine p_condF (h := ?_)
      refine p_skip ?_
      refine p_region fun hf => ?_
      refine p_move (h := ?_)
      refine p_add (r := ((i + 1 : Nat) : Int)) (hr := by omega) (hb := by omega) (h := ?_)
      refine p_assign (h := ?_)
      refine p_end ?_
      refine p_some ?_
      refine ⟨⟨i + 1, hlt, eV_, eV_, eV_, oB_, oB_⟩, ?_⟩
      simp (decide := true) only [upd, e5, V.toN, ↓reduceIte]; omega
    · refine p_condF (h := ?_)
      refine p_exit ?_
      refine p_seq ?_
      refine p_seq (p_region fun hf => ?_)
      refine p_assign (h := ?_)
      refine p_end ?_
      refine TrC.block ?_
      refine p_loop (fun st => ∃ j : Nat, j ≤ ts.length ∧ st.env 2 = .ptr (0 + 1) 2 0 ∧ st.env 3 = .ptr (0 + 1) 3 0 ∧ st.env 6 = iV j ∧ st.obj (0 + 1) 2 = .cells 69 [iV t, iV d, .sl 35 (sp.map spcV), iV n, iV k, .sl 3 (fin.map iV), .sl 112 (ts.map trnV)] ∧ st.obj (0 + 1) 3 = .cells 69 [iV t, iV d, .sl 35 (sp.map spcV), iV n, iV k, .sl 3 (fin.map iV), .sl 112 (ts.map trnV)]) (fun st => ts.length - (st.env 6).toN) ?_ fun e ob g2 hI => ?_
      · exact ⟨0, by omega, eV_, eV_, eV_, oB_, oB_⟩
      · obtain ⟨j, hj, f2, f3, f6, p2, p3⟩ := hI
        dsimp only at f2 f3 f6 p2 p3
        have hE := (⟨f2, f3, f6, p2, p3⟩ : _ ∧ _ ∧ _ ∧ _ ∧ _)
        refine p_seq ?_
        refine p_seq (p_region fun hf => ?_)
        refine p_move (h := ?_)
        (first | refine p_fieldPtr (hf := F.fld69_4) (h := ?_) | refine p_fieldRef (hf := F.fld69_4) (h := ?_) | refine p_fieldRow (hf := F.fld69_4) (h := ?_))
        (first | refine p_load (ht := F.leaf67) (h := ?_) | refine p_loadRef (ht := F.leaf67) (h := ?_))
        refine p_len (ht := Try.underlying67) (h := ?_)
        refine p_num (h := ?_)
        refine p_end ?_
        refine p_splitC (s := 69) (ht := fun hc69 => ?_) (hf := fun hc69 => ?_)
        · refine p_condT (h := ?_)
          have hlt2 : j < ts.length := by simpa using hc69
          refine p_skip ?_
          refine p_seq ?_
          refine TrC.block ?_
          refine p_seq (p_draw F.mixed fun hf => ?_)
          (first | refine p_fieldPtr (hf := F.fld69_4) (h := ?_) | refine p_fieldRef (hf := F.fld69_4) (h := ?_) | refine p_fieldRow (hf := F.fld69_4) (h := ?_))
          (first | refine p_load (ht := F.leaf67) (h := ?_) | refine p_loadRef (ht := F.leaf67) (h := ?_))
          refine p_move (h := ?_)
          refine p_idxMap (j := j) (ht := Try.underlying67) (hi := F.ti112) (hij := rfl) (hj := hlt2) (h := ?_)
          (first | refine p_loadA (ht := F.agg112) (hi := F.ti112) (h := ?_) | refine p_loadRefA (ht := F.agg112) (hi := F.ti112) (h := ?_))
          (first | refine p_fieldPtr (hf := F.fld69_4) (h := ?_) | refine p_fieldRef (hf := F.fld69_4) (h := ?_) | refine p_fieldRow (hf := F.fld69_4) (h := ?_))
          (first | refine p_load (ht := F.leaf67) (h := ?_) | refine p_loadRef (ht := F.leaf67) (h := ?_))
          refine p_move (h := ?_)
          refine p_idxMap (j := j) (ht := Try.underlying67) (hi := F.ti112) (hij := rfl) (hj := hlt2) (h := ?_)
          (first | refine p_loadA (ht := F.agg112) (hi := F.ti112) (h := ?_) | refine p_loadRefA (ht := F.agg112) (hi := F.ti112) (h := ?_))
          refine p_alloc (hi := F.ti112) (h := ?_)
          refine p_alloc (hi := F.ti112) (h := ?_)
          refine p_storeAll F.ti112 (h := ?_)
          refine p_storeAll F.ti112 (h := ?_)
          refine p_endD ?_
          refine p_seq (p_region fun hf => ?_)
          (first | refine p_fieldPtr (hf := F.fld112_0) (h := ?_) | refine p_fieldRef (hf := F.fld112_0) (h := ?_) | refine p_fieldRow (hf := F.fld112_0) (h := ?_))
          (first | refine p_load (ht := F.leaf3) (h := ?_) | refine p_loadRef (ht := F.leaf3) (h := ?_))
          (first | refine p_fieldPtr (hf := F.fld112_0) (h := ?_) | refine p_fieldRef (hf := F.fld112_0) (h := ?_) | refine p_fieldRow (hf := F.fld112_0) (h := ?_))
          (first | refine p_load (ht := F.leaf3) (h := ?_) | refine p_loadRef (ht := F.leaf3) (h := ?_))
          refine p_num (h := ?_)
          refine p_move (h := ?_)
          refine p_isW (s := 87) (b := false) (hc := by first | rfl | decide | (simp; done) | (simp; omega)) (h := ?_)
          refine p_guardYes (h := ?_)
          (first | refine p_fieldPtr (hf := F.fld112_1) (h := ?_) | refine p_fieldRef (hf := F.fld112_1) (h := ?_) | refine p_fieldRow (hf := F.fld112_1) (h := ?_))
          refine p_guardYes (h := ?_)
          (first | refine p_load (ht := F.leaf3) (h := ?_) | refine p_loadRef (ht := F.leaf3) (h := ?_))
          refine p_guardYes (h := ?_)
          (first | refine p_fieldPtr (hf := F.fld112_1) (h := ?_) | refine p_fieldRef (hf := F.fld112_1) (h := ?_) | refine p_fieldRow (hf := F.fld112_1) (h := ?_))
          refine p_guardYes (h := ?_)
          (first | refine p_load (ht := F.leaf3) (h := ?_) | refine p_loadRef (ht := F.leaf3) (h := ?_))
          refine p_guardYes (h := ?_)
          refine p_num (h := ?_)
          refine p_pick (h := ?_)
          refine p_move (h := ?_)
          refine p_isW (s := 94) (b := false) (hc := by first | rfl | decide | (simp; done) | (simp; omega)) (h := ?_)
          refine p_guardYes (h := ?_)
          (first | refine p_fieldPtr (hf := F.fld112_2) (h := ?_) | refine p_fieldRef (hf := F.fld112_2) (h := ?_) | refine p_fieldRow (hf := F.fld112_2) (h := ?_))
          refine p_guardYes (h := ?_)
          (first | refine p_load (ht := F.leaf3) (h := ?_) | refine p_loadRef (ht := F.leaf3) (h := ?_))
          refine p_guardYes (h := ?_)
          (first | refine p_fieldPtr (hf := F.fld112_2) (h := ?_) | refine p_fieldRef (hf := F.fld112_2) (h := ?_) | refine p_fieldRow (hf := F.fld112_2) (h := ?_))
          refine p_guardYes (h := ?_)
          (first | refine p_load (ht := F.leaf3) (h := ?_) | refine p_loadRef (ht := F.leaf3) (h := ?_))
          refine p_guardYes (h := ?_)
          refine p_num (h := ?_)
          refine p_pick (h := ?_)
          refine p_move (h := ?_)
          refine p_isW (s := 101) (b := false) (hc := by first | rfl | decide | (simp; done) | (simp; omega)) (h := ?_)
          refine p_guardYes (h := ?_)
          (first | refine p_fieldPtr (hf := F.fld112_3) (h := ?_) | refine p_fieldRef (hf := F.fld112_3) (h := ?_) | refine p_fieldRow (hf := F.fld112_3) (h := ?_))
          refine p_guardYes (h := ?_)
          (first | refine p_loadA (ht := F.agg81) (hi := F.ti81) (h := ?_) | refine p_loadRefA (ht := F.agg81) (hi := F.ti81) (h := ?_))
          refine p_guardYes (h := ?_)
          (first | refine p_fieldPtr (hf := F.fld112_3) (h := ?_) | refine p_fieldRef (hf := F.fld112_3) (h := ?_) | refine p_fieldRow (hf := F.fld112_3) (h := ?_))
          refine p_guardYes (h := ?_)
          (first | refine p_loadA (ht := F.agg81) (hi := F.ti81) (h := ?_) | refine p_loadRefA (ht := F.agg81) (hi := F.ti81) (h := ?_))
          refine p_guardYes (h := ?_)
          refine p_call (hx := rfl) (hb := ⟨Try.func24, by kernel_rfl, rfl⟩) (hf := sameW ts[j].f ts[j].ps (hr _ (List.getElem_mem hlt2)).one (hr _ (List.getElem_mem hlt2)).all (hr _ (List.getElem_mem hlt2)).len) (h := ?_)
          refine p_guardYes (h := ?_)
          refine p_not (h := ?_)
          refine p_pick (h := ?_)
          refine p_end ?_
          refine p_isC (s := 108) (b := false) (hc := by first | rfl | decide | (simp; done) | (simp; omega)) (h := ?_)
          refine p_condF (h := ?_)
          refine p_skip ?_
          refine p_region fun hf => ?_
          refine p_move (h := ?_)
          refine p_add (r := ((j + 1 : Nat) : Int)) (hr := by omega) (hb := by omega) (h := ?_)
          refine p_assign (h := ?_)
          refine p_end ?_
          refine p_some ?_
          refine ⟨⟨j + 1, hlt2, eV_, eV_, eV_, oB_, oB_⟩, ?_⟩
          simp (decide := true) only [upd, f6, V.toN, ↓reduceIte]; omega
        · refine p_condF (h := ?_)
          refine p_exit ?_
          refine p_seq (p_region fun hf => ?_)
          refine p_assign (h := ?_)
          refine p_end ?_
          refine TrC.ret ?_
          refine p_ret1 (hp := by rfl)

end Go.Proofs.Ytfjciangbmjlmaa
