/-
  The reference's Same of facts, weights, spaces and words, walked, where both are the same: they answer true.
-/
import Derived.Test.YtfjciangbmjlmaaHi
set_option linter.unusedSimpArgs false
set_option linter.unusedVariables false
namespace Go.Proofs.Ytfjciangbmjlmaa
open Go.RowKit
abbrev celT (x : Int × Int × Int) : V := celV x.1 x.2.1 x.2.2
/-- A weight without parts. -/
structure Wgt where
  (cost gen : Int)
  (rows : List Int)
  (cells : List (Int × Int × Int))
abbrev wtV (w : Wgt) (ps : List V) : List V := wL w.cost w.gen (w.rows.map uV) (w.cells.map celT) ps
abbrev lwV (w : Wgt) : V := .agg (wtV w [])
structure Wgt.Fit (w : Wgt) : Prop where
  rows : w.rows.length ≤ 1000000000
  cells : w.cells.length ≤ 1000000000
theorem cell_ints : IntStruct Try.prog 110 [.u64, .i64, .i64] :=
  ⟨_, Try.underlying110, by kernel_rfl, by kernel_rfl, rfl, rfl, Try.underlying74, rfl, rfl, Try.underlying108, rfl, rfl, Try.underlying2, trivial⟩

theorem sameF (g : Int) (rows : List Int) (hl : rows.length ≤ 1000000000) : FnC Try.prog 44 [.agg [uV g, .sl 74 (rows.map uV)], .agg [uV g, .sl 74 (rows.map uV)]] (fun r => r = .bool true) := by
  refine FnC.of (fn := Try.f44) ⟨Try.func44, by kernel_rfl, rfl⟩ Try.ntmps44 (by simp) fun w0 S0 => ?_
  refine p_seq (p_region fun hf => ?_)
  refine p_box (h := ?_)
  refine p_box (h := ?_)
  refine p_assign (h := ?_)
  refine p_end ?_
  refine p_seq ?_
  refine p_seq (p_region fun hf => ?_)
  (first | refine p_fieldPtr (hf := F.fld77_0) (h := ?_) | refine p_fieldRef (hf := F.fld77_0) (h := ?_) | refine p_fieldRow (hf := F.fld77_0) (h := ?_))
  (first | refine p_load (ht := F.leaf74) (h := ?_) | refine p_loadRef (ht := F.leaf74) (h := ?_))
  (first | refine p_fieldPtr (hf := F.fld77_0) (h := ?_) | refine p_fieldRef (hf := F.fld77_0) (h := ?_) | refine p_fieldRow (hf := F.fld77_0) (h := ?_))
  (first | refine p_load (ht := F.leaf74) (h := ?_) | refine p_loadRef (ht := F.leaf74) (h := ?_))
  refine p_num (h := ?_)
  refine p_move (h := ?_)
  refine p_isW (s := 11) (b := false) (hc := by first | rfl | decide | (simp; done) | (simp; omega)) (h := ?_)
  refine p_guardYes (h := ?_)
  (first | refine p_fieldPtr (hf := F.fld77_1) (h := ?_) | refine p_fieldRef (hf := F.fld77_1) (h := ?_) | refine p_fieldRow (hf := F.fld77_1) (h := ?_))
  refine p_guardYes (h := ?_)
  (first | refine p_load (ht := F.leaf75) (h := ?_) | refine p_loadRef (ht := F.leaf75) (h := ?_))
  refine p_guardYes (h := ?_)
  refine p_len (ht := Try.underlying75) (h := ?_)
  refine p_guardYes (h := ?_)
  (first | refine p_fieldPtr (hf := F.fld77_1) (h := ?_) | refine p_fieldRef (hf := F.fld77_1) (h := ?_) | refine p_fieldRow (hf := F.fld77_1) (h := ?_))
  refine p_guardYes (h := ?_)
  (first | refine p_load (ht := F.leaf75) (h := ?_) | refine p_loadRef (ht := F.leaf75) (h := ?_))
  refine p_guardYes (h := ?_)
  refine p_len (ht := Try.underlying75) (h := ?_)
  refine p_guardYes (h := ?_)
  refine p_num (h := ?_)
  refine p_pick (h := ?_)
  refine p_end ?_
  refine p_isC (s := 19) (b := false) (hc := by first | rfl | decide | (simp; done) | (simp; omega)) (h := ?_)
  refine p_condF (h := ?_)
  refine p_skip ?_
  refine p_seq ?_
  refine p_seq (p_region fun hf => ?_)
  refine p_assign (h := ?_)
  refine p_end ?_
  refine TrC.block ?_
  refine p_loop (fun st => ∃ i : Nat, i ≤ rows.length ∧ st.env 2 = .ptr (0 + 1) 2 0 ∧ st.env 3 = .ptr (0 + 1) 3 0 ∧ st.env 5 = iV i ∧ st.obj (0 + 1) 2 = .cells 77 [uV g, .sl 74 (rows.map uV)] ∧ st.obj (0 + 1) 3 = .cells 77 [uV g, .sl 74 (rows.map uV)]) (fun st => rows.length - (st.env 5).toN) ?_ fun e ob g1 hI => ?_
  · exact ⟨0, by omega, eV_, eV_, eV_, oB_, oB_⟩
  · obtain ⟨i, hi, e2, e3, e5, o2, o3⟩ := hI
    dsimp only at e2 e3 e5 o2 o3
    have hE := (⟨e2, e3, e5, o2, o3⟩ : _ ∧ _ ∧ _ ∧ _ ∧ _)
    refine p_seq ?_
    refine p_seq (p_region fun hf => ?_)
    refine p_move (h := ?_)
    (first | refine p_fieldPtr (hf := F.fld77_1) (h := ?_) | refine p_fieldRef (hf := F.fld77_1) (h := ?_) | refine p_fieldRow (hf := F.fld77_1) (h := ?_))
    (first | refine p_load (ht := F.leaf75) (h := ?_) | refine p_loadRef (ht := F.leaf75) (h := ?_))
    refine p_len (ht := Try.underlying75) (h := ?_)
    refine p_num (h := ?_)
    refine p_end ?_
    refine p_splitC (s := 24) (ht := fun hc24 => ?_) (hf := fun hc24 => ?_)
    · refine p_condT (h := ?_)
      have hlt : i < rows.length := by simpa using hc24
      refine p_skip ?_
      refine p_seq ?_
      refine TrC.block ?_
      refine p_seq (p_draw F.mixed fun hf => ?_)
      (first | refine p_fieldPtr (hf := F.fld77_1) (h := ?_) | refine p_fieldRef (hf := F.fld77_1) (h := ?_) | refine p_fieldRow (hf := F.fld77_1) (h := ?_))
      (first | refine p_load (ht := F.leaf75) (h := ?_) | refine p_loadRef (ht := F.leaf75) (h := ?_))
      refine p_move (h := ?_)
      refine p_idxMap (j := i) (ht := Try.underlying75) (hi := F.ti74) (hij := rfl) (hj := hlt) (h := ?_)
      (first | refine p_load (ht := F.leaf74) (h := ?_) | refine p_loadRef (ht := F.leaf74) (h := ?_))
      (first | refine p_fieldPtr (hf := F.fld77_1) (h := ?_) | refine p_fieldRef (hf := F.fld77_1) (h := ?_) | refine p_fieldRow (hf := F.fld77_1) (h := ?_))
      (first | refine p_load (ht := F.leaf75) (h := ?_) | refine p_loadRef (ht := F.leaf75) (h := ?_))
      refine p_move (h := ?_)
      refine p_idxMap (j := i) (ht := Try.underlying75) (hi := F.ti74) (hij := rfl) (hj := hlt) (h := ?_)
      (first | refine p_load (ht := F.leaf74) (h := ?_) | refine p_loadRef (ht := F.leaf74) (h := ?_))
      refine p_num (h := ?_)
      refine p_endD ?_
      refine p_isC (s := 37) (b := false) (hc := by first | rfl | decide | (simp; done) | (simp; omega)) (h := ?_)
      refine p_condF (h := ?_)
      refine p_skip ?_
      refine p_region fun hf => ?_
      refine p_move (h := ?_)
      refine p_add (r := ((i + 1 : Nat) : Int)) (hr := by omega) (hb := by omega) (h := ?_)
      refine p_assign (h := ?_)
      refine p_end ?_
      refine p_some ?_
      refine ⟨⟨i + 1, hlt, eV_, eV_, eV_, oB_, oB_⟩, ?_⟩
      simp (decide := true) only [upd, e5, V.toN, ↓reduceIte]; omega
    · refine p_condF (h := ?_)
      refine p_exit ?_
      refine p_seq (p_region fun hf => ?_)
      refine p_assign (h := ?_)
      refine p_end ?_
      refine TrC.ret ?_
      refine p_ret1 (hp := by rfl)

theorem sameLeaf (w : Wgt) (hw : w.Fit) : FnC Try.prog 24 [.agg (wtV w []), .agg (wtV w [])] (fun r => r = .bool true) := by
  refine FnC.of (fn := Try.f24) ⟨Try.func24, by kernel_rfl, rfl⟩ Try.ntmps24 (by simp) fun w0 S0 => ?_
  have hlc := hw.cells
  refine p_seq (p_region fun hf => ?_)
  refine p_box (h := ?_)
  refine p_box (h := ?_)
  refine p_assign (h := ?_)
  refine p_end ?_
  refine p_seq ?_
  refine p_seq (p_region fun hf => ?_)
  (first | refine p_fieldPtr (hf := F.fld81_0) (h := ?_) | refine p_fieldRef (hf := F.fld81_0) (h := ?_) | refine p_fieldRow (hf := F.fld81_0) (h := ?_))
  (first | refine p_load (ht := F.leaf4) (h := ?_) | refine p_loadRef (ht := F.leaf4) (h := ?_))
  (first | refine p_fieldPtr (hf := F.fld81_0) (h := ?_) | refine p_fieldRef (hf := F.fld81_0) (h := ?_) | refine p_fieldRow (hf := F.fld81_0) (h := ?_))
  (first | refine p_load (ht := F.leaf4) (h := ?_) | refine p_loadRef (ht := F.leaf4) (h := ?_))
  refine p_neB (ht := Try.underlying4) (h := ?_)
  refine p_move (h := ?_)
  refine p_isW (s := 12) (b := false) (hc := by first | rfl | decide | (simp; done) | (simp; omega)) (h := ?_)
  refine p_guardYes (h := ?_)
  (first | refine p_fieldPtr (hf := F.fld81_1) (h := ?_) | refine p_fieldRef (hf := F.fld81_1) (h := ?_) | refine p_fieldRow (hf := F.fld81_1) (h := ?_))
  refine p_guardYes (h := ?_)
  (first | refine p_load (ht := F.leaf3) (h := ?_) | refine p_loadRef (ht := F.leaf3) (h := ?_))
  refine p_guardYes (h := ?_)
  (first | refine p_fieldPtr (hf := F.fld81_1) (h := ?_) | refine p_fieldRef (hf := F.fld81_1) (h := ?_) | refine p_fieldRow (hf := F.fld81_1) (h := ?_))
  refine p_guardYes (h := ?_)
  (first | refine p_load (ht := F.leaf3) (h := ?_) | refine p_loadRef (ht := F.leaf3) (h := ?_))
  refine p_guardYes (h := ?_)
  refine p_num (h := ?_)
  refine p_pick (h := ?_)
  refine p_move (h := ?_)
  refine p_isW (s := 19) (b := false) (hc := by first | rfl | decide | (simp; done) | (simp; omega)) (h := ?_)
  refine p_guardYes (h := ?_)
  (first | refine p_fieldPtr (hf := F.fld81_2) (h := ?_) | refine p_fieldRef (hf := F.fld81_2) (h := ?_) | refine p_fieldRow (hf := F.fld81_2) (h := ?_))
  refine p_guardYes (h := ?_)
  (first | refine p_loadA (ht := F.agg77) (hi := F.ti77) (h := ?_) | refine p_loadRefA (ht := F.agg77) (hi := F.ti77) (h := ?_))
  refine p_guardYes (h := ?_)
  (first | refine p_fieldPtr (hf := F.fld81_2) (h := ?_) | refine p_fieldRef (hf := F.fld81_2) (h := ?_) | refine p_fieldRow (hf := F.fld81_2) (h := ?_))
  refine p_guardYes (h := ?_)
  (first | refine p_loadA (ht := F.agg77) (hi := F.ti77) (h := ?_) | refine p_loadRefA (ht := F.agg77) (hi := F.ti77) (h := ?_))
  refine p_guardYes (h := ?_)
  refine p_call (hx := rfl) (hb := ⟨Try.func44, by kernel_rfl, rfl⟩) (hf := sameF _ _ hw.rows) (h := ?_)
  refine p_guardYes (h := ?_)
  refine p_not (h := ?_)
  refine p_pick (h := ?_)
  refine p_move (h := ?_)
  refine p_isW (s := 27) (b := false) (hc := by first | rfl | decide | (simp; done) | (simp; omega)) (h := ?_)
  refine p_guardYes (h := ?_)
  (first | refine p_fieldPtr (hf := F.fld81_3) (h := ?_) | refine p_fieldRef (hf := F.fld81_3) (h := ?_) | refine p_fieldRow (hf := F.fld81_3) (h := ?_))
  refine p_guardYes (h := ?_)
  (first | refine p_load (ht := F.leaf78) (h := ?_) | refine p_loadRef (ht := F.leaf78) (h := ?_))
  refine p_guardYes (h := ?_)
  refine p_len (ht := Try.underlying78) (h := ?_)
  refine p_guardYes (h := ?_)
  (first | refine p_fieldPtr (hf := F.fld81_3) (h := ?_) | refine p_fieldRef (hf := F.fld81_3) (h := ?_) | refine p_fieldRow (hf := F.fld81_3) (h := ?_))
  refine p_guardYes (h := ?_)
  (first | refine p_load (ht := F.leaf78) (h := ?_) | refine p_loadRef (ht := F.leaf78) (h := ?_))
  refine p_guardYes (h := ?_)
  refine p_len (ht := Try.underlying78) (h := ?_)
  refine p_guardYes (h := ?_)
  refine p_num (h := ?_)
  refine p_pick (h := ?_)
  refine p_move (h := ?_)
  refine p_isW (s := 36) (b := false) (hc := by first | rfl | decide | (simp; done) | (simp; omega)) (h := ?_)
  refine p_guardYes (h := ?_)
  (first | refine p_fieldPtr (hf := F.fld81_4) (h := ?_) | refine p_fieldRef (hf := F.fld81_4) (h := ?_) | refine p_fieldRow (hf := F.fld81_4) (h := ?_))
  refine p_guardYes (h := ?_)
  (first | refine p_load (ht := F.leaf79) (h := ?_) | refine p_loadRef (ht := F.leaf79) (h := ?_))
  refine p_guardYes (h := ?_)
  refine p_len (ht := Try.underlying79) (h := ?_)
  refine p_guardYes (h := ?_)
  (first | refine p_fieldPtr (hf := F.fld81_4) (h := ?_) | refine p_fieldRef (hf := F.fld81_4) (h := ?_) | refine p_fieldRow (hf := F.fld81_4) (h := ?_))
  refine p_guardYes (h := ?_)
  (first | refine p_load (ht := F.leaf79) (h := ?_) | refine p_loadRef (ht := F.leaf79) (h := ?_))
  refine p_guardYes (h := ?_)
  refine p_len (ht := Try.underlying79) (h := ?_)
  refine p_guardYes (h := ?_)
  refine p_num (h := ?_)
  refine p_pick (h := ?_)
  refine p_end ?_
  refine p_isC (s := 44) (b := false) (hc := by first | rfl | decide | (simp; done) | (simp; omega)) (h := ?_)
  refine p_condF (h := ?_)
  refine p_skip ?_
  refine p_seq ?_
  refine p_seq (p_region fun hf => ?_)
  refine p_assign (h := ?_)
  refine p_end ?_
  refine TrC.block ?_
  refine p_loop (fun st => ∃ i : Nat, i ≤ w.cells.length ∧ st.env 2 = .ptr (0 + 1) 2 0 ∧ st.env 3 = .ptr (0 + 1) 3 0 ∧ st.env 5 = iV i ∧ st.obj (0 + 1) 2 = .cells 81 (wtV w []) ∧ st.obj (0 + 1) 3 = .cells 81 (wtV w [])) (fun st => w.cells.length - (st.env 5).toN) ?_ fun e ob g1 hI => ?_
  · exact ⟨0, by omega, eV_, eV_, eV_, oB_, oB_⟩
  · obtain ⟨i, hi, e2, e3, e5, o2, o3⟩ := hI
    dsimp only at e2 e3 e5 o2 o3
    have hE := (⟨e2, e3, e5, o2, o3⟩ : _ ∧ _ ∧ _ ∧ _ ∧ _)
    refine p_seq ?_
    refine p_seq (p_region fun hf => ?_)
    refine p_move (h := ?_)
    (first | refine p_fieldPtr (hf := F.fld81_3) (h := ?_) | refine p_fieldRef (hf := F.fld81_3) (h := ?_) | refine p_fieldRow (hf := F.fld81_3) (h := ?_))
    (first | refine p_load (ht := F.leaf78) (h := ?_) | refine p_loadRef (ht := F.leaf78) (h := ?_))
    refine p_len (ht := Try.underlying78) (h := ?_)
    refine p_num (h := ?_)
    refine p_end ?_
    refine p_splitC (s := 49) (ht := fun hc49 => ?_) (hf := fun hc49 => ?_)
    · refine p_condT (h := ?_)
      have hlt : i < w.cells.length := by simpa using hc49
      refine p_skip ?_
      refine p_seq ?_
      refine TrC.block ?_
      refine p_seq (p_draw F.mixed fun hf => ?_)
      (first | refine p_fieldPtr (hf := F.fld81_3) (h := ?_) | refine p_fieldRef (hf := F.fld81_3) (h := ?_) | refine p_fieldRow (hf := F.fld81_3) (h := ?_))
      (first | refine p_load (ht := F.leaf78) (h := ?_) | refine p_loadRef (ht := F.leaf78) (h := ?_))
      refine p_move (h := ?_)
      refine p_idxMap (j := i) (ht := Try.underlying78) (hi := F.ti110) (hij := rfl) (hj := hlt) (h := ?_)
      (first | refine p_loadA (ht := F.agg110) (hi := F.ti110) (h := ?_) | refine p_loadRefA (ht := F.agg110) (hi := F.ti110) (h := ?_))
      (first | refine p_fieldPtr (hf := F.fld81_3) (h := ?_) | refine p_fieldRef (hf := F.fld81_3) (h := ?_) | refine p_fieldRow (hf := F.fld81_3) (h := ?_))
      (first | refine p_load (ht := F.leaf78) (h := ?_) | refine p_loadRef (ht := F.leaf78) (h := ?_))
      refine p_move (h := ?_)
      refine p_idxMap (j := i) (ht := Try.underlying78) (hi := F.ti110) (hij := rfl) (hj := hlt) (h := ?_)
      (first | refine p_loadA (ht := F.agg110) (hi := F.ti110) (h := ?_) | refine p_loadRefA (ht := F.agg110) (hi := F.ti110) (h := ?_))
      refine p_neIntsL (b := false) (ht := cell_ints) (hb := by simp) (h := ?_)
      refine p_endD ?_
      refine p_isC (s := 62) (b := false) (hc := by first | rfl | decide | (simp; done) | (simp; omega)) (h := ?_)
      refine p_condF (h := ?_)
      refine p_skip ?_
      refine p_region fun hf => ?_
      refine p_move (h := ?_)
      refine p_add (r := ((i + 1 : Nat) : Int)) (hr := by omega) (hb := by omega) (h := ?_)
      refine p_assign (h := ?_)
      refine p_end ?_
      refine p_some ?_
      refine ⟨⟨i + 1, hlt, eV_, eV_, eV_, oB_, oB_⟩, ?_⟩
      simp (decide := true) only [upd, e5, V.toN, ↓reduceIte]; omega
    · refine p_condF (h := ?_)
      refine p_exit ?_
      refine p_seq ?_
      refine p_seq (p_region fun hf => ?_)
      refine p_assign (h := ?_)
      refine p_end ?_
      refine TrC.block ?_
      refine p_loop (fun st => st.env 2 = .ptr (0 + 1) 2 0 ∧ st.env 6 = iV 0 ∧ st.obj (0 + 1) 2 = .cells 81 (wtV w [])) (fun st => 0) ?_ fun e ob g2 hI => ?_
      · exact ⟨eV_, eV_, oB_⟩
      · obtain ⟨f2, f6, p2⟩ := hI
        dsimp only at f2 f6 p2
        have hE := (⟨f2, f6, p2⟩ : _ ∧ _ ∧ _)
        refine p_seq ?_
        refine p_seq (p_region fun hf => ?_)
        refine p_move (h := ?_)
        (first | refine p_fieldPtr (hf := F.fld81_4) (h := ?_) | refine p_fieldRef (hf := F.fld81_4) (h := ?_) | refine p_fieldRow (hf := F.fld81_4) (h := ?_))
        (first | refine p_load (ht := F.leaf79) (h := ?_) | refine p_loadRef (ht := F.leaf79) (h := ?_))
        refine p_len (ht := Try.underlying79) (h := ?_)
        refine p_num (h := ?_)
        refine p_end ?_
        refine p_isC (s := 67) (b := false) (hc := by first | rfl | decide | (simp; done) | (simp; omega)) (h := ?_)
        refine p_condF (h := ?_)
        refine p_exit ?_
        refine p_seq (p_region fun hf => ?_)
        refine p_assign (h := ?_)
        refine p_end ?_
        refine TrC.ret ?_
        refine p_ret1 (hp := by rfl)

theorem sameW (w : Wgt) (ps : List Wgt) (hw : w.Fit) (hp : ∀ p ∈ ps, p.Fit) (hpl : ps.length ≤ 1000000000) : FnC Try.prog 24 [.agg (wtV w (ps.map lwV)), .agg (wtV w (ps.map lwV))] (fun r => r = .bool true) := by
  refine FnC.of (fn := Try.f24) ⟨Try.func24, by kernel_rfl, rfl⟩ Try.ntmps24 (by simp) fun w0 S0 => ?_
  have hlc := hw.cells
  refine p_seq (p_region fun hf => ?_)
  refine p_box (h := ?_)
  refine p_box (h := ?_)
  refine p_assign (h := ?_)
  refine p_end ?_
  refine p_seq ?_
  refine p_seq (p_region fun hf => ?_)
  (first | refine p_fieldPtr (hf := F.fld81_0) (h := ?_) | refine p_fieldRef (hf := F.fld81_0) (h := ?_) | refine p_fieldRow (hf := F.fld81_0) (h := ?_))
  (first | refine p_load (ht := F.leaf4) (h := ?_) | refine p_loadRef (ht := F.leaf4) (h := ?_))
  (first | refine p_fieldPtr (hf := F.fld81_0) (h := ?_) | refine p_fieldRef (hf := F.fld81_0) (h := ?_) | refine p_fieldRow (hf := F.fld81_0) (h := ?_))
  (first | refine p_load (ht := F.leaf4) (h := ?_) | refine p_loadRef (ht := F.leaf4) (h := ?_))
  refine p_neB (ht := Try.underlying4) (h := ?_)
  refine p_move (h := ?_)
  refine p_isW (s := 12) (b := false) (hc := by first | rfl | decide | (simp; done) | (simp; omega)) (h := ?_)
  refine p_guardYes (h := ?_)
  (first | refine p_fieldPtr (hf := F.fld81_1) (h := ?_) | refine p_fieldRef (hf := F.fld81_1) (h := ?_) | refine p_fieldRow (hf := F.fld81_1) (h := ?_))
  refine p_guardYes (h := ?_)
  (first | refine p_load (ht := F.leaf3) (h := ?_) | refine p_loadRef (ht := F.leaf3) (h := ?_))
  refine p_guardYes (h := ?_)
  (first | refine p_fieldPtr (hf := F.fld81_1) (h := ?_) | refine p_fieldRef (hf := F.fld81_1) (h := ?_) | refine p_fieldRow (hf := F.fld81_1) (h := ?_))
  refine p_guardYes (h := ?_)
  (first | refine p_load (ht := F.leaf3) (h := ?_) | refine p_loadRef (ht := F.leaf3) (h := ?_))
  refine p_guardYes (h := ?_)
  refine p_num (h := ?_)
  refine p_pick (h := ?_)
  refine p_move (h := ?_)
  refine p_isW (s := 19) (b := false) (hc := by first | rfl | decide | (simp; done) | (simp; omega)) (h := ?_)
  refine p_guardYes (h := ?_)
  (first | refine p_fieldPtr (hf := F.fld81_2) (h := ?_) | refine p_fieldRef (hf := F.fld81_2) (h := ?_) | refine p_fieldRow (hf := F.fld81_2) (h := ?_))
  refine p_guardYes (h := ?_)
  (first | refine p_loadA (ht := F.agg77) (hi := F.ti77) (h := ?_) | refine p_loadRefA (ht := F.agg77) (hi := F.ti77) (h := ?_))
  refine p_guardYes (h := ?_)
  (first | refine p_fieldPtr (hf := F.fld81_2) (h := ?_) | refine p_fieldRef (hf := F.fld81_2) (h := ?_) | refine p_fieldRow (hf := F.fld81_2) (h := ?_))
  refine p_guardYes (h := ?_)
  (first | refine p_loadA (ht := F.agg77) (hi := F.ti77) (h := ?_) | refine p_loadRefA (ht := F.agg77) (hi := F.ti77) (h := ?_))
  refine p_guardYes (h := ?_)
  refine p_call (hx := rfl) (hb := ⟨Try.func44, by kernel_rfl, rfl⟩) (hf := sameF _ _ hw.rows) (h := ?_)
  refine p_guardYes (h := ?_)
  refine p_not (h := ?_)
  refine p_pick (h := ?_)
  refine p_move (h := ?_)
  refine p_isW (s := 27) (b := false) (hc := by first | rfl | decide | (simp; done) | (simp; omega)) (h := ?_)
  refine p_guardYes (h := ?_)
  (first | refine p_fieldPtr (hf := F.fld81_3) (h := ?_) | refine p_fieldRef (hf := F.fld81_3) (h := ?_) | refine p_fieldRow (hf := F.fld81_3) (h := ?_))
  refine p_guardYes (h := ?_)
  (first | refine p_load (ht := F.leaf78) (h := ?_) | refine p_loadRef (ht := F.leaf78) (h := ?_))
  refine p_guardYes (h := ?_)
  refine p_len (ht := Try.underlying78) (h := ?_)
  refine p_guardYes (h := ?_)
  (first | refine p_fieldPtr (hf := F.fld81_3) (h := ?_) | refine p_fieldRef (hf := F.fld81_3) (h := ?_) | refine p_fieldRow (hf := F.fld81_3) (h := ?_))
  refine p_guardYes (h := ?_)
  (first | refine p_load (ht := F.leaf78) (h := ?_) | refine p_loadRef (ht := F.leaf78) (h := ?_))
  refine p_guardYes (h := ?_)
  refine p_len (ht := Try.underlying78) (h := ?_)
  refine p_guardYes (h := ?_)
  refine p_num (h := ?_)
  refine p_pick (h := ?_)
  refine p_move (h := ?_)
  refine p_isW (s := 36) (b := false) (hc := by first | rfl | decide | (simp; done) | (simp; omega)) (h := ?_)
  refine p_guardYes (h := ?_)
  (first | refine p_fieldPtr (hf := F.fld81_4) (h := ?_) | refine p_fieldRef (hf := F.fld81_4) (h := ?_) | refine p_fieldRow (hf := F.fld81_4) (h := ?_))
  refine p_guardYes (h := ?_)
  (first | refine p_load (ht := F.leaf79) (h := ?_) | refine p_loadRef (ht := F.leaf79) (h := ?_))
  refine p_guardYes (h := ?_)
  refine p_len (ht := Try.underlying79) (h := ?_)
  refine p_guardYes (h := ?_)
  (first | refine p_fieldPtr (hf := F.fld81_4) (h := ?_) | refine p_fieldRef (hf := F.fld81_4) (h := ?_) | refine p_fieldRow (hf := F.fld81_4) (h := ?_))
  refine p_guardYes (h := ?_)
  (first | refine p_load (ht := F.leaf79) (h := ?_) | refine p_loadRef (ht := F.leaf79) (h := ?_))
  refine p_guardYes (h := ?_)
  refine p_len (ht := Try.underlying79) (h := ?_)
  refine p_guardYes (h := ?_)
  refine p_num (h := ?_)
  refine p_pick (h := ?_)
  refine p_end ?_
  refine p_isC (s := 44) (b := false) (hc := by first | rfl | decide | (simp; done) | (simp; omega)) (h := ?_)
  refine p_condF (h := ?_)
  refine p_skip ?_
  refine p_seq ?_
  refine p_seq (p_region fun hf => ?_)
  refine p_assign (h := ?_)
  refine p_end ?_
  refine TrC.block ?_
  refine p_loop (fun st => ∃ i : Nat, i ≤ w.cells.length ∧ st.env 2 = .ptr (0 + 1) 2 0 ∧ st.env 3 = .ptr (0 + 1) 3 0 ∧ st.env 5 = iV i ∧ st.obj (0 + 1) 2 = .cells 81 (wtV w (ps.map lwV)) ∧ st.obj (0 + 1) 3 = .cells 81 (wtV w (ps.map lwV))) (fun st => w.cells.length - (st.env 5).toN) ?_ fun e ob g1 hI => ?_
  · exact ⟨0, by omega, eV_, eV_, eV_, oB_, oB_⟩
  · obtain ⟨i, hi, e2, e3, e5, o2, o3⟩ := hI
    dsimp only at e2 e3 e5 o2 o3
    have hE := (⟨e2, e3, e5, o2, o3⟩ : _ ∧ _ ∧ _ ∧ _ ∧ _)
    refine p_seq ?_
    refine p_seq (p_region fun hf => ?_)
    refine p_move (h := ?_)
    (first | refine p_fieldPtr (hf := F.fld81_3) (h := ?_) | refine p_fieldRef (hf := F.fld81_3) (h := ?_) | refine p_fieldRow (hf := F.fld81_3) (h := ?_))
    (first | refine p_load (ht := F.leaf78) (h := ?_) | refine p_loadRef (ht := F.leaf78) (h := ?_))
    refine p_len (ht := Try.underlying78) (h := ?_)
    refine p_num (h := ?_)
    refine p_end ?_
    refine p_splitC (s := 49) (ht := fun hc49 => ?_) (hf := fun hc49 => ?_)
    · refine p_condT (h := ?_)
      have hlt : i < w.cells.length := by simpa using hc49
      refine p_skip ?_
      refine p_seq ?_
      refine TrC.block ?_
      refine p_seq (p_draw F.mixed fun hf => ?_)
      (first | refine p_fieldPtr (hf := F.fld81_3) (h := ?_) | refine p_fieldRef (hf := F.fld81_3) (h := ?_) | refine p_fieldRow (hf := F.fld81_3) (h := ?_))
      (first | refine p_load (ht := F.leaf78) (h := ?_) | refine p_loadRef (ht := F.leaf78) (h := ?_))
      refine p_move (h := ?_)
      refine p_idxMap (j := i) (ht := Try.underlying78) (hi := F.ti110) (hij := rfl) (hj := hlt) (h := ?_)
      (first | refine p_loadA (ht := F.agg110) (hi := F.ti110) (h := ?_) | refine p_loadRefA (ht := F.agg110) (hi := F.ti110) (h := ?_))
      (first | refine p_fieldPtr (hf := F.fld81_3) (h := ?_) | refine p_fieldRef (hf := F.fld81_3) (h := ?_) | refine p_fieldRow (hf := F.fld81_3) (h := ?_))
      (first | refine p_load (ht := F.leaf78) (h := ?_) | refine p_loadRef (ht := F.leaf78) (h := ?_))
      refine p_move (h := ?_)
      refine p_idxMap (j := i) (ht := Try.underlying78) (hi := F.ti110) (hij := rfl) (hj := hlt) (h := ?_)
      (first | refine p_loadA (ht := F.agg110) (hi := F.ti110) (h := ?_) | refine p_loadRefA (ht := F.agg110) (hi := F.ti110) (h := ?_))
      refine p_neIntsL (b := false) (ht := cell_ints) (hb := by simp) (h := ?_)
      refine p_endD ?_
      refine p_isC (s := 62) (b := false) (hc := by first | rfl | decide | (simp; done) | (simp; omega)) (h := ?_)
      refine p_condF (h := ?_)
      refine p_skip ?_
      refine p_region fun hf => ?_
      refine p_move (h := ?_)
      refine p_add (r := ((i + 1 : Nat) : Int)) (hr := by omega) (hb := by omega) (h := ?_)
      refine p_assign (h := ?_)
      refine p_end ?_
      refine p_some ?_
      refine ⟨⟨i + 1, hlt, eV_, eV_, eV_, oB_, oB_⟩, ?_⟩
      simp (decide := true) only [upd, e5, V.toN, ↓reduceIte]; omega
    · refine p_condF (h := ?_)
      refine p_exit ?_
      refine p_seq ?_
      refine p_seq (p_region fun hf => ?_)
      refine p_assign (h := ?_)
      refine p_end ?_
      refine TrC.block ?_
      refine p_loop (fun st => ∃ j : Nat, j ≤ ps.length ∧ st.env 2 = .ptr (0 + 1) 2 0 ∧ st.env 3 = .ptr (0 + 1) 3 0 ∧ st.env 6 = iV j ∧ st.obj (0 + 1) 2 = .cells 81 (wtV w (ps.map lwV)) ∧ st.obj (0 + 1) 3 = .cells 81 (wtV w (ps.map lwV))) (fun st => ps.length - (st.env 6).toN) ?_ fun e ob g2 hI => ?_
      · exact ⟨0, by omega, eV_, eV_, eV_, oB_, oB_⟩
      · obtain ⟨j, hj, f2, f3, f6, p2, p3⟩ := hI
        dsimp only at f2 f3 f6 p2 p3
        have hE := (⟨f2, f3, f6, p2, p3⟩ : _ ∧ _ ∧ _ ∧ _ ∧ _)
        refine p_seq ?_
        refine p_seq (p_region fun hf => ?_)
        refine p_move (h := ?_)
        (first | refine p_fieldPtr (hf := F.fld81_4) (h := ?_) | refine p_fieldRef (hf := F.fld81_4) (h := ?_) | refine p_fieldRow (hf := F.fld81_4) (h := ?_))
        (first | refine p_load (ht := F.leaf79) (h := ?_) | refine p_loadRef (ht := F.leaf79) (h := ?_))
        refine p_len (ht := Try.underlying79) (h := ?_)
        refine p_num (h := ?_)
        refine p_end ?_
        refine p_splitC (s := 67) (ht := fun hc67 => ?_) (hf := fun hc67 => ?_)
        · refine p_condT (h := ?_)
          have hlt2 : j < ps.length := by simpa using hc67
          refine p_skip ?_
          refine p_seq ?_
          refine TrC.block ?_
          refine p_seq (p_draw F.mixed fun hf => ?_)
          (first | refine p_fieldPtr (hf := F.fld81_4) (h := ?_) | refine p_fieldRef (hf := F.fld81_4) (h := ?_) | refine p_fieldRow (hf := F.fld81_4) (h := ?_))
          (first | refine p_load (ht := F.leaf79) (h := ?_) | refine p_loadRef (ht := F.leaf79) (h := ?_))
          refine p_move (h := ?_)
          refine p_idxMap (j := j) (ht := Try.underlying79) (hi := F.ti81) (hij := rfl) (hj := hlt2) (h := ?_)
          (first | refine p_loadA (ht := F.agg81) (hi := F.ti81) (h := ?_) | refine p_loadRefA (ht := F.agg81) (hi := F.ti81) (h := ?_))
          (first | refine p_fieldPtr (hf := F.fld81_4) (h := ?_) | refine p_fieldRef (hf := F.fld81_4) (h := ?_) | refine p_fieldRow (hf := F.fld81_4) (h := ?_))
          (first | refine p_load (ht := F.leaf79) (h := ?_) | refine p_loadRef (ht := F.leaf79) (h := ?_))
          refine p_move (h := ?_)
          refine p_idxMap (j := j) (ht := Try.underlying79) (hi := F.ti81) (hij := rfl) (hj := hlt2) (h := ?_)
          (first | refine p_loadA (ht := F.agg81) (hi := F.ti81) (h := ?_) | refine p_loadRefA (ht := F.agg81) (hi := F.ti81) (h := ?_))
          refine p_call (hx := rfl) (hb := ⟨Try.func24, by kernel_rfl, rfl⟩) (hf := sameLeaf ps[j] (hp _ (List.getElem_mem hlt2))) (h := ?_)
          refine p_not (h := ?_)
          refine p_endD ?_
          refine p_isC (s := 81) (b := false) (hc := by first | rfl | decide | (simp; done) | (simp; omega)) (h := ?_)
          refine p_condF (h := ?_)
          refine p_skip ?_
          refine p_region fun hf => ?_
          refine p_move (h := ?_)
          refine p_add (r := ((j + 1 : Nat) : Int)) (hr := by omega) (hb := by omega) (h := ?_)
          refine p_assign (h := ?_)
          refine p_end ?_
          refine p_some ?_
          refine ⟨⟨j + 1, hlt2, eV_, eV_, eV_, oB_, oB_⟩, ?_⟩
          simp (decide := true) only [upd, f6, V.toN, ↓reduceIte]; omega
        · refine p_condF (h := ?_)
          refine p_exit ?_
          refine p_seq (p_region fun hf => ?_)
          refine p_assign (h := ?_)
          refine p_end ?_
          refine TrC.ret ?_
          refine p_ret1 (hp := by rfl)

theorem sameSpace0 (s : Spc) : FnC Try.prog 42 [.agg (sL s.t s.d []), .agg (sL s.t s.d [])] (fun r => r = .bool true) := by
  refine FnC.of (fn := Try.f42) ⟨Try.func42, by kernel_rfl, rfl⟩ Try.ntmps42 (by simp) fun w0 S0 => ?_
  refine p_seq (p_region fun hf => ?_)
  refine p_box (h := ?_)
  refine p_box (h := ?_)
  refine p_assign (h := ?_)
  refine p_end ?_
  refine p_seq ?_
  refine p_seq (p_region fun hf => ?_)
  (first | refine p_fieldPtr (hf := F.fld35_0) (h := ?_) | refine p_fieldRef (hf := F.fld35_0) (h := ?_) | refine p_fieldRow (hf := F.fld35_0) (h := ?_))
  (first | refine p_load (ht := F.leaf32) (h := ?_) | refine p_loadRef (ht := F.leaf32) (h := ?_))
  (first | refine p_fieldPtr (hf := F.fld35_0) (h := ?_) | refine p_fieldRef (hf := F.fld35_0) (h := ?_) | refine p_fieldRow (hf := F.fld35_0) (h := ?_))
  (first | refine p_load (ht := F.leaf32) (h := ?_) | refine p_loadRef (ht := F.leaf32) (h := ?_))
  refine p_num (h := ?_)
  refine p_move (h := ?_)
  refine p_isW (s := 11) (b := false) (hc := by first | rfl | decide | (simp; done) | (simp; omega)) (h := ?_)
  refine p_guardYes (h := ?_)
  (first | refine p_fieldPtr (hf := F.fld35_1) (h := ?_) | refine p_fieldRef (hf := F.fld35_1) (h := ?_) | refine p_fieldRow (hf := F.fld35_1) (h := ?_))
  refine p_guardYes (h := ?_)
  (first | refine p_load (ht := F.leaf3) (h := ?_) | refine p_loadRef (ht := F.leaf3) (h := ?_))
  refine p_guardYes (h := ?_)
  (first | refine p_fieldPtr (hf := F.fld35_1) (h := ?_) | refine p_fieldRef (hf := F.fld35_1) (h := ?_) | refine p_fieldRow (hf := F.fld35_1) (h := ?_))
  refine p_guardYes (h := ?_)
  (first | refine p_load (ht := F.leaf3) (h := ?_) | refine p_loadRef (ht := F.leaf3) (h := ?_))
  refine p_guardYes (h := ?_)
  refine p_num (h := ?_)
  refine p_pick (h := ?_)
  refine p_move (h := ?_)
  refine p_isW (s := 18) (b := false) (hc := by first | rfl | decide | (simp; done) | (simp; omega)) (h := ?_)
  refine p_guardYes (h := ?_)
  (first | refine p_fieldPtr (hf := F.fld35_2) (h := ?_) | refine p_fieldRef (hf := F.fld35_2) (h := ?_) | refine p_fieldRow (hf := F.fld35_2) (h := ?_))
  refine p_guardYes (h := ?_)
  (first | refine p_load (ht := F.leaf33) (h := ?_) | refine p_loadRef (ht := F.leaf33) (h := ?_))
  refine p_guardYes (h := ?_)
  refine p_len (ht := Try.underlying33) (h := ?_)
  refine p_guardYes (h := ?_)
  (first | refine p_fieldPtr (hf := F.fld35_2) (h := ?_) | refine p_fieldRef (hf := F.fld35_2) (h := ?_) | refine p_fieldRow (hf := F.fld35_2) (h := ?_))
  refine p_guardYes (h := ?_)
  (first | refine p_load (ht := F.leaf33) (h := ?_) | refine p_loadRef (ht := F.leaf33) (h := ?_))
  refine p_guardYes (h := ?_)
  refine p_len (ht := Try.underlying33) (h := ?_)
  refine p_guardYes (h := ?_)
  refine p_num (h := ?_)
  refine p_pick (h := ?_)
  refine p_end ?_
  refine p_isC (s := 26) (b := false) (hc := by first | rfl | decide | (simp; done) | (simp; omega)) (h := ?_)
  refine p_condF (h := ?_)
  refine p_skip ?_
  refine p_seq ?_
  refine p_seq (p_region fun hf => ?_)
  refine p_assign (h := ?_)
  refine p_end ?_
  refine TrC.block ?_
  refine p_loop (fun st => st.env 2 = .ptr (0 + 1) 2 0 ∧ st.env 5 = iV 0 ∧ st.obj (0 + 1) 2 = .cells 35 (sL s.t s.d [])) (fun st => 0) ?_ fun e ob g1 hI => ?_
  · exact ⟨eV_, eV_, oB_⟩
  · obtain ⟨e2, e5, o2⟩ := hI
    dsimp only at e2 e5 o2
    have hE := (⟨e2, e5, o2⟩ : _ ∧ _ ∧ _)
    refine p_seq ?_
    refine p_seq (p_region fun hf => ?_)
    refine p_move (h := ?_)
    (first | refine p_fieldPtr (hf := F.fld35_2) (h := ?_) | refine p_fieldRef (hf := F.fld35_2) (h := ?_) | refine p_fieldRow (hf := F.fld35_2) (h := ?_))
    (first | refine p_load (ht := F.leaf33) (h := ?_) | refine p_loadRef (ht := F.leaf33) (h := ?_))
    refine p_len (ht := Try.underlying33) (h := ?_)
    refine p_num (h := ?_)
    refine p_end ?_
    refine p_isC (s := 31) (b := false) (hc := by first | rfl | decide | (simp; done) | (simp; omega)) (h := ?_)
    refine p_condF (h := ?_)
    refine p_exit ?_
    refine p_seq (p_region fun hf => ?_)
    refine p_assign (h := ?_)
    refine p_end ?_
    refine TrC.ret ?_
    refine p_ret1 (hp := by rfl)

theorem sameSpace1 (t d : Int) (ps : List Spc) (hpl : ps.length ≤ 1000000000) : FnC Try.prog 42 [.agg (sL t d (ps.map spcV)), .agg (sL t d (ps.map spcV))] (fun r => r = .bool true) := by
  refine FnC.of (fn := Try.f42) ⟨Try.func42, by kernel_rfl, rfl⟩ Try.ntmps42 (by simp) fun w0 S0 => ?_
  refine p_seq (p_region fun hf => ?_)
  refine p_box (h := ?_)
  refine p_box (h := ?_)
  refine p_assign (h := ?_)
  refine p_end ?_
  refine p_seq ?_
  refine p_seq (p_region fun hf => ?_)
  (first | refine p_fieldPtr (hf := F.fld35_0) (h := ?_) | refine p_fieldRef (hf := F.fld35_0) (h := ?_) | refine p_fieldRow (hf := F.fld35_0) (h := ?_))
  (first | refine p_load (ht := F.leaf32) (h := ?_) | refine p_loadRef (ht := F.leaf32) (h := ?_))
  (first | refine p_fieldPtr (hf := F.fld35_0) (h := ?_) | refine p_fieldRef (hf := F.fld35_0) (h := ?_) | refine p_fieldRow (hf := F.fld35_0) (h := ?_))
  (first | refine p_load (ht := F.leaf32) (h := ?_) | refine p_loadRef (ht := F.leaf32) (h := ?_))
  refine p_num (h := ?_)
  refine p_move (h := ?_)
  refine p_isW (s := 11) (b := false) (hc := by first | rfl | decide | (simp; done) | (simp; omega)) (h := ?_)
  refine p_guardYes (h := ?_)
  (first | refine p_fieldPtr (hf := F.fld35_1) (h := ?_) | refine p_fieldRef (hf := F.fld35_1) (h := ?_) | refine p_fieldRow (hf := F.fld35_1) (h := ?_))
  refine p_guardYes (h := ?_)
  (first | refine p_load (ht := F.leaf3) (h := ?_) | refine p_loadRef (ht := F.leaf3) (h := ?_))
  refine p_guardYes (h := ?_)
  (first | refine p_fieldPtr (hf := F.fld35_1) (h := ?_) | refine p_fieldRef (hf := F.fld35_1) (h := ?_) | refine p_fieldRow (hf := F.fld35_1) (h := ?_))
  refine p_guardYes (h := ?_)
  (first | refine p_load (ht := F.leaf3) (h := ?_) | refine p_loadRef (ht := F.leaf3) (h := ?_))
  refine p_guardYes (h := ?_)
  refine p_num (h := ?_)
  refine p_pick (h := ?_)
  refine p_move (h := ?_)
  refine p_isW (s := 18) (b := false) (hc := by first | rfl | decide | (simp; done) | (simp; omega)) (h := ?_)
  refine p_guardYes (h := ?_)
  (first | refine p_fieldPtr (hf := F.fld35_2) (h := ?_) | refine p_fieldRef (hf := F.fld35_2) (h := ?_) | refine p_fieldRow (hf := F.fld35_2) (h := ?_))
  refine p_guardYes (h := ?_)
  (first | refine p_load (ht := F.leaf33) (h := ?_) | refine p_loadRef (ht := F.leaf33) (h := ?_))
  refine p_guardYes (h := ?_)
  refine p_len (ht := Try.underlying33) (h := ?_)
  refine p_guardYes (h := ?_)
  (first | refine p_fieldPtr (hf := F.fld35_2) (h := ?_) | refine p_fieldRef (hf := F.fld35_2) (h := ?_) | refine p_fieldRow (hf := F.fld35_2) (h := ?_))
  refine p_guardYes (h := ?_)
  (first | refine p_load (ht := F.leaf33) (h := ?_) | refine p_loadRef (ht := F.leaf33) (h := ?_))
  refine p_guardYes (h := ?_)
  refine p_len (ht := Try.underlying33) (h := ?_)
  refine p_guardYes (h := ?_)
  refine p_num (h := ?_)
  refine p_pick (h := ?_)
  refine p_end ?_
  refine p_isC (s := 26) (b := false) (hc := by first | rfl | decide | (simp; done) | (simp; omega)) (h := ?_)
  refine p_condF (h := ?_)
  refine p_skip ?_
  refine p_seq ?_
  refine p_seq (p_region fun hf => ?_)
  refine p_assign (h := ?_)
  refine p_end ?_
  refine TrC.block ?_
  refine p_loop (fun st => ∃ i : Nat, i ≤ ps.length ∧ st.env 2 = .ptr (0 + 1) 2 0 ∧ st.env 3 = .ptr (0 + 1) 3 0 ∧ st.env 5 = iV i ∧ st.obj (0 + 1) 2 = .cells 35 (sL t d (ps.map spcV)) ∧ st.obj (0 + 1) 3 = .cells 35 (sL t d (ps.map spcV))) (fun st => ps.length - (st.env 5).toN) ?_ fun e ob g1 hI => ?_
  · exact ⟨0, by omega, eV_, eV_, eV_, oB_, oB_⟩
  · obtain ⟨i, hi, e2, e3, e5, o2, o3⟩ := hI
    dsimp only at e2 e3 e5 o2 o3
    have hE := (⟨e2, e3, e5, o2, o3⟩ : _ ∧ _ ∧ _ ∧ _ ∧ _)
    refine p_seq ?_
    refine p_seq (p_region fun hf => ?_)
    refine p_move (h := ?_)
    (first | refine p_fieldPtr (hf := F.fld35_2) (h := ?_) | refine p_fieldRef (hf := F.fld35_2) (h := ?_) | refine p_fieldRow (hf := F.fld35_2) (h := ?_))
    (first | refine p_load (ht := F.leaf33) (h := ?_) | refine p_loadRef (ht := F.leaf33) (h := ?_))
    refine p_len (ht := Try.underlying33) (h := ?_)
    refine p_num (h := ?_)
    refine p_end ?_
    refine p_splitC (s := 31) (ht := fun hc31 => ?_) (hf := fun hc31 => ?_)
    · refine p_condT (h := ?_)
      have hlt : i < ps.length := by simpa using hc31
      refine p_skip ?_
      refine p_seq ?_
      refine TrC.block ?_
      refine p_seq (p_draw F.mixed fun hf => ?_)
      (first | refine p_fieldPtr (hf := F.fld35_2) (h := ?_) | refine p_fieldRef (hf := F.fld35_2) (h := ?_) | refine p_fieldRow (hf := F.fld35_2) (h := ?_))
      (first | refine p_load (ht := F.leaf33) (h := ?_) | refine p_loadRef (ht := F.leaf33) (h := ?_))
      refine p_move (h := ?_)
      refine p_idxMap (j := i) (ht := Try.underlying33) (hi := F.ti35) (hij := rfl) (hj := hlt) (h := ?_)
      (first | refine p_loadA (ht := F.agg35) (hi := F.ti35) (h := ?_) | refine p_loadRefA (ht := F.agg35) (hi := F.ti35) (h := ?_))
      (first | refine p_fieldPtr (hf := F.fld35_2) (h := ?_) | refine p_fieldRef (hf := F.fld35_2) (h := ?_) | refine p_fieldRow (hf := F.fld35_2) (h := ?_))
      (first | refine p_load (ht := F.leaf33) (h := ?_) | refine p_loadRef (ht := F.leaf33) (h := ?_))
      refine p_move (h := ?_)
      refine p_idxMap (j := i) (ht := Try.underlying33) (hi := F.ti35) (hij := rfl) (hj := hlt) (h := ?_)
      (first | refine p_loadA (ht := F.agg35) (hi := F.ti35) (h := ?_) | refine p_loadRefA (ht := F.agg35) (hi := F.ti35) (h := ?_))
      refine p_call (hx := rfl) (hb := ⟨Try.func42, by kernel_rfl, rfl⟩) (hf := sameSpace0 ps[i]) (h := ?_)
      refine p_not (h := ?_)
      refine p_endD ?_
      refine p_isC (s := 45) (b := false) (hc := by first | rfl | decide | (simp; done) | (simp; omega)) (h := ?_)
      refine p_condF (h := ?_)
      refine p_skip ?_
      refine p_region fun hf => ?_
      refine p_move (h := ?_)
      refine p_add (r := ((i + 1 : Nat) : Int)) (hr := by omega) (hb := by omega) (h := ?_)
      refine p_assign (h := ?_)
      refine p_end ?_
      refine p_some ?_
      refine ⟨⟨i + 1, hlt, eV_, eV_, eV_, oB_, oB_⟩, ?_⟩
      simp (decide := true) only [upd, e5, V.toN, ↓reduceIte]; omega
    · refine p_condF (h := ?_)
      refine p_exit ?_
      refine p_seq (p_region fun hf => ?_)
      refine p_assign (h := ?_)
      refine p_end ?_
      refine TrC.ret ?_
      refine p_ret1 (hp := by rfl)

theorem sameWord11 (l : List Int) (hl : l.length ≤ 1000000000) : FnC Try.prog 43 [.sl 3 (l.map iV), .sl 3 (l.map iV)] (fun r => r = .bool true) := by
  refine FnC.of (fn := Try.f43) ⟨Try.func43, by kernel_rfl, rfl⟩ Try.ntmps43 (by simp) fun w0 S0 => ?_
  refine p_seq (p_region fun hf => ?_)
  refine p_assign (h := ?_)
  refine p_end ?_
  refine p_seq ?_
  refine p_seq (p_region fun hf => ?_)
  refine p_move (h := ?_)
  refine p_len (ht := Try.underlying23) (h := ?_)
  refine p_move (h := ?_)
  refine p_len (ht := Try.underlying23) (h := ?_)
  refine p_num (h := ?_)
  refine p_end ?_
  refine p_isC (s := 10) (b := false) (hc := by first | rfl | decide | (simp; done) | (simp; omega)) (h := ?_)
  refine p_condF (h := ?_)
  refine p_skip ?_
  refine p_seq ?_
  refine p_seq (p_region fun hf => ?_)
  refine p_assign (h := ?_)
  refine p_end ?_
  refine TrC.block ?_
  refine p_loop (fun st => ∃ i : Nat, i ≤ l.length ∧ st.env 0 = .sl 3 (l.map iV) ∧ st.env 1 = .sl 3 (l.map iV) ∧ st.env 5 = iV i) (fun st => l.length - (st.env 5).toN) ?_ fun e ob g1 hI => ?_
  · exact ⟨0, by omega, eV_, eV_, eV_⟩
  · obtain ⟨i, hi, e0, e1, e5⟩ := hI
    dsimp only at e0 e1 e5
    have hE := (⟨e0, e1, e5⟩ : _ ∧ _ ∧ _)
    refine p_seq ?_
    refine p_seq (p_region fun hf => ?_)
    refine p_move (h := ?_)
    refine p_move (h := ?_)
    refine p_len (ht := Try.underlying23) (h := ?_)
    refine p_num (h := ?_)
    refine p_end ?_
    refine p_splitC (s := 14) (ht := fun hc14 => ?_) (hf := fun hc14 => ?_)
    · refine p_condT (h := ?_)
      have hlt : i < l.length := by simpa using hc14
      refine p_skip ?_
      refine p_seq ?_
      refine TrC.block ?_
      refine p_seq (p_draw F.mixed fun hf => ?_)
      refine p_move (h := ?_)
      refine p_move (h := ?_)
      refine p_idxMap (j := i) (ht := Try.underlying23) (hi := F.ti3) (hij := rfl) (hj := hlt) (h := ?_)
      (first | refine p_load (ht := F.leaf3) (h := ?_) | refine p_loadRef (ht := F.leaf3) (h := ?_))
      refine p_move (h := ?_)
      refine p_move (h := ?_)
      refine p_idxMap (j := i) (ht := Try.underlying23) (hi := F.ti3) (hij := rfl) (hj := hlt) (h := ?_)
      (first | refine p_load (ht := F.leaf3) (h := ?_) | refine p_loadRef (ht := F.leaf3) (h := ?_))
      refine p_num (h := ?_)
      refine p_endD ?_
      refine p_isC (s := 25) (b := false) (hc := by first | rfl | decide | (simp; done) | (simp; omega)) (h := ?_)
      refine p_condF (h := ?_)
      refine p_skip ?_
      refine p_region fun hf => ?_
      refine p_move (h := ?_)
      refine p_add (r := ((i + 1 : Nat) : Int)) (hr := by omega) (hb := by omega) (h := ?_)
      refine p_assign (h := ?_)
      refine p_end ?_
      refine p_some ?_
      refine ⟨⟨i + 1, hlt, eV_, eV_, eV_⟩, ?_⟩
      simp (decide := true) only [upd, e5, V.toN, ↓reduceIte]; omega
    · refine p_condF (h := ?_)
      refine p_exit ?_
      refine p_seq (p_region fun hf => ?_)
      refine p_assign (h := ?_)
      refine p_end ?_
      refine TrC.ret ?_
      refine p_ret1 (hp := by rfl)

end Go.Proofs.Ytfjciangbmjlmaa
