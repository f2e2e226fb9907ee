/-
  The reference's bits, facts and taint weights, walked: they answer as package facts.
-/
import Derived.Test.YtfjciangbmjlmaaHd
set_option linter.unusedSimpArgs false
set_option linter.unusedVariables false
namespace Go.Proofs.Ytfjciangbmjlmaa
open Go.RowKit
theorem bit_next {k : Nat} (h : k + 1 < 64) : V.int .u64 (IntKind.u64.wrap (bitI k * 2)) = uV (bitI (k + 1)) := by
  have h1 := bit_range h
  have h2 : bitI k * 2 = bitI (k + 1) := by simp [bitI, Int.pow_succ]
  rw [h2, IntWalk.u64_in _ (by omega)]

theorem worth01 (i : Nat) (h : i < 64) : FnC Try.prog 81 [iV i] (fun r => r = uV (bitI i)) := by
  refine FnC.of (fn := Try.f81) ⟨Try.func81, by kernel_rfl, rfl⟩ Try.ntmps81 (by simp) fun w0 S0 => ?_
  refine p_seq (p_region fun hf => ?_)
  refine p_assign (h := ?_)
  refine p_end ?_
  refine p_seq (p_region fun hf => ?_)
  refine p_assign (h := ?_)
  refine p_end ?_
  refine p_seq ?_
  refine TrC.block ?_
  refine p_loop (fun st => ∃ k : Nat, k ≤ i ∧ st.env 0 = iV ((i : Int) - k) ∧ st.env 3 = uV (bitI k)) (fun st => (st.env 0).toN) ?_ fun e ob g1 hI => ?_
  · exact ⟨0, by omega, by refine Eq.trans eV_ ?_; simp, eV_⟩
  · obtain ⟨k, hk, e0, e3⟩ := hI
    dsimp only at e0 e3
    have hE := (⟨e0, e3⟩ : _ ∧ _)
    refine p_seq ?_
    refine p_seq (p_region fun hf => ?_)
    refine p_move (h := ?_)
    refine p_num (h := ?_)
    refine p_end ?_
    refine p_splitC (s := 5) (ht := fun hc5 => ?_) (hf := fun hc5 => ?_)
    · refine p_condT (h := ?_)
      refine p_skip ?_
      refine p_seq ?_
      refine TrC.block ?_
      refine p_region fun hf => ?_
      refine p_move (h := ?_)
      refine p_num (h := ?_)
      refine p_assign (h := ?_)
      refine p_end ?_
      refine p_region fun hf => ?_
      refine p_move (h := ?_)
      refine p_sub (hr := rfl) (hb := by omega) (h := ?_)
      refine p_assign (h := ?_)
      refine p_end ?_
      refine p_some ?_
      have hlt : k < i := by simp at hc5; omega
      refine ⟨⟨k + 1, by omega, by rw [show ((i : Int) - ((k + 1 : Nat) : Int)) = (i : Int) - k - 1 by omega]; exact eV_, by rw [← bit_next (by omega)]; exact eV_⟩, ?_⟩
      simp (decide := true) only [upd, e0, V.toN, ↓reduceIte]; omega
    · refine p_condF (h := ?_)
      refine p_exit ?_
      refine p_seq (p_region fun hf => ?_)
      refine p_move (h := ?_)
      refine p_assign (h := ?_)
      refine p_end ?_
      refine TrC.ret ?_
      refine p_ret1 (hp := by rw [show k = i by simp at hc5; omega])

theorem dim03 (n : Nat) (h : n ≤ 64) : FnC Try.prog 95 [iV n] (fun r => r = .bool true) := by
  refine FnC.of (fn := Try.f95) ⟨Try.func95, by kernel_rfl, rfl⟩ Try.ntmps95 (by simp) fun w0 S0 => ?_
  refine p_seq (p_region fun hf => ?_)
  refine p_assign (h := ?_)
  refine p_end ?_
  refine p_seq (p_region fun hf => ?_)
  refine p_move (h := ?_)
  refine p_num (h := ?_)
  refine p_move (h := ?_)
  refine p_isW (s := 5) (b := true) (hc := by first | rfl | decide | (simp; done) | (simp; omega)) (h := ?_)
  refine p_guardYes (h := ?_)
  refine p_move (h := ?_)
  refine p_guardYes (h := ?_)
  refine p_num (h := ?_)
  refine p_pick (h := ?_)
  refine p_assign (h := ?_)
  refine p_end ?_
  refine TrC.ret ?_
  refine p_ret1 (hp := by first | rfl | (simp; omega))

theorem or03 (a b : Int) : FnC Try.prog 96 [uV a, uV b] (fun r => r = uV (orI a b)) := by
  refine FnC.of (fn := Try.f96) ⟨Try.func96, by kernel_rfl, rfl⟩ Try.ntmps96 (by simp) fun w0 S0 => ?_
  refine p_seq (p_region fun hf => ?_)
  refine p_assign (h := ?_)
  refine p_end ?_
  refine p_seq (p_region fun hf => ?_)
  refine p_move (h := ?_)
  refine p_move (h := ?_)
  refine p_num (h := ?_)
  refine p_assign (h := ?_)
  refine p_end ?_
  refine TrC.ret ?_
  refine p_ret1 (hp := by rfl)

theorem one03R (n : Nat) (h : n ≤ 64) : FnC Try.prog 79 [iV n] (fun r => r = .tup [.agg [uV 0, .sl 74 (rows1 n)], iV 0]) := by
  refine FnC.of (fn := Try.f79) ⟨Try.func79, by kernel_rfl, rfl⟩ Try.ntmps79 (by simp) fun w0 S0 => ?_
  refine p_seq (p_region fun hf => ?_)
  refine p_alloc (hi := F.ti77) (h := ?_)
  refine p_assign (h := ?_)
  refine p_end ?_
  refine p_seq ?_
  refine p_seq (p_region fun hf => ?_)
  refine p_move (h := ?_)
  refine p_call (hx := rfl) (hb := ⟨Try.func95, by kernel_rfl, rfl⟩) (hf := dim03 n h) (h := ?_)
  refine p_not (h := ?_)
  refine p_end ?_
  refine p_isC (s := 8) (b := false) (hc := by first | rfl | decide | (simp; done) | (simp; omega)) (h := ?_)
  refine p_condF (h := ?_)
  refine p_skip ?_
  refine p_seq (p_region fun hf => ?_)
  refine p_build (hi := F.ti77) (hpl := F.pl77) (h := ?_)
  refine p_alloc (hi := F.ti77) (h := ?_)
  refine p_storeAll F.ti77 (h := ?_)
  refine p_end ?_
  refine p_seq ?_
  refine p_seq (p_region fun hf => ?_)
  refine p_assign (h := ?_)
  refine p_end ?_
  refine p_nilCell (g1 := 0 + 1 + 1 + 1) (d1 := 4) (i := 1) (el := 74) 21 (h := ?_)
  refine TrC.block ?_
  refine p_loop (fun st => ∃ i r : Nat, i ≤ n ∧ st.env 0 = iV n ∧ st.env 2 = .ptr (0 + 1) 2 0 ∧ st.env 4 = .ptr (0 + 1 + 1 + 1) 4 0 ∧ st.env 5 = iV i ∧ st.obj (0 + 1) 2 = .cells 77 [uV 0, .nil] ∧ st.obj (0 + 1 + 1 + 1) 4 = .cells 77 [uV 0, .row r 21 i] ∧ st.obj r 21 = .row 74 (rows1 i)) (fun st => n - (st.env 5).toN) ?_ fun e ob g1 hI => ?_
  · exact ⟨0, _, by omega, eV_, eV_, eV_, eV_, oB_, oB_, oB_⟩
  · obtain ⟨i, r, hi, e0, e2, e4, e5, o2, o4, o21⟩ := hI
    dsimp only at e0 e2 e4 e5 o2 o4 o21
    have hE := (⟨e0, e2, e4, e5, o2, o4, o21⟩ : _ ∧ _ ∧ _ ∧ _ ∧ _ ∧ _ ∧ _)
    refine p_seq ?_
    refine p_seq (p_region fun hf => ?_)
    refine p_move (h := ?_)
    refine p_move (h := ?_)
    refine p_num (h := ?_)
    refine p_end ?_
    refine p_splitC (s := 13) (ht := fun hc13 => ?_) (hf := fun hc13 => ?_)
    · refine p_condT (h := ?_)
      have hlt : i < n := (by simpa using hc13)
      refine p_skip ?_
      refine p_seq ?_
      refine TrC.block ?_
      refine p_draw F.mixed fun hf => ?_
      (first | refine p_fieldPtr (hf := F.fld77_1) (h := ?_) | refine p_fieldRef (hf := F.fld77_1) (h := ?_) | refine p_fieldRow (hf := F.fld77_1) (h := ?_))
      (first | refine p_load (ht := F.leaf75) (h := ?_) | refine p_loadRef (ht := F.leaf75) (h := ?_))
      refine p_move (h := ?_)
      refine p_call (hx := rfl) (hb := ⟨Try.func81, by kernel_rfl, rfl⟩) (hf := worth01 i (by omega)) (h := ?_)
      refine p_buildSlice (ht := Try.underlying75) (hi := F.ti74) (h := ?_)
      refine p_append (k := i + 1) (ht := Try.underlying75) (hi := F.ti74) (hnl := by simp [rows1]) (hy := by exact ⟨.inl oB_, rfl⟩) (hm := by simp [rows1]) (hlim := by omega) (h := ?_)
      (first | refine p_fieldPtr (hf := F.fld77_1) (h := ?_) | refine p_fieldRef (hf := F.fld77_1) (h := ?_) | refine p_fieldRow (hf := F.fld77_1) (h := ?_))
      refine p_store1 F.ti75 (h := ?_)
      refine p_endD ?_
      refine p_region fun hf => ?_
      refine p_move (h := ?_)
      refine p_add (r := ((i + 1 : Nat) : Int)) (hr := by omega) (hb := by omega) (h := ?_)
      refine p_assign (h := ?_)
      refine p_end ?_
      refine p_some ?_
      refine ⟨⟨i + 1, _, by omega, eV_, eV_, eV_, eV_, oB_, oB_, by refine Eq.trans oB_ ?_; rw [rows1, rows1, List.range_succ, List.map_append]; rfl⟩, ?_⟩
      simp (decide := true) only [upd, e5, V.toN, ↓reduceIte]; omega
    · refine p_condF (h := ?_)
      have hie : n = i := by simp at hc13; omega
      subst hie
      refine p_exit ?_
      refine p_seq (p_region fun hf => ?_)
      (first | refine p_loadA (ht := F.agg77) (hi := F.ti77) (h := ?_) | refine p_loadRefA (ht := F.agg77) (hi := F.ti77) (h := ?_))
      refine p_storeAll F.ti77 (h := ?_)
      refine p_assign (h := ?_)
      refine p_end ?_
      refine TrC.ret ?_
      refine p_freeze (g1 := r) (d1 := 21) (h := ?_)
      refine p_cellSl (g1 := 0 + 1) (d1 := 2) (i := 1) (hn := by simp [rows1]) (h := ?_)
      refine p_rets2 rfl (res_cell eV_ oB_ F.agg77 F.ti77 rfl rfl) ⟨eV_, rfl⟩ rfl

theorem one03Ro (n : Nat) (h : n ≤ 64) : FnO Try.prog 79 [iV n] 74 (rows1 n) (fun g d => .tup [.agg [uV 0, .row g d n], iV 0]) := by
  refine FnO.of (fn := Try.f79) ⟨Try.func79, by kernel_rfl, rfl⟩ Try.ntmps79 (by simp) fun w0 S0 => ?_
  refine p_seq (p_region fun hf => ?_)
  refine p_alloc (hi := F.ti77) (h := ?_)
  refine p_assign (h := ?_)
  refine p_end ?_
  refine p_seq ?_
  refine p_seq (p_region fun hf => ?_)
  refine p_move (h := ?_)
  refine p_call (hx := rfl) (hb := ⟨Try.func95, by kernel_rfl, rfl⟩) (hf := dim03 n h) (h := ?_)
  refine p_not (h := ?_)
  refine p_end ?_
  refine p_isC (s := 8) (b := false) (hc := by first | rfl | decide | (simp; done) | (simp; omega)) (h := ?_)
  refine p_condF (h := ?_)
  refine p_skip ?_
  refine p_seq (p_region fun hf => ?_)
  refine p_build (hi := F.ti77) (hpl := F.pl77) (h := ?_)
  refine p_alloc (hi := F.ti77) (h := ?_)
  refine p_storeAll F.ti77 (h := ?_)
  refine p_end ?_
  refine p_seq ?_
  refine p_seq (p_region fun hf => ?_)
  refine p_assign (h := ?_)
  refine p_end ?_
  refine p_nilCell (g1 := 0 + 1 + 1 + 1) (d1 := 4) (i := 1) (el := 74) 21 (h := ?_)
  refine TrC.block ?_
  refine p_loop (fun st => ∃ i r : Nat, i ≤ n ∧ st.env 0 = iV n ∧ st.env 2 = .ptr (0 + 1) 2 0 ∧ st.env 4 = .ptr (0 + 1 + 1 + 1) 4 0 ∧ st.env 5 = iV i ∧ st.obj (0 + 1) 2 = .cells 77 [uV 0, .nil] ∧ st.obj (0 + 1 + 1 + 1) 4 = .cells 77 [uV 0, .row r 21 i] ∧ st.obj r 21 = .row 74 (rows1 i)) (fun st => n - (st.env 5).toN) ?_ fun e ob g1 hI => ?_
  · exact ⟨0, _, by omega, eV_, eV_, eV_, eV_, oB_, oB_, oB_⟩
  · obtain ⟨i, r, hi, e0, e2, e4, e5, o2, o4, o21⟩ := hI
    dsimp only at e0 e2 e4 e5 o2 o4 o21
    have hE := (⟨e0, e2, e4, e5, o2, o4, o21⟩ : _ ∧ _ ∧ _ ∧ _ ∧ _ ∧ _ ∧ _)
    refine p_seq ?_
    refine p_seq (p_region fun hf => ?_)
    refine p_move (h := ?_)
    refine p_move (h := ?_)
    refine p_num (h := ?_)
    refine p_end ?_
    refine p_splitC (s := 13) (ht := fun hc13 => ?_) (hf := fun hc13 => ?_)
    · refine p_condT (h := ?_)
      have hlt : i < n := (by simpa using hc13)
      refine p_skip ?_
      refine p_seq ?_
      refine TrC.block ?_
      refine p_draw F.mixed fun hf => ?_
      (first | refine p_fieldPtr (hf := F.fld77_1) (h := ?_) | refine p_fieldRef (hf := F.fld77_1) (h := ?_) | refine p_fieldRow (hf := F.fld77_1) (h := ?_))
      (first | refine p_load (ht := F.leaf75) (h := ?_) | refine p_loadRef (ht := F.leaf75) (h := ?_))
      refine p_move (h := ?_)
      refine p_call (hx := rfl) (hb := ⟨Try.func81, by kernel_rfl, rfl⟩) (hf := worth01 i (by omega)) (h := ?_)
      refine p_buildSlice (ht := Try.underlying75) (hi := F.ti74) (h := ?_)
      refine p_append (k := i + 1) (ht := Try.underlying75) (hi := F.ti74) (hnl := by simp [rows1]) (hy := by exact ⟨.inl oB_, rfl⟩) (hm := by simp [rows1]) (hlim := by omega) (h := ?_)
      (first | refine p_fieldPtr (hf := F.fld77_1) (h := ?_) | refine p_fieldRef (hf := F.fld77_1) (h := ?_) | refine p_fieldRow (hf := F.fld77_1) (h := ?_))
      refine p_store1 F.ti75 (h := ?_)
      refine p_endD ?_
      refine p_region fun hf => ?_
      refine p_move (h := ?_)
      refine p_add (r := ((i + 1 : Nat) : Int)) (hr := by omega) (hb := by omega) (h := ?_)
      refine p_assign (h := ?_)
      refine p_end ?_
      refine p_some ?_
      refine ⟨⟨i + 1, _, by omega, eV_, eV_, eV_, eV_, oB_, oB_, by refine Eq.trans oB_ ?_; rw [rows1, rows1, List.range_succ, List.map_append]; rfl⟩, ?_⟩
      simp (decide := true) only [upd, e5, V.toN, ↓reduceIte]; omega
    · refine p_condF (h := ?_)
      have hie : n = i := by simp at hc13; omega
      subst hie
      refine p_exit ?_
      refine p_seq (p_region fun hf => ?_)
      (first | refine p_loadA (ht := F.agg77) (hi := F.ti77) (h := ?_) | refine p_loadRefA (ht := F.agg77) (hi := F.ti77) (h := ?_))
      refine p_storeAll F.ti77 (h := ?_)
      refine p_assign (h := ?_)
      refine p_end ?_
      refine TrC.ret ?_
      refine p_retO2 r 21 (v1 := fun g d => .agg [uV 0, .row g d n]) (v2 := fun _ _ => iV 0) rfl oB_ ⟨_, _, _, _, eV_, oB_, F.agg77, _, _, _, F.ti77, rfl, rfl⟩ eV_ rfl (Ren.tup (.cons (.agg (.cons (.out rfl) (.cons (.row n) .nil))) (.cons (.out rfl) .nil)))

theorem set03R (n x : Nat) (y : Int) (h : n ≤ 64) (hx : x < n) (hy : -2 ≤ y ∧ y < n) : FnC Try.prog 80 [iV n, iV x, iV y] (fun r => r = .tup [.agg [uV (genS x y), .sl 74 (rowsS n x y)], iV 0]) := by
  refine FnC.of (fn := Try.f80) ⟨Try.func80, by kernel_rfl, rfl⟩ Try.ntmps80 (by simp) fun w0 S0 => ?_
  refine p_seq (p_region fun hf => ?_)
  refine p_alloc (hi := F.ti77) (h := ?_)
  refine p_assign (h := ?_)
  refine p_end ?_
  refine p_seq ?_
  refine p_seq (p_region fun hf => ?_)
  refine p_move (h := ?_)
  refine p_call (hx := rfl) (hb := ⟨Try.func95, by kernel_rfl, rfl⟩) (hf := dim03 n h) (h := ?_)
  refine p_not (h := ?_)
  refine p_end ?_
  refine p_isC (s := 12) (b := false) (hc := by first | rfl | decide | (simp; done) | (simp; omega)) (h := ?_)
  refine p_condF (h := ?_)
  refine p_skip ?_
  refine p_seq ?_
  refine p_seq (p_region fun hf => ?_)
  refine p_move (h := ?_)
  refine p_num (h := ?_)
  refine p_move (h := ?_)
  refine p_isW (s := 16) (b := false) (hc := by first | rfl | decide | (simp; done) | (simp; omega)) (h := ?_)
  refine p_guardYes (h := ?_)
  refine p_move (h := ?_)
  refine p_guardYes (h := ?_)
  refine p_move (h := ?_)
  refine p_guardYes (h := ?_)
  refine p_num (h := ?_)
  refine p_pick (h := ?_)
  refine p_move (h := ?_)
  refine p_isW (s := 21) (b := false) (hc := by first | rfl | decide | (simp; done) | (simp; omega)) (h := ?_)
  refine p_guardYes (h := ?_)
  refine p_move (h := ?_)
  refine p_guardYes (h := ?_)
  refine p_num (h := ?_)
  refine p_pick (h := ?_)
  refine p_move (h := ?_)
  refine p_isW (s := 25) (b := false) (hc := by first | rfl | decide | (simp; done) | (simp; omega)) (h := ?_)
  refine p_guardYes (h := ?_)
  refine p_move (h := ?_)
  refine p_guardYes (h := ?_)
  refine p_move (h := ?_)
  refine p_guardYes (h := ?_)
  refine p_num (h := ?_)
  refine p_pick (h := ?_)
  refine p_end ?_
  refine p_isC (s := 29) (b := false) (hc := by first | rfl | decide | (simp; done) | (simp; omega)) (h := ?_)
  refine p_condF (h := ?_)
  refine p_skip ?_
  refine p_seq (p_region fun hf => ?_)
  refine p_move (h := ?_)
  refine p_callO 33 (hb := ⟨Try.func79, by kernel_rfl, rfl⟩) (hf := one03Ro n h) (h := ?_)
  refine p_move (h := ?_)
  refine p_extract (h := ?_)
  refine p_extract (h := ?_)
  refine p_alloc (hi := F.ti77) (h := ?_)
  refine p_storeAll F.ti77 (h := ?_)
  refine p_assign (h := ?_)
  refine p_end ?_
  refine p_seq (p_region fun hf => ?_)
  (first | refine p_fieldPtr (hf := F.fld77_1) (h := ?_) | refine p_fieldRef (hf := F.fld77_1) (h := ?_) | refine p_fieldRow (hf := F.fld77_1) (h := ?_))
  (first | refine p_load (ht := F.leaf75) (h := ?_) | refine p_loadRef (ht := F.leaf75) (h := ?_))
  refine p_move (h := ?_)
  refine p_idxRowN (x) (ht := Try.underlying75) (hi := F.ti74) (hij := rfl) (hlt := hx) (h := ?_)
  refine p_storeRowF (f' := fun j => uV (rowX x j)) F.ti74 (TI.cells F.ti74) (hlt := hx) (hf := fun j _ => set_zero x j) (h := ?_)
  refine p_end ?_
  refine p_seq ?_
  refine p_seq (p_region fun hf => ?_)
  refine p_move (h := ?_)
  refine p_num (h := ?_)
  refine p_end ?_
  refine p_splitC (s := 41) (ht := fun hc41 => ?_) (hf := fun hc41 => ?_)
  all_goals simp only [decide_eq_true_eq, decide_eq_false_iff_not] at hc41
  · refine p_condT (h := ?_)
    refine p_draw F.mixed fun hf => ?_
    (first | refine p_fieldPtr (hf := F.fld77_1) (h := ?_) | refine p_fieldRef (hf := F.fld77_1) (h := ?_) | refine p_fieldRow (hf := F.fld77_1) (h := ?_))
    (first | refine p_load (ht := F.leaf75) (h := ?_) | refine p_loadRef (ht := F.leaf75) (h := ?_))
    refine p_move (h := ?_)
    (first | refine p_fieldPtr (hf := F.fld77_1) (h := ?_) | refine p_fieldRef (hf := F.fld77_1) (h := ?_) | refine p_fieldRow (hf := F.fld77_1) (h := ?_))
    (first | refine p_load (ht := F.leaf75) (h := ?_) | refine p_loadRef (ht := F.leaf75) (h := ?_))
    refine p_move (h := ?_)
    refine p_idxRowN (y.toNat) (ht := Try.underlying75) (hi := F.ti74) (hij := by omega) (hlt := by omega) (h := ?_)
    refine p_loadRowF (ht := F.leaf74) (hi := by omega) (h := ?_)
    refine p_move (h := ?_)
    refine p_call (hx := rfl) (hb := ⟨Try.func81, by kernel_rfl, rfl⟩) (hf := worth01 x (by omega)) (h := ?_)
    refine p_call (hx := rfl) (hb := ⟨Try.func96, by kernel_rfl, rfl⟩) (hf := or03 _ _) (h := ?_)
    refine p_idxRowN (y.toNat) (ht := Try.underlying75) (hi := F.ti74) (hij := by omega) (hlt := by omega) (h := ?_)
    refine p_storeRowF (f' := fun j => uV (rowS x y j)) F.ti74 (TI.cells F.ti74) (hlt := by omega) (hf := fun j _ => set_or (by omega) j) (h := ?_)
    refine p_endD ?_
    refine p_seq ?_
    refine p_seq (p_region fun hf => ?_)
    refine p_move (h := ?_)
    refine p_num (h := ?_)
    refine p_end ?_
    refine p_splitC (s := 55) (ht := fun hc55 => ?_) (hf := fun hc55 => ?_)
    all_goals simp only [decide_eq_true_eq, decide_eq_false_iff_not] at hc55
    · refine p_condT (h := ?_)
      refine p_region fun hf => ?_
      refine p_move (h := ?_)
      refine p_call (hx := rfl) (hb := ⟨Try.func81, by kernel_rfl, rfl⟩) (hf := worth01 x (by omega)) (h := ?_)
      (first | refine p_fieldPtr (hf := F.fld77_0) (h := ?_) | refine p_fieldRef (hf := F.fld77_0) (h := ?_) | refine p_fieldRow (hf := F.fld77_0) (h := ?_))
      refine p_store1 F.ti74 (h := ?_)
      refine p_end ?_
      refine p_seq (p_region fun hf => ?_)
      (first | refine p_loadA (ht := F.agg77) (hi := F.ti77) (h := ?_) | refine p_loadRefA (ht := F.agg77) (hi := F.ti77) (h := ?_))
      refine p_storeAll F.ti77 (h := ?_)
      refine p_assign (h := ?_)
      refine p_end ?_
      refine TrC.ret ?_
      exact absurd hc55 (by omega)
    · refine p_condF (h := ?_)
      refine p_skip ?_
      refine p_seq (p_region fun hf => ?_)
      (first | refine p_loadA (ht := F.agg77) (hi := F.ti77) (h := ?_) | refine p_loadRefA (ht := F.agg77) (hi := F.ti77) (h := ?_))
      refine p_storeAll F.ti77 (h := ?_)
      refine p_assign (h := ?_)
      refine p_end ?_
      refine TrC.ret ?_
      refine p_freeze (g1 := 0 + 1 + 1 + 1 + 1) (d1 := 33) (h := ?_)
      refine p_cellSl (g1 := 0 + 1) (d1 := 6) (i := 1) (hn := by simp) (h := ?_)
      refine p_rets2 rfl (res_cell eV_ oB_ F.agg77 F.ti77 rfl rfl) ⟨eV_, rfl⟩ (by rw [rowsS, genS, if_neg (by omega)]; rfl)
  · refine p_condF (h := ?_)
    refine p_skip ?_
    refine p_seq ?_
    refine p_seq (p_region fun hf => ?_)
    refine p_move (h := ?_)
    refine p_num (h := ?_)
    refine p_end ?_
    refine p_splitC (s := 55) (ht := fun hc55 => ?_) (hf := fun hc55 => ?_)
    all_goals simp only [decide_eq_true_eq, decide_eq_false_iff_not] at hc55
    · refine p_condT (h := ?_)
      refine p_region fun hf => ?_
      refine p_move (h := ?_)
      refine p_call (hx := rfl) (hb := ⟨Try.func81, by kernel_rfl, rfl⟩) (hf := worth01 x (by omega)) (h := ?_)
      (first | refine p_fieldPtr (hf := F.fld77_0) (h := ?_) | refine p_fieldRef (hf := F.fld77_0) (h := ?_) | refine p_fieldRow (hf := F.fld77_0) (h := ?_))
      refine p_store1 F.ti74 (h := ?_)
      refine p_end ?_
      refine p_seq (p_region fun hf => ?_)
      (first | refine p_loadA (ht := F.agg77) (hi := F.ti77) (h := ?_) | refine p_loadRefA (ht := F.agg77) (hi := F.ti77) (h := ?_))
      refine p_storeAll F.ti77 (h := ?_)
      refine p_assign (h := ?_)
      refine p_end ?_
      refine TrC.ret ?_
      refine p_freeze (g1 := 0 + 1 + 1 + 1 + 1) (d1 := 33) (h := ?_)
      refine p_cellSl (g1 := 0 + 1) (d1 := 6) (i := 1) (hn := by simp) (h := ?_)
      refine p_rets2 rfl (res_cell eV_ oB_ F.agg77 F.ti77 rfl rfl) ⟨eV_, rfl⟩ (by rw [rowsS, List.map_congr_left fun j _ => congrArg uV (rowS_neg (by omega) j), genS, if_pos (by omega)]; rfl)
    · refine p_condF (h := ?_)
      refine p_skip ?_
      refine p_seq (p_region fun hf => ?_)
      (first | refine p_loadA (ht := F.agg77) (hi := F.ti77) (h := ?_) | refine p_loadRefA (ht := F.agg77) (hi := F.ti77) (h := ?_))
      refine p_storeAll F.ti77 (h := ?_)
      refine p_assign (h := ?_)
      refine p_end ?_
      refine TrC.ret ?_
      refine p_freeze (g1 := 0 + 1 + 1 + 1 + 1) (d1 := 33) (h := ?_)
      refine p_cellSl (g1 := 0 + 1) (d1 := 6) (i := 1) (hn := by simp) (h := ?_)
      refine p_rets2 rfl (res_cell eV_ oB_ F.agg77 F.ti77 rfl rfl) ⟨eV_, rfl⟩ (by rw [rowsS, List.map_congr_left fun j _ => congrArg uV (rowS_neg (by omega) j), genS, if_neg (by omega)]; rfl)

theorem set03Rz (n : Nat) (x y : Int) (h : n ≤ 64) (hx : 0 ≤ x ∧ x < n) (hy : -2 ≤ y ∧ y < n) : FnC Try.prog 80 [iV n, iV x, iV y] (fun r => r = .tup [.agg [uV (genS x.toNat y), .sl 74 (rowsS n x.toNat y)], iV 0]) := by
  have := set03R n x.toNat y h (by omega) hy
  rwa [show ((x.toNat : Nat) : Int) = x by omega] at this

theorem taint23 (n : Nat) (s : Step) (h : n ≤ 64) (hs : StepIn n s) : FnC Try.prog 59 [iV n, stepV s] (fun r => r = .agg (wL 0 0 [] [] (wP n 2 s))) := by
  refine FnC.of (fn := Try.f59) ⟨Try.func59, by kernel_rfl, rfl⟩ Try.ntmps59 (by simp) fun w0 S0 => ?_
  refine p_seq (p_region fun hf => ?_)
  refine p_box (h := ?_)
  refine p_alloc (hi := F.ti81) (h := ?_)
  refine p_end ?_
  refine p_seq (p_region fun hf => ?_)
  refine p_move (h := ?_)
  refine p_call (hx := rfl) (hb := ⟨Try.func79, by kernel_rfl, rfl⟩) (hf := one03R n h) (h := ?_)
  refine p_move (h := ?_)
  refine p_extract (h := ?_)
  refine p_extract (h := ?_)
  refine p_alloc (hi := F.ti77) (h := ?_)
  refine p_storeAll F.ti77 (h := ?_)
  refine p_assign (h := ?_)
  refine p_end ?_
  refine p_seq ?_
  refine p_seq (p_region fun hf => ?_)
  (first | refine p_fieldPtr (hf := F.fld50_2) (h := ?_) | refine p_fieldRef (hf := F.fld50_2) (h := ?_) | refine p_fieldRow (hf := F.fld50_2) (h := ?_))
  (first | refine p_load (ht := F.leaf48) (h := ?_) | refine p_loadRef (ht := F.leaf48) (h := ?_))
  refine p_end ?_
  refine TrC.block ?_
  refine p_seq (p_region fun hf => ?_)
  refine p_num (h := ?_)
  refine p_assign (h := ?_)
  refine p_end ?_
  refine p_splitC (s := 14) (ht := fun hc14 => ?_) (hf := fun hc14 => ?_)
  · refine p_condT (h := ?_)
    refine p_region fun hf => ?_
    refine p_move (h := ?_)
    (first | refine p_fieldPtr (hf := F.fld50_3) (h := ?_) | refine p_fieldRef (hf := F.fld50_3) (h := ?_) | refine p_fieldRow (hf := F.fld50_3) (h := ?_))
    (first | refine p_load (ht := F.leaf3) (h := ?_) | refine p_loadRef (ht := F.leaf3) (h := ?_))
    refine p_call (hx := rfl) (hb := ⟨Try.func80, by kernel_rfl, rfl⟩) (hf := set03Rz n s.x (-1) h (hs.x (by simp at hc14; omega)) (by omega)) (h := ?_)
    refine p_move (h := ?_)
    refine p_extract (h := ?_)
    refine p_extract (h := ?_)
    refine p_storeAll F.ti77 (h := ?_)
    refine p_end ?_
    refine p_seq (p_region fun hf => ?_)
    refine p_build (hi := F.ti81) (hpl := F.pl81) (h := ?_)
    refine p_aggNilW (s := 45) (i := 3) (el := 74) (h := ?_)
    refine p_aggNilW (s := 45) (i := 4) (el := 110) (h := ?_)
    refine p_aggNilW (s := 45) (i := 5) (el := 81) (h := ?_)
    (first | refine p_loadA (ht := F.agg77) (hi := F.ti77) (h := ?_) | refine p_loadRefA (ht := F.agg77) (hi := F.ti77) (h := ?_))
    refine p_build (hi := F.ti81) (hpl := F.pl81) (h := ?_)
    refine p_aggNilW (s := 47) (i := 4) (el := 110) (h := ?_)
    refine p_aggNilW (s := 47) (i := 5) (el := 81) (h := ?_)
    refine p_buildSlice (ht := Try.underlying79) (hi := F.ti81) (h := ?_)
    refine p_build (hi := F.ti81) (hpl := F.pl81) (h := ?_)
    refine p_storeAll F.ti81 (h := ?_)
    refine p_end ?_
    refine TrC.ret ?_
    refine p_freeze (g1 := 0 + 1 + 1 + 1 + 1 + 1 + 1) (d1 := 48) (h := ?_)
    refine p_cellSl (g1 := 0 + 1) (d1 := 4) (i := 5) (hn := by rfl) (h := ?_)
    refine p_cellNil (g1 := 0 + 1) (d1 := 4) (i := 3) (el := 74) (h := ?_)
    refine p_cellNil (g1 := 0 + 1) (d1 := 4) (i := 4) (el := 110) (h := ?_)
    refine Tr.ret1 rfl (res_cell eV_ oB_ F.agg81 F.ti81 rfl rfl) (by have hk : s.kind = 5 := (by simpa using hc14); simp only [wP, marksG, marksR, hk, Int.reduceEq, decide_true, decide_false, Bool.false_eq_true, ↓reduceIte]; rfl) (by intro l h; cases h)
  · refine p_condF (h := ?_)
    refine p_seq ?_
    refine p_seq (p_region fun hf => ?_)
    refine p_num (h := ?_)
    refine p_assign (h := ?_)
    refine p_end ?_
    refine p_splitC (s := 23) (ht := fun hc23 => ?_) (hf := fun hc23 => ?_)
    · refine p_condT (h := ?_)
      refine p_skip ?_
      refine p_condT (h := ?_)
      refine p_region fun hf => ?_
      refine p_move (h := ?_)
      (first | refine p_fieldPtr (hf := F.fld50_3) (h := ?_) | refine p_fieldRef (hf := F.fld50_3) (h := ?_) | refine p_fieldRow (hf := F.fld50_3) (h := ?_))
      (first | refine p_load (ht := F.leaf3) (h := ?_) | refine p_loadRef (ht := F.leaf3) (h := ?_))
      refine p_call (hx := rfl) (hb := ⟨Try.func80, by kernel_rfl, rfl⟩) (hf := set03Rz n s.x (-2) h (hs.x (by simp at hc23; omega)) (by omega)) (h := ?_)
      refine p_move (h := ?_)
      refine p_extract (h := ?_)
      refine p_extract (h := ?_)
      refine p_storeAll F.ti77 (h := ?_)
      refine p_end ?_
      refine p_seq (p_region fun hf => ?_)
      refine p_build (hi := F.ti81) (hpl := F.pl81) (h := ?_)
      refine p_aggNilW (s := 45) (i := 3) (el := 74) (h := ?_)
      refine p_aggNilW (s := 45) (i := 4) (el := 110) (h := ?_)
      refine p_aggNilW (s := 45) (i := 5) (el := 81) (h := ?_)
      (first | refine p_loadA (ht := F.agg77) (hi := F.ti77) (h := ?_) | refine p_loadRefA (ht := F.agg77) (hi := F.ti77) (h := ?_))
      refine p_build (hi := F.ti81) (hpl := F.pl81) (h := ?_)
      refine p_aggNilW (s := 47) (i := 4) (el := 110) (h := ?_)
      refine p_aggNilW (s := 47) (i := 5) (el := 81) (h := ?_)
      refine p_buildSlice (ht := Try.underlying79) (hi := F.ti81) (h := ?_)
      refine p_build (hi := F.ti81) (hpl := F.pl81) (h := ?_)
      refine p_storeAll F.ti81 (h := ?_)
      refine p_end ?_
      refine TrC.ret ?_
      refine p_freeze (g1 := 0 + 1 + 1 + 1 + 1 + 1 + 1 + 1) (d1 := 48) (h := ?_)
      refine p_cellSl (g1 := 0 + 1) (d1 := 4) (i := 5) (hn := by rfl) (h := ?_)
      refine p_cellNil (g1 := 0 + 1) (d1 := 4) (i := 3) (el := 74) (h := ?_)
      refine p_cellNil (g1 := 0 + 1) (d1 := 4) (i := 4) (el := 110) (h := ?_)
      refine Tr.ret1 rfl (res_cell eV_ oB_ F.agg81 F.ti81 rfl rfl) (by have hk : s.kind = 6 := (by simpa using hc23); simp only [wP, marksG, marksR, hk, Int.reduceEq, decide_true, decide_false, Bool.false_eq_true, ↓reduceIte]; rfl) (by intro l h; cases h)
    · refine p_condF (h := ?_)
      refine p_seq (p_region fun hf => ?_)
      refine p_num (h := ?_)
      refine p_assign (h := ?_)
      refine p_end ?_
      refine p_splitC (s := 23) (ht := fun hc23x => ?_) (hf := fun hc23x => ?_)
      · refine p_condT (h := ?_)
        refine p_skip ?_
        refine p_condT (h := ?_)
        refine p_region fun hf => ?_
        refine p_move (h := ?_)
        (first | refine p_fieldPtr (hf := F.fld50_3) (h := ?_) | refine p_fieldRef (hf := F.fld50_3) (h := ?_) | refine p_fieldRow (hf := F.fld50_3) (h := ?_))
        (first | refine p_load (ht := F.leaf3) (h := ?_) | refine p_loadRef (ht := F.leaf3) (h := ?_))
        refine p_call (hx := rfl) (hb := ⟨Try.func80, by kernel_rfl, rfl⟩) (hf := set03Rz n s.x (-2) h (hs.x (by simp at hc23x; omega)) (by omega)) (h := ?_)
        refine p_move (h := ?_)
        refine p_extract (h := ?_)
        refine p_extract (h := ?_)
        refine p_storeAll F.ti77 (h := ?_)
        refine p_end ?_
        refine p_seq (p_region fun hf => ?_)
        refine p_build (hi := F.ti81) (hpl := F.pl81) (h := ?_)
        refine p_aggNilW (s := 45) (i := 3) (el := 74) (h := ?_)
        refine p_aggNilW (s := 45) (i := 4) (el := 110) (h := ?_)
        refine p_aggNilW (s := 45) (i := 5) (el := 81) (h := ?_)
        (first | refine p_loadA (ht := F.agg77) (hi := F.ti77) (h := ?_) | refine p_loadRefA (ht := F.agg77) (hi := F.ti77) (h := ?_))
        refine p_build (hi := F.ti81) (hpl := F.pl81) (h := ?_)
        refine p_aggNilW (s := 47) (i := 4) (el := 110) (h := ?_)
        refine p_aggNilW (s := 47) (i := 5) (el := 81) (h := ?_)
        refine p_buildSlice (ht := Try.underlying79) (hi := F.ti81) (h := ?_)
        refine p_build (hi := F.ti81) (hpl := F.pl81) (h := ?_)
        refine p_storeAll F.ti81 (h := ?_)
        refine p_end ?_
        refine TrC.ret ?_
        refine p_freeze (g1 := 0 + 1 + 1 + 1 + 1 + 1 + 1 + 1 + 1) (d1 := 48) (h := ?_)
        refine p_cellSl (g1 := 0 + 1) (d1 := 4) (i := 5) (hn := by rfl) (h := ?_)
        refine p_cellNil (g1 := 0 + 1) (d1 := 4) (i := 3) (el := 74) (h := ?_)
        refine p_cellNil (g1 := 0 + 1) (d1 := 4) (i := 4) (el := 110) (h := ?_)
        refine Tr.ret1 rfl (res_cell eV_ oB_ F.agg81 F.ti81 rfl rfl) (by have hk : s.kind = 2 := (by simpa using hc23x); simp only [wP, marksG, marksR, hk, Int.reduceEq, decide_true, decide_false, Bool.false_eq_true, ↓reduceIte]; rfl) (by intro l h; cases h)
      · refine p_condF (h := ?_)
        refine p_region fun hf => ?_
        refine p_num (h := ?_)
        refine p_assign (h := ?_)
        refine p_end ?_
        refine p_splitC (s := 23) (ht := fun hc23xx => ?_) (hf := fun hc23xx => ?_)
        · refine p_condT (h := ?_)
          refine p_region fun hf => ?_
          refine p_move (h := ?_)
          (first | refine p_fieldPtr (hf := F.fld50_3) (h := ?_) | refine p_fieldRef (hf := F.fld50_3) (h := ?_) | refine p_fieldRow (hf := F.fld50_3) (h := ?_))
          (first | refine p_load (ht := F.leaf3) (h := ?_) | refine p_loadRef (ht := F.leaf3) (h := ?_))
          refine p_call (hx := rfl) (hb := ⟨Try.func80, by kernel_rfl, rfl⟩) (hf := set03Rz n s.x (-2) h (hs.x (by simp at hc23xx; omega)) (by omega)) (h := ?_)
          refine p_move (h := ?_)
          refine p_extract (h := ?_)
          refine p_extract (h := ?_)
          refine p_storeAll F.ti77 (h := ?_)
          refine p_end ?_
          refine p_seq (p_region fun hf => ?_)
          refine p_build (hi := F.ti81) (hpl := F.pl81) (h := ?_)
          refine p_aggNilW (s := 45) (i := 3) (el := 74) (h := ?_)
          refine p_aggNilW (s := 45) (i := 4) (el := 110) (h := ?_)
          refine p_aggNilW (s := 45) (i := 5) (el := 81) (h := ?_)
          (first | refine p_loadA (ht := F.agg77) (hi := F.ti77) (h := ?_) | refine p_loadRefA (ht := F.agg77) (hi := F.ti77) (h := ?_))
          refine p_build (hi := F.ti81) (hpl := F.pl81) (h := ?_)
          refine p_aggNilW (s := 47) (i := 4) (el := 110) (h := ?_)
          refine p_aggNilW (s := 47) (i := 5) (el := 81) (h := ?_)
          refine p_buildSlice (ht := Try.underlying79) (hi := F.ti81) (h := ?_)
          refine p_build (hi := F.ti81) (hpl := F.pl81) (h := ?_)
          refine p_storeAll F.ti81 (h := ?_)
          refine p_end ?_
          refine TrC.ret ?_
          refine p_freeze (g1 := 0 + 1 + 1 + 1 + 1 + 1 + 1 + 1 + 1 + 1) (d1 := 48) (h := ?_)
          refine p_cellSl (g1 := 0 + 1) (d1 := 4) (i := 5) (hn := by rfl) (h := ?_)
          refine p_cellNil (g1 := 0 + 1) (d1 := 4) (i := 3) (el := 74) (h := ?_)
          refine p_cellNil (g1 := 0 + 1) (d1 := 4) (i := 4) (el := 110) (h := ?_)
          refine Tr.ret1 rfl (res_cell eV_ oB_ F.agg81 F.ti81 rfl rfl) (by have hk : s.kind = 4 := (by simpa using hc23xx); simp only [wP, marksG, marksR, hk, Int.reduceEq, decide_true, decide_false, Bool.false_eq_true, ↓reduceIte]; rfl) (by intro l h; cases h)
        · refine p_condF (h := ?_)
          refine p_seq (p_region fun hf => ?_)
          refine p_num (h := ?_)
          refine p_assign (h := ?_)
          refine p_end ?_
          refine p_splitC (s := 34) (ht := fun hc34 => ?_) (hf := fun hc34 => ?_)
          · refine p_condT (h := ?_)
            refine p_region fun hf => ?_
            refine p_move (h := ?_)
            (first | refine p_fieldPtr (hf := F.fld50_3) (h := ?_) | refine p_fieldRef (hf := F.fld50_3) (h := ?_) | refine p_fieldRow (hf := F.fld50_3) (h := ?_))
            (first | refine p_load (ht := F.leaf3) (h := ?_) | refine p_loadRef (ht := F.leaf3) (h := ?_))
            (first | refine p_fieldPtr (hf := F.fld50_4) (h := ?_) | refine p_fieldRef (hf := F.fld50_4) (h := ?_) | refine p_fieldRow (hf := F.fld50_4) (h := ?_))
            (first | refine p_load (ht := F.leaf3) (h := ?_) | refine p_loadRef (ht := F.leaf3) (h := ?_))
            refine p_call (hx := rfl) (hb := ⟨Try.func80, by kernel_rfl, rfl⟩) (hf := set03Rz n s.x s.y h (hs.x (by simp at hc34; omega)) (by have := hs.y (by simpa using hc34); omega)) (h := ?_)
            refine p_move (h := ?_)
            refine p_extract (h := ?_)
            refine p_extract (h := ?_)
            refine p_storeAll F.ti77 (h := ?_)
            refine p_end ?_
            refine p_seq (p_region fun hf => ?_)
            refine p_build (hi := F.ti81) (hpl := F.pl81) (h := ?_)
            refine p_aggNilW (s := 45) (i := 3) (el := 74) (h := ?_)
            refine p_aggNilW (s := 45) (i := 4) (el := 110) (h := ?_)
            refine p_aggNilW (s := 45) (i := 5) (el := 81) (h := ?_)
            (first | refine p_loadA (ht := F.agg77) (hi := F.ti77) (h := ?_) | refine p_loadRefA (ht := F.agg77) (hi := F.ti77) (h := ?_))
            refine p_build (hi := F.ti81) (hpl := F.pl81) (h := ?_)
            refine p_aggNilW (s := 47) (i := 4) (el := 110) (h := ?_)
            refine p_aggNilW (s := 47) (i := 5) (el := 81) (h := ?_)
            refine p_buildSlice (ht := Try.underlying79) (hi := F.ti81) (h := ?_)
            refine p_build (hi := F.ti81) (hpl := F.pl81) (h := ?_)
            refine p_storeAll F.ti81 (h := ?_)
            refine p_end ?_
            refine TrC.ret ?_
            refine p_freeze (g1 := 0 + 1 + 1 + 1 + 1 + 1 + 1 + 1 + 1 + 1 + 1) (d1 := 48) (h := ?_)
            refine p_cellSl (g1 := 0 + 1) (d1 := 4) (i := 5) (hn := by rfl) (h := ?_)
            refine p_cellNil (g1 := 0 + 1) (d1 := 4) (i := 3) (el := 74) (h := ?_)
            refine p_cellNil (g1 := 0 + 1) (d1 := 4) (i := 4) (el := 110) (h := ?_)
            refine Tr.ret1 rfl (res_cell eV_ oB_ F.agg81 F.ti81 rfl rfl) (by have hk : s.kind = 3 := (by simpa using hc34); simp only [wP, marksG, marksR, hk, Int.reduceEq, decide_true, decide_false, Bool.false_eq_true, ↓reduceIte]; rfl) (by intro l h; cases h)
          · refine p_condF (h := ?_)
            refine p_skip ?_
            refine p_seq (p_region fun hf => ?_)
            refine p_build (hi := F.ti81) (hpl := F.pl81) (h := ?_)
            refine p_aggNilW (s := 45) (i := 3) (el := 74) (h := ?_)
            refine p_aggNilW (s := 45) (i := 4) (el := 110) (h := ?_)
            refine p_aggNilW (s := 45) (i := 5) (el := 81) (h := ?_)
            (first | refine p_loadA (ht := F.agg77) (hi := F.ti77) (h := ?_) | refine p_loadRefA (ht := F.agg77) (hi := F.ti77) (h := ?_))
            refine p_build (hi := F.ti81) (hpl := F.pl81) (h := ?_)
            refine p_aggNilW (s := 47) (i := 4) (el := 110) (h := ?_)
            refine p_aggNilW (s := 47) (i := 5) (el := 81) (h := ?_)
            refine p_buildSlice (ht := Try.underlying79) (hi := F.ti81) (h := ?_)
            refine p_build (hi := F.ti81) (hpl := F.pl81) (h := ?_)
            refine p_storeAll F.ti81 (h := ?_)
            refine p_end ?_
            refine TrC.ret ?_
            refine p_freeze (g1 := 0 + 1 + 1 + 1 + 1 + 1 + 1 + 1 + 1 + 1) (d1 := 48) (h := ?_)
            refine p_cellSl (g1 := 0 + 1) (d1 := 4) (i := 5) (hn := by rfl) (h := ?_)
            refine p_cellNil (g1 := 0 + 1) (d1 := 4) (i := 3) (el := 74) (h := ?_)
            refine p_cellNil (g1 := 0 + 1) (d1 := 4) (i := 4) (el := 110) (h := ?_)
            refine Tr.ret1 rfl (res_cell eV_ oB_ F.agg81 F.ti81 rfl rfl) (by simp only [wP, marksG, marksR, hc14, hc23, hc23x, hc23xx, hc34, decide_true, Bool.false_eq_true, ↓reduceIte]; rfl) (by intro l h; cases h)

end Go.Proofs.Ytfjciangbmjlmaa
