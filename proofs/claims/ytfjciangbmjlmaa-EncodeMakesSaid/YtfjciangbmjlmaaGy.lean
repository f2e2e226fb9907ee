/-
  encode.marks, and the cells of package cells, walked.
-/
import Derived.Test.YtfjciangbmjlmaaGx
set_option linter.unusedSimpArgs false
set_option linter.unusedVariables false
namespace Go.Proofs.Ytfjciangbmjlmaa
open Go.RowKit
/-- The variables of a step, as far as it has such, are among n. -/
structure StepIn (n : Nat) (s : Step) : Prop where
  x : s.kind = 2 ∨ s.kind = 3 ∨ s.kind = 4 ∨ s.kind = 5 ∨ s.kind = 6 → 0 ≤ s.x ∧ s.x < n
  y : s.kind = 3 → 0 ≤ s.y ∧ s.y < n
def marksG (s : Step) : Int := if decide (s.kind = 5) then genS s.x.toNat (-1) else if decide (s.kind = 2) then genS s.x.toNat (-2) else if decide (s.kind = 4) then genS s.x.toNat (-2) else if decide (s.kind = 6) then genS s.x.toNat (-2) else if decide (s.kind = 3) then genS s.x.toNat s.y else 0
def marksR (n : Nat) (s : Step) : List V := if decide (s.kind = 5) then rowsS n s.x.toNat (-1) else if decide (s.kind = 2) then rowsS n s.x.toNat (-2) else if decide (s.kind = 4) then rowsS n s.x.toNat (-2) else if decide (s.kind = 6) then rowsS n s.x.toNat (-2) else if decide (s.kind = 3) then rowsS n s.x.toNat s.y else rows1 n
theorem set03z (n : Nat) (x y : Int) (h : n ≤ 64) (hx : 0 ≤ x ∧ x < n) (hy : -2 ≤ y ∧ y < n) : FnC Try.prog 65 [iV n, iV x, iV y] (fun r => r = .tup [.agg [uV (genS x.toNat y), .sl 74 (rowsS n x.toNat y)], iV 0]) := by
  have := set03 n x.toNat y h (by omega) hy
  rwa [show ((x.toNat : Nat) : Int) = x by omega] at this

theorem marks (n : Nat) (s : Step) (h : n ≤ 64) (hs : StepIn n s) : FnC Try.prog 45 [iV n, stepV s] (fun r => r = .agg [uV (marksG s), .sl 74 (marksR n s)]) := by
  refine FnC.of (fn := Try.f45) ⟨Try.func45, by kernel_rfl, rfl⟩ Try.ntmps45 (by simp) fun w0 S0 => ?_
  refine p_seq (p_region fun hf => ?_)
  refine p_box (h := ?_)
  refine p_alloc (hi := F.ti77) (h := ?_)
  refine p_end ?_
  refine p_seq (p_region fun hf => ?_)
  refine p_alloc (hi := F.ti77) (h := ?_)
  refine p_end ?_
  refine p_seq ?_
  refine p_seq (p_region fun hf => ?_)
  (first | refine p_fieldPtr (hf := F.fld50_2) (h := ?_) | refine p_fieldRef (hf := F.fld50_2) (h := ?_) | refine p_fieldRow (hf := F.fld50_2) (h := ?_))
  (first | refine p_load (ht := F.leaf48) (h := ?_) | refine p_loadRef (ht := F.leaf48) (h := ?_))
  refine p_end ?_
  refine TrC.block ?_
  refine p_seq ?_
  refine TrC.block ?_
  refine p_seq ?_
  refine TrC.block ?_
  refine p_seq ?_
  refine TrC.block ?_
  refine TrC.block ?_
  refine TrC.block ?_
  refine p_seq ?_
  refine TrC.block ?_
  refine p_seq ?_
  refine p_seq ?_
  refine p_seq (p_region fun hf => ?_)
  refine p_num (h := ?_)
  refine p_assign (h := ?_)
  refine p_end ?_
  refine p_splitC (s := 8) (ht := fun hc8 => ?_) (hf := fun hc8 => ?_)
  · refine p_condT (h := ?_)
    refine p_exit ?_
    refine p_seq (p_region fun hf => ?_)
    refine p_move (h := ?_)
    (first | refine p_fieldPtr (hf := F.fld50_3) (h := ?_) | refine p_fieldRef (hf := F.fld50_3) (h := ?_) | refine p_fieldRow (hf := F.fld50_3) (h := ?_))
    (first | refine p_load (ht := F.leaf3) (h := ?_) | refine p_loadRef (ht := F.leaf3) (h := ?_))
    refine p_call (hx := rfl) (hb := ⟨Try.func65, by kernel_rfl, rfl⟩) (hf := set03z n s.x (-1) h (hs.x (by simp at hc8; omega)) (by omega)) (h := ?_)
    refine p_move (h := ?_)
    refine p_extract (h := ?_)
    refine p_extract (h := ?_)
    refine p_storeAll F.ti77 (h := ?_)
    refine p_end ?_
    refine p_exit ?_
    refine p_seq (p_region fun hf => ?_)
    (first | refine p_loadA (ht := F.agg77) (hi := F.ti77) (h := ?_) | refine p_loadRefA (ht := F.agg77) (hi := F.ti77) (h := ?_))
    refine p_storeAll F.ti77 (h := ?_)
    refine p_end ?_
    refine TrC.ret ?_
    refine Tr.ret1 rfl (res_cell eV_ oB_ F.agg77 F.ti77 rfl rfl) (by simp only [marksG, marksR, hc8, Bool.false_eq_true, ↓reduceIte]) (by intro l h; cases h)
  · refine p_condF (h := ?_)
    refine p_skip ?_
    refine p_seq ?_
    refine p_seq (p_region fun hf => ?_)
    refine p_num (h := ?_)
    refine p_assign (h := ?_)
    refine p_end ?_
    refine p_splitC (s := 10) (ht := fun hc10 => ?_) (hf := fun hc10 => ?_)
    · refine p_condT (h := ?_)
      refine p_exit ?_
      refine p_seq (p_region fun hf => ?_)
      refine p_move (h := ?_)
      (first | refine p_fieldPtr (hf := F.fld50_3) (h := ?_) | refine p_fieldRef (hf := F.fld50_3) (h := ?_) | refine p_fieldRow (hf := F.fld50_3) (h := ?_))
      (first | refine p_load (ht := F.leaf3) (h := ?_) | refine p_loadRef (ht := F.leaf3) (h := ?_))
      refine p_call (hx := rfl) (hb := ⟨Try.func65, by kernel_rfl, rfl⟩) (hf := set03z n s.x (-2) h (hs.x (by simp at hc10; omega)) (by omega)) (h := ?_)
      refine p_move (h := ?_)
      refine p_extract (h := ?_)
      refine p_extract (h := ?_)
      refine p_storeAll F.ti77 (h := ?_)
      refine p_end ?_
      refine p_exit ?_
      refine p_seq (p_region fun hf => ?_)
      (first | refine p_loadA (ht := F.agg77) (hi := F.ti77) (h := ?_) | refine p_loadRefA (ht := F.agg77) (hi := F.ti77) (h := ?_))
      refine p_storeAll F.ti77 (h := ?_)
      refine p_end ?_
      refine TrC.ret ?_
      refine Tr.ret1 rfl (res_cell eV_ oB_ F.agg77 F.ti77 rfl rfl) (by simp only [marksG, marksR, hc8, hc10, Bool.false_eq_true, ↓reduceIte]) (by intro l h; cases h)
    · refine p_condF (h := ?_)
      refine p_skip ?_
      refine p_seq ?_
      refine p_seq (p_region fun hf => ?_)
      refine p_num (h := ?_)
      refine p_assign (h := ?_)
      refine p_end ?_
      refine p_splitC (s := 12) (ht := fun hc12 => ?_) (hf := fun hc12 => ?_)
      · refine p_condT (h := ?_)
        refine p_exit ?_
        refine p_seq (p_region fun hf => ?_)
        refine p_move (h := ?_)
        (first | refine p_fieldPtr (hf := F.fld50_3) (h := ?_) | refine p_fieldRef (hf := F.fld50_3) (h := ?_) | refine p_fieldRow (hf := F.fld50_3) (h := ?_))
        (first | refine p_load (ht := F.leaf3) (h := ?_) | refine p_loadRef (ht := F.leaf3) (h := ?_))
        refine p_call (hx := rfl) (hb := ⟨Try.func65, by kernel_rfl, rfl⟩) (hf := set03z n s.x (-2) h (hs.x (by simp at hc12; omega)) (by omega)) (h := ?_)
        refine p_move (h := ?_)
        refine p_extract (h := ?_)
        refine p_extract (h := ?_)
        refine p_storeAll F.ti77 (h := ?_)
        refine p_end ?_
        refine p_exit ?_
        refine p_seq (p_region fun hf => ?_)
        (first | refine p_loadA (ht := F.agg77) (hi := F.ti77) (h := ?_) | refine p_loadRefA (ht := F.agg77) (hi := F.ti77) (h := ?_))
        refine p_storeAll F.ti77 (h := ?_)
        refine p_end ?_
        refine TrC.ret ?_
        refine Tr.ret1 rfl (res_cell eV_ oB_ F.agg77 F.ti77 rfl rfl) (by simp only [marksG, marksR, hc8, hc10, hc12, Bool.false_eq_true, ↓reduceIte]) (by intro l h; cases h)
      · refine p_condF (h := ?_)
        refine p_skip ?_
        refine p_seq ?_
        refine p_seq (p_region fun hf => ?_)
        refine p_num (h := ?_)
        refine p_assign (h := ?_)
        refine p_end ?_
        refine p_splitC (s := 14) (ht := fun hc14 => ?_) (hf := fun hc14 => ?_)
        · refine p_condT (h := ?_)
          refine p_exit ?_
          refine p_seq (p_region fun hf => ?_)
          refine p_move (h := ?_)
          (first | refine p_fieldPtr (hf := F.fld50_3) (h := ?_) | refine p_fieldRef (hf := F.fld50_3) (h := ?_) | refine p_fieldRow (hf := F.fld50_3) (h := ?_))
          (first | refine p_load (ht := F.leaf3) (h := ?_) | refine p_loadRef (ht := F.leaf3) (h := ?_))
          refine p_call (hx := rfl) (hb := ⟨Try.func65, by kernel_rfl, rfl⟩) (hf := set03z n s.x (-2) h (hs.x (by simp at hc14; omega)) (by omega)) (h := ?_)
          refine p_move (h := ?_)
          refine p_extract (h := ?_)
          refine p_extract (h := ?_)
          refine p_storeAll F.ti77 (h := ?_)
          refine p_end ?_
          refine p_exit ?_
          refine p_seq (p_region fun hf => ?_)
          (first | refine p_loadA (ht := F.agg77) (hi := F.ti77) (h := ?_) | refine p_loadRefA (ht := F.agg77) (hi := F.ti77) (h := ?_))
          refine p_storeAll F.ti77 (h := ?_)
          refine p_end ?_
          refine TrC.ret ?_
          refine Tr.ret1 rfl (res_cell eV_ oB_ F.agg77 F.ti77 rfl rfl) (by simp only [marksG, marksR, hc8, hc10, hc12, hc14, Bool.false_eq_true, ↓reduceIte]) (by intro l h; cases h)
        · refine p_condF (h := ?_)
          refine p_skip ?_
          refine p_seq (p_region fun hf => ?_)
          refine p_num (h := ?_)
          refine p_assign (h := ?_)
          refine p_end ?_
          refine p_splitC (s := 16) (ht := fun hc16 => ?_) (hf := fun hc16 => ?_)
          · refine p_condT (h := ?_)
            refine p_exit ?_
            refine p_seq (p_region fun hf => ?_)
            refine p_move (h := ?_)
            (first | refine p_fieldPtr (hf := F.fld50_3) (h := ?_) | refine p_fieldRef (hf := F.fld50_3) (h := ?_) | refine p_fieldRow (hf := F.fld50_3) (h := ?_))
            (first | refine p_load (ht := F.leaf3) (h := ?_) | refine p_loadRef (ht := F.leaf3) (h := ?_))
            (first | refine p_fieldPtr (hf := F.fld50_4) (h := ?_) | refine p_fieldRef (hf := F.fld50_4) (h := ?_) | refine p_fieldRow (hf := F.fld50_4) (h := ?_))
            (first | refine p_load (ht := F.leaf3) (h := ?_) | refine p_loadRef (ht := F.leaf3) (h := ?_))
            refine p_call (hx := rfl) (hb := ⟨Try.func65, by kernel_rfl, rfl⟩) (hf := set03z n s.x s.y h (hs.x (by simp at hc16; omega)) (by have := hs.y (by simpa using hc16); omega)) (h := ?_)
            refine p_move (h := ?_)
            refine p_extract (h := ?_)
            refine p_extract (h := ?_)
            refine p_storeAll F.ti77 (h := ?_)
            refine p_end ?_
            refine p_exit ?_
            refine p_seq (p_region fun hf => ?_)
            (first | refine p_loadA (ht := F.agg77) (hi := F.ti77) (h := ?_) | refine p_loadRefA (ht := F.agg77) (hi := F.ti77) (h := ?_))
            refine p_storeAll F.ti77 (h := ?_)
            refine p_end ?_
            refine TrC.ret ?_
            refine Tr.ret1 rfl (res_cell eV_ oB_ F.agg77 F.ti77 rfl rfl) (by simp only [marksG, marksR, hc8, hc10, hc12, hc14, hc16, Bool.false_eq_true, ↓reduceIte]) (by intro l h; cases h)
          · refine p_condF (h := ?_)
            refine p_skip ?_
            refine p_exit ?_
            refine p_seq (p_region fun hf => ?_)
            refine p_move (h := ?_)
            refine p_call (hx := rfl) (hb := ⟨Try.func66, by kernel_rfl, rfl⟩) (hf := one03 n h) (h := ?_)
            refine p_move (h := ?_)
            refine p_extract (h := ?_)
            refine p_extract (h := ?_)
            refine p_storeAll F.ti77 (h := ?_)
            refine p_end ?_
            refine p_exit ?_
            refine p_seq (p_region fun hf => ?_)
            (first | refine p_loadA (ht := F.agg77) (hi := F.ti77) (h := ?_) | refine p_loadRefA (ht := F.agg77) (hi := F.ti77) (h := ?_))
            refine p_storeAll F.ti77 (h := ?_)
            refine p_end ?_
            refine TrC.ret ?_
            refine Tr.ret1 rfl (res_cell eV_ oB_ F.agg77 F.ti77 rfl rfl) (by simp only [marksG, marksR, hc8, hc10, hc12, hc14, hc16, Bool.false_eq_true, ↓reduceIte]) (by intro l h; cases h)

/-- A cell that is copied; the one transformer's cells. -/
abbrev celV (f k c : Int) : V := .agg [uV f, iV k, iV c]
def cells1 (n : Nat) : List V := (List.range n).map fun j => celV (bitI j) 0 0
def cellX (x : Nat) (c : V) (j : Nat) : V := if j = x then c else celV (bitI j) 0 0
def cellsX (n x : Nat) (c : V) : List V := (List.range n).map (cellX x c)
theorem fillC (i j : Nat) : celV (if j < i + 1 then bitI j else 0) 0 0 = if j = i then .agg ([uV 0, iV 0, iV 0].set 0 (uV (bitI i))) else celV (if j < i then bitI j else 0) 0 0 := by
  by_cases h1 : j = i
  · subst h1; simp
  · rw [if_neg h1]
    by_cases h2 : j < i
    · rw [if_pos h2, if_pos (by omega)]
    · rw [if_neg h2, if_neg (by omega)]

theorem dims04 (n : Nat) (h : n ≤ 64) : FnC Try.prog 89 [iV n] (fun r => r = iV 0) := by
  refine FnC.of (fn := Try.f89) ⟨Try.func89, by kernel_rfl, rfl⟩ Try.ntmps89 (by simp) fun w0 S0 => ?_
  refine p_seq (p_region fun hf => ?_)
  refine p_assign (h := ?_)
  refine p_end ?_
  refine p_seq ?_
  refine p_seq (p_region fun hf => ?_)
  refine p_move (h := ?_)
  refine p_num (h := ?_)
  refine p_move (h := ?_)
  refine p_isW (s := 5) (b := false) (hc := by first | (simp; done) | (simp; omega)) (h := ?_)
  refine p_guardYes (h := ?_)
  refine p_move (h := ?_)
  refine p_guardYes (h := ?_)
  refine p_num (h := ?_)
  refine p_pick (h := ?_)
  refine p_end ?_
  refine p_isC (s := 8) (b := false) (hc := by first | (simp; done) | (simp; omega)) (h := ?_)
  refine p_condF (h := ?_)
  refine p_skip ?_
  refine p_seq (p_region fun hf => ?_)
  refine p_assign (h := ?_)
  refine p_end ?_
  refine TrC.ret ?_
  refine p_ret1 (hp := by rfl)

theorem one04o' (n : Nat) (h : n ≤ 64) : FnO Try.prog 90 [iV n] 110 (cells1 n) (fun g d => .row g d n) := by
  refine FnO.of (fn := Try.f90) ⟨Try.func90, by kernel_rfl, rfl⟩ Try.ntmps90 (by simp) fun w0 S0 => ?_
  refine p_seq (p_region fun hf => ?_)
  refine p_assign (h := ?_)
  refine p_end ?_
  refine p_seq (p_region fun hf => ?_)
  refine p_move (h := ?_)
  refine p_makeA (n := n) (by decide) (by repeat (first | exact hf _ | with_reducible rfl | rw [updO_off (by decide)])) Try.underlying78 F.ti110 rfl (by decide) (by simp [Value.cells, cv] <;> rfl) rfl eV_ (by omega) (by omega) ?_
  refine p_assign (h := ?_)
  refine p_end ?_
  refine p_seq ?_
  refine p_seq (p_region fun hf => ?_)
  refine p_move (h := ?_)
  refine p_move (h := ?_)
  refine p_end ?_
  refine TrC.block ?_
  refine p_loop (fun st => ∃ i : Nat, i ≤ n ∧ st.env 3 = .row (0 + 1 + 1) 6 n ∧ st.env 7 = iV n ∧ st.env 8 = iV i ∧ st.obj (0 + 1 + 1) 6 = .row 110 ((List.range n).map fun j => celV (if j < i then bitI j else 0) 0 0)) (fun st => n - (st.env 8).toN) ?_ fun e ob g1 hI => ?_
  · exact ⟨0, by omega, eV_, eV_, eV_, by refine Eq.trans oB_ ?_; rw [rep_range]; rfl⟩
  · obtain ⟨i, hi, e3, e7, e8, o6⟩ := hI
    dsimp only at e3 e7 e8 o6
    have hE := (⟨e3, e7, e8, o6⟩ : _ ∧ _ ∧ _ ∧ _)
    refine p_seq (p_region fun hf => ?_)
    refine p_num (h := ?_)
    refine p_end ?_
    refine p_seq ?_
    refine p_splitC (s := 9) (ht := fun hc9 => ?_) (hf := fun hc9 => ?_)
    · refine p_condT (h := ?_)
      have hlt : i < n := by simpa using hc9
      refine p_skip ?_
      refine p_seq ?_
      refine TrC.block ?_
      refine p_seq (p_region fun hf => ?_)
      refine p_move (h := ?_)
      refine p_assign (h := ?_)
      refine p_end ?_
      refine p_region fun hf => ?_
      refine p_move (h := ?_)
      refine p_move (h := ?_)
      refine p_move (h := ?_)
      refine p_shl (h0 := by omega) (hv := shl_bit (by omega)) (h := ?_)
      refine p_idxRowN (i) (ht := Try.underlying78) (hi := F.ti110) (hij := rfl) (hlt := hlt) (h := ?_)
      (first | refine p_fieldPtr (hf := F.fld110_0) (h := ?_) | refine p_fieldRef (hf := F.fld110_0) (h := ?_) | refine p_fieldRow (hf := F.fld110_0) (h := ?_))
      refine p_storePartF (f' := fun j => celV (if j < i + 1 then bitI j else 0) 0 0) F.ti74 eV_ oB_ (hlt) rfl eV_ rfl (by simp) (fun j _ => by rw [fillC]; by_cases hj : j = i <;> simp [hj]) ?_
      refine p_end ?_
      refine p_region fun hf => ?_
      refine p_add (r := ((i + 1 : Nat) : Int)) (hr := by omega) (hb := by omega) (h := ?_)
      refine p_move (h := ?_)
      refine p_end ?_
      refine p_some ?_
      refine ⟨⟨i + 1, by omega, eV_, eV_, eV_, oB_⟩, ?_⟩
      simp (decide := true) only [upd, e8, V.toN, ↓reduceIte]; omega
    · refine p_condF (h := ?_)
      have hie : i = n := by simp at hc9; omega
      have hrow : ((List.range n).map fun j => celV (if j < i then bitI j else 0) 0 0) = cells1 n := List.map_congr_left fun j hj => by rw [if_pos (by rw [hie]; simpa using hj)]
      refine p_exit ?_
      refine p_seq (p_region fun hf => ?_)
      refine p_move (h := ?_)
      refine p_assign (h := ?_)
      refine p_end ?_
      refine TrC.ret ?_
      refine p_retO1 (0 + 1 + 1) 6 rfl (by rw [← hrow]; exact oB_) eV_ (Ren.row n)

theorem one04o (n : Nat) (h : n ≤ 64) : FnO Try.prog 70 [iV n] 110 (cells1 n) (fun g d => .tup [.row g d n, iV 0]) := by
  refine FnO.of (fn := Try.f70) ⟨Try.func70, by kernel_rfl, rfl⟩ Try.ntmps70 (by simp) fun w0 S0 => ?_
  refine p_seq (p_region fun hf => ?_)
  refine p_assign (h := ?_)
  refine p_assign (h := ?_)
  refine p_end ?_
  refine p_seq ?_
  refine p_seq (p_region fun hf => ?_)
  refine p_move (h := ?_)
  refine p_call (hx := rfl) (hb := ⟨Try.func89, by kernel_rfl, rfl⟩) (hf := dims04 n h) (h := ?_)
  refine p_assign (h := ?_)
  refine p_end ?_
  refine p_seq (p_region fun hf => ?_)
  refine p_move (h := ?_)
  refine p_num (h := ?_)
  refine p_end ?_
  refine p_isC (s := 8) (b := false) (hc := by rfl) (h := ?_)
  refine p_condF (h := ?_)
  refine p_skip ?_
  refine p_seq (p_region fun hf => ?_)
  refine p_move (h := ?_)
  refine p_callO 11 (hb := ⟨Try.func90, by kernel_rfl, rfl⟩) (hf := one04o' n h) (h := ?_)
  refine p_assign (h := ?_)
  refine p_assign (h := ?_)
  refine p_end ?_
  refine TrC.ret ?_
  refine p_retO2 (0 + 1 + 1 + 1 + 1) 11 (v1 := fun g d => .row g d n) (v2 := fun _ _ => iV 0) rfl oB_ eV_ eV_ rfl (Ren.tup (.cons (.row n) (.cons (.out rfl) .nil)))

theorem one04 (n : Nat) (h : n ≤ 64) : FnC Try.prog 70 [iV n] (fun r => r = .tup [.sl 110 (cells1 n), iV 0]) := by
  refine FnC.of (fn := Try.f70) ⟨Try.func70, by kernel_rfl, rfl⟩ Try.ntmps70 (by simp) fun w0 S0 => ?_
  refine p_seq (p_region fun hf => ?_)
  refine p_assign (h := ?_)
  refine p_assign (h := ?_)
  refine p_end ?_
  refine p_seq ?_
  refine p_seq (p_region fun hf => ?_)
  refine p_move (h := ?_)
  refine p_call (hx := rfl) (hb := ⟨Try.func89, by kernel_rfl, rfl⟩) (hf := dims04 n h) (h := ?_)
  refine p_assign (h := ?_)
  refine p_end ?_
  refine p_seq (p_region fun hf => ?_)
  refine p_move (h := ?_)
  refine p_num (h := ?_)
  refine p_end ?_
  refine p_isC (s := 8) (b := false) (hc := by rfl) (h := ?_)
  refine p_condF (h := ?_)
  refine p_skip ?_
  refine p_seq (p_region fun hf => ?_)
  refine p_move (h := ?_)
  refine p_callO 11 (hb := ⟨Try.func90, by kernel_rfl, rfl⟩) (hf := one04o' n h) (h := ?_)
  refine p_assign (h := ?_)
  refine p_assign (h := ?_)
  refine p_end ?_
  refine TrC.ret ?_
  refine p_freeze (g1 := 0 + 1 + 1 + 1 + 1) (d1 := 11) (h := ?_)
  refine p_toSl (s := 2) (hn := by simp [cells1]) (h := ?_)
  refine p_rets2 rfl ⟨eV_, rfl⟩ ⟨eV_, rfl⟩ rfl

theorem set04c (k : Int) : FnC Try.prog 86 [.ref [iV k]] (fun r => r = celV 0 1 k) := by
  refine FnC.of (fn := Try.f86) ⟨Try.func86, by kernel_rfl, rfl⟩ Try.ntmps86 (by simp) fun w0 S0 => ?_
  refine p_seq (p_region fun hf => ?_)
  refine p_alloc (hi := F.ti110) (h := ?_)
  refine p_end ?_
  refine p_seq (p_region fun hf => ?_)
  (first | refine p_load (ht := F.leaf2) (h := ?_) | refine p_loadRef (ht := F.leaf2) (h := ?_))
  refine p_build (hi := F.ti110) (hpl := F.pl110) (h := ?_)
  refine p_storeAll F.ti110 (h := ?_)
  refine p_end ?_
  refine TrC.ret ?_
  refine Tr.ret1 rfl (res_cell eV_ oB_ F.agg110 F.ti110 rfl rfl) rfl (by intro l h; cases h)

theorem copy04c (y : Nat) (h : y < 64) : FnC Try.prog 87 [.ref [iV y]] (fun r => r = celV (bitI y) 0 0) := by
  refine FnC.of (fn := Try.f87) ⟨Try.func87, by kernel_rfl, rfl⟩ Try.ntmps87 (by simp) fun w0 S0 => ?_
  refine p_seq (p_region fun hf => ?_)
  refine p_alloc (hi := F.ti110) (h := ?_)
  refine p_end ?_
  refine p_seq (p_region fun hf => ?_)
  (first | refine p_load (ht := F.leaf3) (h := ?_) | refine p_loadRef (ht := F.leaf3) (h := ?_))
  refine p_shl (h0 := by omega) (hv := shl_bit h) (h := ?_)
  refine p_build (hi := F.ti110) (hpl := F.pl110) (h := ?_)
  refine p_storeAll F.ti110 (h := ?_)
  refine p_end ?_
  refine TrC.ret ?_
  refine Tr.ret1 rfl (res_cell eV_ oB_ F.agg110 F.ti110 rfl rfl) rfl (by intro l h; cases h)

theorem any04c  : FnC Try.prog 88 [] (fun r => r = celV 0 2 0) := by
  refine FnC.of (fn := Try.f88) ⟨Try.func88, by kernel_rfl, rfl⟩ Try.ntmps88 (by simp) fun w0 S0 => ?_
  refine p_seq (p_region fun hf => ?_)
  refine p_alloc (hi := F.ti110) (h := ?_)
  refine p_end ?_
  refine p_seq (p_region fun hf => ?_)
  refine p_build (hi := F.ti110) (hpl := F.pl110) (h := ?_)
  refine p_storeAll F.ti110 (h := ?_)
  refine p_end ?_
  refine TrC.ret ?_
  refine Tr.ret1 rfl (res_cell eV_ oB_ F.agg110 F.ti110 rfl rfl) rfl (by intro l h; cases h)

end Go.Proofs.Ytfjciangbmjlmaa
