/-
  encode.values, space, worth and Weight in all modes, walked.
-/
import Derived.Test.YtfjciangbmjlmaaGz
set_option linter.unusedSimpArgs false
set_option linter.unusedVariables false
namespace Go.Proofs.Ytfjciangbmjlmaa
open Go.RowKit
def valuesR (n : Nat) (s : Step) : List V := if decide (s.kind = 2) then cellsX n s.x.toNat (celV 0 1 s.k) else if decide (s.kind = 3) then cellsX n s.x.toNat (celV (bitI s.y.toNat) 0 0) else if decide (s.kind = 4) then cellsX n s.x.toNat (celV 0 2 0) else cells1 n
abbrev wL (c g : Int) (rows cells parts : List V) : List V := [.bool false, iV c, uV g, .sl 74 rows, .sl 110 cells, .sl 81 parts]
def worthL (n : Nat) (m : Int) (s : Step) : List V := if decide (m = 2) then wL 0 0 [] [] [.agg (wL 1 0 [] [] []), .agg (wL 0 (marksG s) (marksR n s) [] [])] else if decide (m = 3) then wL 0 0 [] (valuesR n s) [] else wL 0 0 [] [] []
abbrev sL (t d : Int) (parts : List V) : List V := [iV t, iV d, .sl 35 parts]
def spaceR (n : Nat) (m : Int) : List V := if decide (m = 2) then sL 5 0 [.agg (sL 2 1048576 []), .agg (sL 3 n [])] else if decide (m = 3) then sL 4 n [] else sL 1 0 []

theorem set04z (n : Nat) (x k : Int) (h : n ≤ 64) (hx : 0 ≤ x ∧ x < n) : FnC Try.prog 67 [iV n, iV x, iV k] (fun r => r = .tup [.sl 110 (cellsX n x.toNat (celV 0 1 k)), iV 0]) := by
  have := set04 n x.toNat k h (by omega)
  rwa [show ((x.toNat : Nat) : Int) = x by omega] at this
theorem any04z (n : Nat) (x : Int) (h : n ≤ 64) (hx : 0 ≤ x ∧ x < n) : FnC Try.prog 69 [iV n, iV x] (fun r => r = .tup [.sl 110 (cellsX n x.toNat (celV 0 2 0)), iV 0]) := by
  have := any04 n x.toNat h (by omega)
  rwa [show ((x.toNat : Nat) : Int) = x by omega] at this
theorem copy04z (n : Nat) (x y : Int) (h : n ≤ 64) (hx : 0 ≤ x ∧ x < n) (hy : 0 ≤ y ∧ y < n) : FnC Try.prog 68 [iV n, iV x, iV y] (fun r => r = .tup [.sl 110 (cellsX n x.toNat (celV (bitI y.toNat) 0 0)), iV 0]) := by
  have := copy04 n x.toNat y.toNat h (by omega) (by omega)
  rwa [show ((x.toNat : Nat) : Int) = x by omega, show ((y.toNat : Nat) : Int) = y by omega] at this

theorem values (n : Nat) (s : Step) (h : n ≤ 64) (hs : StepIn n s) : FnC Try.prog 46 [iV n, stepV s] (fun r => r = .sl 110 (valuesR n s)) := by
  refine FnC.of (fn := Try.f46) ⟨Try.func46, by kernel_rfl, rfl⟩ Try.ntmps46 (by simp) fun w0 S0 => ?_
  refine p_seq (p_region fun hf => ?_)
  refine p_box (h := ?_)
  refine p_assign (h := ?_)
  refine p_end ?_
  refine p_seq (p_region fun hf => ?_)
  refine p_assign (h := ?_)
  refine p_end ?_
  refine p_seq ?_
  refine p_seq (p_region fun hf => ?_)
  (first | refine p_fieldPtr (hf := F.fld50_2) (h := ?_) | refine p_fieldRef (hf := F.fld50_2) (h := ?_) | refine p_fieldRow (hf := F.fld50_2) (h := ?_))
  (first | refine p_load (ht := F.leaf48) (h := ?_) | refine p_loadRef (ht := F.leaf48) (h := ?_))
  refine p_end ?_
  refine TrC.block ?_
  refine p_seq (p_region fun hf => ?_)
  refine p_num (h := ?_)
  refine p_assign (h := ?_)
  refine p_end ?_
  refine p_splitC (s := 13) (ht := fun hc13 => ?_) (hf := fun hc13 => ?_)
  · refine p_condT (h := ?_)
    refine p_region fun hf => ?_
    refine p_move (h := ?_)
    (first | refine p_fieldPtr (hf := F.fld50_3) (h := ?_) | refine p_fieldRef (hf := F.fld50_3) (h := ?_) | refine p_fieldRow (hf := F.fld50_3) (h := ?_))
    (first | refine p_load (ht := F.leaf3) (h := ?_) | refine p_loadRef (ht := F.leaf3) (h := ?_))
    (first | refine p_fieldPtr (hf := F.fld50_5) (h := ?_) | refine p_fieldRef (hf := F.fld50_5) (h := ?_) | refine p_fieldRow (hf := F.fld50_5) (h := ?_))
    (first | refine p_load (ht := F.leaf2) (h := ?_) | refine p_loadRef (ht := F.leaf2) (h := ?_))
    refine p_call (hx := rfl) (hb := ⟨Try.func67, by kernel_rfl, rfl⟩) (hf := set04z n s.x s.k h (hs.x (by simp at hc13; omega))) (h := ?_)
    refine p_move (h := ?_)
    refine p_extract (h := ?_)
    refine p_extract (h := ?_)
    refine p_assign (h := ?_)
    refine p_end ?_
    refine p_seq (p_region fun hf => ?_)
    refine p_move (h := ?_)
    refine p_assign (h := ?_)
    refine p_end ?_
    refine TrC.ret ?_
    refine p_ret1 (hp := by simp only [valuesR, hc13, Bool.false_eq_true, ↓reduceIte])
  · refine p_condF (h := ?_)
    refine p_seq (p_region fun hf => ?_)
    refine p_num (h := ?_)
    refine p_assign (h := ?_)
    refine p_end ?_
    refine p_splitC (s := 24) (ht := fun hc24 => ?_) (hf := fun hc24 => ?_)
    · refine p_condT (h := ?_)
      refine p_region fun hf => ?_
      refine p_move (h := ?_)
      (first | refine p_fieldPtr (hf := F.fld50_3) (h := ?_) | refine p_fieldRef (hf := F.fld50_3) (h := ?_) | refine p_fieldRow (hf := F.fld50_3) (h := ?_))
      (first | refine p_load (ht := F.leaf3) (h := ?_) | refine p_loadRef (ht := F.leaf3) (h := ?_))
      (first | refine p_fieldPtr (hf := F.fld50_4) (h := ?_) | refine p_fieldRef (hf := F.fld50_4) (h := ?_) | refine p_fieldRow (hf := F.fld50_4) (h := ?_))
      (first | refine p_load (ht := F.leaf3) (h := ?_) | refine p_loadRef (ht := F.leaf3) (h := ?_))
      refine p_call (hx := rfl) (hb := ⟨Try.func68, by kernel_rfl, rfl⟩) (hf := copy04z n s.x s.y h (hs.x (by simp at hc24; omega)) (hs.y (by simpa using hc24))) (h := ?_)
      refine p_move (h := ?_)
      refine p_extract (h := ?_)
      refine p_extract (h := ?_)
      refine p_assign (h := ?_)
      refine p_end ?_
      refine p_seq (p_region fun hf => ?_)
      refine p_move (h := ?_)
      refine p_assign (h := ?_)
      refine p_end ?_
      refine TrC.ret ?_
      refine p_ret1 (hp := by simp only [valuesR, hc13, hc24, Bool.false_eq_true, ↓reduceIte])
    · refine p_condF (h := ?_)
      refine p_seq (p_region fun hf => ?_)
      refine p_num (h := ?_)
      refine p_assign (h := ?_)
      refine p_end ?_
      refine p_splitC (s := 35) (ht := fun hc35 => ?_) (hf := fun hc35 => ?_)
      · refine p_condT (h := ?_)
        refine p_region fun hf => ?_
        refine p_move (h := ?_)
        (first | refine p_fieldPtr (hf := F.fld50_3) (h := ?_) | refine p_fieldRef (hf := F.fld50_3) (h := ?_) | refine p_fieldRow (hf := F.fld50_3) (h := ?_))
        (first | refine p_load (ht := F.leaf3) (h := ?_) | refine p_loadRef (ht := F.leaf3) (h := ?_))
        refine p_call (hx := rfl) (hb := ⟨Try.func69, by kernel_rfl, rfl⟩) (hf := any04z n s.x h (hs.x (by simp at hc35; omega))) (h := ?_)
        refine p_move (h := ?_)
        refine p_extract (h := ?_)
        refine p_extract (h := ?_)
        refine p_assign (h := ?_)
        refine p_end ?_
        refine p_seq (p_region fun hf => ?_)
        refine p_move (h := ?_)
        refine p_assign (h := ?_)
        refine p_end ?_
        refine TrC.ret ?_
        refine p_ret1 (hp := by simp only [valuesR, hc13, hc24, hc35, Bool.false_eq_true, ↓reduceIte])
      · refine p_condF (h := ?_)
        refine p_region fun hf => ?_
        refine p_move (h := ?_)
        refine p_call (hx := rfl) (hb := ⟨Try.func70, by kernel_rfl, rfl⟩) (hf := one04 n h) (h := ?_)
        refine p_move (h := ?_)
        refine p_extract (h := ?_)
        refine p_extract (h := ?_)
        refine p_assign (h := ?_)
        refine p_end ?_
        refine p_seq (p_region fun hf => ?_)
        refine p_move (h := ?_)
        refine p_assign (h := ?_)
        refine p_end ?_
        refine TrC.ret ?_
        refine p_ret1 (hp := by simp only [valuesR, hc13, hc24, hc35, Bool.false_eq_true, ↓reduceIte])

theorem space (G : Graph) (m : Int) : FnC Try.prog 27 [graphV G, iV m] (fun r => r = .agg (spaceR G.vars.length m)) := by
  refine FnC.of (fn := Try.f27) ⟨Try.func27, by kernel_rfl, rfl⟩ Try.ntmps27 (by simp) fun w0 S0 => ?_
  refine p_seq (p_region fun hf => ?_)
  refine p_box (h := ?_)
  refine p_alloc (hi := F.ti35) (h := ?_)
  refine p_end ?_
  refine p_seq (p_region fun hf => ?_)
  (first | refine p_fieldPtr (hf := F.fld29_0) (h := ?_) | refine p_fieldRef (hf := F.fld29_0) (h := ?_) | refine p_fieldRow (hf := F.fld29_0) (h := ?_))
  (first | refine p_load (ht := F.leaf22) (h := ?_) | refine p_loadRef (ht := F.leaf22) (h := ?_))
  refine p_len (ht := Try.underlying22) (h := ?_)
  refine p_assign (h := ?_)
  refine p_end ?_
  refine p_seq ?_
  refine p_seq (p_region fun hf => ?_)
  refine p_move (h := ?_)
  refine p_end ?_
  refine TrC.block ?_
  refine p_seq (p_region fun hf => ?_)
  refine p_num (h := ?_)
  refine p_assign (h := ?_)
  refine p_end ?_
  refine p_splitC (s := 10) (ht := fun hc10 => ?_) (hf := fun hc10 => ?_)
  · refine p_condT (h := ?_)
    refine p_seq (p_region fun hf => ?_)
    refine p_build (hi := F.ti35) (hpl := F.pl35) (h := ?_)
    refine p_aggNilW (s := 12) (i := 2) (el := 35) (h := ?_)
    refine p_move (h := ?_)
    refine p_build (hi := F.ti35) (hpl := F.pl35) (h := ?_)
    refine p_aggNilW (s := 14) (i := 2) (el := 35) (h := ?_)
    refine p_buildSlice (ht := Try.underlying33) (hi := F.ti35) (h := ?_)
    refine p_build (hi := F.ti35) (hpl := F.pl35) (h := ?_)
    refine p_storeAll F.ti35 (h := ?_)
    refine p_end ?_
    refine TrC.ret ?_
    refine p_freeze (g1 := 0 + 1 + 1 + 1 + 1 + 1) (d1 := 15) (h := ?_)
    refine p_cellSl (g1 := 0 + 1) (d1 := 4) (i := 2) (hn := by rfl) (h := ?_)
    refine Tr.ret1 rfl (res_cell eV_ oB_ F.agg35 F.ti35 rfl rfl) (by simp only [spaceR, hc10, Bool.false_eq_true, ↓reduceIte]; rfl) (by intro l h; cases h)
  · refine p_condF (h := ?_)
    refine p_seq (p_region fun hf => ?_)
    refine p_num (h := ?_)
    refine p_assign (h := ?_)
    refine p_end ?_
    refine p_splitC (s := 17) (ht := fun hc17 => ?_) (hf := fun hc17 => ?_)
    · refine p_condT (h := ?_)
      refine p_seq (p_region fun hf => ?_)
      refine p_move (h := ?_)
      refine p_build (hi := F.ti35) (hpl := F.pl35) (h := ?_)
      refine p_storeAll F.ti35 (h := ?_)
      refine p_end ?_
      refine TrC.ret ?_
      refine p_cellNil (g1 := 0 + 1) (d1 := 4) (i := 2) (el := 35) (h := ?_)
      refine Tr.ret1 rfl (res_cell eV_ oB_ F.agg35 F.ti35 rfl rfl) (by simp only [spaceR, hc10, hc17, Bool.false_eq_true, ↓reduceIte]; rfl) (by intro l h; cases h)
    · refine p_condF (h := ?_)
      refine p_skip ?_
      refine p_seq (p_region fun hf => ?_)
      refine p_build (hi := F.ti35) (hpl := F.pl35) (h := ?_)
      refine p_storeAll F.ti35 (h := ?_)
      refine p_end ?_
      refine TrC.ret ?_
      refine p_cellNil (g1 := 0 + 1) (d1 := 4) (i := 2) (el := 35) (h := ?_)
      refine Tr.ret1 rfl (res_cell eV_ oB_ F.agg35 F.ti35 rfl rfl) (by simp only [spaceR, hc10, hc17, Bool.false_eq_true, ↓reduceIte]; rfl) (by intro l h; cases h)

theorem worth (G : Graph) (m : Int) (s : Step) (h : G.vars.length ≤ 64) (hs : StepIn G.vars.length s) : FnC Try.prog 28 [graphV G, iV m, stepV s] (fun r => r = .agg (worthL G.vars.length m s)) := by
  refine FnC.of (fn := Try.f28) ⟨Try.func28, by kernel_rfl, rfl⟩ Try.ntmps28 (by simp) fun w0 S0 => ?_
  refine p_seq (p_region fun hf => ?_)
  refine p_box (h := ?_)
  refine p_box (h := ?_)
  refine p_alloc (hi := F.ti81) (h := ?_)
  refine p_end ?_
  refine p_seq ?_
  refine p_seq (p_region fun hf => ?_)
  refine p_move (h := ?_)
  refine p_end ?_
  refine TrC.block ?_
  refine p_seq (p_region fun hf => ?_)
  refine p_num (h := ?_)
  refine p_assign (h := ?_)
  refine p_end ?_
  refine p_splitC (s := 8) (ht := fun hc8 => ?_) (hf := fun hc8 => ?_)
  · refine p_condT (h := ?_)
    refine p_seq (p_region fun hf => ?_)
    refine p_build (hi := F.ti81) (hpl := F.pl81) (h := ?_)
    refine p_aggNilW (s := 10) (i := 3) (el := 74) (h := ?_)
    refine p_aggNilW (s := 10) (i := 4) (el := 110) (h := ?_)
    refine p_aggNilW (s := 10) (i := 5) (el := 81) (h := ?_)
    (first | refine p_fieldPtr (hf := F.fld29_0) (h := ?_) | refine p_fieldRef (hf := F.fld29_0) (h := ?_) | refine p_fieldRow (hf := F.fld29_0) (h := ?_))
    (first | refine p_load (ht := F.leaf22) (h := ?_) | refine p_loadRef (ht := F.leaf22) (h := ?_))
    refine p_len (ht := Try.underlying22) (h := ?_)
    (first | refine p_loadA (ht := F.agg50) (hi := F.ti50) (h := ?_) | refine p_loadRefA (ht := F.agg50) (hi := F.ti50) (h := ?_))
    refine p_call (hx := rfl) (hb := ⟨Try.func45, by kernel_rfl, rfl⟩) (hf := marks _ s h hs) (h := ?_)
    refine p_build (hi := F.ti81) (hpl := F.pl81) (h := ?_)
    refine p_aggNilW (s := 16) (i := 4) (el := 110) (h := ?_)
    refine p_aggNilW (s := 16) (i := 5) (el := 81) (h := ?_)
    refine p_buildSlice (ht := Try.underlying79) (hi := F.ti81) (h := ?_)
    refine p_build (hi := F.ti81) (hpl := F.pl81) (h := ?_)
    refine p_storeAll F.ti81 (h := ?_)
    refine p_end ?_
    refine TrC.ret ?_
    refine p_freeze (g1 := 0 + 1 + 1 + 1 + 1) (d1 := 17) (h := ?_)
    refine p_cellSl (g1 := 0 + 1) (d1 := 6) (i := 5) (hn := by rfl) (h := ?_)
    refine p_cellNil (g1 := 0 + 1) (d1 := 6) (i := 3) (el := 74) (h := ?_)
    refine p_cellNil (g1 := 0 + 1) (d1 := 6) (i := 4) (el := 110) (h := ?_)
    refine Tr.ret1 rfl (res_cell eV_ oB_ F.agg81 F.ti81 rfl rfl) (by simp only [worthL, hc8, Bool.false_eq_true, ↓reduceIte]; rfl) (by intro l h; cases h)
  · refine p_condF (h := ?_)
    refine p_seq (p_region fun hf => ?_)
    refine p_num (h := ?_)
    refine p_assign (h := ?_)
    refine p_end ?_
    refine p_splitC (s := 19) (ht := fun hc19 => ?_) (hf := fun hc19 => ?_)
    · refine p_condT (h := ?_)
      refine p_seq (p_region fun hf => ?_)
      (first | refine p_fieldPtr (hf := F.fld29_0) (h := ?_) | refine p_fieldRef (hf := F.fld29_0) (h := ?_) | refine p_fieldRow (hf := F.fld29_0) (h := ?_))
      (first | refine p_load (ht := F.leaf22) (h := ?_) | refine p_loadRef (ht := F.leaf22) (h := ?_))
      refine p_len (ht := Try.underlying22) (h := ?_)
      (first | refine p_loadA (ht := F.agg50) (hi := F.ti50) (h := ?_) | refine p_loadRefA (ht := F.agg50) (hi := F.ti50) (h := ?_))
      refine p_call (hx := rfl) (hb := ⟨Try.func46, by kernel_rfl, rfl⟩) (hf := values _ s h hs) (h := ?_)
      refine p_build (hi := F.ti81) (hpl := F.pl81) (h := ?_)
      refine p_storeAll F.ti81 (h := ?_)
      refine p_end ?_
      refine TrC.ret ?_
      refine p_cellNil (g1 := 0 + 1) (d1 := 6) (i := 3) (el := 74) (h := ?_)
      refine p_cellNil (g1 := 0 + 1) (d1 := 6) (i := 5) (el := 81) (h := ?_)
      refine Tr.ret1 rfl (res_cell eV_ oB_ F.agg81 F.ti81 rfl rfl) (by simp only [worthL, hc8, hc19, Bool.false_eq_true, ↓reduceIte]; rfl) (by intro l h; cases h)
    · refine p_condF (h := ?_)
      refine p_skip ?_
      refine p_seq (p_region fun hf => ?_)
      refine p_build (hi := F.ti81) (hpl := F.pl81) (h := ?_)
      refine p_storeAll F.ti81 (h := ?_)
      refine p_end ?_
      refine TrC.ret ?_
      refine p_cellNil (g1 := 0 + 1) (d1 := 6) (i := 3) (el := 74) (h := ?_)
      refine p_cellNil (g1 := 0 + 1) (d1 := 6) (i := 4) (el := 110) (h := ?_)
      refine p_cellNil (g1 := 0 + 1) (d1 := 6) (i := 5) (el := 81) (h := ?_)
      refine Tr.ret1 rfl (res_cell eV_ oB_ F.agg81 F.ti81 rfl rfl) (by simp only [worthL, hc8, hc19, Bool.false_eq_true, ↓reduceIte]; rfl) (by intro l h; cases h)

end Go.Proofs.Ytfjciangbmjlmaa
