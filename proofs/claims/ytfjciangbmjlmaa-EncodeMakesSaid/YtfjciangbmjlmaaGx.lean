/-
  bits.Full, facts.One and facts.Set, walked.
-/
import Derived.Test.YtfjciangbmjlmaaG
import Derived.Test.YtfjciangbmjlmaaGp
set_option linter.unusedSimpArgs false
set_option linter.unusedVariables false
namespace Go.Proofs.Ytfjciangbmjlmaa
open Go.RowKit
abbrev uV (n : Int) : V := .int .u64 n
/-- A bit's worth. -/
def bitI (j : Nat) : Int := 2 ^ j
theorem bit_range {j : Nat} (h : j < 64) : 0 ≤ bitI j ∧ bitI j ≤ 9223372036854775808 := by
  have h1 : (2 : Nat) ^ j ≤ 2 ^ 63 := Nat.pow_le_pow_right (by decide) (by omega)
  have h2 : bitI j = ((2 ^ j : Nat) : Int) := by simp [bitI]
  rw [h2]; exact ⟨Int.natCast_nonneg _, Int.le_trans (Int.ofNat_le.2 h1) (by decide)⟩
theorem wrap_nat {i : Nat} (h : i < 64) : (IntKind.u64.wrap (i : Int)).toNat = i := by rw [IntWalk.u64_in _ (by omega)]; rfl
theorem shl_bit {i : Nat} (h : i < 64) : V.int .u64 (IntKind.u64.wrap (1 * 2 ^ min (i : Int).toNat IntKind.u64.bits)) = uV (bitI i) := by
  have h1 := bit_range h
  rw [show min (i : Int).toNat IntKind.u64.bits = i by show min i 64 = i; omega, Int.one_mul]
  rw [show ((2 : Int) ^ i) = bitI i from rfl, IntWalk.u64_in _ (by omega)]
theorem shl_bitW {i : Nat} (h : i < 64) : V.int .u64 (IntKind.u64.wrap (1 * 2 ^ min (IntKind.u64.wrap (i : Int)).toNat IntKind.u64.bits)) = uV (bitI i) := by
  rw [IntWalk.u64_in (i : Int) (by omega)]; exact shl_bit h
def fullI (n : Nat) : Int := (18446744073709551615 : Int).fdiv (2 ^ min (IntKind.u64.wrap (64 - (n : Int))).toNat IntKind.u64.bits)
def orI (a b : Int) : Int := IntKind.u64.wrap ((BitVec.ofInt IntKind.u64.bits a ||| BitVec.ofInt IntKind.u64.bits b).toNat)
theorem fillU (F : Nat → Int) (i j : Nat) : uV (if j < i + 1 then F j else 0) = if j = i then uV (F i) else uV (if j < i then F j else 0) := by
  by_cases h1 : j = i
  · subst h1; simp
  · rw [if_neg h1]
    by_cases h2 : j < i
    · rw [if_pos h2, if_pos (by omega)]
    · rw [if_neg h2, if_neg (by omega)]
/-- The rows of the one transformer, and of one that sets a fact. -/
def rows1 (n : Nat) : List V := (List.range n).map fun j => uV (bitI j)
def rowX (x j : Nat) : Int := if j = x then 0 else bitI j
def rowS (x : Nat) (y : Int) (j : Nat) : Int := if (j : Int) = y then orI (rowX x j) (bitI x) else rowX x j
def rowsS (n x : Nat) (y : Int) : List V := (List.range n).map fun j => uV (rowS x y j)
def genS (x : Nat) (y : Int) : Int := if y = -1 then bitI x else 0

theorem full01 (n : Nat) (h : n ≤ 64) : FnC Try.prog 84 [iV n] (fun r => r = .tup [uV (fullI n), iV 0]) := by
  refine FnC.of (fn := Try.f84) ⟨Try.func84, by kernel_rfl, rfl⟩ Try.ntmps84 (by simp) fun w0 S0 => ?_
  refine p_seq (p_region fun hf => ?_)
  refine p_assign (h := ?_)
  refine p_assign (h := ?_)
  refine p_end ?_
  refine p_seq ?_
  refine p_seq (p_region fun hf => ?_)
  refine p_move (h := ?_)
  refine p_num (h := ?_)
  refine p_move (h := ?_)
  refine p_isW (s := 6) (b := false) (hc := by first | (simp; done) | (simp; omega)) (h := ?_)
  refine p_guardYes (h := ?_)
  refine p_move (h := ?_)
  refine p_guardYes (h := ?_)
  refine p_num (h := ?_)
  refine p_pick (h := ?_)
  refine p_end ?_
  refine p_isC (s := 9) (b := false) (hc := by first | (simp; done) | (simp; omega)) (h := ?_)
  refine p_condF (h := ?_)
  refine p_skip ?_
  refine p_seq (p_region fun hf => ?_)
  refine p_move (h := ?_)
  refine p_sub (hr := rfl) (hb := by omega) (h := ?_)
  refine p_conv (hs := Try.underlying3) (ht := Try.underlying156) (h := ?_)
  refine p_shr (h0 := by rw [IntWalk.u64_in _ (by omega)]; omega) (hv := rfl) (h := ?_)
  refine p_assign (h := ?_)
  refine p_assign (h := ?_)
  refine p_end ?_
  refine TrC.ret ?_
  refine p_rets2 rfl ⟨eV_, rfl⟩ ⟨eV_, rfl⟩ rfl

theorem rep_range (n : Nat) (v : V) : List.replicate n v = (List.range n).map fun _ => v := by
  refine List.ext_getElem (by simp) fun j h1 h2 => by simp

theorem one03 (n : Nat) (h : n ≤ 64) : FnC Try.prog 66 [iV n] (fun r => r = .tup [.agg [uV 0, .sl 74 (rows1 n)], iV 0]) := by
  refine FnC.of (fn := Try.f66) ⟨Try.func66, by kernel_rfl, rfl⟩ Try.ntmps66 (by simp) fun w0 S0 => ?_
  refine p_seq (p_region fun hf => ?_)
  refine p_alloc (hi := F.ti77) (h := ?_)
  refine p_assign (h := ?_)
  refine p_end ?_
  refine p_seq ?_
  refine p_seq (p_region fun hf => ?_)
  refine p_move (h := ?_)
  refine p_call (hx := rfl) (hb := ⟨Try.func84, by kernel_rfl, rfl⟩) (hf := full01 n h) (h := ?_)
  refine p_move (h := ?_)
  refine p_extract (h := ?_)
  refine p_extract (h := ?_)
  refine p_assign (h := ?_)
  refine p_assign (h := ?_)
  refine p_end ?_
  refine p_seq (p_region fun hf => ?_)
  refine p_move (h := ?_)
  refine p_num (h := ?_)
  refine p_end ?_
  refine p_isC (s := 14) (b := false) (hc := by rfl) (h := ?_)
  refine p_condF (h := ?_)
  refine p_skip ?_
  refine p_seq (p_region fun hf => ?_)
  refine p_move (h := ?_)
  refine p_make (n := n) (ht := Try.underlying75) (hi := F.ti74) (hz := rfl) (hzv := rfl) (hro := rfl) (hb := by omega) (h63 := by omega) (h := ?_)
  refine p_build (hi := F.ti77) (hpl := F.pl77) (h := ?_)
  refine p_alloc (hi := F.ti77) (h := ?_)
  refine p_storeAll F.ti77 (h := ?_)
  refine p_end ?_
  refine p_seq ?_
  refine p_seq (p_region fun hf => ?_)
  (first | refine p_fieldPtr (hf := F.fld77_1) (h := ?_) | refine p_fieldRef (hf := F.fld77_1) (h := ?_) | refine p_fieldRow (hf := F.fld77_1) (h := ?_))
  (first | refine p_load (ht := F.leaf75) (h := ?_) | refine p_loadRef (ht := F.leaf75) (h := ?_))
  refine p_len (ht := Try.underlying75) (h := ?_)
  refine p_move (h := ?_)
  refine p_end ?_
  refine TrC.block ?_
  refine p_loop (fun st => ∃ i : Nat, i ≤ n ∧ st.env 2 = .ptr (0 + 1) 2 0 ∧ st.env 6 = .ptr (0 + 1 + 1 + 1 + 1) 6 0 ∧ st.env 21 = iV n ∧ st.env 22 = iV i ∧ st.obj (0 + 1) 2 = .cells 77 [uV 0, .nil] ∧ st.obj (0 + 1 + 1 + 1 + 1) 6 = .cells 77 [uV 0, .row (0 + 1 + 1 + 1 + 1) 17 n] ∧ st.obj (0 + 1 + 1 + 1 + 1) 17 = .row 74 ((List.range n).map fun j => uV (if j < i then bitI j else 0))) (fun st => n - (st.env 22).toN) ?_ fun e ob g1 hI => ?_
  · exact ⟨0, by omega, eV_, eV_, eV_, eV_, oB_, oB_, by refine Eq.trans oB_ ?_; rw [rep_range]; rfl⟩
  · obtain ⟨i, hi, e2, e6, e21, e22, o2, o6, o17⟩ := hI
    dsimp only at e2 e6 e21 e22 o2 o6 o17
    have hE := (⟨e2, e6, e21, e22, o2, o6, o17⟩ : _ ∧ _ ∧ _ ∧ _ ∧ _ ∧ _ ∧ _)
    refine p_seq (p_region fun hf => ?_)
    refine p_num (h := ?_)
    refine p_end ?_
    refine p_seq ?_
    refine p_splitC (s := 23) (ht := fun hc23 => ?_) (hf := fun hc23 => ?_)
    · refine p_condT (h := ?_)
      have hlt : i < n := by simpa using hc23
      refine p_skip ?_
      refine p_seq ?_
      refine TrC.block ?_
      refine p_seq (p_region fun hf => ?_)
      refine p_move (h := ?_)
      refine p_assign (h := ?_)
      refine p_end ?_
      refine p_region fun hf => ?_
      (first | refine p_fieldPtr (hf := F.fld77_1) (h := ?_) | refine p_fieldRef (hf := F.fld77_1) (h := ?_) | refine p_fieldRow (hf := F.fld77_1) (h := ?_))
      (first | refine p_load (ht := F.leaf75) (h := ?_) | refine p_loadRef (ht := F.leaf75) (h := ?_))
      refine p_move (h := ?_)
      refine p_move (h := ?_)
      refine p_conv (hs := Try.underlying3) (ht := Try.underlying156) (h := ?_)
      refine p_shl (h0 := by rw [IntWalk.u64_in _ (by omega)]; omega) (hv := shl_bitW (by omega)) (h := ?_)
      refine p_idxRowN (i) (ht := Try.underlying75) (hi := F.ti74) (hij := rfl) (hlt := hlt) (h := ?_)
      refine p_storeRowF (f' := fun j => uV (if j < i + 1 then bitI j else 0)) F.ti74 (TI.cells F.ti74) (hlt := hlt) (hf := fun j _ => fillU bitI i j) (h := ?_)
      refine p_end ?_
      refine p_region fun hf => ?_
      refine p_add (r := ((i + 1 : Nat) : Int)) (hr := by omega) (hb := by omega) (h := ?_)
      refine p_move (h := ?_)
      refine p_end ?_
      refine p_some ?_
      refine ⟨⟨i + 1, by omega, eV_, eV_, eV_, eV_, oB_, oB_, oB_⟩, ?_⟩
      simp (decide := true) only [upd, e22, V.toN, ↓reduceIte]; omega
    · refine p_condF (h := ?_)
      have hie : i = n := by simp at hc23; omega
      have hrow : ((List.range n).map fun j => uV (if j < i then bitI j else 0)) = rows1 n := List.map_congr_left fun j hj => by rw [if_pos (by rw [hie]; simpa using hj)]
      refine p_exit ?_
      refine p_seq (p_region fun hf => ?_)
      (first | refine p_loadA (ht := F.agg77) (hi := F.ti77) (h := ?_) | refine p_loadRefA (ht := F.agg77) (hi := F.ti77) (h := ?_))
      refine p_storeAll F.ti77 (h := ?_)
      refine p_assign (h := ?_)
      refine p_end ?_
      refine TrC.ret ?_
      refine p_freeze (g1 := 0 + 1 + 1 + 1 + 1) (d1 := 17) (h := ?_)
      refine p_cellSl (g1 := 0 + 1) (d1 := 2) (i := 1) (hn := by simp [rows1]) (h := ?_)
      refine p_rets2 rfl (res_cell eV_ oB_ F.agg77 F.ti77 rfl rfl) ⟨eV_, rfl⟩ (by rw [hrow]; rfl)

theorem one03o (n : Nat) (h : n ≤ 64) : FnO Try.prog 66 [iV n] 74 (rows1 n) (fun g d => .tup [.agg [uV 0, .row g d n], iV 0]) := by
  refine FnO.of (fn := Try.f66) ⟨Try.func66, by kernel_rfl, rfl⟩ Try.ntmps66 (by simp) fun w0 S0 => ?_
  refine p_seq (p_region fun hf => ?_)
  refine p_alloc (hi := F.ti77) (h := ?_)
  refine p_assign (h := ?_)
  refine p_end ?_
  refine p_seq ?_
  refine p_seq (p_region fun hf => ?_)
  refine p_move (h := ?_)
  refine p_call (hx := rfl) (hb := ⟨Try.func84, by kernel_rfl, rfl⟩) (hf := full01 n h) (h := ?_)
  refine p_move (h := ?_)
  refine p_extract (h := ?_)
  refine p_extract (h := ?_)
  refine p_assign (h := ?_)
  refine p_assign (h := ?_)
  refine p_end ?_
  refine p_seq (p_region fun hf => ?_)
  refine p_move (h := ?_)
  refine p_num (h := ?_)
  refine p_end ?_
  refine p_isC (s := 14) (b := false) (hc := by rfl) (h := ?_)
  refine p_condF (h := ?_)
  refine p_skip ?_
  refine p_seq (p_region fun hf => ?_)
  refine p_move (h := ?_)
  refine p_make (n := n) (ht := Try.underlying75) (hi := F.ti74) (hz := rfl) (hzv := rfl) (hro := rfl) (hb := by omega) (h63 := by omega) (h := ?_)
  refine p_build (hi := F.ti77) (hpl := F.pl77) (h := ?_)
  refine p_alloc (hi := F.ti77) (h := ?_)
  refine p_storeAll F.ti77 (h := ?_)
  refine p_end ?_
  refine p_seq ?_
  refine p_seq (p_region fun hf => ?_)
  (first | refine p_fieldPtr (hf := F.fld77_1) (h := ?_) | refine p_fieldRef (hf := F.fld77_1) (h := ?_) | refine p_fieldRow (hf := F.fld77_1) (h := ?_))
  (first | refine p_load (ht := F.leaf75) (h := ?_) | refine p_loadRef (ht := F.leaf75) (h := ?_))
  refine p_len (ht := Try.underlying75) (h := ?_)
  refine p_move (h := ?_)
  refine p_end ?_
  refine TrC.block ?_
  refine p_loop (fun st => ∃ i : Nat, i ≤ n ∧ st.env 2 = .ptr (0 + 1) 2 0 ∧ st.env 6 = .ptr (0 + 1 + 1 + 1 + 1) 6 0 ∧ st.env 21 = iV n ∧ st.env 22 = iV i ∧ st.obj (0 + 1) 2 = .cells 77 [uV 0, .nil] ∧ st.obj (0 + 1 + 1 + 1 + 1) 6 = .cells 77 [uV 0, .row (0 + 1 + 1 + 1 + 1) 17 n] ∧ st.obj (0 + 1 + 1 + 1 + 1) 17 = .row 74 ((List.range n).map fun j => uV (if j < i then bitI j else 0))) (fun st => n - (st.env 22).toN) ?_ fun e ob g1 hI => ?_
  · exact ⟨0, by omega, eV_, eV_, eV_, eV_, oB_, oB_, by refine Eq.trans oB_ ?_; rw [rep_range]; rfl⟩
  · obtain ⟨i, hi, e2, e6, e21, e22, o2, o6, o17⟩ := hI
    dsimp only at e2 e6 e21 e22 o2 o6 o17
    have hE := (⟨e2, e6, e21, e22, o2, o6, o17⟩ : _ ∧ _ ∧ _ ∧ _ ∧ _ ∧ _ ∧ _)
    refine p_seq (p_region fun hf => ?_)
    refine p_num (h := ?_)
    refine p_end ?_
    refine p_seq ?_
    refine p_splitC (s := 23) (ht := fun hc23 => ?_) (hf := fun hc23 => ?_)
    · refine p_condT (h := ?_)
      have hlt : i < n := by simpa using hc23
      refine p_skip ?_
      refine p_seq ?_
      refine TrC.block ?_
      refine p_seq (p_region fun hf => ?_)
      refine p_move (h := ?_)
      refine p_assign (h := ?_)
      refine p_end ?_
      refine p_region fun hf => ?_
      (first | refine p_fieldPtr (hf := F.fld77_1) (h := ?_) | refine p_fieldRef (hf := F.fld77_1) (h := ?_) | refine p_fieldRow (hf := F.fld77_1) (h := ?_))
      (first | refine p_load (ht := F.leaf75) (h := ?_) | refine p_loadRef (ht := F.leaf75) (h := ?_))
      refine p_move (h := ?_)
      refine p_move (h := ?_)
      refine p_conv (hs := Try.underlying3) (ht := Try.underlying156) (h := ?_)
      refine p_shl (h0 := by rw [IntWalk.u64_in _ (by omega)]; omega) (hv := shl_bitW (by omega)) (h := ?_)
      refine p_idxRowN (i) (ht := Try.underlying75) (hi := F.ti74) (hij := rfl) (hlt := hlt) (h := ?_)
      refine p_storeRowF (f' := fun j => uV (if j < i + 1 then bitI j else 0)) F.ti74 (TI.cells F.ti74) (hlt := hlt) (hf := fun j _ => fillU bitI i j) (h := ?_)
      refine p_end ?_
      refine p_region fun hf => ?_
      refine p_add (r := ((i + 1 : Nat) : Int)) (hr := by omega) (hb := by omega) (h := ?_)
      refine p_move (h := ?_)
      refine p_end ?_
      refine p_some ?_
      refine ⟨⟨i + 1, by omega, eV_, eV_, eV_, eV_, oB_, oB_, oB_⟩, ?_⟩
      simp (decide := true) only [upd, e22, V.toN, ↓reduceIte]; omega
    · refine p_condF (h := ?_)
      have hie : i = n := by simp at hc23; omega
      have hrow : ((List.range n).map fun j => uV (if j < i then bitI j else 0)) = rows1 n := List.map_congr_left fun j hj => by rw [if_pos (by rw [hie]; simpa using hj)]
      refine p_exit ?_
      refine p_seq (p_region fun hf => ?_)
      (first | refine p_loadA (ht := F.agg77) (hi := F.ti77) (h := ?_) | refine p_loadRefA (ht := F.agg77) (hi := F.ti77) (h := ?_))
      refine p_storeAll F.ti77 (h := ?_)
      refine p_assign (h := ?_)
      refine p_end ?_
      refine TrC.ret ?_
      refine p_retO2 (0 + 1 + 1 + 1 + 1) 17 (v1 := fun g d => .agg [uV 0, .row g d n]) (v2 := fun _ _ => iV 0) rfl (by rw [← hrow]; exact oB_) ⟨_, _, _, _, eV_, oB_, F.agg77, _, _, _, F.ti77, rfl, rfl⟩ eV_ rfl (Ren.tup (.cons (.agg (.cons (.out rfl) (.cons (.row n) .nil))) (.cons (.out rfl) .nil)))

theorem rowS_neg {x : Nat} {y : Int} (h : y < 0) (j : Nat) : rowS x y j = rowX x j := by rw [rowS, if_neg (by omega)]
theorem set_zero (x j : Nat) : uV (rowX x j) = if j = x then uV 0 else uV (bitI j) := by
  by_cases h : j = x <;> simp [rowX, h]
theorem set_or {x : Nat} {y : Int} (h : 0 ≤ y) (j : Nat) : uV (rowS x y j) = if j = y.toNat then uV (orI (rowX x y.toNat) (bitI x)) else uV (rowX x j) := by
  by_cases hj : j = y.toNat
  · subst hj; rw [if_pos rfl, rowS, if_pos (by omega)]
  · rw [if_neg hj, rowS, if_neg (by omega)]

theorem set03 (n x : Nat) (y : Int) (h : n ≤ 64) (hx : x < n) (hy : -2 ≤ y ∧ y < n) : FnC Try.prog 65 [iV n, iV x, iV y] (fun r => r = .tup [.agg [uV (genS x y), .sl 74 (rowsS n x y)], iV 0]) := by
  refine FnC.of (fn := Try.f65) ⟨Try.func65, by kernel_rfl, rfl⟩ Try.ntmps65 (by simp) fun w0 S0 => ?_
  refine p_seq (p_region fun hf => ?_)
  refine p_alloc (hi := F.ti77) (h := ?_)
  refine p_assign (h := ?_)
  refine p_end ?_
  refine p_seq (p_region fun hf => ?_)
  refine p_move (h := ?_)
  refine p_callO 12 (hb := ⟨Try.func66, by kernel_rfl, rfl⟩) (hf := one03o n h) (h := ?_)
  refine p_move (h := ?_)
  refine p_extract (h := ?_)
  refine p_extract (h := ?_)
  refine p_alloc (hi := F.ti77) (h := ?_)
  refine p_storeAll F.ti77 (h := ?_)
  refine p_assign (h := ?_)
  refine p_end ?_
  refine p_seq ?_
  refine p_seq (p_region fun hf => ?_)
  refine p_move (h := ?_)
  refine p_num (h := ?_)
  refine p_end ?_
  refine p_isC (s := 16) (b := false) (hc := by rfl) (h := ?_)
  refine p_condF (h := ?_)
  refine p_skip ?_
  refine p_seq ?_
  refine p_seq (p_region fun hf => ?_)
  refine p_move (h := ?_)
  refine p_num (h := ?_)
  refine p_move (h := ?_)
  refine p_isW (s := 21) (b := false) (hc := by first | (simp; done) | (simp; omega)) (h := ?_)
  refine p_guardYes (h := ?_)
  refine p_move (h := ?_)
  refine p_guardYes (h := ?_)
  refine p_move (h := ?_)
  refine p_guardYes (h := ?_)
  refine p_num (h := ?_)
  refine p_pick (h := ?_)
  refine p_move (h := ?_)
  refine p_isW (s := 26) (b := false) (hc := by first | (simp; done) | (simp; omega)) (h := ?_)
  refine p_guardYes (h := ?_)
  refine p_move (h := ?_)
  refine p_guardYes (h := ?_)
  refine p_num (h := ?_)
  refine p_pick (h := ?_)
  refine p_move (h := ?_)
  refine p_isW (s := 30) (b := false) (hc := by first | (simp; done) | (simp; omega)) (h := ?_)
  refine p_guardYes (h := ?_)
  refine p_move (h := ?_)
  refine p_guardYes (h := ?_)
  refine p_move (h := ?_)
  refine p_guardYes (h := ?_)
  refine p_num (h := ?_)
  refine p_pick (h := ?_)
  refine p_end ?_
  refine p_isC (s := 34) (b := false) (hc := by first | (simp; done) | (simp; omega)) (h := ?_)
  refine p_condF (h := ?_)
  refine p_skip ?_
  refine p_seq (p_region fun hf => ?_)
  (first | refine p_fieldPtr (hf := F.fld77_1) (h := ?_) | refine p_fieldRef (hf := F.fld77_1) (h := ?_) | refine p_fieldRow (hf := F.fld77_1) (h := ?_))
  (first | refine p_load (ht := F.leaf75) (h := ?_) | refine p_loadRef (ht := F.leaf75) (h := ?_))
  refine p_move (h := ?_)
  refine p_idxRowN (x) (ht := Try.underlying75) (hi := F.ti74) (hij := rfl) (hlt := hx) (h := ?_)
  refine p_storeRowF (f' := fun j => uV (rowX x j)) F.ti74 (TI.cells F.ti74) (hlt := hx) (hf := fun j _ => set_zero x j) (h := ?_)
  refine p_end ?_
  refine p_seq ?_
  refine p_seq (p_region fun hf => ?_)
  refine p_move (h := ?_)
  refine p_end ?_
  refine TrC.block ?_
  refine p_seq (p_region fun hf => ?_)
  refine p_num (h := ?_)
  refine p_assign (h := ?_)
  refine p_end ?_
  refine p_splitC (s := 51) (ht := fun hc51 => ?_) (hf := fun hc51 => ?_)
  all_goals simp only [decide_eq_true_eq, decide_eq_false_iff_not] at hc51
  · refine p_condT (h := ?_)
    refine p_skip ?_
    refine p_seq (p_region fun hf => ?_)
    (first | refine p_loadA (ht := F.agg77) (hi := F.ti77) (h := ?_) | refine p_loadRefA (ht := F.agg77) (hi := F.ti77) (h := ?_))
    refine p_storeAll F.ti77 (h := ?_)
    refine p_assign (h := ?_)
    refine p_end ?_
    refine TrC.ret ?_
    refine p_freeze (g1 := 0 + 1 + 1) (d1 := 12) (h := ?_)
    refine p_cellSl (g1 := 0 + 1) (d1 := 6) (i := 1) (hn := by simp) (h := ?_)
    refine p_rets2 rfl (res_cell eV_ oB_ F.agg77 F.ti77 rfl rfl) ⟨eV_, rfl⟩ (by rw [rowsS, List.map_congr_left fun j _ => congrArg uV (rowS_neg (by omega) j), genS, if_neg (by omega)]; rfl)
  · refine p_condF (h := ?_)
    refine p_seq (p_region fun hf => ?_)
    refine p_num (h := ?_)
    refine p_assign (h := ?_)
    refine p_end ?_
    refine p_splitC (s := 53) (ht := fun hc53 => ?_) (hf := fun hc53 => ?_)
    all_goals simp only [decide_eq_true_eq, decide_eq_false_iff_not] at hc53
    · refine p_condT (h := ?_)
      refine p_region fun hf => ?_
      refine p_move (h := ?_)
      refine p_conv (hs := Try.underlying3) (ht := Try.underlying156) (h := ?_)
      refine p_shl (h0 := by rw [IntWalk.u64_in _ (by omega)]; omega) (hv := shl_bitW (by omega)) (h := ?_)
      (first | refine p_fieldPtr (hf := F.fld77_0) (h := ?_) | refine p_fieldRef (hf := F.fld77_0) (h := ?_) | refine p_fieldRow (hf := F.fld77_0) (h := ?_))
      refine p_store1 F.ti74 (h := ?_)
      refine p_end ?_
      refine p_seq (p_region fun hf => ?_)
      (first | refine p_loadA (ht := F.agg77) (hi := F.ti77) (h := ?_) | refine p_loadRefA (ht := F.agg77) (hi := F.ti77) (h := ?_))
      refine p_storeAll F.ti77 (h := ?_)
      refine p_assign (h := ?_)
      refine p_end ?_
      refine TrC.ret ?_
      refine p_freeze (g1 := 0 + 1 + 1) (d1 := 12) (h := ?_)
      refine p_cellSl (g1 := 0 + 1) (d1 := 6) (i := 1) (hn := by simp) (h := ?_)
      refine p_rets2 rfl (res_cell eV_ oB_ F.agg77 F.ti77 rfl rfl) ⟨eV_, rfl⟩ (by rw [rowsS, List.map_congr_left fun j _ => congrArg uV (rowS_neg (by omega) j), genS, if_pos (by omega)]; rfl)
    · refine p_condF (h := ?_)
      refine p_region fun hf => ?_
      (first | refine p_fieldPtr (hf := F.fld77_1) (h := ?_) | refine p_fieldRef (hf := F.fld77_1) (h := ?_) | refine p_fieldRow (hf := F.fld77_1) (h := ?_))
      (first | refine p_load (ht := F.leaf75) (h := ?_) | refine p_loadRef (ht := F.leaf75) (h := ?_))
      refine p_move (h := ?_)
      refine p_idxRowN (y.toNat) (ht := Try.underlying75) (hi := F.ti74) (hij := by omega) (hlt := by omega) (h := ?_)
      refine p_loadRowF (ht := F.leaf74) (hi := by omega) (h := ?_)
      refine p_move (h := ?_)
      refine p_conv (hs := Try.underlying3) (ht := Try.underlying156) (h := ?_)
      refine p_shl (h0 := by rw [IntWalk.u64_in _ (by omega)]; omega) (hv := shl_bitW (by omega)) (h := ?_)
      refine p_num (h := ?_)
      refine p_idxRowN (y.toNat) (ht := Try.underlying75) (hi := F.ti74) (hij := by omega) (hlt := by omega) (h := ?_)
      refine p_storeRowF (f' := fun j => uV (rowS x y j)) F.ti74 (TI.cells F.ti74) (hlt := by omega) (hf := fun j _ => set_or (by omega) j) (h := ?_)
      refine p_end ?_
      refine p_seq (p_region fun hf => ?_)
      (first | refine p_loadA (ht := F.agg77) (hi := F.ti77) (h := ?_) | refine p_loadRefA (ht := F.agg77) (hi := F.ti77) (h := ?_))
      refine p_storeAll F.ti77 (h := ?_)
      refine p_assign (h := ?_)
      refine p_end ?_
      refine TrC.ret ?_
      refine p_freeze (g1 := 0 + 1 + 1) (d1 := 12) (h := ?_)
      refine p_cellSl (g1 := 0 + 1) (d1 := 6) (i := 1) (hn := by simp) (h := ?_)
      refine p_rets2 rfl (res_cell eV_ oB_ F.agg77 F.ti77 rfl rfl) ⟨eV_, rfl⟩ (by rw [rowsS, genS, if_neg (by omega)]; rfl)

end Go.Proofs.Ytfjciangbmjlmaa
