/-
  cells.Set, Copy and Any, walked.
-/
import Derived.Test.YtfjciangbmjlmaaGy
set_option linter.unusedSimpArgs false
set_option linter.unusedVariables false
namespace Go.Proofs.Ytfjciangbmjlmaa
open Go.RowKit
theorem cell_put (x : Nat) (l : List V) (j : Nat) : cellX x (.agg l) j = if j = x then .agg l else celV (bitI j) 0 0 := rfl

theorem with04 (n x : Nat) (h : n ≤ 64) (hx : x < n) (f : FuncId) (fn : Func) (code : Code) (cap cl : List V) (hcap : V.outs cap = true) (hb : HasBody Try.prog f fn code) (hfc : FnC Try.prog f cap (fun r => r = .agg cl)) (hl : cl.length = 3) (hro : (V.agg cl).ro = true) : FnC Try.prog 85 [iV n, iV x, .fn f cap, .nil] (fun r => r = .tup [.sl 110 (cellsX n x (.agg cl)), iV 0]) := by
  refine FnC.of (fn := Try.f85) ⟨Try.func85, by kernel_rfl, rfl⟩ Try.ntmps85 (by simp) fun w0 S0 => ?_
  refine p_seq (p_region fun hf => ?_)
  refine p_assign (h := ?_)
  refine p_assign (h := ?_)
  refine p_end ?_
  refine p_seq ?_
  refine p_seq (p_region fun hf => ?_)
  refine p_move (h := ?_)
  refine p_call (hx := rfl) (hb := ⟨Try.func89, by kernel_rfl, rfl⟩) (hf := dims04 n h) (h := ?_)
  refine p_assign (h := ?_)
  refine p_end ?_
  refine p_seq (p_region fun hf => ?_)
  refine p_move (h := ?_)
  refine p_num (h := ?_)
  refine p_end ?_
  refine p_isC (s := 17) (b := false) (hc := by rfl) (h := ?_)
  refine p_condF (h := ?_)
  refine p_skip ?_
  refine p_seq ?_
  refine p_seq (p_region fun hf => ?_)
  refine p_move (h := ?_)
  refine p_move (h := ?_)
  refine p_buildSlice (ht := Try.underlying23) (hi := F.ti3) (h := ?_)
  refine p_appendNil (ht := Try.underlying23) (hi := F.ti3) (hy := by exact ⟨.inl oB_, rfl⟩) (hlim := by simp) (h := ?_)
  refine p_len (ht := Try.underlying23) (h := ?_)
  refine p_move (h := ?_)
  refine p_end ?_
  refine TrC.block ?_
  refine p_loop (fun st => ∃ i : Nat, i ≤ 1 ∧ st.env 0 = iV n ∧ st.env 1 = iV x ∧ st.env 2 = .fn f cap ∧ st.env 22 = .row (0 + 1 + 1 + 1 + 1) 22 1 ∧ st.env 23 = iV 1 ∧ st.env 24 = iV i ∧ st.obj (0 + 1 + 1 + 1 + 1) 22 = .row 3 ([(x : Int)].map iV)) (fun st => 1 - (st.env 24).toN) ?_ fun e ob g1 hI => ?_
  · exact ⟨0, by omega, eV_, eV_, eV_, eV_, eV_, eV_, oB_⟩
  · obtain ⟨i, hi, e0, e1, e2, e22, e23, e24, o22⟩ := hI
    dsimp only at e0 e1 e2 e22 e23 e24 o22
    have hE := (⟨e0, e1, e2, e22, e23, e24, o22⟩ : _ ∧ _ ∧ _ ∧ _ ∧ _ ∧ _ ∧ _)
    refine p_seq (p_region fun hf => ?_)
    refine p_num (h := ?_)
    refine p_end ?_
    refine p_seq ?_
    refine p_splitC (s := 25) (ht := fun hc25 => ?_) (hf := fun hc25 => ?_)
    · refine p_condT (h := ?_)
      have hl1 : i < 1 := by have h1 := of_decide_eq_true hc25; omega
      have hlt : i < ([(x : Int)] : List Int).length := hl1
      refine p_skip ?_
      refine p_seq ?_
      refine TrC.block ?_
      refine p_seq (p_region fun hf => ?_)
      refine p_idxRowN (i) (ht := Try.underlying23) (hi := F.ti3) (hij := rfl) (hlt := hlt) (h := ?_)
      refine p_loadRowM (ht := F.leaf3) (hj := hlt) (h := ?_)
      refine p_assign (h := ?_)
      refine p_end ?_
      refine p_seq (p_region fun hf => ?_)
      refine p_move (h := ?_)
      refine p_num (h := ?_)
      refine p_move (h := ?_)
      refine p_isW (s := 30) (b := false) (hc := by obtain rfl : i = 0 := (by omega); first | (simp; done) | (simp; omega)) (h := ?_)
      refine p_guardYes (h := ?_)
      refine p_move (h := ?_)
      refine p_guardYes (h := ?_)
      refine p_move (h := ?_)
      refine p_guardYes (h := ?_)
      refine p_num (h := ?_)
      refine p_pick (h := ?_)
      refine p_end ?_
      refine p_isC (s := 34) (b := false) (hc := by obtain rfl : i = 0 := (by omega); first | (simp; done) | (simp; omega)) (h := ?_)
      refine p_condF (h := ?_)
      refine p_skip ?_
      refine p_region fun hf => ?_
      refine p_add (r := ((i + 1 : Nat) : Int)) (hr := by omega) (hb := by omega) (h := ?_)
      refine p_move (h := ?_)
      refine p_end ?_
      refine p_some ?_
      refine ⟨⟨i + 1, by omega, eV_, eV_, eV_, eV_, eV_, eV_, oB_⟩, ?_⟩
      simp (decide := true) only [upd, e24, V.toN, ↓reduceIte]; omega
    · refine p_condF (h := ?_)
      refine p_exit ?_
      refine p_seq (p_region fun hf => ?_)
      refine p_move (h := ?_)
      refine p_callO 37 (hb := ⟨Try.func90, by kernel_rfl, rfl⟩) (hf := one04o' n h) (h := ?_)
      refine p_assign (h := ?_)
      refine p_end ?_
      refine p_seq (p_region fun hf => ?_)
      refine p_move (h := ?_)
      refine p_move (h := ?_)
      refine p_move (h := ?_)
      refine p_call (hb := hb) (hro := by simp [V.outs, V.out, hcap]) (hf := hfc) (h := ?_)
      refine p_idxRowN (x) (ht := Try.underlying78) (hi := F.ti110) (hij := rfl) (hlt := hx) (h := ?_)
      refine p_storeRowAF (f' := cellX x (.agg cl)) F.ti110 (TI.cells F.ti110) eV_ oB_ (hx) eV_ hro hl (fun j _ => cell_put x cl j) ?_
      refine p_end ?_
      refine p_seq (p_region fun hf => ?_)
      refine p_move (h := ?_)
      refine p_assign (h := ?_)
      refine p_assign (h := ?_)
      refine p_end ?_
      refine TrC.ret ?_
      refine p_freeze (g1 := g1 + 1 + 1) (d1 := 37) (h := ?_)
      refine p_toSl (s := 8) (hn := by simp) (h := ?_)
      refine p_rets2 rfl ⟨eV_, rfl⟩ ⟨eV_, rfl⟩ rfl

theorem set04 (n x : Nat) (k : Int) (h : n ≤ 64) (hx : x < n) : FnC Try.prog 67 [iV n, iV x, iV k] (fun r => r = .tup [.sl 110 (cellsX n x (celV 0 1 k)), iV 0]) := by
  refine FnC.of (fn := Try.f67) ⟨Try.func67, by kernel_rfl, rfl⟩ Try.ntmps67 (by simp) fun w0 S0 => ?_
  refine p_seq (p_region fun hf => ?_)
  refine p_box (h := ?_)
  refine p_assign (h := ?_)
  refine p_assign (h := ?_)
  refine p_end ?_
  refine p_seq (p_region fun hf => ?_)
  refine p_move (h := ?_)
  refine p_move (h := ?_)
  refine p_func (h := ?_)
  refine p_callFz (vs := [iV n, iV x, .fn 86 [.ref [iV k]], .nil]) [.cell (0 + 1) 5 2 [iV k]] (hb := ⟨Try.func85, by kernel_rfl, rfl⟩) (hz := ⟨oB_, rfl, trivial⟩) (hvs := by simp [fzVal, Fz.val, V.unps, V.unp]) (hf := with04 n x h hx _ _ _ [.ref [iV k]] _ rfl ⟨Try.func86, by kernel_rfl, rfl⟩ (set04c k) rfl rfl) (h := ?_)
  simp only [fzAll, Fz.key, Fz.ob', List.map_cons, List.map_nil, Fz.eff]
  refine p_extract (h := ?_)
  refine p_extract (h := ?_)
  refine p_assign (h := ?_)
  refine p_assign (h := ?_)
  refine p_end ?_
  refine TrC.ret ?_
  refine p_rets2 rfl ⟨eV_, rfl⟩ ⟨eV_, rfl⟩ rfl

theorem any04 (n x : Nat) (h : n ≤ 64) (hx : x < n) : FnC Try.prog 69 [iV n, iV x] (fun r => r = .tup [.sl 110 (cellsX n x (celV 0 2 0)), iV 0]) := by
  refine FnC.of (fn := Try.f69) ⟨Try.func69, by kernel_rfl, rfl⟩ Try.ntmps69 (by simp) fun w0 S0 => ?_
  refine p_seq (p_region fun hf => ?_)
  refine p_assign (h := ?_)
  refine p_assign (h := ?_)
  refine p_end ?_
  refine p_seq (p_region fun hf => ?_)
  refine p_move (h := ?_)
  refine p_move (h := ?_)
  refine p_call (hx := rfl) (hb := ⟨Try.func85, by kernel_rfl, rfl⟩) (hf := with04 n x h hx _ _ _ [] _ rfl ⟨Try.func88, by kernel_rfl, rfl⟩ any04c rfl rfl) (h := ?_)
  refine p_extract (h := ?_)
  refine p_extract (h := ?_)
  refine p_assign (h := ?_)
  refine p_assign (h := ?_)
  refine p_end ?_
  refine TrC.ret ?_
  refine p_rets2 rfl ⟨eV_, rfl⟩ ⟨eV_, rfl⟩ rfl

theorem copy04 (n x y : Nat) (h : n ≤ 64) (hx : x < n) (hy : y < n) : FnC Try.prog 68 [iV n, iV x, iV y] (fun r => r = .tup [.sl 110 (cellsX n x (celV (bitI y) 0 0)), iV 0]) := by
  refine FnC.of (fn := Try.f68) ⟨Try.func68, by kernel_rfl, rfl⟩ Try.ntmps68 (by simp) fun w0 S0 => ?_
  refine p_seq (p_region fun hf => ?_)
  refine p_box (h := ?_)
  refine p_assign (h := ?_)
  refine p_assign (h := ?_)
  refine p_end ?_
  refine p_seq (p_region fun hf => ?_)
  refine p_move (h := ?_)
  refine p_move (h := ?_)
  refine p_func (h := ?_)
  (first | refine p_load (ht := F.leaf3) (h := ?_) | refine p_loadRef (ht := F.leaf3) (h := ?_))
  refine p_buildSlice (ht := Try.underlying23) (hi := F.ti3) (h := ?_)
  refine p_enter (nt' := 44) ⟨Try.func85, by kernel_rfl, rfl⟩ Try.ntmps85 (h := fun a0 => ?_)
  refine p_seq (p_region fun hf => ?_)
  refine p_assign (h := ?_)
  refine p_assign (h := ?_)
  refine p_end ?_
  refine p_seq ?_
  refine p_seq (p_region fun hf => ?_)
  refine p_move (h := ?_)
  refine p_call (hx := rfl) (hb := ⟨Try.func89, by kernel_rfl, rfl⟩) (hf := dims04 n h) (h := ?_)
  refine p_assign (h := ?_)
  refine p_end ?_
  refine p_seq (p_region fun hf => ?_)
  refine p_move (h := ?_)
  refine p_num (h := ?_)
  refine p_end ?_
  refine p_isC (s := 17) (b := false) (hc := by rfl) (h := ?_)
  refine p_condF (h := ?_)
  refine p_skip ?_
  refine p_seq ?_
  refine p_seq (p_region fun hf => ?_)
  refine p_move (h := ?_)
  refine p_move (h := ?_)
  refine p_buildSlice (ht := Try.underlying23) (hi := F.ti3) (h := ?_)
  refine p_append (k := 2) (ht := Try.underlying23) (hi := F.ti3) (hnl := by simp) (hy := by exact ⟨.inl oB_, rfl⟩) (hm := by simp) (hlim := by omega) (h := ?_)
  refine p_len (ht := Try.underlying23) (h := ?_)
  refine p_move (h := ?_)
  refine p_end ?_
  refine TrC.block ?_
  refine p_loop (fun st => ∃ i : Nat, i ≤ 2 ∧ st.env 0 = iV n ∧ st.env 1 = iV x ∧ st.env 2 = .fn 87 [.ptr (0 + 1) 5 0] ∧ st.env 22 = .row (0 + 1 + 1 + 1 + 1 + 1 + 1) 22 2 ∧ st.env 23 = iV 2 ∧ st.env 24 = iV i ∧ st.obj (0 + 1 + 1 + 1 + 1 + 1 + 1) 22 = .row 3 ([(y : Int), (x : Int)].map iV) ∧ st.obj (0 + 1) 5 = .cells 3 [iV y]) (fun st => 2 - (st.env 24).toN) ?_ fun e ob g1 hI => ?_
  · exact ⟨0, by omega, eV_, eV_, eV_, eV_, eV_, eV_, oB_, oB_⟩
  · obtain ⟨i, hi, e0, e1, e2, e22, e23, e24, o22, o5⟩ := hI
    dsimp only at e0 e1 e2 e22 e23 e24 o22 o5
    have hE := (⟨e0, e1, e2, e22, e23, e24, o22, o5⟩ : _ ∧ _ ∧ _ ∧ _ ∧ _ ∧ _ ∧ _ ∧ _)
    refine p_seq (p_region fun hf => ?_)
    refine p_num (h := ?_)
    refine p_end ?_
    refine p_seq ?_
    refine p_splitC (s := 25) (ht := fun hc25 => ?_) (hf := fun hc25 => ?_)
    · refine p_condT (h := ?_)
      have hl1 : i < 2 := by have h1 := of_decide_eq_true hc25; omega
      have hlt : i < ([(y : Int), (x : Int)] : List Int).length := hl1
      refine p_skip ?_
      refine p_seq ?_
      refine TrC.block ?_
      refine p_seq (p_region fun hf => ?_)
      refine p_idxRowN (i) (ht := Try.underlying23) (hi := F.ti3) (hij := rfl) (hlt := hlt) (h := ?_)
      refine p_loadRowM (ht := F.leaf3) (hj := hlt) (h := ?_)
      refine p_assign (h := ?_)
      refine p_end ?_
      refine p_seq (p_region fun hf => ?_)
      refine p_move (h := ?_)
      refine p_num (h := ?_)
      refine p_move (h := ?_)
      refine p_isW (s := 30) (b := false) (hc := by obtain rfl | rfl : i = 0 ∨ i = 1 := (by omega) <;> first | (simp; done) | (simp; omega)) (h := ?_)
      refine p_guardYes (h := ?_)
      refine p_move (h := ?_)
      refine p_guardYes (h := ?_)
      refine p_move (h := ?_)
      refine p_guardYes (h := ?_)
      refine p_num (h := ?_)
      refine p_pick (h := ?_)
      refine p_end ?_
      refine p_isC (s := 34) (b := false) (hc := by obtain rfl | rfl : i = 0 ∨ i = 1 := (by omega) <;> first | (simp; done) | (simp; omega)) (h := ?_)
      refine p_condF (h := ?_)
      refine p_skip ?_
      refine p_region fun hf => ?_
      refine p_add (r := ((i + 1 : Nat) : Int)) (hr := by omega) (hb := by omega) (h := ?_)
      refine p_move (h := ?_)
      refine p_end ?_
      refine p_some ?_
      refine ⟨⟨i + 1, by omega, eV_, eV_, eV_, eV_, eV_, eV_, oB_, oB_⟩, ?_⟩
      simp (decide := true) only [upd, e24, V.toN, ↓reduceIte]; omega
    · refine p_condF (h := ?_)
      refine p_exit ?_
      refine p_seq (p_region fun hf => ?_)
      refine p_move (h := ?_)
      refine p_callO 37 (hb := ⟨Try.func90, by kernel_rfl, rfl⟩) (hf := one04o' n h) (h := ?_)
      refine p_assign (h := ?_)
      refine p_end ?_
      refine p_seq (p_region fun hf => ?_)
      refine p_move (h := ?_)
      refine p_move (h := ?_)
      refine p_move (h := ?_)
      refine p_callFlat [(0 + 1, 5)] (cap := [.ptr (0 + 1) 5 0]) (hb := ⟨Try.func87, by kernel_rfl, rfl⟩) (us := []) (vs := []) (vs' := [.ref [iV y]]) (hvs := fun e' ob' g' hk => ⟨trivial, ⟨_, [iV y], [iV y], (hk (0 + 1, 5) (by simp)).trans oB_, ⟨⟨rfl, rfl⟩, trivial⟩, rfl⟩, trivial⟩) (hf := copy04c y (by omega)) (h := ?_)
      refine p_idxRowN (x) (ht := Try.underlying78) (hi := F.ti110) (hij := rfl) (hlt := hx) (h := ?_)
      refine p_storeRowAF (f' := cellX x (celV (bitI y) 0 0)) F.ti110 (TI.cells F.ti110) eV_ oB_ (hx) eV_ rfl rfl (fun j _ => cell_put x [uV (bitI y), iV 0, iV 0] j) ?_
      refine p_end ?_
      refine p_seq (p_region fun hf => ?_)
      refine p_move (h := ?_)
      refine p_assign (h := ?_)
      refine p_assign (h := ?_)
      refine p_end ?_
      refine TrC.ret ?_
      refine p_freeze (g1 := g1 + 1 + 1) (d1 := 37) (h := ?_)
      refine p_toSl (s := 8) (hn := by simp) (h := ?_)
      refine p_retE2 rfl eV_ eV_ ?_
      show Wk _ _ _ _ _ _
      refine p_extract (h := ?_)
      refine p_extract (h := ?_)
      refine p_assign (h := ?_)
      refine p_assign (h := ?_)
      refine p_end ?_
      refine TrC.ret ?_
      refine p_rets2 rfl ⟨eV_, rfl⟩ ⟨eV_, rfl⟩ rfl

end Go.Proofs.Ytfjciangbmjlmaa
