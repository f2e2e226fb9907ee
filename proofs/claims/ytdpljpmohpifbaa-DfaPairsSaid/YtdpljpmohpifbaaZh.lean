/-
  dfa's least, Least, not and Not, walked.
-/
import Derived.Test.YtdpljpmohpifbaaZg
set_option linter.unusedSimpArgs false
set_option linter.unusedVariables false
namespace Go.Proofs.Ytdpljpmohpifbaa
open Go.RowKit
theorem nodup_le {α : Type} [DecidableEq α] : ∀ {l l' : List α}, l.Nodup → (∀ x ∈ l, x ∈ l') → l.length ≤ l'.length
  | [], _, _, _ => Nat.zero_le _
  | x :: l, l', h, hs => by
    have h1 := List.nodup_cons.1 h
    have hx := hs x (by simp)
    have ih := nodup_le (l' := l'.erase x) h1.2 fun y hy => by
      rw [List.mem_erase_of_ne (fun e => h1.1 (by rw [← e]; exact hy))]; exact hs y (by simp [hy])
    rw [List.length_erase_of_mem hx] at ih
    have := List.length_pos_of_mem hx
    simp only [List.length_cons]; omega
namespace Dfa
/-- The states that are met, by their classes. -/
def In (d : Dfa) (s : Int × Int) : Prop := ∃ i, i < d.n ∧ s = ((d.cls i : Int), (d.firstI (d.cls i) : Int))
theorem In.bound {d : Dfa} {s : Int × Int} (h : d.In s) : 0 ≤ s.2 ∧ s.2 < d.n := by
  obtain ⟨i, hi, rfl⟩ := h
  have := firstI_lt hi
  constructor
  · exact Int.natCast_nonneg _
  · show ((d.firstI (d.cls i) : Nat) : Int) < _
    omega
theorem In.next {d : Dfa} (hd : d.Ok) {s : Int × Int} {k : Nat} (h : d.In s) (hk : (k : Int) < d.sym) : d.In (d.nextP s k) :=
  ⟨d.nx s.2.toNat k, hd.nx_lt (by have := h.bound; omega) hk, rfl⟩
theorem In.few {d : Dfa} (l : List (Int × Int)) (h : l.Nodup) (hp : ∀ s ∈ l, d.In s) : l.length ≤ d.n := by
  have := nodup_le (l' := (List.range d.n).map fun i => ((d.cls i : Int), (d.firstI (d.cls i) : Int))) h fun s hs => by
    obtain ⟨i, hi, rfl⟩ := hp s hs
    exact List.mem_map.2 ⟨i, by simpa using hi, rfl⟩
  simpa using this
def leastR (d : Dfa) : Dfa := grown d.nextP d.accP (d.cls 0, d.firstI (d.cls 0)) d.sym.toNat d.n
def flip (d : Dfa) : Dfa := ⟨d.sym, d.next, d.acc.map (!·)⟩
theorem Ok.flip {d : Dfa} (h : d.Ok) : d.flip.Ok := ⟨h.sym0, h.sym1, h.n0, h.n1, by simp [Dfa.flip]; exact h.acc, h.rows⟩
def notR (d : Dfa) : Dfa := d.flip.leastR
abbrev zero : Dfa := ⟨0, [], []⟩
theorem ok_err {d : Dfa} (h : decide (d.err ≠ 0) = false) : d.Ok := by
  refine ok_of ?_
  cases hg : d.good with
  | true => rfl
  | false => simp [err, hg] at h
end Dfa
theorem first09c (d : Dfa) (hd : d.Ok) {i : Nat} (hi : i < d.n) : FnC Try.prog 52 [.sl 3 (d.clsL.map iV), iV (d.cls i)] (fun r => r = iV (d.firstI (d.cls i))) := by
  have := first09 d.clsL (d.cls i) (by rw [Dfa.clsL_len]; have := hd.n1; omega)
  rwa [idx_nat (Dfa.cls_mem hi)] at this

theorem least09 (d : Dfa) (h : d.Ok) : FnC Try.prog 33 [dfaV d] (fun r => r = dfaV d.leastR) := by
  refine FnC.of (fn := Try.f33) ⟨Try.func33, by kernel_rfl, rfl⟩ Try.ntmps33 (by simp) fun w0 S0 => ?_
  have h00 : 0 < d.clsL.length := by rw [Dfa.clsL_len]; exact h.n0
  obtain ⟨m, hm⟩ : ∃ m : Nat, d.sym = m := ⟨d.sym.toNat, by have := h.sym0; omega⟩
  refine p_seq (p_region fun hf => ?_)
  refine p_box (h := ?_)
  refine p_alloc (hi := F.ti25) (h := ?_)
  refine p_end ?_
  refine p_seq (p_region fun hf => ?_)
  (first | refine p_loadA (ht := F.agg25) (hi := F.ti25) (h := ?_) | refine p_loadRefA (ht := F.agg25) (hi := F.ti25) (h := ?_))
  refine p_call (hx := rfl) (hb := ⟨Try.func49, by kernel_rfl, rfl⟩) (hf := classes09 d h) (h := ?_)
  refine p_alloc (hi := F.ti26) (h := ?_)
  refine p_store1 F.ti26 (h := ?_)
  refine p_end ?_
  refine p_seq (p_draw F.mixed fun hf => ?_)
  (first | refine p_fieldPtr (hf := F.fld25_0) (h := ?_) | refine p_fieldRef (hf := F.fld25_0) (h := ?_) | refine p_fieldRow (hf := F.fld25_0) (h := ?_))
  (first | refine p_load (ht := F.leaf3) (h := ?_) | refine p_loadRef (ht := F.leaf3) (h := ?_))
  refine p_func (h := ?_)
  refine p_func (h := ?_)
  (first | refine p_load (ht := F.leaf26) (h := ?_) | refine p_loadRef (ht := F.leaf26) (h := ?_))
  refine p_idxMap (j := 0) (ht := Try.underlying26) (hi := F.ti3) (hij := rfl) (hj := h00) (h := ?_)
  rw [Dfa.clsL_get h00]
  (first | refine p_load (ht := F.leaf3) (h := ?_) | refine p_loadRef (ht := F.leaf3) (h := ?_))
  (first | refine p_load (ht := F.leaf26) (h := ?_) | refine p_loadRef (ht := F.leaf26) (h := ?_))
  (first | refine p_load (ht := F.leaf26) (h := ?_) | refine p_loadRef (ht := F.leaf26) (h := ?_))
  refine p_idxMap (j := 0) (ht := Try.underlying26) (hi := F.ti3) (hij := rfl) (hj := h00) (h := ?_)
  rw [Dfa.clsL_get h00]
  (first | refine p_load (ht := F.leaf3) (h := ?_) | refine p_loadRef (ht := F.leaf3) (h := ?_))
  refine p_call (hx := rfl) (hb := ⟨Try.func52, by kernel_rfl, rfl⟩) (hf := first09c d h h.n0) (h := ?_)
  refine p_build (hi := F.ti78) (hpl := F.pl78) (h := ?_)
  refine p_callFz (vs := [iV m, .fn 51 [.ref (dfaL d), .ref [.sl 3 (d.clsL.map iV)]], .fn 53 [.ref (dfaL d)], pairV (d.cls 0, d.firstI (d.cls 0))]) [.cell (0 + 1) 1 25 (dfaL d), .cell (0 + 1 + 1) 3 26 [.sl 3 (d.clsL.map iV)]] (hb := ⟨Try.func50, by kernel_rfl, rfl⟩) (hz := ⟨oB_, rfl, oB_, rfl, trivial⟩) (hvs := by simp [fzVal, Fz.val, V.unps, V.unp, hm]) (hf := grown09 m 51 53 _ _ _ _ [.ref (dfaL d), .ref [.sl 3 (d.clsL.map iV)]] [.ref (dfaL d)] d.nextP d.accP (d.cls 0, d.firstI (d.cls 0)) d.In d.n (by have := h.sym1; omega) rfl rfl ⟨Try.func51, by kernel_rfl, rfl⟩ ⟨Try.func53, by kernel_rfl, rfl⟩ ⟨0, h.n0, rfl⟩ (fun s k hs hk => hs.next h (by omega)) (fun s k hs hk => least1 d h s k hs.bound (by omega)) (fun s hs => least2 d h s hs.bound) Dfa.In.few (by have := h.n1; omega)) (h := ?_)
  simp only [fzAll, Fz.key, Fz.ob', List.map_cons, List.map_nil, Fz.eff]
  refine p_storeAll F.ti25 (h := ?_)
  refine p_endD ?_
  refine TrC.ret ?_
  refine Tr.ret1 rfl (res_cell eV_ oB_ F.agg25 F.ti25 rfl rfl) (by rw [Dfa.leastR, hm]; rfl) (by intro l h; cases h)

theorem Least09 (d : Dfa) (hfit : d.fits) : FnC Try.prog 17 [dfaV d] (fun r => r = .tup [dfaV (if decide (d.err ≠ 0) then Dfa.zero else d.leastR), iV d.err]) := by
  refine FnC.of (fn := Try.f17) ⟨Try.func17, by kernel_rfl, rfl⟩ Try.ntmps17 (by simp) fun w0 S0 => ?_
  refine p_seq (p_region fun hf => ?_)
  refine p_box (h := ?_)
  refine p_alloc (hi := F.ti25) (h := ?_)
  refine p_assign (h := ?_)
  refine p_end ?_
  refine p_seq ?_
  refine p_seq (p_region fun hf => ?_)
  (first | refine p_loadA (ht := F.agg25) (hi := F.ti25) (h := ?_) | refine p_loadRefA (ht := F.agg25) (hi := F.ti25) (h := ?_))
  refine p_call (hx := rfl) (hb := ⟨Try.func21, by kernel_rfl, rfl⟩) (hf := check09 d hfit) (h := ?_)
  refine p_assign (h := ?_)
  refine p_end ?_
  refine p_seq (p_region fun hf => ?_)
  refine p_move (h := ?_)
  refine p_num (h := ?_)
  refine p_end ?_
  refine p_splitC (s := 8) (ht := fun hc8 => ?_) (hf := fun hc8 => ?_)
  · refine p_condT (h := ?_)
    refine p_seq (p_region fun hf => ?_)
    refine p_build (hi := F.ti25) (hpl := F.pl25) (h := ?_)
    refine p_move (h := ?_)
    refine p_storeAll F.ti25 (h := ?_)
    refine p_assign (h := ?_)
    refine p_end ?_
    refine TrC.ret ?_
    refine p_cellNil (g1 := 0 + 1) (d1 := 2) (i := 1) (el := 26) (h := ?_)
    refine p_cellNil (g1 := 0 + 1) (d1 := 2) (i := 2) (el := 4) (h := ?_)
    refine p_rets2 rfl (res_cell eV_ oB_ F.agg25 F.ti25 rfl rfl) ⟨eV_, rfl⟩ (by simp only [hc8, ↓reduceIte]; rfl)
  · refine p_condF (h := ?_)
    have hok := Dfa.ok_err hc8
    refine p_skip ?_
    refine p_seq (p_region fun hf => ?_)
    (first | refine p_loadA (ht := F.agg25) (hi := F.ti25) (h := ?_) | refine p_loadRefA (ht := F.agg25) (hi := F.ti25) (h := ?_))
    refine p_call (hx := rfl) (hb := ⟨Try.func33, by kernel_rfl, rfl⟩) (hf := least09 d hok) (h := ?_)
    refine p_storeAll F.ti25 (h := ?_)
    refine p_assign (h := ?_)
    refine p_end ?_
    refine TrC.ret ?_
    refine p_rets2 rfl (res_cell eV_ oB_ F.agg25 F.ti25 rfl rfl) ⟨eV_, rfl⟩ (by simp only [hc8, Bool.false_eq_true, ↓reduceIte]; simp at hc8; rw [hc8])

theorem not09 (d : Dfa) (h : d.Ok) : FnC Try.prog 35 [dfaV d] (fun r => r = dfaV d.notR) := by
  refine FnC.of (fn := Try.f35) ⟨Try.func35, by kernel_rfl, rfl⟩ Try.ntmps35 (by simp) fun w0 S0 => ?_
  have hacc := h.acc
  have hn1 := h.n1
  refine p_seq (p_region fun hf => ?_)
  refine p_box (h := ?_)
  refine p_alloc (hi := F.ti25) (h := ?_)
  refine p_end ?_
  refine p_seq (p_region fun hf => ?_)
  (first | refine p_fieldPtr (hf := F.fld25_0) (h := ?_) | refine p_fieldRef (hf := F.fld25_0) (h := ?_) | refine p_fieldRow (hf := F.fld25_0) (h := ?_))
  (first | refine p_load (ht := F.leaf3) (h := ?_) | refine p_loadRef (ht := F.leaf3) (h := ?_))
  (first | refine p_fieldPtr (hf := F.fld25_1) (h := ?_) | refine p_fieldRef (hf := F.fld25_1) (h := ?_) | refine p_fieldRow (hf := F.fld25_1) (h := ?_))
  (first | refine p_load (ht := F.leaf22) (h := ?_) | refine p_loadRef (ht := F.leaf22) (h := ?_))
  refine p_build (hi := F.ti25) (hpl := F.pl25) (h := ?_)
  refine p_alloc (hi := F.ti25) (h := ?_)
  refine p_storeAll F.ti25 (h := ?_)
  refine p_end ?_
  refine p_seq ?_
  refine p_seq (p_region fun hf => ?_)
  (first | refine p_fieldPtr (hf := F.fld25_2) (h := ?_) | refine p_fieldRef (hf := F.fld25_2) (h := ?_) | refine p_fieldRow (hf := F.fld25_2) (h := ?_))
  (first | refine p_load (ht := F.leaf23) (h := ?_) | refine p_loadRef (ht := F.leaf23) (h := ?_))
  refine p_len (ht := Try.underlying23) (h := ?_)
  refine p_move (h := ?_)
  refine p_end ?_
  refine p_nilCell (g1 := 0 + 1 + 1) (d1 := 3) (i := 2) (el := 4) 23 (h := ?_)
  refine TrC.block ?_
  refine p_loop (fun st => ∃ i q : Nat, i ≤ d.acc.length ∧ st.env 2 = .ptr (0 + 1) 2 0 ∧ st.env 3 = .ptr (0 + 1 + 1) 3 0 ∧ st.env 12 = .sl 4 (d.acc.map .bool) ∧ st.env 13 = iV d.acc.length ∧ st.env 14 = iV i ∧ st.obj (0 + 1) 2 = .cells 25 [iV 0, .nil, .nil] ∧ st.obj (0 + 1 + 1) 3 = .cells 25 [iV d.sym, .sl 26 (d.next.map rowV), .row q 23 i] ∧ st.obj q 23 = .row 4 (((d.acc.take i).map fun b => !b).map .bool)) (fun st => d.acc.length - (st.env 14).toN) ?_ fun e ob g1 hI => ?_
  · exact ⟨0, _, by omega, eV_, eV_, eV_, eV_, eV_, oB_, oB_, oB_⟩
  · obtain ⟨i, q, hi, e2, e3, e12, e13, e14, o2, o3, o23⟩ := hI
    dsimp only at e2 e3 e12 e13 e14 o2 o3 o23
    have hE := (⟨e2, e3, e12, e13, e14, o2, o3, o23⟩ : _ ∧ _ ∧ _ ∧ _ ∧ _ ∧ _ ∧ _ ∧ _)
    refine p_seq (p_region fun hf => ?_)
    refine p_num (h := ?_)
    refine p_end ?_
    refine p_seq ?_
    refine p_splitC (s := 15) (ht := fun hc15 => ?_) (hf := fun hc15 => ?_)
    · refine p_condT (h := ?_)
      have hlt : i < d.acc.length := by simpa using hc15
      refine p_skip ?_
      refine p_seq ?_
      refine TrC.block ?_
      refine p_seq (p_region fun hf => ?_)
      refine p_idxMap (j := i) (ht := Try.underlying23) (hi := F.ti4) (hij := rfl) (hj := hlt) (h := ?_)
      (first | refine p_load (ht := F.leaf4) (h := ?_) | refine p_loadRef (ht := F.leaf4) (h := ?_))
      refine p_assign (h := ?_)
      refine p_end ?_
      refine p_region fun hf => ?_
      (first | refine p_fieldPtr (hf := F.fld25_2) (h := ?_) | refine p_fieldRef (hf := F.fld25_2) (h := ?_) | refine p_fieldRow (hf := F.fld25_2) (h := ?_))
      (first | refine p_load (ht := F.leaf23) (h := ?_) | refine p_loadRef (ht := F.leaf23) (h := ?_))
      refine p_move (h := ?_)
      refine p_not (h := ?_)
      refine p_buildSlice (ht := Try.underlying23) (hi := F.ti4) (h := ?_)
      refine p_append (k := i + 1) (ht := Try.underlying23) (hi := F.ti4) (hnl := by simp; omega) (hy := by exact ⟨.inl oB_, rfl⟩) (hm := by simp; omega) (hlim := by omega) (h := ?_)
      (first | refine p_fieldPtr (hf := F.fld25_2) (h := ?_) | refine p_fieldRef (hf := F.fld25_2) (h := ?_) | refine p_fieldRow (hf := F.fld25_2) (h := ?_))
      refine p_store1 F.ti23 (h := ?_)
      refine p_end ?_
      refine p_region fun hf => ?_
      refine p_add (r := ((i + 1 : Nat) : Int)) (hr := by omega) (hb := by omega) (h := ?_)
      refine p_move (h := ?_)
      refine p_end ?_
      refine p_some ?_
      refine ⟨⟨i + 1, _, hlt, eV_, eV_, eV_, eV_, eV_, oB_, oB_, by refine Eq.trans oB_ ?_; rw [List.take_add_one, List.getElem?_eq_getElem hlt, List.map_append, List.map_append]; rfl⟩, ?_⟩
      simp (decide := true) only [upd, e14, V.toN, ↓reduceIte]; omega
    · refine p_condF (h := ?_)
      obtain rfl : i = d.acc.length := by simp at hc15; omega
      rw [List.take_length] at o23
      have hE := (⟨e2, e3, e12, e13, e14, o2, o3, o23⟩ : _ ∧ _ ∧ _ ∧ _ ∧ _ ∧ _ ∧ _ ∧ _)
      refine p_exit ?_
      refine p_freeze (g1 := q) (d1 := 23) (h := ?_)
      refine p_cellSl (g1 := 0 + 1 + 1) (d1 := 3) (i := 2) (hn := by simp) (h := ?_)
      refine p_seq (p_region fun hf => ?_)
      (first | refine p_loadA (ht := F.agg25) (hi := F.ti25) (h := ?_) | refine p_loadRefA (ht := F.agg25) (hi := F.ti25) (h := ?_))
      refine p_call (hx := rfl) (hb := ⟨Try.func33, by kernel_rfl, rfl⟩) (hf := least09 d.flip h.flip) (h := ?_)
      refine p_storeAll F.ti25 (h := ?_)
      refine p_end ?_
      refine TrC.ret ?_
      refine Tr.ret1 rfl (res_cell eV_ oB_ F.agg25 F.ti25 rfl rfl) rfl (by intro l h; cases h)

theorem Not09 (d : Dfa) (hfit : d.fits) : FnC Try.prog 19 [dfaV d] (fun r => r = .tup [dfaV (if decide (d.err ≠ 0) then Dfa.zero else d.notR), iV d.err]) := by
  refine FnC.of (fn := Try.f19) ⟨Try.func19, by kernel_rfl, rfl⟩ Try.ntmps19 (by simp) fun w0 S0 => ?_
  refine p_seq (p_region fun hf => ?_)
  refine p_box (h := ?_)
  refine p_alloc (hi := F.ti25) (h := ?_)
  refine p_assign (h := ?_)
  refine p_end ?_
  refine p_seq ?_
  refine p_seq (p_region fun hf => ?_)
  (first | refine p_loadA (ht := F.agg25) (hi := F.ti25) (h := ?_) | refine p_loadRefA (ht := F.agg25) (hi := F.ti25) (h := ?_))
  refine p_call (hx := rfl) (hb := ⟨Try.func21, by kernel_rfl, rfl⟩) (hf := check09 d hfit) (h := ?_)
  refine p_assign (h := ?_)
  refine p_end ?_
  refine p_seq (p_region fun hf => ?_)
  refine p_move (h := ?_)
  refine p_num (h := ?_)
  refine p_end ?_
  refine p_splitC (s := 8) (ht := fun hc8 => ?_) (hf := fun hc8 => ?_)
  · refine p_condT (h := ?_)
    refine p_seq (p_region fun hf => ?_)
    refine p_build (hi := F.ti25) (hpl := F.pl25) (h := ?_)
    refine p_move (h := ?_)
    refine p_storeAll F.ti25 (h := ?_)
    refine p_assign (h := ?_)
    refine p_end ?_
    refine TrC.ret ?_
    refine p_cellNil (g1 := 0 + 1) (d1 := 2) (i := 1) (el := 26) (h := ?_)
    refine p_cellNil (g1 := 0 + 1) (d1 := 2) (i := 2) (el := 4) (h := ?_)
    refine p_rets2 rfl (res_cell eV_ oB_ F.agg25 F.ti25 rfl rfl) ⟨eV_, rfl⟩ (by simp only [hc8, ↓reduceIte]; rfl)
  · refine p_condF (h := ?_)
    have hok := Dfa.ok_err hc8
    refine p_skip ?_
    refine p_seq (p_region fun hf => ?_)
    (first | refine p_loadA (ht := F.agg25) (hi := F.ti25) (h := ?_) | refine p_loadRefA (ht := F.agg25) (hi := F.ti25) (h := ?_))
    refine p_call (hx := rfl) (hb := ⟨Try.func35, by kernel_rfl, rfl⟩) (hf := not09 d hok) (h := ?_)
    refine p_storeAll F.ti25 (h := ?_)
    refine p_assign (h := ?_)
    refine p_end ?_
    refine TrC.ret ?_
    refine p_rets2 rfl (res_cell eV_ oB_ F.agg25 F.ti25 rfl rfl) ⟨eV_, rfl⟩ (by simp only [hc8, Bool.false_eq_true, ↓reduceIte]; simp at hc8; rw [hc8])

end Go.Proofs.Ytdpljpmohpifbaa
