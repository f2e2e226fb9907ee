/-
  The reference's first and First, walked: they answer the first word that is taken.
-/
import Derived.Test.YtdpljpmohpifbaaZs
set_option linter.unusedSimpArgs false
set_option linter.unusedVariables false
namespace Go.Proofs.Ytdpljpmohpifbaa
open Go.RowKit
namespace Dfa
theorem fromA_of {d : Dfa} {C : Cm} (h : Came d C) {x : Nat × Nat × Nat} (hx : x ∈ C) : fromA C x.1 = x.2.1 ∧ byA C x.1 = x.2.2 := by
  rw [fromA, byA, h.entry hx]; exact ⟨rfl, rfl⟩
theorem fromA_one (j : Nat) : iV (fromA [(0, 0, 0)] j) = if j = 0 then iV 0 else iV (-1) := by
  by_cases hj : j = 0
  · subst hj; rfl
  · have : ¬ 0 = j := fun e => hj e.symm
    simp [fromA, Dfa.entry, hj, this]
theorem byA_one (j : Nat) : byA [(0, 0, 0)] j = 0 := by
  by_cases hj : j = 0
  · subst hj; rfl
  · have : ¬ 0 = j := fun e => hj e.symm
    simp [byA, Dfa.entry, this]
end Dfa

theorem firstRef (d : Dfa) (h : d.Ok) : FnC Try.prog 32 [dfaV d] (fun r => r = .tup [.sl 3 (d.firstR.1.map iV), .bool d.firstR.2]) := by
  refine FnC.of (fn := Try.f32) ⟨Try.func32, by kernel_rfl, rfl⟩ Try.ntmps32 (by simp) fun w0 S0 => ?_
  have hn1 := h.n1
  have hn0 := h.n0
  have hacc := h.acc
  have hn : d.n = d.next.length := rfl
  have hs1 := h.sym1
  obtain ⟨m, hm⟩ : ∃ m : Nat, d.sym = m := ⟨d.sym.toNat, by have := h.sym0; omega⟩
  have hmn : d.sym.toNat = m := by omega
  refine p_seq (p_region fun hf => ?_)
  refine p_box (h := ?_)
  refine p_assign (h := ?_)
  refine p_assign (h := ?_)
  refine p_end ?_
  refine p_seq (p_region fun hf => ?_)
  (first | refine p_fieldPtr (hf := F.fld25_1) (h := ?_) | refine p_fieldRef (hf := F.fld25_1) (h := ?_) | refine p_fieldRow (hf := F.fld25_1) (h := ?_))
  (first | refine p_load (ht := F.leaf22) (h := ?_) | refine p_loadRef (ht := F.leaf22) (h := ?_))
  refine p_len (ht := Try.underlying22) (h := ?_)
  refine p_make (n := d.n) (ht := Try.underlying26) (hi := F.ti3) (hz := rfl) (hzv := rfl) (hro := rfl) (hb := by omega) (h63 := by omega) (h := ?_)
  refine p_assign (h := ?_)
  refine p_end ?_
  refine p_seq (p_region fun hf => ?_)
  (first | refine p_fieldPtr (hf := F.fld25_1) (h := ?_) | refine p_fieldRef (hf := F.fld25_1) (h := ?_) | refine p_fieldRow (hf := F.fld25_1) (h := ?_))
  (first | refine p_load (ht := F.leaf22) (h := ?_) | refine p_loadRef (ht := F.leaf22) (h := ?_))
  refine p_len (ht := Try.underlying22) (h := ?_)
  refine p_make (n := d.n) (ht := Try.underlying26) (hi := F.ti3) (hz := rfl) (hzv := rfl) (hro := rfl) (hb := by omega) (h63 := by omega) (h := ?_)
  refine p_assign (h := ?_)
  refine p_end ?_
  refine p_seq ?_
  refine p_seq (p_region fun hf => ?_)
  refine p_assign (h := ?_)
  refine p_end ?_
  refine TrC.block ?_
  refine p_loop (fun st => ∃ i : Nat, i ≤ d.n ∧ st.env 1 = .ptr (0 + 1) 1 0 ∧ st.env 4 = .row (0 + 1 + 1) 16 d.n ∧ st.env 5 = .row (0 + 1 + 1 + 1) 20 d.n ∧ st.env 6 = iV i ∧ st.obj (0 + 1) 1 = .cells 25 (dfaL d) ∧ st.obj (0 + 1 + 1) 16 = .row 3 ((List.range d.n).map fun j => iV (if j < i then -1 else 0)) ∧ st.obj (0 + 1 + 1 + 1) 20 = .row 3 ((List.range d.n).map fun j => iV 0)) (fun st => d.n - (st.env 6).toN) ?_ fun e ob g1 hI => ?_
  · exact ⟨0, by omega, eV_, eV_, eV_, eV_, oB_, by refine Eq.trans oB_ ?_; rw [replicate_range]; rfl, by refine Eq.trans oB_ ?_; rw [replicate_range]; rfl⟩
  · obtain ⟨i, hi, e1, e4, e5, e6, o1, o16, o20⟩ := hI
    dsimp only at e1 e4 e5 e6 o1 o16 o20
    have hE := (⟨e1, e4, e5, e6, o1, o16, o20⟩ : _ ∧ _ ∧ _ ∧ _ ∧ _ ∧ _ ∧ _)
    refine p_seq ?_
    refine p_seq (p_region fun hf => ?_)
    refine p_move (h := ?_)
    refine p_move (h := ?_)
    refine p_len (ht := Try.underlying26) (h := ?_)
    refine p_num (h := ?_)
    refine p_end ?_
    refine p_splitC (s := 24) (ht := fun hc24 => ?_) (hf := fun hc24 => ?_)
    · refine p_condT (h := ?_)
      have hlt1 : i < d.n := by simpa using hc24
      refine p_skip ?_
      refine p_seq ?_
      refine TrC.block ?_
      refine p_region fun hf => ?_
      refine p_move (h := ?_)
      refine p_move (h := ?_)
      refine p_idxRowN (i) (ht := Try.underlying26) (hi := F.ti3) (hij := rfl) (hlt := hlt1) (h := ?_)
      refine p_storeRowF (f' := fun j => iV (if j < i + 1 then -1 else 0)) F.ti3 (TI.cells F.ti3) (hlt := hlt1) (hf := fun j _ => fill_next j) (h := ?_)
      refine p_end ?_
      refine p_region fun hf => ?_
      refine p_move (h := ?_)
      refine p_add (r := ((i + 1 : Nat) : Int)) (hr := by omega) (hb := by omega) (h := ?_)
      refine p_assign (h := ?_)
      refine p_end ?_
      refine p_some ?_
      refine ⟨⟨i + 1, by omega, eV_, eV_, eV_, eV_, oB_, oB_, oB_⟩, ?_⟩
      simp (decide := true) only [upd, e6, V.toN, ↓reduceIte]; omega
    · refine p_condF (h := ?_)
      have hie : i = d.n := by simp at hc24; omega
      refine p_exit ?_
      refine p_seq (p_region fun hf => ?_)
      refine p_buildSlice (ht := Try.underlying26) (hi := F.ti3) (h := ?_)
      refine p_assign (h := ?_)
      refine p_end ?_
      refine p_seq (p_region fun hf => ?_)
      refine p_move (h := ?_)
      refine p_idxRowN (0) (ht := Try.underlying26) (hi := F.ti3) (hij := rfl) (hlt := hn0) (h := ?_)
      refine p_storeRowF (f' := fun j => iV (Dfa.fromA [(0, 0, 0)] j)) F.ti3 (TI.cells F.ti3) (hlt := hn0) (hf := fun j hj => by rw [Dfa.fromA_one]; by_cases hj0 : j = 0 <;> simp [hj0, hie, hj]) (h := ?_)
      refine p_end ?_
      refine p_seq ?_
      refine p_seq (p_region fun hf => ?_)
      refine p_assign (h := ?_)
      refine p_end ?_
      refine p_renSlot (s := 7) 92 (h := ?_)
      refine TrC.block ?_
      refine p_loop (fun st => ∃ i q : Nat, i ≤ d.n ∧ d.firstR = d.firstF (d.n + 1 - i) i ∧ st.env 1 = .ptr (0 + 1) 1 0 ∧ st.env 4 = .row (0 + 1 + 1) 16 d.n ∧ st.env 5 = .row (0 + 1 + 1 + 1) 20 d.n ∧ st.env 7 = .row q 92 (d.cameAt i).length ∧ st.env 8 = iV i ∧ st.obj (0 + 1) 1 = .cells 25 (dfaL d) ∧ st.obj (0 + 1 + 1) 16 = .row 3 ((List.range d.n).map fun j => iV (Dfa.fromA (d.cameAt i) j)) ∧ st.obj (0 + 1 + 1 + 1) 20 = .row 3 ((List.range d.n).map fun j => iV (Dfa.byA (d.cameAt i) j)) ∧ st.obj q 92 = .row 3 ((d.cameAt i).map fun x => iV x.1)) (fun st => d.n - (st.env 8).toN) ?_ fun e ob g2 hI => ?_
      · exact ⟨0, _, by omega, rfl, eV_, eV_, eV_, eV_, eV_, oB_, oB_, by refine Eq.trans oB_ ?_; exact congrArg (Ob.row _) (List.map_congr_left fun j _ => by rw [show d.cameAt 0 = [(0, 0, 0)] from rfl, Dfa.byA_one]), oB_⟩
      · obtain ⟨i, q, hi, hfr, e1, e4, e5, e7, e8, o1, o16, o20, o92⟩ := hI
        dsimp only at e1 e4 e5 e7 e8 o1 o16 o20 o92
        have hE := (⟨e1, e4, e5, e7, e8, o1, o16, o20, o92⟩ : _ ∧ _ ∧ _ ∧ _ ∧ _ ∧ _ ∧ _ ∧ _ ∧ _)
        have hC := Dfa.cameAt_came h i
        have hlen := hC.len
        refine p_seq ?_
        refine p_seq (p_region fun hf => ?_)
        refine p_move (h := ?_)
        refine p_move (h := ?_)
        refine p_len (ht := Try.underlying26) (h := ?_)
        refine p_num (h := ?_)
        refine p_end ?_
        refine p_splitC (s := 36) (ht := fun hc36 => ?_) (hf := fun hc36 => ?_)
        · refine p_condT (h := ?_)
          have hlt : i < (d.cameAt i).length := by simpa using hc36
          obtain ⟨s, hs⟩ : ∃ s, s = (d.cameAt i)[i].1 := ⟨_, rfl⟩
          have hx : (d.cameAt i)[i]? = some (d.cameAt i)[i] := List.getElem?_eq_getElem hlt
          have hxm := List.getElem_mem hlt
          have hsk : s ∈ (d.cameAt i).keys := by rw [hs]; exact List.mem_map.2 ⟨_, hxm, rfl⟩
          have hsN : s < d.n := by rw [hs]; exact hC.lt _ hxm
          have hsa : s < d.acc.length := by omega
          have hsn : s < d.next.length := by omega
          have hrl := (h.rows _ (List.getElem_mem hsn)).1
          refine p_skip ?_
          refine p_seq ?_
          refine TrC.block ?_
          refine p_seq (p_region fun hf => ?_)
          refine p_move (h := ?_)
          refine p_move (h := ?_)
          refine p_idxRowN (i) (ht := Try.underlying26) (hi := F.ti3) (hij := rfl) (hlt := hlt) (h := ?_)
          refine p_loadRowM (ht := F.leaf3) (hj := hlt) (h := ?_)
          rw [← hs]
          refine p_assign (h := ?_)
          refine p_end ?_
          refine p_seq ?_
          refine p_seq (p_region fun hf => ?_)
          (first | refine p_fieldPtr (hf := F.fld25_2) (h := ?_) | refine p_fieldRef (hf := F.fld25_2) (h := ?_) | refine p_fieldRow (hf := F.fld25_2) (h := ?_))
          (first | refine p_load (ht := F.leaf23) (h := ?_) | refine p_loadRef (ht := F.leaf23) (h := ?_))
          refine p_move (h := ?_)
          refine p_idxMap (j := s) (ht := Try.underlying23) (hi := F.ti4) (hij := rfl) (hj := hsa) (h := ?_)
          rw [Dfa.ac_is hsa]
          (first | refine p_load (ht := F.leaf4) (h := ?_) | refine p_loadRef (ht := F.leaf4) (h := ?_))
          refine p_end ?_
          refine p_splitC (s := 47) (ht := fun hc47 => ?_) (hf := fun hc47 => ?_)
          all_goals rw [hs] at hc47
          · refine p_condT (h := ?_)
            refine p_seq (p_region fun hf => ?_)
            refine p_assign (h := ?_)
            refine p_end ?_
            refine p_seq ?_
            refine p_nilSlot (s := 10) (el := 3) 56 (h := ?_)
            refine TrC.block ?_
            refine p_loop (fun st => ∃ (r t : Nat) (pre : List Int), t ∈ (d.cameAt i).keys ∧ pre ++ Dfa.word (d.cameAt i) t = Dfa.word (d.cameAt i) s ∧ st.env 1 = .ptr (0 + 1) 1 0 ∧ st.env 4 = .row (0 + 1 + 1) 16 d.n ∧ st.env 5 = .row (0 + 1 + 1 + 1) 20 d.n ∧ st.env 9 = iV t ∧ st.env 10 = .row r 56 pre.length ∧ st.obj (0 + 1) 1 = .cells 25 (dfaL d) ∧ st.obj (0 + 1 + 1) 16 = .row 3 ((List.range d.n).map fun j => iV (Dfa.fromA (d.cameAt i) j)) ∧ st.obj (0 + 1 + 1 + 1) 20 = .row 3 ((List.range d.n).map fun j => iV (Dfa.byA (d.cameAt i) j)) ∧ st.obj r 56 = .row 3 (pre.reverse.map iV)) (fun st => (Dfa.word (d.cameAt i) s).length - (st.env 10).rowN) ?_ fun e ob g3 hI => ?_
            · exact ⟨_, s, [], hsk, rfl, eV_, eV_, eV_, eV_, eV_, oB_, oB_, oB_, oB_⟩
            · obtain ⟨r, t, pre, htk, hpre, f1, f4, f5, f9, f10, p1, p16, p20, p56⟩ := hI
              dsimp only at f1 f4 f5 f9 f10 p1 p16 p20 p56
              have hE := (⟨f1, f4, f5, f9, f10, p1, p16, p20, p56⟩ : _ ∧ _ ∧ _ ∧ _ ∧ _ ∧ _ ∧ _ ∧ _ ∧ _)
              refine p_seq ?_
              refine p_seq (p_region fun hf => ?_)
              refine p_move (h := ?_)
              refine p_num (h := ?_)
              refine p_end ?_
              refine p_splitC (s := 49) (ht := fun hc49 => ?_) (hf := fun hc49 => ?_)
              · refine p_condT (h := ?_)
                have ht0 : t ≠ 0 := by simp at hc49; omega
                obtain ⟨x', hx'm, hx't⟩ := List.mem_map.1 htk
                subst hx't
                have hxn := hC.lt _ hx'm
                have hfb := Dfa.fromA_of hC hx'm
                have hwu := Dfa.word_up hC hx'm ht0
                have hwl : pre.length ≤ (Dfa.word (d.cameAt i) s).length := by rw [← hpre]; simp
                have hwn := Dfa.word_len (d.cameAt i) s
                refine p_skip ?_
                refine TrC.block ?_
                refine p_seq (p_region fun hf => ?_)
                refine p_move (h := ?_)
                refine p_move (h := ?_)
                refine p_idxRowN (x'.1) (ht := Try.underlying26) (hi := F.ti3) (hij := rfl) (hlt := hxn) (h := ?_)
                refine p_loadRowF (ht := F.leaf3) (hi := hxn) (h := ?_)
                refine p_buildSlice (ht := Try.underlying26) (hi := F.ti3) (h := ?_)
                refine p_move (h := ?_)
                refine p_append (k := pre.length + 1) (ht := Try.underlying26) (hi := F.ti3) (hnl := by simp) (hy := by exact ⟨.inl oB_, by simp⟩) (hm := by simp; omega) (hlim := by omega) (h := ?_)
                refine p_assign (h := ?_)
                refine p_end ?_
                refine p_region fun hf => ?_
                refine p_move (h := ?_)
                refine p_move (h := ?_)
                refine p_idxRowN (x'.1) (ht := Try.underlying26) (hi := F.ti3) (hij := rfl) (hlt := hxn) (h := ?_)
                refine p_loadRowF (ht := F.leaf3) (hi := hxn) (h := ?_)
                refine p_assign (h := ?_)
                refine p_end ?_
                refine p_some ?_
                refine ⟨⟨_, x'.2.1, pre ++ [(x'.2.2 : Int)], hwu.2, by rw [← hpre, hwu.1]; simp, eV_, eV_, eV_, by rw [← hfb.1]; exact eV_, by rw [List.length_append]; exact eV_, oB_, oB_, oB_, by refine Eq.trans oB_ ?_; rw [hfb.2, List.reverse_append, List.map_append]; rfl⟩, ?_⟩
                simp (decide := true) only [upd, f10, V.rowN, ↓reduceIte]
                rw [← hpre, hwu.1]; simp; omega
              · refine p_condF (h := ?_)
                have hrest : Dfa.word (d.cameAt i) t = [] := by
                  have ht0 : t = 0 := by simp at hc49; omega
                  rw [ht0]; exact Dfa.word_zero _
                refine p_exit ?_
                refine p_seq (p_region fun hf => ?_)
                refine p_move (h := ?_)
                refine p_assign (h := ?_)
                refine p_assign (h := ?_)
                refine p_end ?_
                refine TrC.ret ?_
                refine p_freeze (g1 := r) (d1 := 56) (h := ?_)
                refine p_toSl (s := 2) (hn := by simp) (h := ?_)
                refine p_rets2 rfl ⟨eV_, rfl⟩ ⟨eV_, rfl⟩ (by rw [Dfa.first_hit hfr hi hx hc47, ← hs, ← hpre, hrest, List.append_nil])
          · refine p_condF (h := ?_)
            refine p_skip ?_
            refine p_seq (p_region fun hf => ?_)
            refine p_assign (h := ?_)
            refine p_end ?_
            refine TrC.block ?_
            refine p_loop (fun st => ∃ k q2 : Nat, k ≤ m ∧ st.env 1 = .ptr (0 + 1) 1 0 ∧ st.env 4 = .row (0 + 1 + 1) 16 d.n ∧ st.env 5 = .row (0 + 1 + 1 + 1) 20 d.n ∧ st.env 7 = .row q2 92 (d.cameRow s (d.cameAt i) k).length ∧ st.env 8 = iV i ∧ st.env 9 = iV s ∧ st.env 11 = iV k ∧ st.obj (0 + 1) 1 = .cells 25 (dfaL d) ∧ st.obj (0 + 1 + 1) 16 = .row 3 ((List.range d.n).map fun j => iV (Dfa.fromA (d.cameRow s (d.cameAt i) k) j)) ∧ st.obj (0 + 1 + 1 + 1) 20 = .row 3 ((List.range d.n).map fun j => iV (Dfa.byA (d.cameRow s (d.cameAt i) k) j)) ∧ st.obj q2 92 = .row 3 ((d.cameRow s (d.cameAt i) k).map fun x => iV x.1)) (fun st => m - (st.env 11).toN) ?_ fun e ob g4 hI => ?_
            · exact ⟨0, _, by omega, eV_, eV_, eV_, eV_, eV_, eV_, eV_, oB_, oB_, oB_, oB_⟩
            · obtain ⟨k, q2, hk, f1, f4, f5, f7, f8, f9, f11, p1, p16, p20, p92⟩ := hI
              dsimp only at f1 f4 f5 f7 f8 f9 f11 p1 p16 p20 p92
              have hE := (⟨f1, f4, f5, f7, f8, f9, f11, p1, p16, p20, p92⟩ : _ ∧ _ ∧ _ ∧ _ ∧ _ ∧ _ ∧ _ ∧ _ ∧ _ ∧ _ ∧ _)
              have hCK := Dfa.cameRow_came h hC hsk k (by omega)
              have hlk := hCK.len
              refine p_seq ?_
              refine p_seq (p_region fun hf => ?_)
              refine p_move (h := ?_)
              (first | refine p_fieldPtr (hf := F.fld25_0) (h := ?_) | refine p_fieldRef (hf := F.fld25_0) (h := ?_) | refine p_fieldRow (hf := F.fld25_0) (h := ?_))
              (first | refine p_load (ht := F.leaf3) (h := ?_) | refine p_loadRef (ht := F.leaf3) (h := ?_))
              refine p_num (h := ?_)
              refine p_end ?_
              refine p_splitC (s := 65) (ht := fun hc65 => ?_) (hf := fun hc65 => ?_)
              · refine p_condT (h := ?_)
                have hkm : k < m := by simp at hc65; omega
                have hks : (k : Int) < d.sym := by omega
                have hkl := Dfa.row_len' h hsn hks
                have htn := h.nx_lt hsN hks
                refine p_skip ?_
                refine p_seq ?_
                refine TrC.block ?_
                refine p_seq (p_region fun hf => ?_)
                (first | refine p_fieldPtr (hf := F.fld25_1) (h := ?_) | refine p_fieldRef (hf := F.fld25_1) (h := ?_) | refine p_fieldRow (hf := F.fld25_1) (h := ?_))
                (first | refine p_load (ht := F.leaf22) (h := ?_) | refine p_loadRef (ht := F.leaf22) (h := ?_))
                refine p_move (h := ?_)
                refine p_idxMap (j := s) (ht := Try.underlying22) (hi := F.ti26) (hij := rfl) (hj := hsn) (h := ?_)
                (first | refine p_load (ht := F.leaf26) (h := ?_) | refine p_loadRef (ht := F.leaf26) (h := ?_))
                refine p_move (h := ?_)
                refine p_idxMap (j := k) (ht := Try.underlying26) (hi := F.ti3) (hij := rfl) (hj := hkl) (h := ?_)
                rw [Dfa.nx_is h hsn hkl]
                (first | refine p_load (ht := F.leaf3) (h := ?_) | refine p_loadRef (ht := F.leaf3) (h := ?_))
                refine p_assign (h := ?_)
                refine p_end ?_
                refine p_seq (p_region fun hf => ?_)
                refine p_move (h := ?_)
                refine p_move (h := ?_)
                refine p_idxRowN ((d.nx s k)) (ht := Try.underlying26) (hi := F.ti3) (hij := rfl) (hlt := htn) (h := ?_)
                refine p_loadRowF (ht := F.leaf3) (hi := htn) (h := ?_)
                refine p_num (h := ?_)
                refine p_end ?_
                refine p_splitC (s := 80) (ht := fun hc80 => ?_) (hf := fun hc80 => ?_)
                all_goals rw [Dfa.fromA_neg] at hc80
                · refine p_condT (h := ?_)
                  have hnew : d.nx s k ∉ (d.cameRow s (d.cameAt i) k).keys := by simpa using hc80
                  refine p_seq (p_region fun hf => ?_)
                  refine p_move (h := ?_)
                  refine p_move (h := ?_)
                  refine p_move (h := ?_)
                  refine p_move (h := ?_)
                  refine p_move (h := ?_)
                  refine p_move (h := ?_)
                  refine p_idxRowN ((d.nx s k)) (ht := Try.underlying26) (hi := F.ti3) (hij := rfl) (hlt := htn) (h := ?_)
                  refine p_storeRowF (f' := fun j => iV (Dfa.fromA ((d.cameRow s (d.cameAt i) k) ++ [((d.nx s k), s, k)]) j)) F.ti3 (TI.cells F.ti3) (hlt := htn) (hf := fun j _ => Dfa.fromA_app hnew j) (h := ?_)
                  refine p_idxRowN ((d.nx s k)) (ht := Try.underlying26) (hi := F.ti3) (hij := rfl) (hlt := htn) (h := ?_)
                  refine p_storeRowF (f' := fun j => iV (Dfa.byA ((d.cameRow s (d.cameAt i) k) ++ [((d.nx s k), s, k)]) j)) F.ti3 (TI.cells F.ti3) (hlt := htn) (hf := fun j _ => Dfa.byA_app hnew j) (h := ?_)
                  refine p_end ?_
                  refine p_region fun hf => ?_
                  refine p_move (h := ?_)
                  refine p_move (h := ?_)
                  refine p_buildSlice (ht := Try.underlying26) (hi := F.ti3) (h := ?_)
                  refine p_append (k := (d.cameRow s (d.cameAt i) k).length + 1) (ht := Try.underlying26) (hi := F.ti3) (hnl := by simp) (hy := by exact ⟨.inl oB_, rfl⟩) (hm := by simp) (hlim := by omega) (h := ?_)
                  refine p_assign (h := ?_)
                  refine p_end ?_
                  refine p_region fun hf => ?_
                  refine p_move (h := ?_)
                  refine p_add (r := ((k + 1 : Nat) : Int)) (hr := by omega) (hb := by omega) (h := ?_)
                  refine p_assign (h := ?_)
                  refine p_end ?_
                  refine p_some ?_
                  have hxr := Dfa.cameRow_new hc80
                  refine ⟨⟨k + 1, _, by omega, eV_, eV_, eV_, by rw [hxr, List.length_append]; exact eV_, eV_, eV_, eV_, oB_, by rw [hxr]; exact oB_, by rw [hxr]; exact oB_, by refine Eq.trans oB_ ?_; rw [hxr, List.map_append]; rfl⟩, ?_⟩
                  simp (decide := true) only [upd, f11, V.toN, ↓reduceIte]; omega
                · refine p_condF (h := ?_)
                  refine p_skip ?_
                  refine p_region fun hf => ?_
                  refine p_move (h := ?_)
                  refine p_add (r := ((k + 1 : Nat) : Int)) (hr := by omega) (hb := by omega) (h := ?_)
                  refine p_assign (h := ?_)
                  refine p_end ?_
                  refine p_some ?_
                  have hxr := Dfa.cameRow_hit hc80
                  refine ⟨⟨k + 1, _, by omega, eV_, eV_, eV_, by rw [hxr]; exact eV_, eV_, eV_, eV_, oB_, by rw [hxr]; exact oB_, by rw [hxr]; exact oB_, by rw [hxr]; exact oB_⟩, ?_⟩
                  simp (decide := true) only [upd, f11, V.toN, ↓reduceIte]; omega
              · refine p_condF (h := ?_)
                have hkm : m = k := by simp at hc65; omega
                subst hkm
                refine p_exit ?_
                refine p_region fun hf => ?_
                refine p_move (h := ?_)
                refine p_add (r := ((i + 1 : Nat) : Int)) (hr := by omega) (hb := by omega) (h := ?_)
                refine p_assign (h := ?_)
                refine p_end ?_
                refine p_some ?_
                have hx' := Dfa.cameAt_next hx
                rw [hmn, ← hs] at hx'
                refine ⟨⟨i + 1, _, by omega, Dfa.first_more hfr hi hx hc47, eV_, eV_, eV_, by rw [hx']; exact eV_, eV_, oB_, by rw [hx']; exact oB_, by rw [hx']; exact oB_, by rw [hx']; exact oB_⟩, ?_⟩
                simp (decide := true) only [upd, e8, f8, V.toN, ↓reduceIte]; omega
        · refine p_condF (h := ?_)
          have hge : (d.cameAt i).length ≤ i := by simp at hc36; omega
          refine p_exit ?_
          refine p_seq (p_region fun hf => ?_)
          refine p_assign (h := ?_)
          refine p_assign (h := ?_)
          refine p_end ?_
          refine TrC.ret ?_
          refine p_nilSl (s := 2) (t := 3) (h := ?_)
          refine p_rets2 rfl ⟨eV_, rfl⟩ ⟨eV_, rfl⟩ (by rw [Dfa.first_none hfr hi hge]; rfl)

theorem FirstRef (d : Dfa) (hfit : d.fits) : FnC Try.prog 13 [dfaV d] (fun r => r = .tup [.sl 3 ((Dfa.firstE d).1.1.map iV), .bool (Dfa.firstE d).1.2, iV (Dfa.firstE d).2]) := by
  refine FnC.of (fn := Try.f13) ⟨Try.func13, by kernel_rfl, rfl⟩ Try.ntmps13 (by simp) fun w0 S0 => ?_
  refine p_seq (p_region fun hf => ?_)
  refine p_box (h := ?_)
  refine p_assign (h := ?_)
  refine p_assign (h := ?_)
  refine p_assign (h := ?_)
  refine p_end ?_
  refine p_seq (p_region fun hf => ?_)
  (first | refine p_loadA (ht := F.agg25) (hi := F.ti25) (h := ?_) | refine p_loadRefA (ht := F.agg25) (hi := F.ti25) (h := ?_))
  refine p_call (hx := rfl) (hb := ⟨Try.func22, by kernel_rfl, rfl⟩) (hf := checkR d hfit) (h := ?_)
  refine p_assign (h := ?_)
  refine p_end ?_
  refine p_seq ?_
  refine p_seq (p_region fun hf => ?_)
  refine p_move (h := ?_)
  refine p_num (h := ?_)
  refine p_end ?_
  refine p_splitC (s := 11) (ht := fun hc11 => ?_) (hf := fun hc11 => ?_)
  · refine p_condT (h := ?_)
    refine p_seq (p_region fun hf => ?_)
    refine p_move (h := ?_)
    refine p_assign (h := ?_)
    refine p_assign (h := ?_)
    refine p_assign (h := ?_)
    refine p_end ?_
    refine TrC.ret ?_
    refine p_nilSl (s := 2) (t := 3) (h := ?_)
    refine p_rets3 rfl ⟨eV_, rfl⟩ ⟨eV_, rfl⟩ ⟨eV_, rfl⟩ (by simp only [Dfa.firstE, hc11, ↓reduceIte]; rfl)
  · refine p_condF (h := ?_)
    refine p_skip ?_
    refine p_seq (p_region fun hf => ?_)
    (first | refine p_loadA (ht := F.agg25) (hi := F.ti25) (h := ?_) | refine p_loadRefA (ht := F.agg25) (hi := F.ti25) (h := ?_))
    refine p_call (hx := rfl) (hb := ⟨Try.func32, by kernel_rfl, rfl⟩) (hf := firstRef d (Dfa.ok_err hc11)) (h := ?_)
    refine p_move (h := ?_)
    refine p_extract (h := ?_)
    refine p_extract (h := ?_)
    refine p_assign (h := ?_)
    refine p_assign (h := ?_)
    refine p_end ?_
    refine p_seq (p_region fun hf => ?_)
    refine p_move (h := ?_)
    refine p_move (h := ?_)
    refine p_assign (h := ?_)
    refine p_assign (h := ?_)
    refine p_assign (h := ?_)
    refine p_end ?_
    refine TrC.ret ?_
    refine p_rets3 rfl ⟨eV_, rfl⟩ ⟨eV_, rfl⟩ ⟨eV_, rfl⟩ (by simp only [Dfa.firstE, hc11, Bool.false_eq_true, ↓reduceIte])

end Go.Proofs.Ytdpljpmohpifbaa
