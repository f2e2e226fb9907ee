/-
  The reference's Count, and DfaRuns, walked: it answers true for all automata, words and lengths.
-/
import Derived.Test.YtdpljpmohpifbaaZt
set_option linter.unusedSimpArgs false
set_option linter.unusedVariables false
namespace Go.Proofs.Ytdpljpmohpifbaa
open Go.RowKit

theorem countRef (d : Dfa) (hfit : d.fits) (m : Int) : FnC Try.prog 15 [dfaV d, iV m] (fun r => r = .tup [iV (d.countR m).1, iV (d.countR m).2]) := by
  refine FnC.of (fn := Try.f15) ⟨Try.func15, by kernel_rfl, rfl⟩ Try.ntmps15 (by simp) fun w0 S0 => ?_
  refine p_seq (p_region fun hf => ?_)
  refine p_box (h := ?_)
  refine p_assign (h := ?_)
  refine p_assign (h := ?_)
  refine p_end ?_
  refine p_seq (p_region fun hf => ?_)
  (first | refine p_loadA (ht := F.agg25) (hi := F.ti25) (h := ?_) | refine p_loadRefA (ht := F.agg25) (hi := F.ti25) (h := ?_))
  refine p_call (hx := rfl) (hb := ⟨Try.func22, by kernel_rfl, rfl⟩) (hf := checkR d hfit) (h := ?_)
  refine p_assign (h := ?_)
  refine p_end ?_
  refine p_seq ?_
  refine p_seq (p_region fun hf => ?_)
  refine p_move (h := ?_)
  refine p_num (h := ?_)
  refine p_end ?_
  refine p_splitC (s := 15) (ht := fun hc15 => ?_) (hf := fun hc15 => ?_)
  · refine p_condT (h := ?_)
    refine p_seq (p_region fun hf => ?_)
    refine p_move (h := ?_)
    refine p_assign (h := ?_)
    refine p_assign (h := ?_)
    refine p_end ?_
    refine TrC.ret ?_
    refine p_rets2 rfl ⟨eV_, rfl⟩ ⟨eV_, rfl⟩ (by simp only [Dfa.countR, hc15, Bool.true_or, Bool.or_true, Bool.false_eq_true, ↓reduceIte])
  · refine p_condF (h := ?_)
    have h := Dfa.ok_err hc15
    have hn1 := h.n1
    have hacc : (d.acc.length : Int) = d.n := by have := h.acc; omega
    have hn : d.n = d.next.length := rfl
    refine p_skip ?_
    refine p_seq ?_
    refine p_seq (p_region fun hf => ?_)
    refine p_move (h := ?_)
    refine p_num (h := ?_)
    refine p_move (h := ?_)
    refine p_split (s := 19) (ht := fun hb19 => ?_) (hf := fun hb19 => ?_)
    · -- slot 19 is true
      iterate 2 (refine p_guardNo (h := ?_))
      refine p_pick (h := ?_)
      refine p_end ?_
      refine p_condT (h := ?_)
      refine p_seq (p_region fun hf => ?_)
      refine p_assign (h := ?_)
      refine p_assign (h := ?_)
      refine p_end ?_
      refine TrC.ret ?_
      refine p_rets2 rfl ⟨eV_, rfl⟩ ⟨eV_, rfl⟩ (by simp only [Dfa.countR, hc15, hb19, Bool.true_or, Bool.or_true, Bool.false_eq_true, ↓reduceIte])
    · -- slot 19 is false
      refine p_guardYes (h := ?_)
      refine p_move (h := ?_)
      refine p_guardYes (h := ?_)
      refine p_num (h := ?_)
      refine p_pick (h := ?_)
      refine p_end ?_
      refine p_splitC (s := 22) (ht := fun hc22 => ?_) (hf := fun hc22 => ?_)
      · refine p_condT (h := ?_)
        refine p_seq (p_region fun hf => ?_)
        refine p_assign (h := ?_)
        refine p_assign (h := ?_)
        refine p_end ?_
        refine TrC.ret ?_
        refine p_rets2 rfl ⟨eV_, rfl⟩ ⟨eV_, rfl⟩ (by simp only [Dfa.countR, hc15, hb19, hc22, Bool.true_or, Bool.or_true, Bool.false_eq_true, ↓reduceIte])
      · refine p_condF (h := ?_)
        have hm0 : 0 ≤ m ∧ m ≤ 10000 := by simp at hb19 hc22; omega
        refine p_skip ?_
        refine p_seq (p_region fun hf => ?_)
        (first | refine p_fieldPtr (hf := F.fld25_1) (h := ?_) | refine p_fieldRef (hf := F.fld25_1) (h := ?_) | refine p_fieldRow (hf := F.fld25_1) (h := ?_))
        (first | refine p_load (ht := F.leaf22) (h := ?_) | refine p_loadRef (ht := F.leaf22) (h := ?_))
        refine p_len (ht := Try.underlying22) (h := ?_)
        refine p_make (n := d.n) (ht := Try.underlying60) (hi := F.ti2) (hz := rfl) (hzv := rfl) (hro := rfl) (hb := by omega) (h63 := by omega) (h := ?_)
        refine p_assign (h := ?_)
        refine p_end ?_
        refine p_seq ?_
        refine p_seq (p_region fun hf => ?_)
        refine p_assign (h := ?_)
        refine p_end ?_
        refine TrC.block ?_
        refine p_loop (fun st => ∃ i : Nat, i ≤ d.n ∧ st.env 2 = .ptr (0 + 1) 2 0 ∧ st.env 1 = iV m ∧ st.env 7 = .row (0 + 1 + 1 + 1 + 1 + 1) 26 d.n ∧ st.env 8 = iV i ∧ st.obj (0 + 1) 2 = .cells 25 (dfaL d) ∧ st.obj (0 + 1 + 1 + 1 + 1 + 1) 26 = .row 2 ((List.range d.n).map fun j => iV (if j < i then d.wordsAt 0 j else 0))) (fun st => d.n - (st.env 8).toN) ?_ fun e ob g1 hI => ?_
        · exact ⟨0, by omega, eV_, eV_, eV_, eV_, oB_, by refine Eq.trans oB_ ?_; rw [replicate_range]; rfl⟩
        · obtain ⟨i, hi, e2, e1, e7, e8, o2, o26⟩ := hI
          dsimp only at e2 e1 e7 e8 o2 o26
          have hE := (⟨e2, e1, e7, e8, o2, o26⟩ : _ ∧ _ ∧ _ ∧ _ ∧ _ ∧ _)
          refine p_seq ?_
          refine p_seq (p_region fun hf => ?_)
          refine p_move (h := ?_)
          refine p_move (h := ?_)
          refine p_len (ht := Try.underlying60) (h := ?_)
          refine p_num (h := ?_)
          refine p_end ?_
          refine p_splitC (s := 30) (ht := fun hc30 => ?_) (hf := fun hc30 => ?_)
          · refine p_condT (h := ?_)
            have hltn : i < d.n := by simpa using hc30
            have hlt1 : i < d.acc.length := by omega
            refine p_skip ?_
            refine p_seq ?_
            refine TrC.block ?_
            refine p_seq (p_region fun hf => ?_)
            (first | refine p_fieldPtr (hf := F.fld25_2) (h := ?_) | refine p_fieldRef (hf := F.fld25_2) (h := ?_) | refine p_fieldRow (hf := F.fld25_2) (h := ?_))
            (first | refine p_load (ht := F.leaf23) (h := ?_) | refine p_loadRef (ht := F.leaf23) (h := ?_))
            refine p_move (h := ?_)
            refine p_idxMap (j := i) (ht := Try.underlying23) (hi := F.ti4) (hij := rfl) (hj := hlt1) (h := ?_)
            (first | refine p_load (ht := F.leaf4) (h := ?_) | refine p_loadRef (ht := F.leaf4) (h := ?_))
            refine p_end ?_
            refine p_splitC (s := 37) (ht := fun hc37 => ?_) (hf := fun hc37 => ?_)
            · refine p_condT (h := ?_)
              refine p_region fun hf => ?_
              refine p_move (h := ?_)
              refine p_move (h := ?_)
              refine p_idxRowN (i) (ht := Try.underlying60) (hi := F.ti2) (hij := rfl) (hlt := hltn) (h := ?_)
              refine p_storeRowF (f' := fun j => iV (if j < i + 1 then d.wordsAt 0 j else 0)) F.ti2 (TI.cells F.ti2) (hlt := hltn) (hf := fun j _ => set_next (F := fun j => d.wordsAt 0 j) (by simp [Dfa.wordsAt, ← Dfa.ac_is hlt1, hc37]) j) (h := ?_)
              refine p_end ?_
              refine p_region fun hf => ?_
              refine p_move (h := ?_)
              refine p_add (r := ((i + 1 : Nat) : Int)) (hr := by omega) (hb := by omega) (h := ?_)
              refine p_assign (h := ?_)
              refine p_end ?_
              refine p_some ?_
              refine ⟨⟨i + 1, by omega, eV_, eV_, eV_, eV_, oB_, oB_⟩, ?_⟩
              simp (decide := true) only [upd, e8, V.toN, ↓reduceIte]; omega
            · refine p_condF (h := ?_)
              refine p_skip ?_
              refine p_region fun hf => ?_
              refine p_move (h := ?_)
              refine p_add (r := ((i + 1 : Nat) : Int)) (hr := by omega) (hb := by omega) (h := ?_)
              refine p_assign (h := ?_)
              refine p_end ?_
              refine p_some ?_
              refine ⟨⟨i + 1, by omega, eV_, eV_, eV_, eV_, oB_, by refine Eq.trans oB_ ?_; exact congrArg (Ob.row _) (List.map_congr_left fun j _ => skip_next (F := fun j => d.wordsAt 0 j) (by simp [Dfa.wordsAt, ← Dfa.ac_is hlt1, hc37]) j)⟩, ?_⟩
              simp (decide := true) only [upd, e8, V.toN, ↓reduceIte]; omega
          · refine p_condF (h := ?_)
            have hie : i = d.n := by simp at hc30; omega
            refine p_exit ?_
            refine p_seq ?_
            refine p_renSlot (s := 7) 84 (h := ?_)
            refine TrC.block ?_
            refine p_loop (fun st => ∃ t r : Nat, (t : Int) ≤ m ∧ st.env 2 = .ptr (0 + 1) 2 0 ∧ st.env 1 = iV (m - t) ∧ st.env 7 = .row r 84 d.n ∧ st.obj (0 + 1) 2 = .cells 25 (dfaL d) ∧ st.obj r 84 = .row 2 ((List.range d.n).map fun j => iV (d.wordsAt t j))) (fun st => (st.env 1).toN) ?_ fun e ob g2 hI => ?_
            · exact ⟨0, _, by omega, eV_, by refine Eq.trans eV_ ?_; simp, eV_, oB_, by refine Eq.trans oB_ ?_; rw [hie]; exact congrArg (Ob.row _) (List.map_congr_left fun j hj => by rw [if_pos (by simpa using hj)])⟩
            · obtain ⟨t, r, ht, f2, f1, f7, p2, p84⟩ := hI
              dsimp only at f2 f1 f7 p2 p84
              have hE := (⟨f2, f1, f7, p2, p84⟩ : _ ∧ _ ∧ _ ∧ _ ∧ _)
              refine p_seq ?_
              refine p_seq (p_region fun hf => ?_)
              refine p_move (h := ?_)
              refine p_num (h := ?_)
              refine p_end ?_
              refine p_splitC (s := 42) (ht := fun hc42 => ?_) (hf := fun hc42 => ?_)
              · refine p_condT (h := ?_)
                have htm : (t : Int) < m := by simp at hc42; omega
                refine p_skip ?_
                refine p_seq ?_
                refine TrC.block ?_
                refine p_seq (p_region fun hf => ?_)
                refine p_move (h := ?_)
                refine p_len (ht := Try.underlying60) (h := ?_)
                refine p_make (n := d.n) (ht := Try.underlying60) (hi := F.ti2) (hz := rfl) (hzv := rfl) (hro := rfl) (hb := by omega) (h63 := by omega) (h := ?_)
                refine p_assign (h := ?_)
                refine p_end ?_
                refine p_seq ?_
                refine p_seq (p_region fun hf => ?_)
                refine p_assign (h := ?_)
                refine p_end ?_
                refine TrC.block ?_
                refine p_loop (fun st => ∃ i : Nat, i ≤ d.n ∧ st.env 2 = .ptr (0 + 1) 2 0 ∧ st.env 1 = iV (m - t) ∧ st.env 7 = .row r 84 d.n ∧ st.env 9 = .row (g2 + 1 + 1) 47 d.n ∧ st.env 10 = iV i ∧ st.obj (0 + 1) 2 = .cells 25 (dfaL d) ∧ st.obj r 84 = .row 2 ((List.range d.n).map fun j => iV (d.wordsAt t j)) ∧ st.obj (g2 + 1 + 1) 47 = .row 2 ((List.range d.n).map fun j => iV (if j < i then d.wordsAt (t + 1) j else 0))) (fun st => d.n - (st.env 10).toN) ?_ fun e ob g3 hI => ?_
                · exact ⟨0, by omega, eV_, eV_, eV_, eV_, eV_, oB_, oB_, by refine Eq.trans oB_ ?_; rw [replicate_range]; rfl⟩
                · obtain ⟨i, hi, e2, e1, e7, e9, e10, o2, o84, o47⟩ := hI
                  dsimp only at e2 e1 e7 e9 e10 o2 o84 o47
                  have hE := (⟨e2, e1, e7, e9, e10, o2, o84, o47⟩ : _ ∧ _ ∧ _ ∧ _ ∧ _ ∧ _ ∧ _ ∧ _)
                  refine p_seq ?_
                  refine p_seq (p_region fun hf => ?_)
                  refine p_move (h := ?_)
                  refine p_move (h := ?_)
                  refine p_len (ht := Try.underlying60) (h := ?_)
                  refine p_num (h := ?_)
                  refine p_end ?_
                  refine p_splitC (s := 51) (ht := fun hc51 => ?_) (hf := fun hc51 => ?_)
                  · refine p_condT (h := ?_)
                    have hlt : i < d.n := by simpa using hc51
                    have hrl4 := (h.rows _ (List.getElem_mem hlt)).1
                    refine p_skip ?_
                    refine p_seq ?_
                    refine TrC.block ?_
                    refine p_seq (p_region fun hf => ?_)
                    refine p_assign (h := ?_)
                    refine p_end ?_
                    refine TrC.block ?_
                    refine p_loop (fun st => ∃ q : Nat, q ≤ d.next[i].length ∧ st.env 2 = .ptr (0 + 1) 2 0 ∧ st.env 1 = iV (m - t) ∧ st.env 7 = .row r 84 d.n ∧ st.env 9 = .row (g2 + 1 + 1) 47 d.n ∧ st.env 10 = iV i ∧ st.env 11 = iV q ∧ st.obj (0 + 1) 2 = .cells 25 (dfaL d) ∧ st.obj r 84 = .row 2 ((List.range d.n).map fun j => iV (d.wordsAt t j)) ∧ st.obj (g2 + 1 + 1) 47 = .row 2 ((List.range d.n).map fun j => iV (if j = i then d.partAt t i q else if j < i then d.wordsAt (t + 1) j else 0))) (fun st => d.next[i].length - (st.env 11).toN) ?_ fun e ob g4 hI => ?_
                    · exact ⟨0, by omega, eV_, eV_, eV_, eV_, eV_, eV_, oB_, oB_, by refine Eq.trans oB_ ?_; exact congrArg (Ob.row _) (List.map_congr_left fun j _ => by by_cases hj : j = i <;> simp [hj, Dfa.partAt])⟩
                    · obtain ⟨q, hq, d2, d1, d7, d9, d10, d11, b2, b84, b47⟩ := hI
                      dsimp only at d2 d1 d7 d9 d10 d11 b2 b84 b47
                      have hE := (⟨d2, d1, d7, d9, d10, d11, b2, b84, b47⟩ : _ ∧ _ ∧ _ ∧ _ ∧ _ ∧ _ ∧ _ ∧ _ ∧ _)
                      have hs4 := h.sym1
                      refine p_seq ?_
                      refine p_seq (p_region fun hf => ?_)
                      refine p_move (h := ?_)
                      (first | refine p_fieldPtr (hf := F.fld25_0) (h := ?_) | refine p_fieldRef (hf := F.fld25_0) (h := ?_) | refine p_fieldRow (hf := F.fld25_0) (h := ?_))
                      (first | refine p_load (ht := F.leaf3) (h := ?_) | refine p_loadRef (ht := F.leaf3) (h := ?_))
                      refine p_num (h := ?_)
                      refine p_end ?_
                      refine p_splitC (s := 57) (ht := fun hc57 => ?_) (hf := fun hc57 => ?_)
                      · refine p_condT (h := ?_)
                        have hlq : q < d.next[i].length := by simp at hc57; omega
                        have hto := (h.rows _ (List.getElem_mem hlt)).2 _ (List.getElem_mem hlq)
                        replace hto : 0 ≤ d.next[i][q] ∧ d.next[i][q].toNat < d.n := ⟨hto.1, by omega⟩
                        have hpr := d.part_range t i q
                        have hwr := d.words_range t d.next[i][q].toNat
                        refine p_skip ?_
                        refine p_seq ?_
                        refine TrC.block ?_
                        refine p_draw F.mixed fun hf => ?_
                        refine p_move (h := ?_)
                        refine p_move (h := ?_)
                        refine p_move (h := ?_)
                        refine p_move (h := ?_)
                        refine p_idxRowN (i) (ht := Try.underlying60) (hi := F.ti2) (hij := rfl) (hlt := hlt) (h := ?_)
                        refine p_loadRowF (v := iV (d.partAt t i q)) (ht := F.leaf2) (hi := hlt) (hf := by simp [iV, V.cells]) (h := ?_)
                        refine p_move (h := ?_)
                        (first | refine p_fieldPtr (hf := F.fld25_1) (h := ?_) | refine p_fieldRef (hf := F.fld25_1) (h := ?_) | refine p_fieldRow (hf := F.fld25_1) (h := ?_))
                        (first | refine p_load (ht := F.leaf22) (h := ?_) | refine p_loadRef (ht := F.leaf22) (h := ?_))
                        refine p_move (h := ?_)
                        refine p_idxMap (j := i) (ht := Try.underlying22) (hi := F.ti26) (hij := rfl) (hj := hlt) (h := ?_)
                        (first | refine p_load (ht := F.leaf26) (h := ?_) | refine p_loadRef (ht := F.leaf26) (h := ?_))
                        refine p_move (h := ?_)
                        refine p_idxMap (j := q) (ht := Try.underlying26) (hi := F.ti3) (hij := rfl) (hj := hlq) (h := ?_)
                        (first | refine p_load (ht := F.leaf3) (h := ?_) | refine p_loadRef (ht := F.leaf3) (h := ?_))
                        refine p_idxRowN (d.next[i][q].toNat) (ht := Try.underlying60) (hi := F.ti2) (hij := by omega) (hlt := hto.2) (h := ?_)
                        refine p_loadRowF (ht := F.leaf2) (hi := hto.2) (h := ?_)
                        refine p_add (r := d.partAt t i q + d.wordsAt t d.next[i][q].toNat) (hr := by omega) (hb := by omega) (h := ?_)
                        refine p_min (h := ?_)
                        refine p_idxRowN (i) (ht := Try.underlying60) (hi := F.ti2) (hij := rfl) (hlt := hlt) (h := ?_)
                        refine p_storeRowF (f' := fun j => iV (if j = i then d.partAt t i (q + 1) else if j < i then d.wordsAt (t + 1) j else 0)) F.ti2 (TI.cells F.ti2) (hlt := hlt) (hf := fun j _ => by by_cases hj : j = i <;> simp [hj, Dfa.part_next hlt hlq, Dfa.cap]) (h := ?_)
                        refine p_endD ?_
                        refine p_region fun hf => ?_
                        refine p_move (h := ?_)
                        refine p_add (r := ((q + 1 : Nat) : Int)) (hr := by omega) (hb := by omega) (h := ?_)
                        refine p_assign (h := ?_)
                        refine p_end ?_
                        refine p_some ?_
                        refine ⟨⟨q + 1, hlq, eV_, eV_, eV_, eV_, eV_, eV_, oB_, oB_, oB_⟩, ?_⟩
                        simp (decide := true) only [upd, d11, V.toN, ↓reduceIte]; omega
                      · refine p_condF (h := ?_)
                        have hqe : q = d.next[i].length := by simp at hc57; omega
                        subst hqe
                        refine p_exit ?_
                        refine p_region fun hf => ?_
                        refine p_move (h := ?_)
                        refine p_add (r := ((i + 1 : Nat) : Int)) (hr := by omega) (hb := by omega) (h := ?_)
                        refine p_assign (h := ?_)
                        refine p_end ?_
                        refine p_some ?_
                        refine ⟨⟨i + 1, hlt, eV_, eV_, eV_, eV_, eV_, oB_, oB_, by refine Eq.trans oB_ ?_; exact congrArg (Ob.row _) (List.map_congr_left fun j _ => by rw [set_next (F := fun j => d.wordsAt (t + 1) j) rfl j, Dfa.part_all hlt]; by_cases hj : j = i <;> simp [hj])⟩, ?_⟩
                        simp (decide := true) only [upd, e10, d10, V.toN, ↓reduceIte]; omega
                  · refine p_condF (h := ?_)
                    have hie : i = d.n := by simp at hc51; omega
                    subst hie
                    refine p_exit ?_
                    refine p_region fun hf => ?_
                    refine p_move (h := ?_)
                    refine p_assign (h := ?_)
                    refine p_end ?_
                    refine p_region fun hf => ?_
                    refine p_move (h := ?_)
                    refine p_sub (hr := rfl) (hb := by omega) (h := ?_)
                    refine p_assign (h := ?_)
                    refine p_end ?_
                    refine p_renSlot (s := 7) 84 (h := ?_)
                    refine p_some ?_
                    refine ⟨⟨t + 1, _, by omega, eV_, by rw [show (m - ((t + 1 : Nat) : Int)) = m - t - 1 by omega]; exact eV_, eV_, oB_, by refine Eq.trans oB_ ?_; exact congrArg (Ob.row _) (List.map_congr_left fun j hj => by rw [if_pos (by simpa using hj)])⟩, ?_⟩
                    simp (decide := true) only [upd, f1, e1, V.toN, ↓reduceIte]; omega
              · refine p_condF (h := ?_)
                refine p_exit ?_
                refine p_seq (p_region fun hf => ?_)
                refine p_move (h := ?_)
                refine p_idxRowN (0) (ht := Try.underlying60) (hi := F.ti2) (hij := rfl) (hlt := h.n0) (h := ?_)
                refine p_loadRowF (ht := F.leaf2) (hi := h.n0) (h := ?_)
                refine p_assign (h := ?_)
                refine p_assign (h := ?_)
                refine p_end ?_
                refine TrC.ret ?_
                refine p_rets2 rfl ⟨eV_, rfl⟩ ⟨eV_, rfl⟩ (by simp only [Dfa.countR, hc15, hb19, hc22, Bool.or_self, Bool.false_eq_true, ↓reduceIte]; rw [show m.toNat = t by simp at hc42; omega])

theorem sameI (a b : List Int) (hl : a.length ≤ 1000000000) : FnC Try.prog 16 [.sl 3 (a.map iV), .sl 3 (b.map iV)] (fun r => r = .bool (decide (a = b))) := by
  refine FnC.of (fn := Try.f16) ⟨Try.func16, by kernel_rfl, rfl⟩ Try.ntmps16 (by simp) fun w0 S0 => ?_
  refine p_seq (p_region fun hf => ?_)
  refine p_assign (h := ?_)
  refine p_end ?_
  refine p_seq ?_
  refine p_seq (p_region fun hf => ?_)
  refine p_move (h := ?_)
  refine p_len (ht := Try.underlying26) (h := ?_)
  refine p_move (h := ?_)
  refine p_len (ht := Try.underlying26) (h := ?_)
  refine p_num (h := ?_)
  refine p_end ?_
  refine p_splitC (s := 10) (ht := fun hc10 => ?_) (hf := fun hc10 => ?_)
  · refine p_condT (h := ?_)
    refine p_seq (p_region fun hf => ?_)
    refine p_assign (h := ?_)
    refine p_end ?_
    refine TrC.ret ?_
    refine p_ret1 (hp := by have hne : a ≠ b := (fun e => by subst e; simp at hc10); simp [hne])
  · refine p_condF (h := ?_)
    have hlen : a.length = b.length := by simp at hc10; omega
    refine p_skip ?_
    refine p_seq ?_
    refine p_seq (p_region fun hf => ?_)
    refine p_assign (h := ?_)
    refine p_end ?_
    refine TrC.block ?_
    refine p_loop (fun st => ∃ i : Nat, i ≤ a.length ∧ (∀ j (hj : j < a.length) (hj' : j < b.length), j < i → a[j] = b[j]) ∧ st.env 0 = .sl 3 (a.map iV) ∧ st.env 1 = .sl 3 (b.map iV) ∧ st.env 5 = iV i) (fun st => a.length - (st.env 5).toN) ?_ fun e ob g1 hI => ?_
    · exact ⟨0, by omega, fun j _ _ h => by omega, eV_, eV_, eV_⟩
    · obtain ⟨i, hi, hal, e0, e1, e5⟩ := hI
      dsimp only at e0 e1 e5
      have hE := (⟨e0, e1, e5⟩ : _ ∧ _ ∧ _)
      refine p_seq ?_
      refine p_seq (p_region fun hf => ?_)
      refine p_move (h := ?_)
      refine p_move (h := ?_)
      refine p_len (ht := Try.underlying26) (h := ?_)
      refine p_num (h := ?_)
      refine p_end ?_
      refine p_splitC (s := 14) (ht := fun hc14 => ?_) (hf := fun hc14 => ?_)
      · refine p_condT (h := ?_)
        have hlt : i < a.length := by simpa using hc14
        have hltb : i < b.length := by omega
        refine p_skip ?_
        refine p_seq ?_
        refine TrC.block ?_
        refine p_seq (p_draw F.mixed fun hf => ?_)
        refine p_move (h := ?_)
        refine p_move (h := ?_)
        refine p_idxMap (j := i) (ht := Try.underlying26) (hi := F.ti3) (hij := rfl) (hj := hlt) (h := ?_)
        (first | refine p_load (ht := F.leaf3) (h := ?_) | refine p_loadRef (ht := F.leaf3) (h := ?_))
        refine p_move (h := ?_)
        refine p_move (h := ?_)
        refine p_idxMap (j := i) (ht := Try.underlying26) (hi := F.ti3) (hij := rfl) (hj := hltb) (h := ?_)
        (first | refine p_load (ht := F.leaf3) (h := ?_) | refine p_loadRef (ht := F.leaf3) (h := ?_))
        refine p_num (h := ?_)
        refine p_endD ?_
        refine p_splitC (s := 25) (ht := fun hc25 => ?_) (hf := fun hc25 => ?_)
        · refine p_condT (h := ?_)
          refine p_seq (p_region fun hf => ?_)
          refine p_assign (h := ?_)
          refine p_end ?_
          refine TrC.ret ?_
          refine p_ret1 (hp := by have hne : a ≠ b := (fun e => by subst e; simp at hc25); simp [hne])
        · refine p_condF (h := ?_)
          refine p_skip ?_
          refine p_region fun hf => ?_
          refine p_move (h := ?_)
          refine p_add (r := ((i + 1 : Nat) : Int)) (hr := by omega) (hb := by omega) (h := ?_)
          refine p_assign (h := ?_)
          refine p_end ?_
          refine p_some ?_
          refine ⟨⟨i + 1, hlt, fun j h1 h2 hj => ?_, eV_, eV_, eV_⟩, ?_⟩
          · rcases Nat.lt_succ_iff_lt_or_eq.1 hj with h | h
            · exact hal j h1 h2 h
            · subst h; simpa using hc25
          · simp (decide := true) only [upd, e5, V.toN, ↓reduceIte]; omega
      · refine p_condF (h := ?_)
        refine p_exit ?_
        refine p_seq (p_region fun hf => ?_)
        refine p_assign (h := ?_)
        refine p_end ?_
        refine TrC.ret ?_
        refine p_ret1 (hp := by have he : a = b := List.ext_getElem hlen (fun j h1 h2 => hal j h1 h2 (by simp at hc14; omega)); simp [he])

namespace Dfa
theorem firstF_len (d : Dfa) (h : d.Ok) : ∀ f i, (d.firstF f i).1.length ≤ 1024
  | 0, _ => Nat.zero_le _
  | f + 1, i => by
    rw [firstF]
    split
    · exact Nat.zero_le _
    · rename_i x hx
      split
      · have h1 := word_len (d.cameAt i) x.1
        have h2 := (cameAt_came h i).len
        have h3 := h.n1
        simp only [List.length_reverse]; omega
      · exact firstF_len d h f (i + 1)
theorem firstE_len (d : Dfa) : (firstE d).1.1.length ≤ 1000000000 := by
  rw [firstE]
  cases hd : decide (d.err ≠ 0) with
  | true => exact Nat.zero_le _
  | false => exact Nat.le_trans (firstF_len d (ok_err hd) _ _) (by decide)
end Dfa

theorem dfaRuns (d : Dfa) (w : List Int) (n : Int) : FnC Try.prog 3 [dfaV d, .sl 3 (w.map iV), iV n] (fun r => r = .bool true) := by
  refine FnC.of (fn := Try.f3) ⟨Try.func3, by kernel_rfl, rfl⟩ Try.ntmps3 (by simp) fun w0 S0 => ?_
  refine p_seq (p_region fun hf => ?_)
  refine p_box (h := ?_)
  refine p_assign (h := ?_)
  refine p_end ?_
  refine p_seq ?_
  refine p_seq (p_region fun hf => ?_)
  (first | refine p_loadA (ht := F.agg25) (hi := F.ti25) (h := ?_) | refine p_loadRefA (ht := F.agg25) (hi := F.ti25) (h := ?_))
  refine p_call (hx := rfl) (hb := ⟨Try.func8, by kernel_rfl, rfl⟩) (hf := small09 d) (h := ?_)
  refine p_not (h := ?_)
  refine p_end ?_
  refine p_splitC (s := 25) (ht := fun hc25 => ?_) (hf := fun hc25 => ?_)
  · refine p_condT (h := ?_)
    refine p_seq (p_region fun hf => ?_)
    refine p_call (hx := rfl) (hb := ⟨Try.func9, by kernel_rfl, rfl⟩) (hf := alive09) (h := ?_)
    refine p_assign (h := ?_)
    refine p_end ?_
    refine TrC.ret ?_
    refine p_ret1 (hp := by rfl)
  · refine p_condF (h := ?_)
    have hfit := Dfa.small_fits hc25
    refine p_skip ?_
    refine p_seq ?_
    refine p_seq (p_region fun hf => ?_)
    refine p_move (h := ?_)
    refine p_len (ht := Try.underlying26) (h := ?_)
    refine p_num (h := ?_)
    refine p_end ?_
    refine p_splitC (s := 29) (ht := fun hc29 => ?_) (hf := fun hc29 => ?_)
    · refine p_condT (h := ?_)
      have hw : (w.take 300).length ≤ 1000000000 := by have := List.length_take_le 300 w; omega
      refine p_region fun hf => ?_
      refine p_move (h := ?_)
      refine p_partHi (l := 300) (ys := (w.take 300).map iV) (ht := Try.underlying26) (hi := F.ti3) (hl := by simp at hc29; simp; omega) (hys := by rw [List.map_take]) (h := ?_)
      refine p_assign (h := ?_)
      refine p_end ?_
      refine p_seq (p_region fun hf => ?_)
      (first | refine p_loadA (ht := F.agg25) (hi := F.ti25) (h := ?_) | refine p_loadRefA (ht := F.agg25) (hi := F.ti25) (h := ?_))
      refine p_move (h := ?_)
      refine p_call (hx := rfl) (hb := ⟨Try.func10, by kernel_rfl, rfl⟩) (hf := run09 d hfit _ hw) (h := ?_)
      refine p_move (h := ?_)
      refine p_extract (h := ?_)
      refine p_extract (h := ?_)
      refine p_extract (h := ?_)
      refine p_assign (h := ?_)
      refine p_assign (h := ?_)
      refine p_assign (h := ?_)
      refine p_end ?_
      refine p_seq (p_region fun hf => ?_)
      (first | refine p_loadA (ht := F.agg25) (hi := F.ti25) (h := ?_) | refine p_loadRefA (ht := F.agg25) (hi := F.ti25) (h := ?_))
      refine p_move (h := ?_)
      refine p_call (hx := rfl) (hb := ⟨Try.func11, by kernel_rfl, rfl⟩) (hf := runRef d hfit _ hw) (h := ?_)
      refine p_move (h := ?_)
      refine p_extract (h := ?_)
      refine p_extract (h := ?_)
      refine p_extract (h := ?_)
      refine p_assign (h := ?_)
      refine p_assign (h := ?_)
      refine p_assign (h := ?_)
      refine p_end ?_
      refine p_seq (p_region fun hf => ?_)
      (first | refine p_loadA (ht := F.agg25) (hi := F.ti25) (h := ?_) | refine p_loadRefA (ht := F.agg25) (hi := F.ti25) (h := ?_))
      refine p_call (hx := rfl) (hb := ⟨Try.func12, by kernel_rfl, rfl⟩) (hf := First09 d hfit) (h := ?_)
      refine p_move (h := ?_)
      refine p_extract (h := ?_)
      refine p_extract (h := ?_)
      refine p_extract (h := ?_)
      refine p_assign (h := ?_)
      refine p_assign (h := ?_)
      refine p_assign (h := ?_)
      refine p_end ?_
      refine p_seq (p_region fun hf => ?_)
      (first | refine p_loadA (ht := F.agg25) (hi := F.ti25) (h := ?_) | refine p_loadRefA (ht := F.agg25) (hi := F.ti25) (h := ?_))
      refine p_call (hx := rfl) (hb := ⟨Try.func13, by kernel_rfl, rfl⟩) (hf := FirstRef d hfit) (h := ?_)
      refine p_move (h := ?_)
      refine p_extract (h := ?_)
      refine p_extract (h := ?_)
      refine p_extract (h := ?_)
      refine p_assign (h := ?_)
      refine p_assign (h := ?_)
      refine p_assign (h := ?_)
      refine p_end ?_
      refine p_seq (p_region fun hf => ?_)
      (first | refine p_loadA (ht := F.agg25) (hi := F.ti25) (h := ?_) | refine p_loadRefA (ht := F.agg25) (hi := F.ti25) (h := ?_))
      refine p_move (h := ?_)
      refine p_call (hx := rfl) (hb := ⟨Try.func14, by kernel_rfl, rfl⟩) (hf := count09 d hfit n) (h := ?_)
      refine p_move (h := ?_)
      refine p_extract (h := ?_)
      refine p_extract (h := ?_)
      refine p_assign (h := ?_)
      refine p_assign (h := ?_)
      refine p_end ?_
      refine p_seq (p_region fun hf => ?_)
      (first | refine p_loadA (ht := F.agg25) (hi := F.ti25) (h := ?_) | refine p_loadRefA (ht := F.agg25) (hi := F.ti25) (h := ?_))
      refine p_move (h := ?_)
      refine p_call (hx := rfl) (hb := ⟨Try.func15, by kernel_rfl, rfl⟩) (hf := countRef d hfit n) (h := ?_)
      refine p_move (h := ?_)
      refine p_extract (h := ?_)
      refine p_extract (h := ?_)
      refine p_assign (h := ?_)
      refine p_assign (h := ?_)
      refine p_end ?_
      refine p_seq (p_region fun hf => ?_)
      refine p_move (h := ?_)
      refine p_move (h := ?_)
      refine p_num (h := ?_)
      refine p_move (h := ?_)
      refine p_isW (s := 73) (b := true) (hc := by simp) (h := ?_)
      refine p_guardYes (h := ?_)
      refine p_move (h := ?_)
      refine p_guardYes (h := ?_)
      refine p_move (h := ?_)
      refine p_guardYes (h := ?_)
      refine p_eqB (ht := Try.underlying4) (h := ?_)
      refine p_pick (h := ?_)
      refine p_move (h := ?_)
      refine p_isW (s := 78) (b := true) (hc := by simp) (h := ?_)
      refine p_guardYes (h := ?_)
      refine p_move (h := ?_)
      refine p_guardYes (h := ?_)
      refine p_move (h := ?_)
      refine p_guardYes (h := ?_)
      refine p_num (h := ?_)
      refine p_pick (h := ?_)
      refine p_move (h := ?_)
      refine p_isW (s := 83) (b := true) (hc := by simp) (h := ?_)
      refine p_guardYes (h := ?_)
      refine p_move (h := ?_)
      refine p_guardYes (h := ?_)
      refine p_move (h := ?_)
      refine p_guardYes (h := ?_)
      refine p_call (hx := rfl) (hb := ⟨Try.func16, by kernel_rfl, rfl⟩) (hf := sameI _ _ (Dfa.firstE_len d)) (h := ?_)
      refine p_pick (h := ?_)
      refine p_move (h := ?_)
      refine p_isW (s := 88) (b := true) (hc := by simp) (h := ?_)
      refine p_guardYes (h := ?_)
      refine p_move (h := ?_)
      refine p_guardYes (h := ?_)
      refine p_move (h := ?_)
      refine p_guardYes (h := ?_)
      refine p_eqB (ht := Try.underlying4) (h := ?_)
      refine p_pick (h := ?_)
      refine p_move (h := ?_)
      refine p_isW (s := 93) (b := true) (hc := by simp) (h := ?_)
      refine p_guardYes (h := ?_)
      refine p_move (h := ?_)
      refine p_guardYes (h := ?_)
      refine p_move (h := ?_)
      refine p_guardYes (h := ?_)
      refine p_num (h := ?_)
      refine p_pick (h := ?_)
      refine p_move (h := ?_)
      refine p_isW (s := 98) (b := true) (hc := by simp) (h := ?_)
      refine p_guardYes (h := ?_)
      refine p_move (h := ?_)
      refine p_guardYes (h := ?_)
      refine p_move (h := ?_)
      refine p_guardYes (h := ?_)
      refine p_num (h := ?_)
      refine p_pick (h := ?_)
      refine p_move (h := ?_)
      refine p_isW (s := 103) (b := true) (hc := by simp) (h := ?_)
      refine p_guardYes (h := ?_)
      refine p_move (h := ?_)
      refine p_guardYes (h := ?_)
      refine p_move (h := ?_)
      refine p_guardYes (h := ?_)
      refine p_num (h := ?_)
      refine p_pick (h := ?_)
      refine p_move (h := ?_)
      refine p_isW (s := 108) (b := true) (hc := by simp) (h := ?_)
      refine p_guardYes (h := ?_)
      refine p_call (hx := rfl) (hb := ⟨Try.func9, by kernel_rfl, rfl⟩) (hf := alive09) (h := ?_)
      refine p_pick (h := ?_)
      refine p_assign (h := ?_)
      refine p_end ?_
      refine TrC.ret ?_
      refine p_ret1 (hp := by rfl)
    · refine p_condF (h := ?_)
      have hw : w.length ≤ 1000000000 := by simp at hc29; omega
      refine p_skip ?_
      refine p_seq (p_region fun hf => ?_)
      (first | refine p_loadA (ht := F.agg25) (hi := F.ti25) (h := ?_) | refine p_loadRefA (ht := F.agg25) (hi := F.ti25) (h := ?_))
      refine p_move (h := ?_)
      refine p_call (hx := rfl) (hb := ⟨Try.func10, by kernel_rfl, rfl⟩) (hf := run09 d hfit _ hw) (h := ?_)
      refine p_move (h := ?_)
      refine p_extract (h := ?_)
      refine p_extract (h := ?_)
      refine p_extract (h := ?_)
      refine p_assign (h := ?_)
      refine p_assign (h := ?_)
      refine p_assign (h := ?_)
      refine p_end ?_
      refine p_seq (p_region fun hf => ?_)
      (first | refine p_loadA (ht := F.agg25) (hi := F.ti25) (h := ?_) | refine p_loadRefA (ht := F.agg25) (hi := F.ti25) (h := ?_))
      refine p_move (h := ?_)
      refine p_call (hx := rfl) (hb := ⟨Try.func11, by kernel_rfl, rfl⟩) (hf := runRef d hfit _ hw) (h := ?_)
      refine p_move (h := ?_)
      refine p_extract (h := ?_)
      refine p_extract (h := ?_)
      refine p_extract (h := ?_)
      refine p_assign (h := ?_)
      refine p_assign (h := ?_)
      refine p_assign (h := ?_)
      refine p_end ?_
      refine p_seq (p_region fun hf => ?_)
      (first | refine p_loadA (ht := F.agg25) (hi := F.ti25) (h := ?_) | refine p_loadRefA (ht := F.agg25) (hi := F.ti25) (h := ?_))
      refine p_call (hx := rfl) (hb := ⟨Try.func12, by kernel_rfl, rfl⟩) (hf := First09 d hfit) (h := ?_)
      refine p_move (h := ?_)
      refine p_extract (h := ?_)
      refine p_extract (h := ?_)
      refine p_extract (h := ?_)
      refine p_assign (h := ?_)
      refine p_assign (h := ?_)
      refine p_assign (h := ?_)
      refine p_end ?_
      refine p_seq (p_region fun hf => ?_)
      (first | refine p_loadA (ht := F.agg25) (hi := F.ti25) (h := ?_) | refine p_loadRefA (ht := F.agg25) (hi := F.ti25) (h := ?_))
      refine p_call (hx := rfl) (hb := ⟨Try.func13, by kernel_rfl, rfl⟩) (hf := FirstRef d hfit) (h := ?_)
      refine p_move (h := ?_)
      refine p_extract (h := ?_)
      refine p_extract (h := ?_)
      refine p_extract (h := ?_)
      refine p_assign (h := ?_)
      refine p_assign (h := ?_)
      refine p_assign (h := ?_)
      refine p_end ?_
      refine p_seq (p_region fun hf => ?_)
      (first | refine p_loadA (ht := F.agg25) (hi := F.ti25) (h := ?_) | refine p_loadRefA (ht := F.agg25) (hi := F.ti25) (h := ?_))
      refine p_move (h := ?_)
      refine p_call (hx := rfl) (hb := ⟨Try.func14, by kernel_rfl, rfl⟩) (hf := count09 d hfit n) (h := ?_)
      refine p_move (h := ?_)
      refine p_extract (h := ?_)
      refine p_extract (h := ?_)
      refine p_assign (h := ?_)
      refine p_assign (h := ?_)
      refine p_end ?_
      refine p_seq (p_region fun hf => ?_)
      (first | refine p_loadA (ht := F.agg25) (hi := F.ti25) (h := ?_) | refine p_loadRefA (ht := F.agg25) (hi := F.ti25) (h := ?_))
      refine p_move (h := ?_)
      refine p_call (hx := rfl) (hb := ⟨Try.func15, by kernel_rfl, rfl⟩) (hf := countRef d hfit n) (h := ?_)
      refine p_move (h := ?_)
      refine p_extract (h := ?_)
      refine p_extract (h := ?_)
      refine p_assign (h := ?_)
      refine p_assign (h := ?_)
      refine p_end ?_
      refine p_seq (p_region fun hf => ?_)
      refine p_move (h := ?_)
      refine p_move (h := ?_)
      refine p_num (h := ?_)
      refine p_move (h := ?_)
      refine p_isW (s := 73) (b := true) (hc := by simp) (h := ?_)
      refine p_guardYes (h := ?_)
      refine p_move (h := ?_)
      refine p_guardYes (h := ?_)
      refine p_move (h := ?_)
      refine p_guardYes (h := ?_)
      refine p_eqB (ht := Try.underlying4) (h := ?_)
      refine p_pick (h := ?_)
      refine p_move (h := ?_)
      refine p_isW (s := 78) (b := true) (hc := by simp) (h := ?_)
      refine p_guardYes (h := ?_)
      refine p_move (h := ?_)
      refine p_guardYes (h := ?_)
      refine p_move (h := ?_)
      refine p_guardYes (h := ?_)
      refine p_num (h := ?_)
      refine p_pick (h := ?_)
      refine p_move (h := ?_)
      refine p_isW (s := 83) (b := true) (hc := by simp) (h := ?_)
      refine p_guardYes (h := ?_)
      refine p_move (h := ?_)
      refine p_guardYes (h := ?_)
      refine p_move (h := ?_)
      refine p_guardYes (h := ?_)
      refine p_call (hx := rfl) (hb := ⟨Try.func16, by kernel_rfl, rfl⟩) (hf := sameI _ _ (Dfa.firstE_len d)) (h := ?_)
      refine p_pick (h := ?_)
      refine p_move (h := ?_)
      refine p_isW (s := 88) (b := true) (hc := by simp) (h := ?_)
      refine p_guardYes (h := ?_)
      refine p_move (h := ?_)
      refine p_guardYes (h := ?_)
      refine p_move (h := ?_)
      refine p_guardYes (h := ?_)
      refine p_eqB (ht := Try.underlying4) (h := ?_)
      refine p_pick (h := ?_)
      refine p_move (h := ?_)
      refine p_isW (s := 93) (b := true) (hc := by simp) (h := ?_)
      refine p_guardYes (h := ?_)
      refine p_move (h := ?_)
      refine p_guardYes (h := ?_)
      refine p_move (h := ?_)
      refine p_guardYes (h := ?_)
      refine p_num (h := ?_)
      refine p_pick (h := ?_)
      refine p_move (h := ?_)
      refine p_isW (s := 98) (b := true) (hc := by simp) (h := ?_)
      refine p_guardYes (h := ?_)
      refine p_move (h := ?_)
      refine p_guardYes (h := ?_)
      refine p_move (h := ?_)
      refine p_guardYes (h := ?_)
      refine p_num (h := ?_)
      refine p_pick (h := ?_)
      refine p_move (h := ?_)
      refine p_isW (s := 103) (b := true) (hc := by simp) (h := ?_)
      refine p_guardYes (h := ?_)
      refine p_move (h := ?_)
      refine p_guardYes (h := ?_)
      refine p_move (h := ?_)
      refine p_guardYes (h := ?_)
      refine p_num (h := ?_)
      refine p_pick (h := ?_)
      refine p_move (h := ?_)
      refine p_isW (s := 108) (b := true) (hc := by simp) (h := ?_)
      refine p_guardYes (h := ?_)
      refine p_call (hx := rfl) (hb := ⟨Try.func9, by kernel_rfl, rfl⟩) (hf := alive09) (h := ?_)
      refine p_pick (h := ?_)
      refine p_assign (h := ?_)
      refine p_end ?_
      refine TrC.ret ?_
      refine p_ret1 (hp := by rfl)

end Go.Proofs.Ytdpljpmohpifbaa
