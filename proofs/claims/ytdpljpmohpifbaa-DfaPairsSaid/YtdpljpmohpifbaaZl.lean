/-
  How many words of a length are taken: dfa's Count, walked.
-/
import Derived.Test.YtdpljpmohpifbaaZk
set_option linter.unusedSimpArgs false
set_option linter.unusedVariables false
namespace Go.Proofs.Ytdpljpmohpifbaa
open Go.RowKit
namespace Dfa
def cap (s : Int) : Int := if 1099511627776 < s then 1099511627776 else s
def wordsAt (d : Dfa) : Nat → Nat → Int
  | 0, i => if d.ac i then 1 else 0
  | t + 1, i => (d.row i).foldl (fun s to => cap (s + wordsAt d t to.toNat)) 0
def partAt (d : Dfa) (t i q : Nat) : Int := ((d.row i).take q).foldl (fun s to => cap (s + d.wordsAt t to.toNat)) 0
theorem cap_range {s : Int} (h : 0 ≤ s) : 0 ≤ cap s ∧ cap s ≤ 1099511627776 := by unfold cap; split <;> omega
theorem fold_range {d : Dfa} {t : Nat} (hw : ∀ i, 0 ≤ d.wordsAt t i) : ∀ (l : List Int) (s : Int), 0 ≤ s ∧ s ≤ 1099511627776 → 0 ≤ l.foldl (fun s to => cap (s + d.wordsAt t to.toNat)) s ∧ l.foldl (fun s to => cap (s + d.wordsAt t to.toNat)) s ≤ 1099511627776
  | [], s, h => h
  | x :: l, s, h => fold_range hw l _ (cap_range (by have := hw x.toNat; omega))
theorem words_range (d : Dfa) : ∀ t i, 0 ≤ d.wordsAt t i ∧ d.wordsAt t i ≤ 1099511627776
  | 0, i => by simp only [wordsAt]; split <;> omega
  | t + 1, i => fold_range (fun i => (words_range d t i).1) _ _ (by omega)
theorem part_range (d : Dfa) (t i q : Nat) : 0 ≤ d.partAt t i q ∧ d.partAt t i q ≤ 1099511627776 := fold_range (fun i => (words_range d t i).1) _ _ (by omega)
theorem part_next {d : Dfa} {t i q : Nat} (hi : i < d.next.length) (hq : q < d.next[i].length) : d.partAt t i (q + 1) = cap (d.partAt t i q + d.wordsAt t d.next[i][q].toNat) := by
  have hr : d.row i = d.next[i] := by simp [row, List.getD, List.getElem?_eq_getElem hi]
  rw [partAt, partAt, hr, List.take_add_one, List.getElem?_eq_getElem hq, Option.toList_some, List.foldl_append]; rfl
theorem part_all {d : Dfa} {t i : Nat} (hi : i < d.next.length) : d.partAt t i d.next[i].length = d.wordsAt (t + 1) i := by
  have hr : d.row i = d.next[i] := by simp [row, List.getD, List.getElem?_eq_getElem hi]
  rw [partAt, hr, List.take_length, wordsAt, hr]
def countR (d : Dfa) (n : Int) : Int × Int := if decide (d.err ≠ 0) then (0, d.err) else if decide (n < 0) || decide (10000 < n) then (0, 5) else (d.wordsAt n.toNat 0, 0)
end Dfa

theorem count09 (d : Dfa) (hfit : d.fits) (m : Int) : FnC Try.prog 14 [dfaV d, iV m] (fun r => r = .tup [iV (d.countR m).1, iV (d.countR m).2]) := by
  refine FnC.of (fn := Try.f14) ⟨Try.func14, by kernel_rfl, rfl⟩ Try.ntmps14 (by simp) fun w0 S0 => ?_
  refine p_seq (p_region fun hf => ?_)
  refine p_box (h := ?_)
  refine p_assign (h := ?_)
  refine p_assign (h := ?_)
  refine p_end ?_
  refine p_seq ?_
  refine p_seq (p_region fun hf => ?_)
  (first | refine p_loadA (ht := F.agg25) (hi := F.ti25) (h := ?_) | refine p_loadRefA (ht := F.agg25) (hi := F.ti25) (h := ?_))
  refine p_call (hx := rfl) (hb := ⟨Try.func21, by kernel_rfl, rfl⟩) (hf := check09 d hfit) (h := ?_)
  refine p_assign (h := ?_)
  refine p_end ?_
  refine p_seq (p_region fun hf => ?_)
  refine p_move (h := ?_)
  refine p_num (h := ?_)
  refine p_end ?_
  refine p_splitC (s := 18) (ht := fun hc18 => ?_) (hf := fun hc18 => ?_)
  · refine p_condT (h := ?_)
    refine p_seq (p_region fun hf => ?_)
    refine p_move (h := ?_)
    refine p_assign (h := ?_)
    refine p_assign (h := ?_)
    refine p_end ?_
    refine TrC.ret ?_
    refine p_rets2 rfl ⟨eV_, rfl⟩ ⟨eV_, rfl⟩ (by simp only [Dfa.countR, hc18, Bool.true_or, Bool.or_true, Bool.false_eq_true, ↓reduceIte])
  · refine p_condF (h := ?_)
    have h := Dfa.ok_err hc18
    have hn1 := h.n1
    have hacc : (d.acc.length : Int) = d.n := by have := h.acc; omega
    have hn : d.n = d.next.length := rfl
    refine p_skip ?_
    refine p_seq ?_
    refine p_seq (p_region fun hf => ?_)
    refine p_move (h := ?_)
    refine p_num (h := ?_)
    refine p_move (h := ?_)
    refine p_split (s := 22) (ht := fun hb22 => ?_) (hf := fun hb22 => ?_)
    · -- slot 22 is true
      iterate 2 (refine p_guardNo (h := ?_))
      refine p_pick (h := ?_)
      refine p_end ?_
      refine p_condT (h := ?_)
      refine p_seq (p_region fun hf => ?_)
      refine p_assign (h := ?_)
      refine p_assign (h := ?_)
      refine p_end ?_
      refine TrC.ret ?_
      refine p_rets2 rfl ⟨eV_, rfl⟩ ⟨eV_, rfl⟩ (by simp only [Dfa.countR, hc18, hb22, Bool.true_or, Bool.or_true, Bool.false_eq_true, ↓reduceIte])
    · -- slot 22 is false
      refine p_guardYes (h := ?_)
      refine p_move (h := ?_)
      refine p_guardYes (h := ?_)
      refine p_num (h := ?_)
      refine p_pick (h := ?_)
      refine p_end ?_
      refine p_splitC (s := 25) (ht := fun hc25 => ?_) (hf := fun hc25 => ?_)
      · refine p_condT (h := ?_)
        refine p_seq (p_region fun hf => ?_)
        refine p_assign (h := ?_)
        refine p_assign (h := ?_)
        refine p_end ?_
        refine TrC.ret ?_
        refine p_rets2 rfl ⟨eV_, rfl⟩ ⟨eV_, rfl⟩ (by simp only [Dfa.countR, hc18, hb22, hc25, Bool.true_or, Bool.or_true, Bool.false_eq_true, ↓reduceIte])
      · refine p_condF (h := ?_)
        have hm0 : 0 ≤ m ∧ m ≤ 10000 := by simp at hb22 hc25; omega
        refine p_skip ?_
        refine p_seq (p_region fun hf => ?_)
        (first | refine p_fieldPtr (hf := F.fld25_1) (h := ?_) | refine p_fieldRef (hf := F.fld25_1) (h := ?_) | refine p_fieldRow (hf := F.fld25_1) (h := ?_))
        (first | refine p_load (ht := F.leaf22) (h := ?_) | refine p_loadRef (ht := F.leaf22) (h := ?_))
        refine p_len (ht := Try.underlying22) (h := ?_)
        refine p_make (n := d.n) (ht := Try.underlying60) (hi := F.ti2) (hz := rfl) (hzv := rfl) (hro := rfl) (hb := by omega) (h63 := by omega) (h := ?_)
        refine p_assign (h := ?_)
        refine p_end ?_
        refine p_seq ?_
        refine p_seq (p_region fun hf => ?_)
        (first | refine p_fieldPtr (hf := F.fld25_2) (h := ?_) | refine p_fieldRef (hf := F.fld25_2) (h := ?_) | refine p_fieldRow (hf := F.fld25_2) (h := ?_))
        (first | refine p_load (ht := F.leaf23) (h := ?_) | refine p_loadRef (ht := F.leaf23) (h := ?_))
        refine p_len (ht := Try.underlying23) (h := ?_)
        refine p_move (h := ?_)
        refine p_end ?_
        refine TrC.block ?_
        refine p_loop (fun st => ∃ i : Nat, i ≤ d.n ∧ st.env 2 = .ptr (0 + 1) 2 0 ∧ st.env 1 = iV m ∧ st.env 7 = .row (0 + 1 + 1 + 1 + 1 + 1) 29 d.n ∧ st.env 31 = .sl 4 (d.acc.map .bool) ∧ st.env 32 = iV d.n ∧ st.env 33 = iV i ∧ st.obj (0 + 1) 2 = .cells 25 (dfaL d) ∧ st.obj (0 + 1 + 1 + 1 + 1 + 1) 29 = .row 2 ((List.range d.n).map fun j => iV (if j < i then d.wordsAt 0 j else 0))) (fun st => d.n - (st.env 33).toN) ?_ fun e ob g1 hI => ?_
        · exact ⟨0, by omega, eV_, eV_, eV_, eV_, by rw [← hacc]; exact eV_, eV_, oB_, by refine Eq.trans oB_ ?_; rw [replicate_range]; rfl⟩
        · obtain ⟨i, hi, e2, e1, e7, e31, e32, e33, o2, o29⟩ := hI
          dsimp only at e2 e1 e7 e31 e32 e33 o2 o29
          have hE := (⟨e2, e1, e7, e31, e32, e33, o2, o29⟩ : _ ∧ _ ∧ _ ∧ _ ∧ _ ∧ _ ∧ _ ∧ _)
          refine p_seq (p_region fun hf => ?_)
          refine p_num (h := ?_)
          refine p_end ?_
          refine p_seq ?_
          refine p_splitC (s := 34) (ht := fun hc34 => ?_) (hf := fun hc34 => ?_)
          · refine p_condT (h := ?_)
            have hltn : i < d.n := by simpa using hc34
            have hlt1 : i < d.acc.length := by omega
            refine p_skip ?_
            refine p_seq ?_
            refine TrC.block ?_
            refine p_seq (p_region fun hf => ?_)
            refine p_move (h := ?_)
            refine p_idxMap (j := i) (ht := Try.underlying23) (hi := F.ti4) (hij := rfl) (hj := hlt1) (h := ?_)
            (first | refine p_load (ht := F.leaf4) (h := ?_) | refine p_loadRef (ht := F.leaf4) (h := ?_))
            refine p_assign (h := ?_)
            refine p_assign (h := ?_)
            refine p_end ?_
            refine p_seq (p_region fun hf => ?_)
            refine p_move (h := ?_)
            refine p_end ?_
            refine p_splitC (s := 38) (ht := fun hc38 => ?_) (hf := fun hc38 => ?_)
            · refine p_condT (h := ?_)
              refine p_region fun hf => ?_
              refine p_move (h := ?_)
              refine p_move (h := ?_)
              refine p_idxRowN (i) (ht := Try.underlying60) (hi := F.ti2) (hij := rfl) (hlt := hltn) (h := ?_)
              refine p_storeRowF (f' := fun j => iV (if j < i + 1 then d.wordsAt 0 j else 0)) F.ti2 (TI.cells F.ti2) (hlt := hltn) (hf := fun j _ => set_next (F := fun j => d.wordsAt 0 j) (by simp [Dfa.wordsAt, ← Dfa.ac_is hlt1, hc38]) j) (h := ?_)
              refine p_end ?_
              refine p_region fun hf => ?_
              refine p_add (r := ((i + 1 : Nat) : Int)) (hr := by omega) (hb := by omega) (h := ?_)
              refine p_move (h := ?_)
              refine p_end ?_
              refine p_some ?_
              refine ⟨⟨i + 1, by omega, eV_, eV_, eV_, eV_, eV_, eV_, oB_, oB_⟩, ?_⟩
              simp (decide := true) only [upd, e33, V.toN, ↓reduceIte]; omega
            · refine p_condF (h := ?_)
              refine p_skip ?_
              refine p_region fun hf => ?_
              refine p_add (r := ((i + 1 : Nat) : Int)) (hr := by omega) (hb := by omega) (h := ?_)
              refine p_move (h := ?_)
              refine p_end ?_
              refine p_some ?_
              refine ⟨⟨i + 1, by omega, eV_, eV_, eV_, eV_, eV_, eV_, oB_, by refine Eq.trans oB_ ?_; exact congrArg (Ob.row _) (List.map_congr_left fun j _ => skip_next (F := fun j => d.wordsAt 0 j) (by simp [Dfa.wordsAt, ← Dfa.ac_is hlt1, hc38]) j)⟩, ?_⟩
              simp (decide := true) only [upd, e33, V.toN, ↓reduceIte]; omega
          · refine p_condF (h := ?_)
            have hie : i = d.n := by simp at hc34; omega
            refine p_exit ?_
            refine p_seq ?_
            refine p_seq (p_region fun hf => ?_)
            refine p_move (h := ?_)
            refine p_move (h := ?_)
            refine p_end ?_
            refine p_renSlot (s := 7) 60 (h := ?_)
            refine TrC.block ?_
            refine p_loop (fun st => ∃ t r : Nat, (t : Int) ≤ m ∧ st.env 2 = .ptr (0 + 1) 2 0 ∧ st.env 1 = iV m ∧ st.env 7 = .row r 60 d.n ∧ st.env 43 = iV m ∧ st.env 44 = iV t ∧ st.obj (0 + 1) 2 = .cells 25 (dfaL d) ∧ st.obj r 60 = .row 2 ((List.range d.n).map fun j => iV (d.wordsAt t j))) (fun st => m.toNat - (st.env 44).toN) ?_ fun e ob g2 hI => ?_
            · exact ⟨0, _, by omega, eV_, eV_, eV_, eV_, eV_, oB_, by refine Eq.trans oB_ ?_; rw [hie]; exact congrArg (Ob.row _) (List.map_congr_left fun j hj => by rw [if_pos (by simpa using hj)])⟩
            · obtain ⟨t, r, ht, f2, f1, f7, f43, f44, p2, p60⟩ := hI
              dsimp only at f2 f1 f7 f43 f44 p2 p60
              have hE := (⟨f2, f1, f7, f43, f44, p2, p60⟩ : _ ∧ _ ∧ _ ∧ _ ∧ _ ∧ _ ∧ _)
              refine p_seq (p_region fun hf => ?_)
              refine p_num (h := ?_)
              refine p_end ?_
              refine p_seq ?_
              refine p_splitC (s := 45) (ht := fun hc45 => ?_) (hf := fun hc45 => ?_)
              · refine p_condT (h := ?_)
                refine p_skip ?_
                refine p_seq ?_
                refine TrC.block ?_
                refine p_seq (p_region fun hf => ?_)
                refine p_move (h := ?_)
                refine p_len (ht := Try.underlying60) (h := ?_)
                refine p_make (n := d.n) (ht := Try.underlying60) (hi := F.ti2) (hz := rfl) (hzv := rfl) (hro := rfl) (hb := by omega) (h63 := by omega) (h := ?_)
                refine p_assign (h := ?_)
                refine p_end ?_
                refine p_seq ?_
                refine p_seq (p_region fun hf => ?_)
                (first | refine p_fieldPtr (hf := F.fld25_1) (h := ?_) | refine p_fieldRef (hf := F.fld25_1) (h := ?_) | refine p_fieldRow (hf := F.fld25_1) (h := ?_))
                (first | refine p_load (ht := F.leaf22) (h := ?_) | refine p_loadRef (ht := F.leaf22) (h := ?_))
                refine p_len (ht := Try.underlying22) (h := ?_)
                refine p_move (h := ?_)
                refine p_end ?_
                refine TrC.block ?_
                refine p_loop (fun st => ∃ i : Nat, i ≤ d.n ∧ st.env 2 = .ptr (0 + 1) 2 0 ∧ st.env 1 = iV m ∧ st.env 7 = .row r 60 d.n ∧ st.env 43 = iV m ∧ st.env 44 = iV t ∧ st.env 10 = .row (g2 + 1 + 1) 48 d.n ∧ st.env 50 = .sl 26 (d.next.map rowV) ∧ st.env 51 = iV d.n ∧ st.env 52 = iV i ∧ st.obj (0 + 1) 2 = .cells 25 (dfaL d) ∧ st.obj r 60 = .row 2 ((List.range d.n).map fun j => iV (d.wordsAt t j)) ∧ st.obj (g2 + 1 + 1) 48 = .row 2 ((List.range d.n).map fun j => iV (if j < i then d.wordsAt (t + 1) j else 0))) (fun st => d.n - (st.env 52).toN) ?_ fun e ob g3 hI => ?_
                · exact ⟨0, by omega, eV_, eV_, eV_, eV_, eV_, eV_, eV_, eV_, eV_, oB_, oB_, by refine Eq.trans oB_ ?_; rw [replicate_range]; rfl⟩
                · obtain ⟨i, hi, e2, e1, e7, e43, e44, e10, e50, e51, e52, o2, o60, o48⟩ := hI
                  dsimp only at e2 e1 e7 e43 e44 e10 e50 e51 e52 o2 o60 o48
                  have hE := (⟨e2, e1, e7, e43, e44, e10, e50, e51, e52, o2, o60, o48⟩ : _ ∧ _ ∧ _ ∧ _ ∧ _ ∧ _ ∧ _ ∧ _ ∧ _ ∧ _ ∧ _ ∧ _)
                  refine p_seq (p_region fun hf => ?_)
                  refine p_num (h := ?_)
                  refine p_end ?_
                  refine p_seq ?_
                  refine p_splitC (s := 53) (ht := fun hc53 => ?_) (hf := fun hc53 => ?_)
                  · refine p_condT (h := ?_)
                    have hlt : i < d.n := by simpa using hc53
                    refine p_skip ?_
                    refine p_seq ?_
                    refine TrC.block ?_
                    refine p_seq (p_region fun hf => ?_)
                    refine p_move (h := ?_)
                    refine p_idxMap (j := i) (ht := Try.underlying22) (hi := F.ti26) (hij := rfl) (hj := hlt) (h := ?_)
                    (first | refine p_load (ht := F.leaf26) (h := ?_) | refine p_loadRef (ht := F.leaf26) (h := ?_))
                    refine p_assign (h := ?_)
                    refine p_assign (h := ?_)
                    refine p_end ?_
                    refine p_seq (p_region fun hf => ?_)
                    refine p_move (h := ?_)
                    refine p_len (ht := Try.underlying26) (h := ?_)
                    refine p_move (h := ?_)
                    refine p_end ?_
                    refine TrC.block ?_
                    refine p_loop (fun st => ∃ q : Nat, q ≤ d.next[i].length ∧ st.env 2 = .ptr (0 + 1) 2 0 ∧ st.env 1 = iV m ∧ st.env 7 = .row r 60 d.n ∧ st.env 43 = iV m ∧ st.env 44 = iV t ∧ st.env 10 = .row (g2 + 1 + 1) 48 d.n ∧ st.env 50 = .sl 26 (d.next.map rowV) ∧ st.env 51 = iV d.n ∧ st.env 52 = iV i ∧ st.env 11 = iV i ∧ st.env 57 = rowV d.next[i] ∧ st.env 58 = iV d.next[i].length ∧ st.env 59 = iV q ∧ st.obj (0 + 1) 2 = .cells 25 (dfaL d) ∧ st.obj r 60 = .row 2 ((List.range d.n).map fun j => iV (d.wordsAt t j)) ∧ st.obj (g2 + 1 + 1) 48 = .row 2 ((List.range d.n).map fun j => iV (if j = i then d.partAt t i q else if j < i then d.wordsAt (t + 1) j else 0))) (fun st => d.next[i].length - (st.env 59).toN) ?_ fun e ob g4 hI => ?_
                    · exact ⟨0, by omega, eV_, eV_, eV_, eV_, eV_, eV_, eV_, eV_, eV_, eV_, eV_, eV_, eV_, oB_, oB_, by refine Eq.trans oB_ ?_; exact congrArg (Ob.row _) (List.map_congr_left fun j _ => by by_cases hj : j = i <;> simp [hj, Dfa.partAt])⟩
                    · obtain ⟨q, hq, d2, d1, d7, d43, d44, d10, d50, d51, d52, d11, d57, d58, d59, b2, b60, b48⟩ := hI
                      dsimp only at d2 d1 d7 d43 d44 d10 d50 d51 d52 d11 d57 d58 d59 b2 b60 b48
                      have hE := (⟨d2, d1, d7, d43, d44, d10, d50, d51, d52, d11, d57, d58, d59, b2, b60, b48⟩ : _ ∧ _ ∧ _ ∧ _ ∧ _ ∧ _ ∧ _ ∧ _ ∧ _ ∧ _ ∧ _ ∧ _ ∧ _ ∧ _ ∧ _ ∧ _)
                      have hrl4 := (h.rows _ (List.getElem_mem hlt)).1
                      have hs4 := h.sym1
                      refine p_seq (p_region fun hf => ?_)
                      refine p_num (h := ?_)
                      refine p_end ?_
                      refine p_seq ?_
                      refine p_splitC (s := 60) (ht := fun hc60 => ?_) (hf := fun hc60 => ?_)
                      · refine p_condT (h := ?_)
                        have hlq : q < d.next[i].length := by simpa using hc60
                        have hto := (h.rows _ (List.getElem_mem hlt)).2 _ (List.getElem_mem hlq)
                        replace hto : 0 ≤ d.next[i][q] ∧ d.next[i][q].toNat < d.n := ⟨hto.1, by omega⟩
                        have hpr := d.part_range t i q
                        have hwr := d.words_range t d.next[i][q].toNat
                        refine p_skip ?_
                        refine p_seq ?_
                        refine TrC.block ?_
                        refine p_seq (p_region fun hf => ?_)
                        refine p_idxMap (j := q) (ht := Try.underlying26) (hi := F.ti3) (hij := rfl) (hj := hlq) (h := ?_)
                        (first | refine p_load (ht := F.leaf3) (h := ?_) | refine p_loadRef (ht := F.leaf3) (h := ?_))
                        refine p_assign (h := ?_)
                        refine p_end ?_
                        refine p_draw F.mixed fun hf => ?_
                        refine p_move (h := ?_)
                        refine p_move (h := ?_)
                        refine p_move (h := ?_)
                        refine p_move (h := ?_)
                        refine p_idxRowN (i) (ht := Try.underlying60) (hi := F.ti2) (hij := rfl) (hlt := hlt) (h := ?_)
                        refine p_loadRowF (ht := F.leaf2) (hi := hlt) (h := ?_)
                        refine p_move (h := ?_)
                        refine p_move (h := ?_)
                        refine p_idxRowN (d.next[i][q].toNat) (ht := Try.underlying60) (hi := F.ti2) (hij := by omega) (hlt := hto.2) (h := ?_)
                        refine p_loadRowF (ht := F.leaf2) (hi := hto.2) (h := ?_)
                        refine p_add (r := d.partAt t i q + d.wordsAt t d.next[i][q].toNat) (hr := by simp) (hb := by omega) (h := ?_)
                        refine p_min (h := ?_)
                        refine p_idxRowN (i) (ht := Try.underlying60) (hi := F.ti2) (hij := rfl) (hlt := hlt) (h := ?_)
                        refine p_storeRowF (f' := fun j => iV (if j = i then d.partAt t i (q + 1) else if j < i then d.wordsAt (t + 1) j else 0)) F.ti2 (TI.cells F.ti2) (hlt := hlt) (hf := fun j _ => by by_cases hj : j = i <;> simp [hj, Dfa.part_next hlt hlq, Dfa.cap]) (h := ?_)
                        refine p_endD ?_
                        refine p_region fun hf => ?_
                        refine p_add (r := ((q + 1 : Nat) : Int)) (hr := by omega) (hb := by omega) (h := ?_)
                        refine p_move (h := ?_)
                        refine p_end ?_
                        refine p_some ?_
                        refine ⟨⟨q + 1, hlq, eV_, eV_, eV_, eV_, eV_, eV_, eV_, eV_, eV_, eV_, eV_, eV_, eV_, oB_, oB_, oB_⟩, ?_⟩
                        simp (decide := true) only [upd, d59, V.toN, ↓reduceIte]; omega
                      · refine p_condF (h := ?_)
                        have hqe : q = d.next[i].length := by simp at hc60; omega
                        subst hqe
                        refine p_exit ?_
                        refine p_region fun hf => ?_
                        refine p_add (r := ((i + 1 : Nat) : Int)) (hr := by omega) (hb := by omega) (h := ?_)
                        refine p_move (h := ?_)
                        refine p_end ?_
                        refine p_some ?_
                        refine ⟨⟨i + 1, hlt, eV_, eV_, eV_, eV_, eV_, eV_, eV_, eV_, eV_, oB_, oB_, by refine Eq.trans oB_ ?_; exact congrArg (Ob.row _) (List.map_congr_left fun j _ => by rw [set_next (F := fun j => d.wordsAt (t + 1) j) rfl j, Dfa.part_all hlt]; by_cases hj : j = i <;> simp [hj])⟩, ?_⟩
                        simp (decide := true) only [upd, e52, d52, V.toN, ↓reduceIte]; omega
                  · refine p_condF (h := ?_)
                    have hie : i = d.n := by simp at hc53; omega
                    subst hie
                    refine p_exit ?_
                    refine p_region fun hf => ?_
                    refine p_move (h := ?_)
                    refine p_assign (h := ?_)
                    refine p_end ?_
                    refine p_region fun hf => ?_
                    refine p_add (r := ((t + 1 : Nat) : Int)) (hr := by omega) (hb := by omega) (h := ?_)
                    refine p_move (h := ?_)
                    refine p_end ?_
                    refine p_renSlot (s := 7) 60 (h := ?_)
                    refine p_some ?_
                    have htm : (t : Int) < m := by simpa using hc45
                    refine ⟨⟨t + 1, _, by omega, eV_, eV_, eV_, eV_, eV_, oB_, by refine Eq.trans oB_ ?_; exact congrArg (Ob.row _) (List.map_congr_left fun j hj => by rw [if_pos (by simpa using hj)])⟩, ?_⟩
                    simp (decide := true) only [upd, f44, e44, V.toN, ↓reduceIte]; omega
              · refine p_condF (h := ?_)
                refine p_exit ?_
                refine p_seq (p_region fun hf => ?_)
                refine p_move (h := ?_)
                refine p_idxRowN (0) (ht := Try.underlying60) (hi := F.ti2) (hij := rfl) (hlt := h.n0) (h := ?_)
                refine p_loadRowF (ht := F.leaf2) (hi := h.n0) (h := ?_)
                refine p_assign (h := ?_)
                refine p_assign (h := ?_)
                refine p_end ?_
                refine TrC.ret ?_
                refine p_rets2 rfl ⟨eV_, rfl⟩ ⟨eV_, rfl⟩ (by simp only [Dfa.countR, hc18, hb22, hc25, Bool.or_self, Bool.false_eq_true, ↓reduceIte]; rw [show m.toNat = t by simp at hc45; omega])

end Go.Proofs.Ytdpljpmohpifbaa
