/-
  Runs of automata, and automata of pairs, walked.
-/
import Derived.Test.YtdpljpmohpifbaaZo
set_option linter.unusedSimpArgs false
set_option linter.unusedVariables false
namespace Go.Proofs.Ytdpljpmohpifbaa
open Go.RowKit
namespace Dfa
def offW (d : Dfa) (x : Int) : Bool := decide (x < 0) || decide (d.sym ≤ x)
def runR (d : Dfa) (w : List Int) : Int × Bool × Int := if decide (d.err ≠ 0) then (0, false, d.err) else if w.any d.offW then (0, false, 5) else (d.run 0 w, d.takes w, 0)
theorem run_more (d : Dfa) : ∀ (w : List Int) (s : Nat) (x : Int), d.run s (w ++ [x]) = d.nx (d.run s w) x.toNat
  | [], _, _ => rfl
  | y :: w, s, x => run_more d w _ x
theorem run_next {d : Dfa} {w : List Int} {i : Nat} (h : i < w.length) : d.run 0 (w.take (i + 1)) = d.nx (d.run 0 (w.take i)) w[i].toNat := by
  rw [List.take_add_one, List.getElem?_eq_getElem h, Option.toList_some, run_more]
theorem off_some {d : Dfa} {w : List Int} {i : Nat} (hi : i < w.length) (h : d.offW w[i] = true) : w.any d.offW = true := List.any_eq_true.2 ⟨_, List.getElem_mem hi, h⟩
theorem off_none {d : Dfa} {w : List Int} (h : ∀ j (hj : j < w.length), d.offW w[j] = false) : w.any d.offW = false := by
  rw [List.any_eq_false]
  intro x hx
  obtain ⟨j, hj, rfl⟩ := List.mem_iff_getElem.1 hx
  simp [h j hj]
theorem off_in {d : Dfa} {x : Int} (h : d.offW x = false) : 0 ≤ x ∧ x < d.sym := by simp [offW] at h; omega
theorem run_in {d : Dfa} (h : d.Ok) {w : List Int} {i : Nat} (hw : ∀ j (hj : j < w.length), j < i → d.offW w[j] = false) : d.run 0 (w.take i) < d.n :=
  run_lt h _ 0 h.n0 fun x hx => by
    obtain ⟨j, hj, rfl⟩ := List.mem_iff_getElem.1 hx
    simp only [List.length_take] at hj
    rw [List.getElem_take]
    exact off_in (hw j (by omega) (by omega))
def askedE (a b : Dfa) : Int := if decide (a.err ≠ 0) then a.err else if decide (b.err ≠ 0) then b.err else if decide (a.sym ≠ b.sym) then 1 else 0
theorem asked_ok {a b : Dfa} (h : decide (askedE a b ≠ 0) = false) : a.Ok ∧ b.Ok ∧ a.sym = b.sym := by
  cases h1 : decide (a.err ≠ 0) with
  | true => rw [askedE, h1, if_pos rfl] at h; rw [h] at h1; cases h1
  | false =>
    cases h2 : decide (b.err ≠ 0) with
    | true => rw [askedE, h1, if_neg (by decide), h2, if_pos rfl] at h; rw [h] at h2; cases h2
    | false =>
      cases h3 : decide (a.sym ≠ b.sym) with
      | true => rw [askedE, h1, if_neg (by decide), h2, if_neg (by decide), h3, if_pos rfl] at h; exact absurd h (by decide)
      | false => exact ⟨ok_err h1, ok_err h2, by simpa using h3⟩
theorem small_n {d : Dfa} (h : (!d.smallD) = false) (hd : d.Ok) : d.n ≤ 24 ∧ d.sym ≤ 6 := by
  simp only [smallD, Bool.not_eq_false', Bool.and_eq_true, decide_eq_true_eq, List.all_eq_true] at h
  have hn : d.n = d.next.length := rfl
  have h0 := hd.n0
  refine ⟨by omega, ?_⟩
  have hlt : 0 < d.next.length := by omega
  have h1 := (hd.rows _ (List.getElem_mem hlt)).1
  have h2 := h.2.2 _ (List.getElem_mem hlt)
  omega
def joinR (a b : Dfa) (both : Bool) : Dfa := (pairsR a.leastR b.leastR both).leastR
theorem join_ok {a b : Dfa} (ha : a.Ok) (hb : b.Ok) (hs : a.sym = b.sym) (h1 : (!a.smallD) = false) (h2 : (!b.smallD) = false) (both : Bool) : (pairsR a.leastR b.leastR both).Ok ∧ (joinR a b both).Ok ∧ (joinR a b both).good = true ∧ (joinR a b both).sym = a.sym := by
  obtain ⟨a1, a2, a3⟩ := leastR_ok ha
  obtain ⟨b1, b2, b3⟩ := leastR_ok hb
  have s1 := small_n h1 ha
  have s2 := small_n h2 hb
  have hm : a.leastR.n * b.leastR.n ≤ 24 * 24 := Nat.mul_le_mul (by omega) (by omega)
  obtain ⟨p1, p2, p3⟩ := pairs_ok a1 b1 (by rw [a3, b3, hs]) (by omega) both
  obtain ⟨j1, j2, j3⟩ := leastR_ok p1
  have hsym : (joinR a b both).sym = a.sym := by rw [joinR, j3, p3, a3]
  refine ⟨p1, j1, ok_good j1 ?_, hsym⟩
  have h5 : ((joinR a b both).n : Int) ≤ 576 := by rw [joinR]; omega
  have h6 : ((joinR a b both).n : Int) * (joinR a b both).sym ≤ 576 * 6 := Int.mul_le_mul h5 (by omega) (by have := ha.sym0; omega) (by omega)
  show ((joinR a b both).n : Int) * (joinR a b both).sym ≤ 65536
  omega
theorem good_err {d : Dfa} (h : d.good = true) : d.err = 0 := by simp [err, h]
end Dfa

theorem run09 (d : Dfa) (hfit : d.fits) (w : List Int) (hl : w.length ≤ 1000000000) : FnC Try.prog 10 [dfaV d, .sl 3 (w.map iV)] (fun r => r = .tup [iV (d.runR w).1, .bool (d.runR w).2.1, iV (d.runR w).2.2]) := by
  refine FnC.of (fn := Try.f10) ⟨Try.func10, by kernel_rfl, rfl⟩ Try.ntmps10 (by simp) fun w0 S0 => ?_
  refine p_seq (p_region fun hf => ?_)
  refine p_box (h := ?_)
  refine p_assign (h := ?_)
  refine p_assign (h := ?_)
  refine p_assign (h := ?_)
  refine p_end ?_
  refine p_seq ?_
  refine p_seq (p_region fun hf => ?_)
  (first | refine p_loadA (ht := F.agg25) (hi := F.ti25) (h := ?_) | refine p_loadRefA (ht := F.agg25) (hi := F.ti25) (h := ?_))
  refine p_call (hx := rfl) (hb := ⟨Try.func21, by kernel_rfl, rfl⟩) (hf := check09 d hfit) (h := ?_)
  refine p_assign (h := ?_)
  refine p_end ?_
  refine p_seq (p_region fun hf => ?_)
  refine p_move (h := ?_)
  refine p_num (h := ?_)
  refine p_end ?_
  refine p_splitC (s := 14) (ht := fun hc14 => ?_) (hf := fun hc14 => ?_)
  · refine p_condT (h := ?_)
    refine p_seq (p_region fun hf => ?_)
    refine p_move (h := ?_)
    refine p_assign (h := ?_)
    refine p_assign (h := ?_)
    refine p_assign (h := ?_)
    refine p_end ?_
    refine TrC.ret ?_
    refine p_rets3 rfl ⟨eV_, rfl⟩ ⟨eV_, rfl⟩ ⟨eV_, rfl⟩ (by simp only [Dfa.runR, hc14, ↓reduceIte])
  · refine p_condF (h := ?_)
    have h := Dfa.ok_err hc14
    have hacc := h.acc
    have hn : d.n = d.next.length := rfl
    refine p_skip ?_
    refine p_seq (p_region fun hf => ?_)
    refine p_assign (h := ?_)
    refine p_end ?_
    refine p_seq ?_
    refine p_seq (p_region fun hf => ?_)
    refine p_move (h := ?_)
    refine p_len (ht := Try.underlying26) (h := ?_)
    refine p_move (h := ?_)
    refine p_end ?_
    refine TrC.block ?_
    refine p_loop (fun st => ∃ i : Nat, i ≤ w.length ∧ (∀ j (hj : j < w.length), j < i → d.offW w[j] = false) ∧ st.env 2 = .ptr (0 + 1) 2 0 ∧ st.env 8 = iV (d.run 0 (w.take i)) ∧ st.env 16 = .sl 3 (w.map iV) ∧ st.env 17 = iV w.length ∧ st.env 18 = iV i ∧ st.obj (0 + 1) 2 = .cells 25 (dfaL d)) (fun st => w.length - (st.env 18).toN) ?_ fun e ob g1 hI => ?_
    · exact ⟨0, by omega, fun j _ h => by omega, eV_, eV_, eV_, eV_, eV_, oB_⟩
    · obtain ⟨i, hi, hno, e2, e8, e16, e17, e18, o2⟩ := hI
      dsimp only at e2 e8 e16 e17 e18 o2
      have hE := (⟨e2, e8, e16, e17, e18, o2⟩ : _ ∧ _ ∧ _ ∧ _ ∧ _ ∧ _)
      have hrun := Dfa.run_in h hno
      have hsa : d.run 0 (w.take i) < d.acc.length := by omega
      refine p_seq (p_region fun hf => ?_)
      refine p_num (h := ?_)
      refine p_end ?_
      refine p_seq ?_
      refine p_splitC (s := 19) (ht := fun hc19 => ?_) (hf := fun hc19 => ?_)
      · refine p_condT (h := ?_)
        have hlt : i < w.length := by simpa using hc19
        refine p_skip ?_
        refine p_seq ?_
        refine TrC.block ?_
        refine p_seq (p_region fun hf => ?_)
        refine p_idxMap (j := i) (ht := Try.underlying26) (hi := F.ti3) (hij := rfl) (hj := hlt) (h := ?_)
        (first | refine p_load (ht := F.leaf3) (h := ?_) | refine p_loadRef (ht := F.leaf3) (h := ?_))
        refine p_assign (h := ?_)
        refine p_end ?_
        refine p_seq ?_
        refine p_seq (p_region fun hf => ?_)
        refine p_move (h := ?_)
        refine p_num (h := ?_)
        refine p_move (h := ?_)
        refine p_split (s := 24) (ht := fun hb24 => ?_) (hf := fun hb24 => ?_)
        · -- slot 24 is true
          iterate 4 (refine p_guardNo (h := ?_))
          refine p_pick (h := ?_)
          refine p_end ?_
          refine p_condT (h := ?_)
          refine p_seq (p_region fun hf => ?_)
          refine p_assign (h := ?_)
          refine p_assign (h := ?_)
          refine p_assign (h := ?_)
          refine p_end ?_
          refine TrC.ret ?_
          refine p_rets3 rfl ⟨eV_, rfl⟩ ⟨eV_, rfl⟩ ⟨eV_, rfl⟩ (by simp only [Dfa.runR, hc14, Dfa.off_some (d := d) hlt (by rw [Dfa.offW, hb24]; rfl), Bool.false_eq_true, ↓reduceIte])
        · -- slot 24 is false
          refine p_guardYes (h := ?_)
          refine p_move (h := ?_)
          refine p_guardYes (h := ?_)
          (first | refine p_fieldPtr (hf := F.fld25_0) (h := ?_) | refine p_fieldRef (hf := F.fld25_0) (h := ?_) | refine p_fieldRow (hf := F.fld25_0) (h := ?_))
          refine p_guardYes (h := ?_)
          (first | refine p_load (ht := F.leaf3) (h := ?_) | refine p_loadRef (ht := F.leaf3) (h := ?_))
          refine p_guardYes (h := ?_)
          refine p_num (h := ?_)
          refine p_pick (h := ?_)
          refine p_end ?_
          refine p_splitC (s := 29) (ht := fun hc29 => ?_) (hf := fun hc29 => ?_)
          · refine p_condT (h := ?_)
            refine p_seq (p_region fun hf => ?_)
            refine p_assign (h := ?_)
            refine p_assign (h := ?_)
            refine p_assign (h := ?_)
            refine p_end ?_
            refine TrC.ret ?_
            refine p_rets3 rfl ⟨eV_, rfl⟩ ⟨eV_, rfl⟩ ⟨eV_, rfl⟩ (by simp only [Dfa.runR, hc14, Dfa.off_some (d := d) hlt (by rw [Dfa.offW, hb24, hc29]; rfl), Bool.false_eq_true, ↓reduceIte])
          · refine p_condF (h := ?_)
            have hin := Dfa.off_in (show d.offW w[i] = false by rw [Dfa.offW, hb24, hc29]; rfl)
            have hs : d.run 0 (w.take i) < d.next.length := by omega
            have hx := Dfa.row_len' h hs (k := w[i].toNat) (by omega)
            refine p_skip ?_
            refine p_region fun hf => ?_
            (first | refine p_fieldPtr (hf := F.fld25_1) (h := ?_) | refine p_fieldRef (hf := F.fld25_1) (h := ?_) | refine p_fieldRow (hf := F.fld25_1) (h := ?_))
            (first | refine p_load (ht := F.leaf22) (h := ?_) | refine p_loadRef (ht := F.leaf22) (h := ?_))
            refine p_move (h := ?_)
            refine p_idxMap (j := d.run 0 (w.take i)) (ht := Try.underlying22) (hi := F.ti26) (hij := rfl) (hj := hs) (h := ?_)
            (first | refine p_load (ht := F.leaf26) (h := ?_) | refine p_loadRef (ht := F.leaf26) (h := ?_))
            refine p_move (h := ?_)
            refine p_idxMap (j := w[i].toNat) (ht := Try.underlying26) (hi := F.ti3) (hij := by omega) (hj := hx) (h := ?_)
            rw [Dfa.nx_is h hs hx]
            (first | refine p_load (ht := F.leaf3) (h := ?_) | refine p_loadRef (ht := F.leaf3) (h := ?_))
            refine p_assign (h := ?_)
            refine p_end ?_
            refine p_region fun hf => ?_
            refine p_add (r := ((i + 1 : Nat) : Int)) (hr := by omega) (hb := by omega) (h := ?_)
            refine p_move (h := ?_)
            refine p_end ?_
            refine p_some ?_
            have hof : d.offW w[i] = false := by rw [Dfa.offW, hb24, hc29]; rfl
            refine ⟨⟨i + 1, hlt, fun j hj hji => ?_, eV_, by rw [Dfa.run_next hlt]; exact eV_, eV_, eV_, eV_, oB_⟩, ?_⟩
            · rcases Nat.lt_succ_iff_lt_or_eq.1 hji with h | h
              · exact hno j hj h
              · subst h; exact hof
            · simp (decide := true) only [upd, e18, V.toN, ↓reduceIte]; omega
      · refine p_condF (h := ?_)
        refine p_exit ?_
        refine p_seq (p_draw F.mixed fun hf => ?_)
        refine p_move (h := ?_)
        (first | refine p_fieldPtr (hf := F.fld25_2) (h := ?_) | refine p_fieldRef (hf := F.fld25_2) (h := ?_) | refine p_fieldRow (hf := F.fld25_2) (h := ?_))
        (first | refine p_load (ht := F.leaf23) (h := ?_) | refine p_loadRef (ht := F.leaf23) (h := ?_))
        refine p_move (h := ?_)
        refine p_idxMap (j := d.run 0 (w.take i)) (ht := Try.underlying23) (hi := F.ti4) (hij := rfl) (hj := hsa) (h := ?_)
        rw [Dfa.ac_is hsa]
        (first | refine p_load (ht := F.leaf4) (h := ?_) | refine p_loadRef (ht := F.leaf4) (h := ?_))
        refine p_assign (h := ?_)
        refine p_assign (h := ?_)
        refine p_assign (h := ?_)
        refine p_endD ?_
        refine TrC.ret ?_
        refine p_rets3 rfl ⟨eV_, rfl⟩ ⟨eV_, rfl⟩ ⟨eV_, rfl⟩ (by obtain rfl : i = w.length := (by simp at hc19; omega); simp only [Dfa.runR, hc14, Dfa.off_none (d := d) fun j hj => hno j hj (by omega), Bool.false_eq_true, ↓reduceIte, List.take_length]; rfl)

theorem runRef (d : Dfa) (hfit : d.fits) (w : List Int) (hl : w.length ≤ 1000000000) : FnC Try.prog 11 [dfaV d, .sl 3 (w.map iV)] (fun r => r = .tup [iV (d.runR w).1, .bool (d.runR w).2.1, iV (d.runR w).2.2]) := by
  refine FnC.of (fn := Try.f11) ⟨Try.func11, by kernel_rfl, rfl⟩ Try.ntmps11 (by simp) fun w0 S0 => ?_
  refine p_seq (p_region fun hf => ?_)
  refine p_box (h := ?_)
  refine p_assign (h := ?_)
  refine p_assign (h := ?_)
  refine p_assign (h := ?_)
  refine p_end ?_
  refine p_seq (p_region fun hf => ?_)
  (first | refine p_loadA (ht := F.agg25) (hi := F.ti25) (h := ?_) | refine p_loadRefA (ht := F.agg25) (hi := F.ti25) (h := ?_))
  refine p_call (hx := rfl) (hb := ⟨Try.func22, by kernel_rfl, rfl⟩) (hf := checkR d hfit) (h := ?_)
  refine p_assign (h := ?_)
  refine p_end ?_
  refine p_seq ?_
  refine p_seq (p_region fun hf => ?_)
  refine p_move (h := ?_)
  refine p_num (h := ?_)
  refine p_end ?_
  refine p_splitC (s := 14) (ht := fun hc14 => ?_) (hf := fun hc14 => ?_)
  · refine p_condT (h := ?_)
    refine p_seq (p_region fun hf => ?_)
    refine p_move (h := ?_)
    refine p_assign (h := ?_)
    refine p_assign (h := ?_)
    refine p_assign (h := ?_)
    refine p_end ?_
    refine TrC.ret ?_
    refine p_rets3 rfl ⟨eV_, rfl⟩ ⟨eV_, rfl⟩ ⟨eV_, rfl⟩ (by simp only [Dfa.runR, hc14, ↓reduceIte])
  · refine p_condF (h := ?_)
    have h := Dfa.ok_err hc14
    have hacc := h.acc
    have hn : d.n = d.next.length := rfl
    refine p_skip ?_
    refine p_seq ?_
    refine p_seq (p_region fun hf => ?_)
    refine p_assign (h := ?_)
    refine p_end ?_
    refine TrC.block ?_
    refine p_loop (fun st => ∃ i : Nat, i ≤ w.length ∧ (∀ j (hj : j < w.length), j < i → d.offW w[j] = false) ∧ st.env 1 = .sl 3 (w.map iV) ∧ st.env 2 = .ptr (0 + 1) 2 0 ∧ st.env 8 = iV i ∧ st.obj (0 + 1) 2 = .cells 25 (dfaL d)) (fun st => w.length - (st.env 8).toN) ?_ fun e ob g1 hI => ?_
    · exact ⟨0, by omega, fun j _ h => by omega, eV_, eV_, eV_, oB_⟩
    · obtain ⟨i, hi, hno, e1, e2, e8, o2⟩ := hI
      dsimp only at e1 e2 e8 o2
      have hE := (⟨e1, e2, e8, o2⟩ : _ ∧ _ ∧ _ ∧ _)
      refine p_seq ?_
      refine p_seq (p_region fun hf => ?_)
      refine p_move (h := ?_)
      refine p_move (h := ?_)
      refine p_len (ht := Try.underlying26) (h := ?_)
      refine p_num (h := ?_)
      refine p_end ?_
      refine p_splitC (s := 19) (ht := fun hc19 => ?_) (hf := fun hc19 => ?_)
      · refine p_condT (h := ?_)
        have hlt : i < w.length := by simpa using hc19
        refine p_skip ?_
        refine p_seq ?_
        refine TrC.block ?_
        refine p_seq (p_draw F.mixed fun hf => ?_)
        refine p_move (h := ?_)
        refine p_move (h := ?_)
        refine p_idxMap (j := i) (ht := Try.underlying26) (hi := F.ti3) (hij := rfl) (hj := hlt) (h := ?_)
        (first | refine p_load (ht := F.leaf3) (h := ?_) | refine p_loadRef (ht := F.leaf3) (h := ?_))
        refine p_num (h := ?_)
        refine p_move (h := ?_)
        refine p_split (s := 27) (ht := fun hb27 => ?_) (hf := fun hb27 => ?_)
        · -- slot 27 is true
          iterate 7 (refine p_guardNo (h := ?_))
          refine p_pick (h := ?_)
          refine p_endD ?_
          refine p_condT (h := ?_)
          refine p_seq (p_region fun hf => ?_)
          refine p_assign (h := ?_)
          refine p_assign (h := ?_)
          refine p_assign (h := ?_)
          refine p_end ?_
          refine TrC.ret ?_
          refine p_rets3 rfl ⟨eV_, rfl⟩ ⟨eV_, rfl⟩ ⟨eV_, rfl⟩ (by simp only [Dfa.runR, hc14, Dfa.off_some (d := d) hlt (by rw [Dfa.offW, hb27]; rfl), Bool.false_eq_true, ↓reduceIte])
        · -- slot 27 is false
          refine p_guardYes (h := ?_)
          refine p_move (h := ?_)
          refine p_guardYes (h := ?_)
          refine p_move (h := ?_)
          refine p_guardYes (h := ?_)
          refine p_idxMap (j := i) (ht := Try.underlying26) (hi := F.ti3) (hij := rfl) (hj := hlt) (h := ?_)
          refine p_guardYes (h := ?_)
          (first | refine p_load (ht := F.leaf3) (h := ?_) | refine p_loadRef (ht := F.leaf3) (h := ?_))
          refine p_guardYes (h := ?_)
          (first | refine p_fieldPtr (hf := F.fld25_0) (h := ?_) | refine p_fieldRef (hf := F.fld25_0) (h := ?_) | refine p_fieldRow (hf := F.fld25_0) (h := ?_))
          refine p_guardYes (h := ?_)
          (first | refine p_load (ht := F.leaf3) (h := ?_) | refine p_loadRef (ht := F.leaf3) (h := ?_))
          refine p_guardYes (h := ?_)
          refine p_num (h := ?_)
          refine p_pick (h := ?_)
          refine p_endD ?_
          refine p_splitC (s := 35) (ht := fun hc35 => ?_) (hf := fun hc35 => ?_)
          · refine p_condT (h := ?_)
            refine p_seq (p_region fun hf => ?_)
            refine p_assign (h := ?_)
            refine p_assign (h := ?_)
            refine p_assign (h := ?_)
            refine p_end ?_
            refine TrC.ret ?_
            refine p_rets3 rfl ⟨eV_, rfl⟩ ⟨eV_, rfl⟩ ⟨eV_, rfl⟩ (by simp only [Dfa.runR, hc14, Dfa.off_some (d := d) hlt (by rw [Dfa.offW, hb27, hc35]; rfl), Bool.false_eq_true, ↓reduceIte])
          · refine p_condF (h := ?_)
            refine p_skip ?_
            refine p_region fun hf => ?_
            refine p_move (h := ?_)
            refine p_add (r := ((i + 1 : Nat) : Int)) (hr := by omega) (hb := by omega) (h := ?_)
            refine p_assign (h := ?_)
            refine p_end ?_
            refine p_some ?_
            refine ⟨⟨i + 1, hlt, fun j hj hji => ?_, eV_, eV_, eV_, oB_⟩, ?_⟩
            · rcases Nat.lt_succ_iff_lt_or_eq.1 hji with h | h
              · exact hno j hj h
              · subst h; rw [Dfa.offW, hb27, hc35]; rfl
            · simp (decide := true) only [upd, e8, V.toN, ↓reduceIte]; omega
      · refine p_condF (h := ?_)
        have hall : ∀ j (hj : j < w.length), d.offW w[j] = false := fun j hj => hno j hj (by simp at hc19; omega)
        refine p_exit ?_
        refine p_seq (p_region fun hf => ?_)
        refine p_assign (h := ?_)
        refine p_end ?_
        refine p_seq ?_
        refine p_seq (p_region fun hf => ?_)
        refine p_assign (h := ?_)
        refine p_end ?_
        refine TrC.block ?_
        refine p_loop (fun st => ∃ i : Nat, i ≤ w.length ∧ st.env 1 = .sl 3 (w.map iV) ∧ st.env 2 = .ptr (0 + 1) 2 0 ∧ st.env 9 = iV (d.run 0 (w.take i)) ∧ st.env 10 = iV i ∧ st.obj (0 + 1) 2 = .cells 25 (dfaL d)) (fun st => w.length - (st.env 10).toN) ?_ fun e ob g2 hI => ?_
        · exact ⟨0, by omega, eV_, eV_, eV_, eV_, oB_⟩
        · obtain ⟨i, hi, e1, e2, e9, e10, o2⟩ := hI
          dsimp only at e1 e2 e9 e10 o2
          have hE := (⟨e1, e2, e9, e10, o2⟩ : _ ∧ _ ∧ _ ∧ _ ∧ _)
          have hrun := Dfa.run_in h (w := w) (i := i) fun j hj _ => hall j hj
          have hsa : d.run 0 (w.take i) < d.acc.length := by omega
          refine p_seq ?_
          refine p_seq (p_region fun hf => ?_)
          refine p_move (h := ?_)
          refine p_move (h := ?_)
          refine p_len (ht := Try.underlying26) (h := ?_)
          refine p_num (h := ?_)
          refine p_end ?_
          refine p_splitC (s := 39) (ht := fun hc39 => ?_) (hf := fun hc39 => ?_)
          · refine p_condT (h := ?_)
            have hlt : i < w.length := by simpa using hc39
            have hin := Dfa.off_in (hall i hlt)
            have hs : d.run 0 (w.take i) < d.next.length := by omega
            have hx := Dfa.row_len' h hs (k := w[i].toNat) (by omega)
            refine p_skip ?_
            refine p_seq ?_
            refine TrC.block ?_
            refine p_draw F.mixed fun hf => ?_
            (first | refine p_fieldPtr (hf := F.fld25_1) (h := ?_) | refine p_fieldRef (hf := F.fld25_1) (h := ?_) | refine p_fieldRow (hf := F.fld25_1) (h := ?_))
            (first | refine p_load (ht := F.leaf22) (h := ?_) | refine p_loadRef (ht := F.leaf22) (h := ?_))
            refine p_move (h := ?_)
            refine p_idxMap (j := d.run 0 (w.take i)) (ht := Try.underlying22) (hi := F.ti26) (hij := rfl) (hj := hs) (h := ?_)
            (first | refine p_load (ht := F.leaf26) (h := ?_) | refine p_loadRef (ht := F.leaf26) (h := ?_))
            refine p_move (h := ?_)
            refine p_move (h := ?_)
            refine p_idxMap (j := i) (ht := Try.underlying26) (hi := F.ti3) (hij := rfl) (hj := hlt) (h := ?_)
            (first | refine p_load (ht := F.leaf3) (h := ?_) | refine p_loadRef (ht := F.leaf3) (h := ?_))
            refine p_idxMap (j := w[i].toNat) (ht := Try.underlying26) (hi := F.ti3) (hij := by omega) (hj := hx) (h := ?_)
            rw [Dfa.nx_is h hs hx]
            (first | refine p_load (ht := F.leaf3) (h := ?_) | refine p_loadRef (ht := F.leaf3) (h := ?_))
            refine p_assign (h := ?_)
            refine p_endD ?_
            refine p_region fun hf => ?_
            refine p_move (h := ?_)
            refine p_add (r := ((i + 1 : Nat) : Int)) (hr := by omega) (hb := by omega) (h := ?_)
            refine p_assign (h := ?_)
            refine p_end ?_
            refine p_some ?_
            refine ⟨⟨i + 1, hlt, eV_, eV_, by rw [Dfa.run_next hlt]; exact eV_, eV_, oB_⟩, ?_⟩
            simp (decide := true) only [upd, e10, V.toN, ↓reduceIte]; omega
          · refine p_condF (h := ?_)
            refine p_exit ?_
            refine p_seq (p_draw F.mixed fun hf => ?_)
            refine p_move (h := ?_)
            (first | refine p_fieldPtr (hf := F.fld25_2) (h := ?_) | refine p_fieldRef (hf := F.fld25_2) (h := ?_) | refine p_fieldRow (hf := F.fld25_2) (h := ?_))
            (first | refine p_load (ht := F.leaf23) (h := ?_) | refine p_loadRef (ht := F.leaf23) (h := ?_))
            refine p_move (h := ?_)
            refine p_idxMap (j := d.run 0 (w.take i)) (ht := Try.underlying23) (hi := F.ti4) (hij := rfl) (hj := hsa) (h := ?_)
            rw [Dfa.ac_is hsa]
            (first | refine p_load (ht := F.leaf4) (h := ?_) | refine p_loadRef (ht := F.leaf4) (h := ?_))
            refine p_assign (h := ?_)
            refine p_assign (h := ?_)
            refine p_assign (h := ?_)
            refine p_endD ?_
            refine TrC.ret ?_
            refine p_rets3 rfl ⟨eV_, rfl⟩ ⟨eV_, rfl⟩ ⟨eV_, rfl⟩ (by obtain rfl : i = w.length := (by simp at hc39; omega); simp only [Dfa.runR, hc14, Dfa.off_none (d := d) hall, Bool.false_eq_true, ↓reduceIte, List.take_length]; rfl)

theorem asked09 (a b : Dfa) (ha : a.fits) (hb : b.fits) : FnC Try.prog 42 [dfaV a, dfaV b] (fun r => r = iV (Dfa.askedE a b)) := by
  refine FnC.of (fn := Try.f42) ⟨Try.func42, by kernel_rfl, rfl⟩ Try.ntmps42 (by simp) fun w0 S0 => ?_
  have hfits : ∀ i (hi : i < [a, b].length), [a, b][i].fits := fun i hi => by
    obtain rfl | rfl : i = 0 ∨ i = 1 := by simp at hi; omega
    · exact ha
    · exact hb
  refine p_seq (p_region fun hf => ?_)
  refine p_box (h := ?_)
  refine p_box (h := ?_)
  refine p_assign (h := ?_)
  refine p_end ?_
  refine p_seq ?_
  refine p_seq (p_region fun hf => ?_)
  (first | refine p_loadA (ht := F.agg25) (hi := F.ti25) (h := ?_) | refine p_loadRefA (ht := F.agg25) (hi := F.ti25) (h := ?_))
  (first | refine p_loadA (ht := F.agg25) (hi := F.ti25) (h := ?_) | refine p_loadRefA (ht := F.agg25) (hi := F.ti25) (h := ?_))
  refine p_buildSlice (ht := Try.underlying83) (hi := F.ti25) (h := ?_)
  refine p_len (ht := Try.underlying83) (h := ?_)
  refine p_move (h := ?_)
  refine p_end ?_
  refine TrC.block ?_
  refine p_loop (fun st => ∃ i : Nat, i ≤ 2 ∧ (∀ j (hj : j < [a, b].length), j < i → [a, b][j].err = 0) ∧ st.env 2 = .ptr (0 + 1) 2 0 ∧ st.env 3 = .ptr (0 + 1) 3 0 ∧ st.env 10 = .row (0 + 1 + 1) 10 2 ∧ st.env 11 = iV 2 ∧ st.env 12 = iV i ∧ st.obj (0 + 1) 2 = .cells 25 (dfaL a) ∧ st.obj (0 + 1) 3 = .cells 25 (dfaL b) ∧ st.obj (0 + 1 + 1) 10 = .row 25 ([a, b].map dfaV)) (fun st => 2 - (st.env 12).toN) ?_ fun e ob g1 hI => ?_
  · exact ⟨0, by omega, fun j _ h => by omega, eV_, eV_, eV_, eV_, eV_, oB_, oB_, oB_⟩
  · obtain ⟨i, hi, hno, e2, e3, e10, e11, e12, o2, o3, o10⟩ := hI
    dsimp only at e2 e3 e10 e11 e12 o2 o3 o10
    have hE := (⟨e2, e3, e10, e11, e12, o2, o3, o10⟩ : _ ∧ _ ∧ _ ∧ _ ∧ _ ∧ _ ∧ _ ∧ _)
    refine p_seq (p_region fun hf => ?_)
    refine p_num (h := ?_)
    refine p_end ?_
    refine p_seq ?_
    refine p_splitC (s := 13) (ht := fun hc13 => ?_) (hf := fun hc13 => ?_)
    · refine p_condT (h := ?_)
      have hlt2 : i < 2 := by simp at hc13; omega
      have hlt : i < [a, b].length := hlt2
      refine p_skip ?_
      refine p_seq ?_
      refine TrC.block ?_
      refine p_seq (p_region fun hf => ?_)
      refine p_idxRowN (i) (ht := Try.underlying83) (hi := F.ti25) (hij := rfl) (hlt := hlt2) (h := ?_)
      refine p_loadRowAM (ht := F.agg25) (hi := F.ti25) (hj := hlt2) (h := ?_)
      refine p_alloc (hi := F.ti25) (h := ?_)
      refine p_storeAll F.ti25 (h := ?_)
      refine p_end ?_
      refine p_seq (p_region fun hf => ?_)
      (first | refine p_loadA (ht := F.agg25) (hi := F.ti25) (h := ?_) | refine p_loadRefA (ht := F.agg25) (hi := F.ti25) (h := ?_))
      refine p_call (hx := rfl) (hb := ⟨Try.func21, by kernel_rfl, rfl⟩) (hf := check09 [a, b][i] (hfits i hlt)) (h := ?_)
      refine p_assign (h := ?_)
      refine p_end ?_
      refine p_seq (p_region fun hf => ?_)
      refine p_move (h := ?_)
      refine p_num (h := ?_)
      refine p_end ?_
      refine p_splitC (s := 19) (ht := fun hc19 => ?_) (hf := fun hc19 => ?_)
      · refine p_condT (h := ?_)
        refine p_seq (p_region fun hf => ?_)
        refine p_move (h := ?_)
        refine p_assign (h := ?_)
        refine p_end ?_
        refine TrC.ret ?_
        refine p_ret1 (hp := by obtain rfl | rfl : i = 0 ∨ i = 1 := (by omega); (have h1 : decide (a.err ≠ 0) = true := hc19; rw [Dfa.askedE, h1, if_pos rfl]; rfl); (have h0 : a.err = 0 := hno 0 (by simp) (by omega); have h1 : decide (b.err ≠ 0) = true := hc19; rw [Dfa.askedE, h1]; simp [h0]))
      · refine p_condF (h := ?_)
        refine p_skip ?_
        refine p_region fun hf => ?_
        refine p_add (r := ((i + 1 : Nat) : Int)) (hr := by omega) (hb := by omega) (h := ?_)
        refine p_move (h := ?_)
        refine p_end ?_
        refine p_some ?_
        refine ⟨⟨i + 1, hlt2, fun j hj hji => ?_, eV_, eV_, eV_, eV_, eV_, oB_, oB_, oB_⟩, ?_⟩
        · rcases Nat.lt_succ_iff_lt_or_eq.1 hji with h | h
          · exact hno j hj h
          · subst h; simpa using hc19
        · simp (decide := true) only [upd, e12, V.toN, ↓reduceIte]; omega
    · refine p_condF (h := ?_)
      have hie : i = 2 := by simp at hc13; omega
      have h0 : a.err = 0 := hno 0 (by simp) (by omega)
      have h1 : b.err = 0 := hno 1 (by simp) (by omega)
      refine p_exit ?_
      refine p_seq ?_
      refine p_seq (p_region fun hf => ?_)
      (first | refine p_fieldPtr (hf := F.fld25_0) (h := ?_) | refine p_fieldRef (hf := F.fld25_0) (h := ?_) | refine p_fieldRow (hf := F.fld25_0) (h := ?_))
      (first | refine p_load (ht := F.leaf3) (h := ?_) | refine p_loadRef (ht := F.leaf3) (h := ?_))
      (first | refine p_fieldPtr (hf := F.fld25_0) (h := ?_) | refine p_fieldRef (hf := F.fld25_0) (h := ?_) | refine p_fieldRow (hf := F.fld25_0) (h := ?_))
      (first | refine p_load (ht := F.leaf3) (h := ?_) | refine p_loadRef (ht := F.leaf3) (h := ?_))
      refine p_num (h := ?_)
      refine p_end ?_
      refine p_splitC (s := 26) (ht := fun hc26 => ?_) (hf := fun hc26 => ?_)
      · refine p_condT (h := ?_)
        refine p_seq (p_region fun hf => ?_)
        refine p_assign (h := ?_)
        refine p_end ?_
        refine TrC.ret ?_
        refine p_ret1 (hp := by simp [Dfa.askedE, h0, h1]; simpa using hc26)
      · refine p_condF (h := ?_)
        refine p_skip ?_
        refine p_seq (p_region fun hf => ?_)
        refine p_assign (h := ?_)
        refine p_end ?_
        refine TrC.ret ?_
        refine p_ret1 (hp := by simp [Dfa.askedE, h0, h1]; simpa using hc26)

theorem pairs1 (a b : Dfa) (ha : a.Ok) (hb : b.Ok) (s : Int × Int) (k : Nat) (h1 : 0 ≤ s.1 ∧ s.1 < a.n) (h2 : 0 ≤ s.2 ∧ s.2 < b.n) (hk : (k : Int) < a.sym) (hk2 : (k : Int) < b.sym) : FnC Try.prog 56 [pairV s, iV k, .ref (dfaL a), .ref (dfaL b)] (fun r => r = pairV (Dfa.nextPP a b s k)) := by
  refine FnC.of (fn := Try.f56) ⟨Try.func56, by kernel_rfl, rfl⟩ Try.ntmps56 (by simp) fun w0 S0 => ?_
  have hlta : s.1.toNat < a.next.length := by have : a.n = a.next.length := rfl; omega
  have hltb : s.2.toNat < b.next.length := by have : b.n = b.next.length := rfl; omega
  have hka := Dfa.row_len' ha hlta hk
  have hkb := Dfa.row_len' hb hltb hk2
  refine p_seq (p_region fun hf => ?_)
  refine p_box (h := ?_)
  refine p_alloc (hi := F.ti78) (h := ?_)
  refine p_end ?_
  refine p_seq (p_draw F.mixed fun hf => ?_)
  (first | refine p_fieldPtr (hf := F.fld25_1) (h := ?_) | refine p_fieldRef (hf := F.fld25_1) (h := ?_) | refine p_fieldRow (hf := F.fld25_1) (h := ?_))
  (first | refine p_load (ht := F.leaf22) (h := ?_) | refine p_loadRef (ht := F.leaf22) (h := ?_))
  refine p_idxArr (ht := Try.underlying78) (hi := F.ti3) (h0 := by decide) (hlt := by decide) (h := ?_)
  (first | refine p_load (ht := F.leaf3) (h := ?_) | refine p_loadRef (ht := F.leaf3) (h := ?_))
  refine p_idxMap (j := s.1.toNat) (ht := Try.underlying22) (hi := F.ti26) (hij := by omega) (hj := hlta) (h := ?_)
  (first | refine p_load (ht := F.leaf26) (h := ?_) | refine p_loadRef (ht := F.leaf26) (h := ?_))
  refine p_move (h := ?_)
  refine p_idxMap (j := k) (ht := Try.underlying26) (hi := F.ti3) (hij := rfl) (hj := hka) (h := ?_)
  rw [Dfa.nx_is ha hlta hka]
  (first | refine p_load (ht := F.leaf3) (h := ?_) | refine p_loadRef (ht := F.leaf3) (h := ?_))
  (first | refine p_fieldPtr (hf := F.fld25_1) (h := ?_) | refine p_fieldRef (hf := F.fld25_1) (h := ?_) | refine p_fieldRow (hf := F.fld25_1) (h := ?_))
  (first | refine p_load (ht := F.leaf22) (h := ?_) | refine p_loadRef (ht := F.leaf22) (h := ?_))
  refine p_idxArr (ht := Try.underlying78) (hi := F.ti3) (h0 := by decide) (hlt := by decide) (h := ?_)
  (first | refine p_load (ht := F.leaf3) (h := ?_) | refine p_loadRef (ht := F.leaf3) (h := ?_))
  refine p_idxMap (j := s.2.toNat) (ht := Try.underlying22) (hi := F.ti26) (hij := by omega) (hj := hltb) (h := ?_)
  (first | refine p_load (ht := F.leaf26) (h := ?_) | refine p_loadRef (ht := F.leaf26) (h := ?_))
  refine p_move (h := ?_)
  refine p_idxMap (j := k) (ht := Try.underlying26) (hi := F.ti3) (hij := rfl) (hj := hkb) (h := ?_)
  rw [Dfa.nx_is hb hltb hkb]
  (first | refine p_load (ht := F.leaf3) (h := ?_) | refine p_loadRef (ht := F.leaf3) (h := ?_))
  refine p_build (hi := F.ti78) (hpl := F.pl78) (h := ?_)
  refine p_storeAll F.ti78 (h := ?_)
  refine p_endD ?_
  refine TrC.ret ?_
  refine Tr.ret1 rfl (res_cell eV_ oB_ F.agg78 F.ti78 rfl rfl) rfl (by intro l h; cases h)

theorem pairs2 (a b : Dfa) (ha : a.Ok) (hb : b.Ok) (both : Bool) (s : Int × Int) (h1 : 0 ≤ s.1 ∧ s.1 < a.n) (h2 : 0 ≤ s.2 ∧ s.2 < b.n) : FnC Try.prog 57 [pairV s, .ref (dfaL a), .ref (dfaL b), .ref [.bool both]] (fun r => r = .bool (Dfa.accPP a b both s)) := by
  refine FnC.of (fn := Try.f57) ⟨Try.func57, by kernel_rfl, rfl⟩ Try.ntmps57 (by simp) fun w0 S0 => ?_
  have hlta : s.1.toNat < a.acc.length := by have := ha.acc; omega
  have hltb : s.2.toNat < b.acc.length := by have := hb.acc; omega
  refine p_seq (p_region fun hf => ?_)
  refine p_box (h := ?_)
  refine p_assign (h := ?_)
  refine p_end ?_
  refine p_seq (p_draw F.mixed fun hf => ?_)
  (first | refine p_fieldPtr (hf := F.fld25_2) (h := ?_) | refine p_fieldRef (hf := F.fld25_2) (h := ?_) | refine p_fieldRow (hf := F.fld25_2) (h := ?_))
  (first | refine p_load (ht := F.leaf23) (h := ?_) | refine p_loadRef (ht := F.leaf23) (h := ?_))
  refine p_idxArr (ht := Try.underlying78) (hi := F.ti3) (h0 := by decide) (hlt := by decide) (h := ?_)
  (first | refine p_load (ht := F.leaf3) (h := ?_) | refine p_loadRef (ht := F.leaf3) (h := ?_))
  refine p_idxMap (j := s.1.toNat) (ht := Try.underlying23) (hi := F.ti4) (hij := by omega) (hj := hlta) (h := ?_)
  rw [Dfa.ac_is hlta]
  (first | refine p_load (ht := F.leaf4) (h := ?_) | refine p_loadRef (ht := F.leaf4) (h := ?_))
  (first | refine p_fieldPtr (hf := F.fld25_2) (h := ?_) | refine p_fieldRef (hf := F.fld25_2) (h := ?_) | refine p_fieldRow (hf := F.fld25_2) (h := ?_))
  (first | refine p_load (ht := F.leaf23) (h := ?_) | refine p_loadRef (ht := F.leaf23) (h := ?_))
  refine p_idxArr (ht := Try.underlying78) (hi := F.ti3) (h0 := by decide) (hlt := by decide) (h := ?_)
  (first | refine p_load (ht := F.leaf3) (h := ?_) | refine p_loadRef (ht := F.leaf3) (h := ?_))
  refine p_idxMap (j := s.2.toNat) (ht := Try.underlying23) (hi := F.ti4) (hij := by omega) (hj := hltb) (h := ?_)
  rw [Dfa.ac_is hltb]
  (first | refine p_load (ht := F.leaf4) (h := ?_) | refine p_loadRef (ht := F.leaf4) (h := ?_))
  refine p_assign (h := ?_)
  refine p_assign (h := ?_)
  refine p_endD ?_
  refine p_seq (p_region fun hf => ?_)
  (first | refine p_load (ht := F.leaf4) (h := ?_) | refine p_loadRef (ht := F.leaf4) (h := ?_))
  refine p_move (h := ?_)
  refine p_split (s := 21) (ht := fun hb21 => ?_) (hf := fun hb21 => ?_)
  · -- slot 21 is true
    refine p_guardYes (h := ?_)
    refine p_move (h := ?_)
    refine p_pick (h := ?_)
    refine p_move (h := ?_)
    refine p_split (s := 24) (ht := fun hb24 => ?_) (hf := fun hb24 => ?_)
    · -- slot 24 is true
      refine p_guardYes (h := ?_)
      refine p_move (h := ?_)
      refine p_pick (h := ?_)
      refine p_move (h := ?_)
      refine p_split (s := 27) (ht := fun hb27 => ?_) (hf := fun hb27 => ?_)
      · -- slot 27 is true
        iterate 3 (refine p_guardNo (h := ?_))
        refine p_guardUn (h := ?_)
        refine p_guardUn (h := ?_)
        refine p_guardUn (h := ?_)
        refine p_guardUn (h := ?_)
        refine p_guardNo (h := ?_)
        refine p_pick (h := ?_)
        refine p_assign (h := ?_)
        refine p_end ?_
        refine TrC.ret ?_
        refine p_ret1 (hp := by simp_all [Dfa.accPP])
      · -- slot 27 is false
        refine p_guardYes (h := ?_)
        (first | refine p_load (ht := F.leaf4) (h := ?_) | refine p_loadRef (ht := F.leaf4) (h := ?_))
        refine p_guardYes (h := ?_)
        refine p_not (h := ?_)
        refine p_guardYes (h := ?_)
        refine p_move (h := ?_)
        refine p_split (s := 30) (ht := fun hb30 => ?_) (hf := fun hb30 => ?_)
        · -- slot 30 is true
          refine p_guardYes (h := ?_)
          refine p_move (h := ?_)
          refine p_guardYes (h := ?_)
          refine p_move (h := ?_)
          refine p_split (s := 32) (ht := fun hb32 => ?_) (hf := fun hb32 => ?_)
          · -- slot 32 is true
            refine p_guardNo (h := ?_)
            refine p_guardYes (h := ?_)
            refine p_pick (h := ?_)
            refine p_guardYes (h := ?_)
            refine p_pick (h := ?_)
            refine p_pick (h := ?_)
            refine p_assign (h := ?_)
            refine p_end ?_
            refine TrC.ret ?_
            refine p_ret1 (hp := by simp_all [Dfa.accPP])
          · -- slot 32 is false
            refine p_guardYes (h := ?_)
            refine p_move (h := ?_)
            refine p_guardYes (h := ?_)
            refine p_pick (h := ?_)
            refine p_guardYes (h := ?_)
            refine p_pick (h := ?_)
            refine p_pick (h := ?_)
            refine p_assign (h := ?_)
            refine p_end ?_
            refine TrC.ret ?_
            refine p_ret1 (hp := by simp_all [Dfa.accPP])
        · -- slot 30 is false
          iterate 2 (refine p_guardNo (h := ?_))
          refine p_guardUn (h := ?_)
          refine p_guardNo (h := ?_)
          refine p_guardYes (h := ?_)
          refine p_pick (h := ?_)
          refine p_pick (h := ?_)
          refine p_assign (h := ?_)
          refine p_end ?_
          refine TrC.ret ?_
          refine p_ret1 (hp := by simp_all [Dfa.accPP])
    · -- slot 24 is false
      refine p_guardNo (h := ?_)
      refine p_pick (h := ?_)
      refine p_move (h := ?_)
      refine p_guardYes (h := ?_)
      (first | refine p_load (ht := F.leaf4) (h := ?_) | refine p_loadRef (ht := F.leaf4) (h := ?_))
      refine p_guardYes (h := ?_)
      refine p_not (h := ?_)
      refine p_guardYes (h := ?_)
      refine p_move (h := ?_)
      refine p_split (s := 30) (ht := fun hb30 => ?_) (hf := fun hb30 => ?_)
      · -- slot 30 is true
        refine p_guardYes (h := ?_)
        refine p_move (h := ?_)
        refine p_guardYes (h := ?_)
        refine p_move (h := ?_)
        refine p_split (s := 32) (ht := fun hb32 => ?_) (hf := fun hb32 => ?_)
        · -- slot 32 is true
          refine p_guardNo (h := ?_)
          refine p_guardYes (h := ?_)
          refine p_pick (h := ?_)
          refine p_guardYes (h := ?_)
          refine p_pick (h := ?_)
          refine p_pick (h := ?_)
          refine p_assign (h := ?_)
          refine p_end ?_
          refine TrC.ret ?_
          refine p_ret1 (hp := by simp_all [Dfa.accPP])
        · -- slot 32 is false
          refine p_guardYes (h := ?_)
          refine p_move (h := ?_)
          refine p_guardYes (h := ?_)
          refine p_pick (h := ?_)
          refine p_guardYes (h := ?_)
          refine p_pick (h := ?_)
          refine p_pick (h := ?_)
          refine p_assign (h := ?_)
          refine p_end ?_
          refine TrC.ret ?_
          refine p_ret1 (hp := by simp_all [Dfa.accPP])
      · -- slot 30 is false
        iterate 2 (refine p_guardNo (h := ?_))
        refine p_guardUn (h := ?_)
        refine p_guardNo (h := ?_)
        refine p_guardYes (h := ?_)
        refine p_pick (h := ?_)
        refine p_pick (h := ?_)
        refine p_assign (h := ?_)
        refine p_end ?_
        refine TrC.ret ?_
        refine p_ret1 (hp := by simp_all [Dfa.accPP])
  · -- slot 21 is false
    refine p_guardNo (h := ?_)
    refine p_pick (h := ?_)
    refine p_move (h := ?_)
    refine p_guardNo (h := ?_)
    refine p_pick (h := ?_)
    refine p_move (h := ?_)
    refine p_guardYes (h := ?_)
    (first | refine p_load (ht := F.leaf4) (h := ?_) | refine p_loadRef (ht := F.leaf4) (h := ?_))
    refine p_guardYes (h := ?_)
    refine p_not (h := ?_)
    refine p_guardYes (h := ?_)
    refine p_move (h := ?_)
    refine p_split (s := 30) (ht := fun hb30 => ?_) (hf := fun hb30 => ?_)
    · -- slot 30 is true
      refine p_guardYes (h := ?_)
      refine p_move (h := ?_)
      refine p_guardYes (h := ?_)
      refine p_move (h := ?_)
      refine p_split (s := 32) (ht := fun hb32 => ?_) (hf := fun hb32 => ?_)
      · -- slot 32 is true
        refine p_guardNo (h := ?_)
        refine p_guardYes (h := ?_)
        refine p_pick (h := ?_)
        refine p_guardYes (h := ?_)
        refine p_pick (h := ?_)
        refine p_pick (h := ?_)
        refine p_assign (h := ?_)
        refine p_end ?_
        refine TrC.ret ?_
        refine p_ret1 (hp := by simp_all [Dfa.accPP])
      · -- slot 32 is false
        refine p_guardYes (h := ?_)
        refine p_move (h := ?_)
        refine p_guardYes (h := ?_)
        refine p_pick (h := ?_)
        refine p_guardYes (h := ?_)
        refine p_pick (h := ?_)
        refine p_pick (h := ?_)
        refine p_assign (h := ?_)
        refine p_end ?_
        refine TrC.ret ?_
        refine p_ret1 (hp := by simp_all [Dfa.accPP])
    · -- slot 30 is false
      iterate 2 (refine p_guardNo (h := ?_))
      refine p_guardUn (h := ?_)
      refine p_guardNo (h := ?_)
      refine p_guardYes (h := ?_)
      refine p_pick (h := ?_)
      refine p_pick (h := ?_)
      refine p_assign (h := ?_)
      refine p_end ?_
      refine TrC.ret ?_
      refine p_ret1 (hp := by simp_all [Dfa.accPP])

theorem pairs09 (a b : Dfa) (ha : a.Ok) (hb : b.Ok) (hs : a.sym = b.sym) (hn : a.n * b.n ≤ 1024) (both : Bool) : FnC Try.prog 43 [dfaV a, dfaV b, .bool both] (fun r => r = dfaV (Dfa.pairsR a b both)) := by
  refine FnC.of (fn := Try.f43) ⟨Try.func43, by kernel_rfl, rfl⟩ Try.ntmps43 (by simp) fun w0 S0 => ?_
  obtain ⟨m, hm⟩ : ∃ m : Nat, a.sym = m := ⟨a.sym.toNat, by have := ha.sym0; omega⟩
  refine p_seq (p_region fun hf => ?_)
  refine p_box (h := ?_)
  refine p_box (h := ?_)
  refine p_box (h := ?_)
  refine p_alloc (hi := F.ti25) (h := ?_)
  refine p_end ?_
  refine p_seq (p_region fun hf => ?_)
  (first | refine p_fieldPtr (hf := F.fld25_0) (h := ?_) | refine p_fieldRef (hf := F.fld25_0) (h := ?_) | refine p_fieldRow (hf := F.fld25_0) (h := ?_))
  (first | refine p_load (ht := F.leaf3) (h := ?_) | refine p_loadRef (ht := F.leaf3) (h := ?_))
  refine p_func (h := ?_)
  refine p_func (h := ?_)
  refine p_build (hi := F.ti78) (hpl := F.pl78) (h := ?_)
  refine p_callFz (vs := [iV m, .fn 56 [.ref (dfaL a), .ref (dfaL b)], .fn 57 [.ref (dfaL a), .ref (dfaL b), .ref [.bool both]], pairV (0, 0)]) [.cell (0 + 1) 3 25 (dfaL a), .cell (0 + 1) 4 25 (dfaL b), .cell (0 + 1) 5 4 [.bool both]] (hb := ⟨Try.func50, by kernel_rfl, rfl⟩) (hz := ⟨oB_, rfl, oB_, rfl, oB_, rfl, trivial⟩) (hvs := by simp [fzVal, Fz.val, V.unps, V.unp, hm]) (hf := grown09 m 56 57 _ _ _ _ [.ref (dfaL a), .ref (dfaL b)] [.ref (dfaL a), .ref (dfaL b), .ref [.bool both]] (Dfa.nextPP a b) (Dfa.accPP a b both) (0, 0) (Dfa.InP a b) (a.n * b.n) (by have := ha.sym1; omega) rfl rfl ⟨Try.func56, by kernel_rfl, rfl⟩ ⟨Try.func57, by kernel_rfl, rfl⟩ ⟨⟨by simp, by have := ha.n0; show (0 : Int) < _; omega⟩, by simp, by have := hb.n0; show (0 : Int) < _; omega⟩ (fun s k hp hk => hp.next ha hb hs (by omega)) (fun s k hp hk => pairs1 a b ha hb s k hp.1 hp.2 (by omega) (by omega)) (fun s hp => pairs2 a b ha hb both s hp.1 hp.2) Dfa.InP.few (by omega)) (h := ?_)
  simp only [fzAll, Fz.key, Fz.ob', List.map_cons, List.map_nil, Fz.eff]
  refine p_storeAll F.ti25 (h := ?_)
  refine p_end ?_
  refine TrC.ret ?_
  refine Tr.ret1 rfl (res_cell eV_ oB_ F.agg25 F.ti25 rfl rfl) (by rw [Dfa.pairsR, show a.sym.toNat = m by omega]) (by intro l h; cases h)

theorem joined09 (a b : Dfa) (h1 : (!a.smallD) = false) (h2 : (!b.smallD) = false) (both : Bool) : FnC Try.prog 44 [dfaV a, dfaV b, .bool both] (fun r => r = .tup [dfaV (if decide (Dfa.askedE a b ≠ 0) then Dfa.zero else Dfa.joinR a b both), iV (Dfa.askedE a b)]) := by
  refine FnC.of (fn := Try.f44) ⟨Try.func44, by kernel_rfl, rfl⟩ Try.ntmps44 (by simp) fun w0 S0 => ?_
  refine p_seq (p_region fun hf => ?_)
  refine p_box (h := ?_)
  refine p_box (h := ?_)
  refine p_alloc (hi := F.ti25) (h := ?_)
  refine p_assign (h := ?_)
  refine p_end ?_
  refine p_seq ?_
  refine p_seq (p_region fun hf => ?_)
  (first | refine p_loadA (ht := F.agg25) (hi := F.ti25) (h := ?_) | refine p_loadRefA (ht := F.agg25) (hi := F.ti25) (h := ?_))
  (first | refine p_loadA (ht := F.agg25) (hi := F.ti25) (h := ?_) | refine p_loadRefA (ht := F.agg25) (hi := F.ti25) (h := ?_))
  refine p_call (hx := rfl) (hb := ⟨Try.func42, by kernel_rfl, rfl⟩) (hf := asked09 a b (Dfa.small_fits h1) (Dfa.small_fits h2)) (h := ?_)
  refine p_assign (h := ?_)
  refine p_end ?_
  refine p_seq (p_region fun hf => ?_)
  refine p_move (h := ?_)
  refine p_num (h := ?_)
  refine p_end ?_
  refine p_splitC (s := 14) (ht := fun hc14 => ?_) (hf := fun hc14 => ?_)
  · refine p_condT (h := ?_)
    refine p_seq (p_region fun hf => ?_)
    refine p_build (hi := F.ti25) (hpl := F.pl25) (h := ?_)
    refine p_move (h := ?_)
    refine p_storeAll F.ti25 (h := ?_)
    refine p_assign (h := ?_)
    refine p_end ?_
    refine TrC.ret ?_
    refine p_cellNil (g1 := 0 + 1) (d1 := 6) (i := 1) (el := 26) (h := ?_)
    refine p_cellNil (g1 := 0 + 1) (d1 := 6) (i := 2) (el := 4) (h := ?_)
    refine p_rets2 rfl (res_cell eV_ oB_ F.agg25 F.ti25 rfl rfl) ⟨eV_, rfl⟩ (by simp only [hc14, ↓reduceIte]; rfl)
  · refine p_condF (h := ?_)
    have hok := Dfa.asked_ok hc14
    have hj := Dfa.join_ok hok.1 hok.2.1 hok.2.2 h1 h2 both
    have hprod : a.leastR.n * b.leastR.n ≤ 1024 := by
      have s1 := Dfa.small_n h1 hok.1
      have s2 := Dfa.small_n h2 hok.2.1
      have l1 := (Dfa.leastR_ok hok.1).2.1
      have l2 := (Dfa.leastR_ok hok.2.1).2.1
      have : a.leastR.n * b.leastR.n ≤ 24 * 24 := Nat.mul_le_mul (by omega) (by omega)
      omega
    refine p_skip ?_
    refine p_seq (p_draw F.mixed fun hf => ?_)
    (first | refine p_loadA (ht := F.agg25) (hi := F.ti25) (h := ?_) | refine p_loadRefA (ht := F.agg25) (hi := F.ti25) (h := ?_))
    refine p_call (hx := rfl) (hb := ⟨Try.func33, by kernel_rfl, rfl⟩) (hf := least09 a hok.1) (h := ?_)
    (first | refine p_loadA (ht := F.agg25) (hi := F.ti25) (h := ?_) | refine p_loadRefA (ht := F.agg25) (hi := F.ti25) (h := ?_))
    refine p_call (hx := rfl) (hb := ⟨Try.func33, by kernel_rfl, rfl⟩) (hf := least09 b hok.2.1) (h := ?_)
    refine p_move (h := ?_)
    refine p_call (hx := rfl) (hb := ⟨Try.func43, by kernel_rfl, rfl⟩) (hf := pairs09 a.leastR b.leastR (Dfa.leastR_ok hok.1).1 (Dfa.leastR_ok hok.2.1).1 (by rw [(Dfa.leastR_ok hok.1).2.2, (Dfa.leastR_ok hok.2.1).2.2, hok.2.2]) hprod both) (h := ?_)
    refine p_call (hx := rfl) (hb := ⟨Try.func33, by kernel_rfl, rfl⟩) (hf := least09 _ hj.1) (h := ?_)
    refine p_alloc (hi := F.ti25) (h := ?_)
    refine p_storeAll F.ti25 (h := ?_)
    refine p_endD ?_
    refine p_seq ?_
    refine p_seq (p_region fun hf => ?_)
    (first | refine p_loadA (ht := F.agg25) (hi := F.ti25) (h := ?_) | refine p_loadRefA (ht := F.agg25) (hi := F.ti25) (h := ?_))
    refine p_call (hx := rfl) (hb := ⟨Try.func21, by kernel_rfl, rfl⟩) (hf := check09 _ (Dfa.leastR_fits hj.1)) (h := ?_)
    refine p_num (h := ?_)
    refine p_end ?_
    refine p_isC (s := 26) (b := false) (hc := by have h := Dfa.good_err hj.2.2.1; rw [Dfa.joinR] at h; rw [h]; rfl) (h := ?_)
    refine p_condF (h := ?_)
    refine p_skip ?_
    refine p_seq (p_region fun hf => ?_)
    (first | refine p_loadA (ht := F.agg25) (hi := F.ti25) (h := ?_) | refine p_loadRefA (ht := F.agg25) (hi := F.ti25) (h := ?_))
    refine p_storeAll F.ti25 (h := ?_)
    refine p_assign (h := ?_)
    refine p_end ?_
    refine TrC.ret ?_
    refine p_rets2 rfl (res_cell eV_ oB_ F.agg25 F.ti25 rfl rfl) ⟨eV_, rfl⟩ (by simp only [hc14, Bool.false_eq_true, ↓reduceIte]; simp at hc14; rw [hc14]; rfl)

theorem both09 (a b : Dfa) (h1 : (!a.smallD) = false) (h2 : (!b.smallD) = false) : FnC Try.prog 26 [dfaV a, dfaV b] (fun r => r = .tup [dfaV (if decide (Dfa.askedE a b ≠ 0) then Dfa.zero else Dfa.joinR a b true), iV (Dfa.askedE a b)]) := by
  refine FnC.of (fn := Try.f26) ⟨Try.func26, by kernel_rfl, rfl⟩ Try.ntmps26 (by simp) fun w0 S0 => ?_
  refine p_seq (p_region fun hf => ?_)
  refine p_box (h := ?_)
  refine p_box (h := ?_)
  refine p_alloc (hi := F.ti25) (h := ?_)
  refine p_assign (h := ?_)
  refine p_end ?_
  refine p_seq (p_region fun hf => ?_)
  (first | refine p_loadA (ht := F.agg25) (hi := F.ti25) (h := ?_) | refine p_loadRefA (ht := F.agg25) (hi := F.ti25) (h := ?_))
  (first | refine p_loadA (ht := F.agg25) (hi := F.ti25) (h := ?_) | refine p_loadRefA (ht := F.agg25) (hi := F.ti25) (h := ?_))
  refine p_call (hx := rfl) (hb := ⟨Try.func44, by kernel_rfl, rfl⟩) (hf := joined09 a b h1 h2 true) (h := ?_)
  refine p_extract (h := ?_)
  refine p_extract (h := ?_)
  refine p_storeAll F.ti25 (h := ?_)
  refine p_assign (h := ?_)
  refine p_end ?_
  refine TrC.ret ?_
  refine p_rets2 rfl (res_cell eV_ oB_ F.agg25 F.ti25 rfl rfl) ⟨eV_, rfl⟩ (by rfl)

theorem either09 (a b : Dfa) (h1 : (!a.smallD) = false) (h2 : (!b.smallD) = false) : FnC Try.prog 28 [dfaV a, dfaV b] (fun r => r = .tup [dfaV (if decide (Dfa.askedE a b ≠ 0) then Dfa.zero else Dfa.joinR a b false), iV (Dfa.askedE a b)]) := by
  refine FnC.of (fn := Try.f28) ⟨Try.func28, by kernel_rfl, rfl⟩ Try.ntmps28 (by simp) fun w0 S0 => ?_
  refine p_seq (p_region fun hf => ?_)
  refine p_box (h := ?_)
  refine p_box (h := ?_)
  refine p_alloc (hi := F.ti25) (h := ?_)
  refine p_assign (h := ?_)
  refine p_end ?_
  refine p_seq (p_region fun hf => ?_)
  (first | refine p_loadA (ht := F.agg25) (hi := F.ti25) (h := ?_) | refine p_loadRefA (ht := F.agg25) (hi := F.ti25) (h := ?_))
  (first | refine p_loadA (ht := F.agg25) (hi := F.ti25) (h := ?_) | refine p_loadRefA (ht := F.agg25) (hi := F.ti25) (h := ?_))
  refine p_call (hx := rfl) (hb := ⟨Try.func44, by kernel_rfl, rfl⟩) (hf := joined09 a b h1 h2 false) (h := ?_)
  refine p_extract (h := ?_)
  refine p_extract (h := ?_)
  refine p_storeAll F.ti25 (h := ?_)
  refine p_assign (h := ?_)
  refine p_end ?_
  refine TrC.ret ?_
  refine p_rets2 rfl (res_cell eV_ oB_ F.agg25 F.ti25 rfl rfl) ⟨eV_, rfl⟩ (by rfl)

end Go.Proofs.Ytdpljpmohpifbaa
