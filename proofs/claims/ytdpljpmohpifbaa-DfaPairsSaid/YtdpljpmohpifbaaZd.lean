/-
  Which automata may be: dfa's Check and the reference's, walked: both answer alike.
-/
import Derived.Test.YtdpljpmohpifbaaZc
set_option linter.unusedSimpArgs false
set_option linter.unusedVariables false
namespace Go.Proofs.Ytdpljpmohpifbaa
open Go.RowKit
namespace Dfa
theorem err_head {d : Dfa} (h : d.headBad = true) : d.err = 90 := by simp [err, good, h]
theorem err_row {d : Dfa} {i : Nat} (hlt : i < d.next.length) (h : d.rowBad d.next[i] = true) : d.err = 90 := by
  have : d.next.any d.rowBad = true := List.any_eq_true.2 ⟨_, List.getElem_mem hlt, h⟩
  simp [err, good, this]
theorem err_ok {d : Dfa} (h : d.headBad = false) (h2 : ∀ j (hj : j < d.next.length), d.rowBad d.next[j] = false) : d.err = 0 := by
  have : d.next.any d.rowBad = false := by
    rw [List.any_eq_false]
    intro x hx
    obtain ⟨j, hj, rfl⟩ := List.mem_iff_getElem.1 hx
    simp [h2 j hj]
  simp [err, good, h, this]
theorem rowBad_len {d : Dfa} {r : List Int} (h : decide ((r.length : Int) ≠ d.sym) = true) : d.rowBad r = true := by rw [rowBad, h]; rfl
theorem rowBad_out {d : Dfa} {r : List Int} (h : decide ((r.length : Int) ≠ d.sym) = false) : d.rowBad r = r.any (outB d.next.length) := by rw [rowBad, h]; rfl
theorem row_out {d : Dfa} {r : List Int} {k : Nat} (hk : k < r.length) (h : (decide (r[k] < 0) || decide ((d.next.length : Int) ≤ r[k])) = true) : d.rowBad r = true := by
  have : r.any (outB d.next.length) = true := List.any_eq_true.2 ⟨_, List.getElem_mem hk, h⟩
  rw [rowBad, this]; simp
theorem row_in' {d : Dfa} {r : List Int} (hl : decide ((r.length : Int) ≠ d.sym) = false) (h : ∀ k (hk : k < r.length), (decide (r[k] < 0) || decide ((d.next.length : Int) ≤ r[k])) = false) : d.rowBad r = false := by
  rw [rowBad_out hl, List.any_eq_false]
  intro x hx
  obtain ⟨j, hj, rfl⟩ := List.mem_iff_getElem.1 hx
  have := h j hj
  simpa [outB] using this
end Dfa

theorem check09 (d : Dfa) (h : d.fits) : FnC Try.prog 21 [dfaV d] (fun r => r = iV d.err) := by
  refine FnC.of (fn := Try.f21) ⟨Try.func21, by kernel_rfl, rfl⟩ Try.ntmps21 (by simp) fun w0 S0 => ?_
  refine p_seq (p_region fun hf => ?_)
  refine p_box (h := ?_)
  refine p_assign (h := ?_)
  refine p_end ?_
  refine p_seq (p_region fun hf => ?_)
  (first | refine p_fieldPtr (hf := F.fld25_1) (h := ?_) | refine p_fieldRef (hf := F.fld25_1) (h := ?_) | refine p_fieldRow (hf := F.fld25_1) (h := ?_))
  (first | refine p_load (ht := F.leaf22) (h := ?_) | refine p_loadRef (ht := F.leaf22) (h := ?_))
  refine p_len (ht := Try.underlying22) (h := ?_)
  refine p_alloc (hi := F.ti3) (h := ?_)
  refine p_store1 F.ti3 (h := ?_)
  refine p_end ?_
  refine p_seq ?_
  refine p_seq (p_region fun hf => ?_)
  (first | refine p_fieldPtr (hf := F.fld25_0) (h := ?_) | refine p_fieldRef (hf := F.fld25_0) (h := ?_) | refine p_fieldRow (hf := F.fld25_0) (h := ?_))
  (first | refine p_load (ht := F.leaf3) (h := ?_) | refine p_loadRef (ht := F.leaf3) (h := ?_))
  refine p_num (h := ?_)
  refine p_move (h := ?_)
  refine p_split (s := 12) (ht := fun hb12 => ?_) (hf := fun hb12 => ?_)
  · -- slot 12 is true
    iterate 3 (refine p_guardNo (h := ?_))
    refine p_pick (h := ?_)
    refine p_move (h := ?_)
    iterate 2 (refine p_guardNo (h := ?_))
    refine p_pick (h := ?_)
    refine p_move (h := ?_)
    iterate 2 (refine p_guardNo (h := ?_))
    refine p_pick (h := ?_)
    refine p_move (h := ?_)
    iterate 5 (refine p_guardNo (h := ?_))
    refine p_pick (h := ?_)
    refine p_move (h := ?_)
    iterate 5 (refine p_guardNo (h := ?_))
    refine p_pick (h := ?_)
    refine p_end ?_
    refine p_condT (h := ?_)
    refine p_seq (p_region fun hf => ?_)
    refine p_assign (h := ?_)
    refine p_end ?_
    refine TrC.ret ?_
    refine p_ret1 (hp := by rw [Dfa.err_head (by simp only [Dfa.headBad, hb12, Bool.true_or, Bool.or_true])])
  · -- slot 12 is false
    refine p_guardYes (h := ?_)
    (first | refine p_fieldPtr (hf := F.fld25_0) (h := ?_) | refine p_fieldRef (hf := F.fld25_0) (h := ?_) | refine p_fieldRow (hf := F.fld25_0) (h := ?_))
    refine p_guardYes (h := ?_)
    (first | refine p_load (ht := F.leaf3) (h := ?_) | refine p_loadRef (ht := F.leaf3) (h := ?_))
    refine p_guardYes (h := ?_)
    refine p_num (h := ?_)
    refine p_pick (h := ?_)
    refine p_move (h := ?_)
    refine p_split (s := 17) (ht := fun hb17 => ?_) (hf := fun hb17 => ?_)
    · -- slot 17 is true
      iterate 2 (refine p_guardNo (h := ?_))
      refine p_pick (h := ?_)
      refine p_move (h := ?_)
      iterate 2 (refine p_guardNo (h := ?_))
      refine p_pick (h := ?_)
      refine p_move (h := ?_)
      iterate 5 (refine p_guardNo (h := ?_))
      refine p_pick (h := ?_)
      refine p_move (h := ?_)
      iterate 5 (refine p_guardNo (h := ?_))
      refine p_pick (h := ?_)
      refine p_end ?_
      refine p_condT (h := ?_)
      refine p_seq (p_region fun hf => ?_)
      refine p_assign (h := ?_)
      refine p_end ?_
      refine TrC.ret ?_
      refine p_ret1 (hp := by rw [Dfa.err_head (by simp only [Dfa.headBad, hb12, hb17, Bool.true_or, Bool.or_true])])
    · -- slot 17 is false
      refine p_guardYes (h := ?_)
      (first | refine p_load (ht := F.leaf3) (h := ?_) | refine p_loadRef (ht := F.leaf3) (h := ?_))
      refine p_guardYes (h := ?_)
      refine p_num (h := ?_)
      refine p_pick (h := ?_)
      refine p_move (h := ?_)
      refine p_split (s := 21) (ht := fun hb21 => ?_) (hf := fun hb21 => ?_)
      · -- slot 21 is true
        iterate 2 (refine p_guardNo (h := ?_))
        refine p_pick (h := ?_)
        refine p_move (h := ?_)
        iterate 5 (refine p_guardNo (h := ?_))
        refine p_pick (h := ?_)
        refine p_move (h := ?_)
        iterate 5 (refine p_guardNo (h := ?_))
        refine p_pick (h := ?_)
        refine p_end ?_
        refine p_condT (h := ?_)
        refine p_seq (p_region fun hf => ?_)
        refine p_assign (h := ?_)
        refine p_end ?_
        refine TrC.ret ?_
        refine p_ret1 (hp := by rw [Dfa.err_head (by simp only [Dfa.headBad, hb12, hb17, hb21, Bool.true_or, Bool.or_true])])
      · -- slot 21 is false
        refine p_guardYes (h := ?_)
        (first | refine p_load (ht := F.leaf3) (h := ?_) | refine p_loadRef (ht := F.leaf3) (h := ?_))
        refine p_guardYes (h := ?_)
        refine p_num (h := ?_)
        refine p_pick (h := ?_)
        refine p_move (h := ?_)
        refine p_split (s := 25) (ht := fun hb25 => ?_) (hf := fun hb25 => ?_)
        · -- slot 25 is true
          iterate 5 (refine p_guardNo (h := ?_))
          refine p_pick (h := ?_)
          refine p_move (h := ?_)
          iterate 5 (refine p_guardNo (h := ?_))
          refine p_pick (h := ?_)
          refine p_end ?_
          refine p_condT (h := ?_)
          refine p_seq (p_region fun hf => ?_)
          refine p_assign (h := ?_)
          refine p_end ?_
          refine TrC.ret ?_
          refine p_ret1 (hp := by rw [Dfa.err_head (by simp only [Dfa.headBad, hb12, hb17, hb21, hb25, Bool.true_or, Bool.or_true])])
        · -- slot 25 is false
          refine p_guardYes (h := ?_)
          (first | refine p_fieldPtr (hf := F.fld25_2) (h := ?_) | refine p_fieldRef (hf := F.fld25_2) (h := ?_) | refine p_fieldRow (hf := F.fld25_2) (h := ?_))
          refine p_guardYes (h := ?_)
          (first | refine p_load (ht := F.leaf23) (h := ?_) | refine p_loadRef (ht := F.leaf23) (h := ?_))
          refine p_guardYes (h := ?_)
          refine p_len (ht := Try.underlying23) (h := ?_)
          refine p_guardYes (h := ?_)
          (first | refine p_load (ht := F.leaf3) (h := ?_) | refine p_loadRef (ht := F.leaf3) (h := ?_))
          refine p_guardYes (h := ?_)
          refine p_num (h := ?_)
          refine p_pick (h := ?_)
          refine p_move (h := ?_)
          refine p_split (s := 32) (ht := fun hb32 => ?_) (hf := fun hb32 => ?_)
          · -- slot 32 is true
            iterate 5 (refine p_guardNo (h := ?_))
            refine p_pick (h := ?_)
            refine p_end ?_
            refine p_condT (h := ?_)
            refine p_seq (p_region fun hf => ?_)
            refine p_assign (h := ?_)
            refine p_end ?_
            refine TrC.ret ?_
            refine p_ret1 (hp := by rw [Dfa.err_head (by simp only [Dfa.headBad, hb12, hb17, hb21, hb25, hb32, Bool.true_or, Bool.or_true])])
          · -- slot 32 is false
            refine p_guardYes (h := ?_)
            (first | refine p_load (ht := F.leaf3) (h := ?_) | refine p_loadRef (ht := F.leaf3) (h := ?_))
            refine p_guardYes (h := ?_)
            (first | refine p_fieldPtr (hf := F.fld25_0) (h := ?_) | refine p_fieldRef (hf := F.fld25_0) (h := ?_) | refine p_fieldRow (hf := F.fld25_0) (h := ?_))
            refine p_guardYes (h := ?_)
            (first | refine p_load (ht := F.leaf3) (h := ?_) | refine p_loadRef (ht := F.leaf3) (h := ?_))
            refine p_guardYes (h := ?_)
            refine p_mul (hr := rfl) (hb := mul_small (by omega) (by simp at hb25; omega) (by simp at hb12; omega) (by simp at hb17; omega)) (h := ?_)
            refine p_guardYes (h := ?_)
            refine p_num (h := ?_)
            refine p_pick (h := ?_)
            refine p_end ?_
            refine p_splitC (s := 38) (ht := fun hc38 => ?_) (hf := fun hc38 => ?_)
            · refine p_condT (h := ?_)
              refine p_seq (p_region fun hf => ?_)
              refine p_assign (h := ?_)
              refine p_end ?_
              refine TrC.ret ?_
              refine p_ret1 (hp := by rw [Dfa.err_head (by simp only [Dfa.headBad, hb12, hb17, hb21, hb25, hb32, hc38, Bool.true_or, Bool.or_true])])
            · refine p_condF (h := ?_)
              refine p_skip ?_
              refine p_seq ?_
              refine p_seq (p_region fun hf => ?_)
              (first | refine p_fieldPtr (hf := F.fld25_1) (h := ?_) | refine p_fieldRef (hf := F.fld25_1) (h := ?_) | refine p_fieldRow (hf := F.fld25_1) (h := ?_))
              (first | refine p_load (ht := F.leaf22) (h := ?_) | refine p_loadRef (ht := F.leaf22) (h := ?_))
              refine p_len (ht := Try.underlying22) (h := ?_)
              refine p_move (h := ?_)
              refine p_end ?_
              refine TrC.block ?_
              refine p_loop (fun st => ∃ i : Nat, i ≤ d.next.length ∧ (∀ j (hj : j < d.next.length), j < i → d.rowBad d.next[j] = false) ∧ st.env 1 = .ptr (0 + 1) 1 0 ∧ st.env 3 = .ptr (0 + 1 + 1) 3 0 ∧ st.env 40 = .sl 26 (d.next.map rowV) ∧ st.env 41 = iV d.next.length ∧ st.env 42 = iV i ∧ st.obj (0 + 1) 1 = .cells 25 [iV d.sym, .sl 26 (d.next.map rowV), .sl 4 (d.acc.map .bool)] ∧ st.obj (0 + 1 + 1) 3 = .cells 3 [iV d.next.length]) (fun st => d.next.length - (st.env 42).toN) ?_ fun e ob g1 hI => ?_
              · exact ⟨0, by omega, fun j hj h => by omega, eV_, eV_, eV_, eV_, eV_, oB_, oB_⟩
              · obtain ⟨i, hi, hn, e1, e3, e40, e41, e42, o1, o3⟩ := hI
                dsimp only at e1 e3 e40 e41 e42 o1 o3
                have hE := (⟨e1, e3, e40, e41, e42, o1, o3⟩ : _ ∧ _ ∧ _ ∧ _ ∧ _ ∧ _ ∧ _)
                have hfit := h.1
                refine p_seq (p_region fun hf => ?_)
                refine p_num (h := ?_)
                refine p_end ?_
                refine p_seq ?_
                refine p_splitC (s := 43) (ht := fun hc43 => ?_) (hf := fun hc43 => ?_)
                · refine p_condT (h := ?_)
                  have hlt : i < d.next.length := by simpa using hc43
                  refine p_skip ?_
                  refine p_seq ?_
                  refine TrC.block ?_
                  refine p_seq (p_region fun hf => ?_)
                  refine p_idxMap (j := i) (ht := Try.underlying22) (hi := F.ti26) (hij := rfl) (hj := hlt) (h := ?_)
                  (first | refine p_load (ht := F.leaf26) (h := ?_) | refine p_loadRef (ht := F.leaf26) (h := ?_))
                  refine p_assign (h := ?_)
                  refine p_end ?_
                  refine p_seq (p_region fun hf => ?_)
                  refine p_move (h := ?_)
                  refine p_len (ht := Try.underlying26) (h := ?_)
                  (first | refine p_fieldPtr (hf := F.fld25_0) (h := ?_) | refine p_fieldRef (hf := F.fld25_0) (h := ?_) | refine p_fieldRow (hf := F.fld25_0) (h := ?_))
                  (first | refine p_load (ht := F.leaf3) (h := ?_) | refine p_loadRef (ht := F.leaf3) (h := ?_))
                  refine p_num (h := ?_)
                  refine p_move (h := ?_)
                  refine p_split (s := 51) (ht := fun hb51 => ?_) (hf := fun hb51 => ?_)
                  · -- slot 51 is true
                    iterate 3 (refine p_guardNo (h := ?_))
                    refine p_pick (h := ?_)
                    refine p_end ?_
                    refine p_condT (h := ?_)
                    refine p_seq (p_region fun hf => ?_)
                    refine p_assign (h := ?_)
                    refine p_end ?_
                    refine TrC.ret ?_
                    refine p_ret1 (hp := by rw [Dfa.err_row hlt (Dfa.rowBad_len hb51)])
                  · -- slot 51 is false
                    refine p_guardYes (h := ?_)
                    refine p_move (h := ?_)
                    refine p_guardYes (h := ?_)
                    refine p_func (h := ?_)
                    refine p_guardYes (h := ?_)
                    refine p_callFlat (us := [.sl 3 (d.next[i].map iV), .fn 37 [.ptr (0 + 1 + 1) 3 0]]) (vs := [.sl 3 (d.next[i].map iV), .fn 37 [.ref [iV d.next.length]]]) (vs' := []) [(0 + 1 + 1, 3)] (hx := rfl) (hb := ⟨Try.func36, by kernel_rfl, rfl⟩) (hvs := fun e' ob' g' hk => ⟨⟨⟨rfl, rfl⟩, .inl ⟨[.ref [iV d.next.length]], ⟨⟨_, [iV d.next.length], [iV d.next.length], (hk (0 + 1 + 1, 3) (by simp)).trans oB_, ⟨⟨rfl, rfl⟩, trivial⟩, rfl⟩, trivial⟩, rfl⟩, trivial⟩, trivial⟩) (hf := containsFunc_int (Dfa.outB d.next.length) d.next[i] (h.2.2 _ (List.getElem_mem hlt)) _ _ _ _ rfl ⟨Try.func37, by kernel_rfl, rfl⟩ fun x _ => check1 x _) (h := ?_)
                    refine p_pick (h := ?_)
                    refine p_end ?_
                    refine p_splitC (s := 55) (ht := fun hc55 => ?_) (hf := fun hc55 => ?_)
                    · refine p_condT (h := ?_)
                      refine p_seq (p_region fun hf => ?_)
                      refine p_assign (h := ?_)
                      refine p_end ?_
                      refine TrC.ret ?_
                      refine p_ret1 (hp := by rw [Dfa.err_row hlt (by rw [Dfa.rowBad_out hb51]; exact hc55)])
                    · refine p_condF (h := ?_)
                      refine p_skip ?_
                      refine p_region fun hf => ?_
                      refine p_add (r := ((i + 1 : Nat) : Int)) (hr := by omega) (hb := by omega) (h := ?_)
                      refine p_move (h := ?_)
                      refine p_end ?_
                      refine p_some ?_
                      refine ⟨⟨i + 1, hlt, fun j hj hji => ?_, eV_, eV_, eV_, eV_, eV_, oB_, oB_⟩, ?_⟩
                      · rcases Nat.lt_succ_iff_lt_or_eq.1 hji with h | h
                        · exact hn j hj h
                        · subst h; rw [Dfa.rowBad_out hb51]; exact hc55
                      · simp (decide := true) only [upd, e42, V.toN, ↓reduceIte]; omega
                · refine p_condF (h := ?_)
                  refine p_exit ?_
                  refine p_seq (p_region fun hf => ?_)
                  refine p_assign (h := ?_)
                  refine p_end ?_
                  refine TrC.ret ?_
                  refine p_ret1 (hp := by rw [Dfa.err_ok (by simp only [Dfa.headBad, hb12, hb17, hb21, hb25, hb32, hc38, Bool.or_self]) fun j hj => hn j hj (by simp at hc43; omega)])

theorem checkR (d : Dfa) (h : d.fits) : FnC Try.prog 22 [dfaV d] (fun r => r = iV d.err) := by
  refine FnC.of (fn := Try.f22) ⟨Try.func22, by kernel_rfl, rfl⟩ Try.ntmps22 (by simp) fun w0 S0 => ?_
  refine p_seq (p_region fun hf => ?_)
  refine p_box (h := ?_)
  refine p_assign (h := ?_)
  refine p_end ?_
  refine p_seq (p_region fun hf => ?_)
  (first | refine p_fieldPtr (hf := F.fld25_1) (h := ?_) | refine p_fieldRef (hf := F.fld25_1) (h := ?_) | refine p_fieldRow (hf := F.fld25_1) (h := ?_))
  (first | refine p_load (ht := F.leaf22) (h := ?_) | refine p_loadRef (ht := F.leaf22) (h := ?_))
  refine p_len (ht := Try.underlying22) (h := ?_)
  refine p_assign (h := ?_)
  refine p_end ?_
  refine p_seq ?_
  refine p_seq (p_region fun hf => ?_)
  (first | refine p_fieldPtr (hf := F.fld25_0) (h := ?_) | refine p_fieldRef (hf := F.fld25_0) (h := ?_) | refine p_fieldRow (hf := F.fld25_0) (h := ?_))
  (first | refine p_load (ht := F.leaf3) (h := ?_) | refine p_loadRef (ht := F.leaf3) (h := ?_))
  refine p_num (h := ?_)
  refine p_move (h := ?_)
  refine p_split (s := 12) (ht := fun hb12 => ?_) (hf := fun hb12 => ?_)
  · -- slot 12 is true
    iterate 3 (refine p_guardNo (h := ?_))
    refine p_pick (h := ?_)
    refine p_move (h := ?_)
    iterate 2 (refine p_guardNo (h := ?_))
    refine p_pick (h := ?_)
    refine p_move (h := ?_)
    iterate 2 (refine p_guardNo (h := ?_))
    refine p_pick (h := ?_)
    refine p_move (h := ?_)
    iterate 5 (refine p_guardNo (h := ?_))
    refine p_pick (h := ?_)
    refine p_move (h := ?_)
    iterate 5 (refine p_guardNo (h := ?_))
    refine p_pick (h := ?_)
    refine p_end ?_
    refine p_condT (h := ?_)
    refine p_seq (p_region fun hf => ?_)
    refine p_assign (h := ?_)
    refine p_end ?_
    refine TrC.ret ?_
    refine p_ret1 (hp := by rw [Dfa.err_head (by simp only [Dfa.headBad, hb12, Bool.true_or, Bool.or_true])])
  · -- slot 12 is false
    refine p_guardYes (h := ?_)
    (first | refine p_fieldPtr (hf := F.fld25_0) (h := ?_) | refine p_fieldRef (hf := F.fld25_0) (h := ?_) | refine p_fieldRow (hf := F.fld25_0) (h := ?_))
    refine p_guardYes (h := ?_)
    (first | refine p_load (ht := F.leaf3) (h := ?_) | refine p_loadRef (ht := F.leaf3) (h := ?_))
    refine p_guardYes (h := ?_)
    refine p_num (h := ?_)
    refine p_pick (h := ?_)
    refine p_move (h := ?_)
    refine p_split (s := 17) (ht := fun hb17 => ?_) (hf := fun hb17 => ?_)
    · -- slot 17 is true
      iterate 2 (refine p_guardNo (h := ?_))
      refine p_pick (h := ?_)
      refine p_move (h := ?_)
      iterate 2 (refine p_guardNo (h := ?_))
      refine p_pick (h := ?_)
      refine p_move (h := ?_)
      iterate 5 (refine p_guardNo (h := ?_))
      refine p_pick (h := ?_)
      refine p_move (h := ?_)
      iterate 5 (refine p_guardNo (h := ?_))
      refine p_pick (h := ?_)
      refine p_end ?_
      refine p_condT (h := ?_)
      refine p_seq (p_region fun hf => ?_)
      refine p_assign (h := ?_)
      refine p_end ?_
      refine TrC.ret ?_
      refine p_ret1 (hp := by rw [Dfa.err_head (by simp only [Dfa.headBad, hb12, hb17, Bool.true_or, Bool.or_true])])
    · -- slot 17 is false
      refine p_guardYes (h := ?_)
      refine p_move (h := ?_)
      refine p_guardYes (h := ?_)
      refine p_num (h := ?_)
      refine p_pick (h := ?_)
      refine p_move (h := ?_)
      refine p_split (s := 21) (ht := fun hb21 => ?_) (hf := fun hb21 => ?_)
      · -- slot 21 is true
        iterate 2 (refine p_guardNo (h := ?_))
        refine p_pick (h := ?_)
        refine p_move (h := ?_)
        iterate 5 (refine p_guardNo (h := ?_))
        refine p_pick (h := ?_)
        refine p_move (h := ?_)
        iterate 5 (refine p_guardNo (h := ?_))
        refine p_pick (h := ?_)
        refine p_end ?_
        refine p_condT (h := ?_)
        refine p_seq (p_region fun hf => ?_)
        refine p_assign (h := ?_)
        refine p_end ?_
        refine TrC.ret ?_
        refine p_ret1 (hp := by rw [Dfa.err_head (by simp only [Dfa.headBad, hb12, hb17, hb21, Bool.true_or, Bool.or_true])])
      · -- slot 21 is false
        refine p_guardYes (h := ?_)
        refine p_move (h := ?_)
        refine p_guardYes (h := ?_)
        refine p_num (h := ?_)
        refine p_pick (h := ?_)
        refine p_move (h := ?_)
        refine p_split (s := 25) (ht := fun hb25 => ?_) (hf := fun hb25 => ?_)
        · -- slot 25 is true
          iterate 5 (refine p_guardNo (h := ?_))
          refine p_pick (h := ?_)
          refine p_move (h := ?_)
          iterate 5 (refine p_guardNo (h := ?_))
          refine p_pick (h := ?_)
          refine p_end ?_
          refine p_condT (h := ?_)
          refine p_seq (p_region fun hf => ?_)
          refine p_assign (h := ?_)
          refine p_end ?_
          refine TrC.ret ?_
          refine p_ret1 (hp := by rw [Dfa.err_head (by simp only [Dfa.headBad, hb12, hb17, hb21, hb25, Bool.true_or, Bool.or_true])])
        · -- slot 25 is false
          refine p_guardYes (h := ?_)
          (first | refine p_fieldPtr (hf := F.fld25_2) (h := ?_) | refine p_fieldRef (hf := F.fld25_2) (h := ?_) | refine p_fieldRow (hf := F.fld25_2) (h := ?_))
          refine p_guardYes (h := ?_)
          (first | refine p_load (ht := F.leaf23) (h := ?_) | refine p_loadRef (ht := F.leaf23) (h := ?_))
          refine p_guardYes (h := ?_)
          refine p_len (ht := Try.underlying23) (h := ?_)
          refine p_guardYes (h := ?_)
          refine p_move (h := ?_)
          refine p_guardYes (h := ?_)
          refine p_num (h := ?_)
          refine p_pick (h := ?_)
          refine p_move (h := ?_)
          refine p_split (s := 32) (ht := fun hb32 => ?_) (hf := fun hb32 => ?_)
          · -- slot 32 is true
            iterate 5 (refine p_guardNo (h := ?_))
            refine p_pick (h := ?_)
            refine p_end ?_
            refine p_condT (h := ?_)
            refine p_seq (p_region fun hf => ?_)
            refine p_assign (h := ?_)
            refine p_end ?_
            refine TrC.ret ?_
            refine p_ret1 (hp := by rw [Dfa.err_head (by simp only [Dfa.headBad, hb12, hb17, hb21, hb25, hb32, Bool.true_or, Bool.or_true])])
          · -- slot 32 is false
            refine p_guardYes (h := ?_)
            refine p_move (h := ?_)
            refine p_guardYes (h := ?_)
            (first | refine p_fieldPtr (hf := F.fld25_0) (h := ?_) | refine p_fieldRef (hf := F.fld25_0) (h := ?_) | refine p_fieldRow (hf := F.fld25_0) (h := ?_))
            refine p_guardYes (h := ?_)
            (first | refine p_load (ht := F.leaf3) (h := ?_) | refine p_loadRef (ht := F.leaf3) (h := ?_))
            refine p_guardYes (h := ?_)
            refine p_mul (hr := rfl) (hb := mul_small (by omega) (by simp at hb25; omega) (by simp at hb12; omega) (by simp at hb17; omega)) (h := ?_)
            refine p_guardYes (h := ?_)
            refine p_num (h := ?_)
            refine p_pick (h := ?_)
            refine p_end ?_
            refine p_splitC (s := 38) (ht := fun hc38 => ?_) (hf := fun hc38 => ?_)
            · refine p_condT (h := ?_)
              refine p_seq (p_region fun hf => ?_)
              refine p_assign (h := ?_)
              refine p_end ?_
              refine TrC.ret ?_
              refine p_ret1 (hp := by rw [Dfa.err_head (by simp only [Dfa.headBad, hb12, hb17, hb21, hb25, hb32, hc38, Bool.true_or, Bool.or_true])])
            · refine p_condF (h := ?_)
              refine p_skip ?_
              refine p_seq ?_
              refine p_seq (p_region fun hf => ?_)
              refine p_assign (h := ?_)
              refine p_end ?_
              refine TrC.block ?_
              refine p_loop (fun st => ∃ i : Nat, i ≤ d.next.length ∧ (∀ j (hj : j < d.next.length), j < i → d.rowBad d.next[j] = false) ∧ st.env 1 = .ptr (0 + 1) 1 0 ∧ st.env 3 = iV d.next.length ∧ st.env 4 = iV i ∧ st.obj (0 + 1) 1 = .cells 25 [iV d.sym, .sl 26 (d.next.map rowV), .sl 4 (d.acc.map .bool)]) (fun st => d.next.length - (st.env 4).toN) ?_ fun e ob g1 hI => ?_
              · exact ⟨0, by omega, fun j hj h => by omega, eV_, eV_, eV_, oB_⟩
              · obtain ⟨i, hi, hn, e1, e3, e4, o1⟩ := hI
                dsimp only at e1 e3 e4 o1
                have hE := (⟨e1, e3, e4, o1⟩ : _ ∧ _ ∧ _ ∧ _)
                have hfit := h.1
                refine p_seq ?_
                refine p_seq (p_region fun hf => ?_)
                refine p_move (h := ?_)
                refine p_move (h := ?_)
                refine p_num (h := ?_)
                refine p_end ?_
                refine p_splitC (s := 41) (ht := fun hc41 => ?_) (hf := fun hc41 => ?_)
                · refine p_condT (h := ?_)
                  have hlt : i < d.next.length := by simpa using hc41
                  refine p_skip ?_
                  refine p_seq ?_
                  refine TrC.block ?_
                  refine p_seq ?_
                  refine p_seq (p_draw F.mixed fun hf => ?_)
                  (first | refine p_fieldPtr (hf := F.fld25_1) (h := ?_) | refine p_fieldRef (hf := F.fld25_1) (h := ?_) | refine p_fieldRow (hf := F.fld25_1) (h := ?_))
                  (first | refine p_load (ht := F.leaf22) (h := ?_) | refine p_loadRef (ht := F.leaf22) (h := ?_))
                  refine p_move (h := ?_)
                  refine p_idxMap (j := i) (ht := Try.underlying22) (hi := F.ti26) (hij := rfl) (hj := hlt) (h := ?_)
                  (first | refine p_load (ht := F.leaf26) (h := ?_) | refine p_loadRef (ht := F.leaf26) (h := ?_))
                  refine p_len (ht := Try.underlying26) (h := ?_)
                  (first | refine p_fieldPtr (hf := F.fld25_0) (h := ?_) | refine p_fieldRef (hf := F.fld25_0) (h := ?_) | refine p_fieldRow (hf := F.fld25_0) (h := ?_))
                  (first | refine p_load (ht := F.leaf3) (h := ?_) | refine p_loadRef (ht := F.leaf3) (h := ?_))
                  refine p_num (h := ?_)
                  refine p_endD ?_
                  refine p_splitC (s := 52) (ht := fun hc52 => ?_) (hf := fun hc52 => ?_)
                  · refine p_condT (h := ?_)
                    refine p_seq (p_region fun hf => ?_)
                    refine p_assign (h := ?_)
                    refine p_end ?_
                    refine TrC.ret ?_
                    refine p_ret1 (hp := by rw [Dfa.err_row hlt (Dfa.rowBad_len hc52)])
                  · refine p_condF (h := ?_)
                    have hrow : (d.next[i].length : Int) = d.sym := by simpa using hc52
                    refine p_skip ?_
                    refine p_seq (p_region fun hf => ?_)
                    refine p_assign (h := ?_)
                    refine p_end ?_
                    refine TrC.block ?_
                    refine p_loop (fun st => ∃ k : Nat, k ≤ d.next[i].length ∧ (∀ j (hj : j < d.next[i].length), j < k → (decide (d.next[i][j] < 0) || decide ((d.next.length : Int) ≤ d.next[i][j])) = false) ∧ st.env 1 = .ptr (0 + 1) 1 0 ∧ st.env 3 = iV d.next.length ∧ st.env 4 = iV i ∧ st.env 5 = iV k ∧ st.obj (0 + 1) 1 = .cells 25 [iV d.sym, .sl 26 (d.next.map rowV), .sl 4 (d.acc.map .bool)]) (fun st => d.next[i].length - (st.env 5).toN) ?_ fun e ob g2 hI => ?_
                    · exact ⟨0, by omega, fun j hj h => by omega, eV_, eV_, eV_, eV_, oB_⟩
                    · obtain ⟨k, hk, hm, f1, f3, f4, f5, p1⟩ := hI
                      dsimp only at f1 f3 f4 f5 p1
                      have hE := (⟨f1, f3, f4, f5, p1⟩ : _ ∧ _ ∧ _ ∧ _ ∧ _)
                      have hfit2 := h.2.2 _ (List.getElem_mem hlt)
                      refine p_seq ?_
                      refine p_seq (p_region fun hf => ?_)
                      refine p_move (h := ?_)
                      (first | refine p_fieldPtr (hf := F.fld25_0) (h := ?_) | refine p_fieldRef (hf := F.fld25_0) (h := ?_) | refine p_fieldRow (hf := F.fld25_0) (h := ?_))
                      (first | refine p_load (ht := F.leaf3) (h := ?_) | refine p_loadRef (ht := F.leaf3) (h := ?_))
                      refine p_num (h := ?_)
                      refine p_end ?_
                      refine p_splitC (s := 56) (ht := fun hc56 => ?_) (hf := fun hc56 => ?_)
                      · refine p_condT (h := ?_)
                        have hk2 : k < d.next[i].length := by simp at hc56; omega
                        refine p_skip ?_
                        refine p_seq ?_
                        refine TrC.block ?_
                        refine p_seq (p_region fun hf => ?_)
                        (first | refine p_fieldPtr (hf := F.fld25_1) (h := ?_) | refine p_fieldRef (hf := F.fld25_1) (h := ?_) | refine p_fieldRow (hf := F.fld25_1) (h := ?_))
                        (first | refine p_load (ht := F.leaf22) (h := ?_) | refine p_loadRef (ht := F.leaf22) (h := ?_))
                        refine p_move (h := ?_)
                        refine p_idxMap (j := i) (ht := Try.underlying22) (hi := F.ti26) (hij := rfl) (hj := hlt) (h := ?_)
                        (first | refine p_load (ht := F.leaf26) (h := ?_) | refine p_loadRef (ht := F.leaf26) (h := ?_))
                        refine p_move (h := ?_)
                        refine p_idxMap (j := k) (ht := Try.underlying26) (hi := F.ti3) (hij := rfl) (hj := hk2) (h := ?_)
                        (first | refine p_load (ht := F.leaf3) (h := ?_) | refine p_loadRef (ht := F.leaf3) (h := ?_))
                        refine p_num (h := ?_)
                        refine p_move (h := ?_)
                        refine p_split (s := 68) (ht := fun hb68 => ?_) (hf := fun hb68 => ?_)
                        · -- slot 68 is true
                          iterate 10 (refine p_guardNo (h := ?_))
                          refine p_pick (h := ?_)
                          refine p_end ?_
                          refine p_condT (h := ?_)
                          refine p_seq (p_region fun hf => ?_)
                          refine p_assign (h := ?_)
                          refine p_end ?_
                          refine TrC.ret ?_
                          refine p_ret1 (hp := by rw [Dfa.err_row hlt (Dfa.row_out hk2 (by rw [hb68]; rfl))])
                        · -- slot 68 is false
                          refine p_guardYes (h := ?_)
                          (first | refine p_fieldPtr (hf := F.fld25_1) (h := ?_) | refine p_fieldRef (hf := F.fld25_1) (h := ?_) | refine p_fieldRow (hf := F.fld25_1) (h := ?_))
                          refine p_guardYes (h := ?_)
                          (first | refine p_load (ht := F.leaf22) (h := ?_) | refine p_loadRef (ht := F.leaf22) (h := ?_))
                          refine p_guardYes (h := ?_)
                          refine p_move (h := ?_)
                          refine p_guardYes (h := ?_)
                          refine p_idxMap (j := i) (ht := Try.underlying22) (hi := F.ti26) (hij := rfl) (hj := hlt) (h := ?_)
                          refine p_guardYes (h := ?_)
                          (first | refine p_load (ht := F.leaf26) (h := ?_) | refine p_loadRef (ht := F.leaf26) (h := ?_))
                          refine p_guardYes (h := ?_)
                          refine p_move (h := ?_)
                          refine p_guardYes (h := ?_)
                          refine p_idxMap (j := k) (ht := Try.underlying26) (hi := F.ti3) (hij := rfl) (hj := hk2) (h := ?_)
                          refine p_guardYes (h := ?_)
                          (first | refine p_load (ht := F.leaf3) (h := ?_) | refine p_loadRef (ht := F.leaf3) (h := ?_))
                          refine p_guardYes (h := ?_)
                          refine p_move (h := ?_)
                          refine p_guardYes (h := ?_)
                          refine p_num (h := ?_)
                          refine p_pick (h := ?_)
                          refine p_end ?_
                          refine p_splitC (s := 79) (ht := fun hc79 => ?_) (hf := fun hc79 => ?_)
                          · refine p_condT (h := ?_)
                            refine p_seq (p_region fun hf => ?_)
                            refine p_assign (h := ?_)
                            refine p_end ?_
                            refine TrC.ret ?_
                            refine p_ret1 (hp := by rw [Dfa.err_row hlt (Dfa.row_out hk2 (by rw [hb68, hc79]; rfl))])
                          · refine p_condF (h := ?_)
                            refine p_skip ?_
                            refine p_region fun hf => ?_
                            refine p_move (h := ?_)
                            refine p_add (r := ((k + 1 : Nat) : Int)) (hr := by omega) (hb := by omega) (h := ?_)
                            refine p_assign (h := ?_)
                            refine p_end ?_
                            refine p_some ?_
                            refine ⟨⟨k + 1, by omega, fun j hj hji => ?_, eV_, eV_, eV_, eV_, oB_⟩, ?_⟩
                            · rcases Nat.lt_succ_iff_lt_or_eq.1 hji with h | h
                              · exact hm j hj h
                              · subst h; rw [hb68, hc79]; rfl
                            · simp (decide := true) only [upd, f5, V.toN, ↓reduceIte]; omega
                      · refine p_condF (h := ?_)
                        refine p_exit ?_
                        refine p_region fun hf => ?_
                        refine p_move (h := ?_)
                        refine p_add (r := ((i + 1 : Nat) : Int)) (hr := by omega) (hb := by omega) (h := ?_)
                        refine p_assign (h := ?_)
                        refine p_end ?_
                        refine p_some ?_
                        refine ⟨⟨i + 1, hlt, fun j hj hji => ?_, eV_, eV_, eV_, oB_⟩, ?_⟩
                        · rcases Nat.lt_succ_iff_lt_or_eq.1 hji with h | h
                          · exact hn j hj h
                          · subst h; exact Dfa.row_in' hc52 fun q hq => hm q hq (by simp at hc56; omega)
                        · simp (decide := true) only [upd, e4, f4, V.toN, ↓reduceIte]; omega
                · refine p_condF (h := ?_)
                  refine p_exit ?_
                  refine p_seq (p_region fun hf => ?_)
                  refine p_assign (h := ?_)
                  refine p_end ?_
                  refine TrC.ret ?_
                  refine p_ret1 (hp := by rw [Dfa.err_ok (by simp only [Dfa.headBad, hb12, hb17, hb21, hb25, hb32, hc38, Bool.or_self]) fun j hj => hn j hj (by simp at hc41; omega)])

end Go.Proofs.Ytdpljpmohpifbaa
