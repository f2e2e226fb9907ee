/-
  The law's small functions, walked: small, and alive, which looks at one automaton.
-/
import Derived.Test.YtdpljpmohpifbaaZl
set_option linter.unusedSimpArgs false
set_option linter.unusedVariables false
namespace Go.Proofs.Ytdpljpmohpifbaa
open Go.RowKit
section
variable {κ : Type} [DecidableEq κ]
theorem rowAt_range {f : Nat → κ} {mc : List κ} : ∀ k, ∀ x ∈ (rowAt f mc k).2, 0 ≤ x ∧ x < (rowAt f mc k).1.length
  | 0, x, h => by simp [rowAt] at h
  | k + 1, x, h => by
    have ih := rowAt_range (f := f) (mc := mc) k
    rw [rowAt] at h ⊢
    split at h
    · rename_i hm
      rw [if_pos hm]
      rcases List.mem_append.1 h with h | h
      · exact ih x h
      · rw [List.mem_singleton.1 h]
        have := List.idxOf_lt_length_iff.2 hm
        constructor
        · exact Int.natCast_nonneg _
        · exact Int.ofNat_lt.2 this
    · rename_i hm
      rw [if_neg hm]
      simp only [List.length_append, List.length_cons, List.length_nil]
      rcases List.mem_append.1 h with h | h
      · have := ih x h; omega
      · rw [List.mem_singleton.1 h]; omega
theorem metAt_range {nxt : κ → Nat → κ} {start : κ} {m : Nat} : ∀ i, ∀ r ∈ (metAt nxt start m i).2, r.length = m ∧ ∀ x ∈ r, 0 ≤ x ∧ x < (metAt nxt start m i).1.length
  | 0, r, h => by simp [metAt] at h
  | i + 1, r, h => by
    have ih := metAt_range (nxt := nxt) (start := start) (m := m) i
    cases hg : (metAt nxt start m i).1[i]? with
    | none => simp only [metAt, hg] at h ⊢; exact ih r h
    | some s =>
      simp only [metAt, hg] at h ⊢
      have hp := (rowAt_prefix (nxt s) (metAt nxt start m i).1 m).length_le
      rcases List.mem_append.1 h with h | h
      · have := ih r h
        exact ⟨this.1, fun x hx => by have := this.2 x hx; omega⟩
      · rw [List.mem_singleton.1 h]
        exact ⟨rowAt_len _ _ _, rowAt_range m⟩
theorem grown_end {nxt : κ → Nat → κ} {acc : κ → Bool} {start : κ} {m most : Nat} (h : ∀ i, (metAt nxt start m i).1.length ≤ most) : ∃ i, i ≤ most ∧ (∀ j, j < i → j < (metAt nxt start m j).1.length) ∧ (metAt nxt start m i).1.length = i ∧ grown nxt acc start m most = ⟨m, (metAt nxt start m i).2, (metAt nxt start m i).1.map acc⟩ := by
  have hs : ((List.range (most + 1)).find? fun i => decide ((metAt nxt start m i).1.length ≤ i)).isSome := by
    rw [List.find?_isSome]; exact ⟨most, by simp, by simpa using h most⟩
  obtain ⟨i, hi⟩ := Option.isSome_iff_exists.1 hs
  obtain ⟨h1, h2, h3⟩ := List.find?_range_eq_some.1 hi
  have h4 : i ≤ most := by simp at h2; omega
  have h5 : ∀ j, j < i → j < (metAt nxt start m j).1.length := fun j hj => by simpa using h3 j hj
  have h6 : (metAt nxt start m i).1.length ≤ i := by simpa using h1
  refine ⟨i, h4, h5, ?_, grown_is h5 h6 h4⟩
  cases i with
  | zero => omega
  | succ i =>
    have h7 := h5 i (by omega)
    have h8 := (metAt_prefix nxt start m (Nat.le_add_right i 1)).length_le
    omega
end
namespace Dfa
theorem leastR_small {d : Dfa} (h : d.Ok) : d.leastR.sym = d.sym ∧ d.leastR.next.length ≤ d.n ∧ d.leastR.acc.length = d.leastR.next.length ∧ 1 ≤ d.leastR.next.length ∧ ∀ r ∈ d.leastR.next, (r.length : Int) = d.sym ∧ ∀ x ∈ r, 0 ≤ x ∧ x < d.leastR.next.length := by
  have hb : ∀ i, (metAt d.nextC (d.cls 0) d.sym.toNat i).1.length ≤ d.n := fun i => InC.few _ (metAt_nodup _ _ _ i) (metAt_all (p := d.InC) ⟨0, h.n0, rfl⟩ (fun s k hs hk => hs.next h (by have := h.sym0; omega)) i)
  obtain ⟨i, h1, h2, h3, h4⟩ := grown_end (acc := d.accC) hb
  have hr := metAt_rows _ _ _ i h2
  have hs := h.sym0
  have hpos : 1 ≤ (metAt d.nextC (d.cls 0) d.sym.toNat i).1.length := (metAt_prefix d.nextC (d.cls 0) d.sym.toNat (Nat.zero_le i)).length_le
  rw [leastC h, h4]
  refine ⟨by show ((d.sym.toNat : Nat) : Int) = _; omega, by show (metAt _ _ _ i).2.length ≤ _; omega, by simp only [List.length_map]; omega, by show 1 ≤ (metAt _ _ _ i).2.length; omega, fun r hr' => ?_⟩
  have := metAt_range i r hr'
  refine ⟨by omega, fun x hx => ?_⟩
  have h5 := this.2 x hx
  show 0 ≤ x ∧ x < ((metAt _ _ _ i).2.length : Int)
  omega
theorem leastR_fits {d : Dfa} (h : d.Ok) : d.leastR.fits := by
  obtain ⟨_, h2, h3, _, h4⟩ := leastR_small h
  have := h.n1
  have := h.sym1
  exact ⟨by omega, by omega, fun r hr => by have := (h4 r hr).1; omega⟩
theorem zero_fits : zero.fits := ⟨by decide, by decide, fun r hr => by simp at hr⟩
theorem if_fits {d e : Dfa} (h : decide (d.err ≠ 0) = false → e.fits) : (if decide (d.err ≠ 0) then zero else e).fits := by
  cases hd : decide (d.err ≠ 0) with
  | true => exact zero_fits
  | false => exact h hd
def smallD (d : Dfa) : Bool := decide (d.next.length ≤ 24) && (decide (d.acc.length ≤ 24) && d.next.all fun r => decide (r.length ≤ 6))
theorem small_fits {d : Dfa} (h : (!d.smallD) = false) : d.fits := by
  simp only [smallD, Bool.not_eq_false', Bool.and_eq_true, decide_eq_true_eq, List.all_eq_true] at h
  exact ⟨by omega, by omega, fun r hr => by have := h.2.2 r hr; omega⟩
end Dfa

theorem small09 (d : Dfa) : FnC Try.prog 8 [dfaV d] (fun r => r = .bool d.smallD) := by
  refine FnC.of (fn := Try.f8) ⟨Try.func8, by kernel_rfl, rfl⟩ Try.ntmps8 (by simp) fun w0 S0 => ?_
  refine p_seq (p_region fun hf => ?_)
  refine p_box (h := ?_)
  refine p_assign (h := ?_)
  refine p_end ?_
  refine p_seq ?_
  refine p_seq (p_region fun hf => ?_)
  (first | refine p_fieldPtr (hf := F.fld25_1) (h := ?_) | refine p_fieldRef (hf := F.fld25_1) (h := ?_) | refine p_fieldRow (hf := F.fld25_1) (h := ?_))
  (first | refine p_load (ht := F.leaf22) (h := ?_) | refine p_loadRef (ht := F.leaf22) (h := ?_))
  refine p_len (ht := Try.underlying22) (h := ?_)
  refine p_num (h := ?_)
  refine p_move (h := ?_)
  refine p_split (s := 8) (ht := fun hb8 => ?_) (hf := fun hb8 => ?_)
  · -- slot 8 is true
    iterate 4 (refine p_guardNo (h := ?_))
    refine p_pick (h := ?_)
    refine p_end ?_
    refine p_condT (h := ?_)
    refine p_seq (p_region fun hf => ?_)
    refine p_assign (h := ?_)
    refine p_end ?_
    refine TrC.ret ?_
    refine p_ret1 (hp := by have hsm : d.smallD = false := (by simp [Dfa.smallD]; simp at hb8; omega); rw [hsm])
  · -- slot 8 is false
    refine p_guardYes (h := ?_)
    (first | refine p_fieldPtr (hf := F.fld25_2) (h := ?_) | refine p_fieldRef (hf := F.fld25_2) (h := ?_) | refine p_fieldRow (hf := F.fld25_2) (h := ?_))
    refine p_guardYes (h := ?_)
    (first | refine p_load (ht := F.leaf23) (h := ?_) | refine p_loadRef (ht := F.leaf23) (h := ?_))
    refine p_guardYes (h := ?_)
    refine p_len (ht := Try.underlying23) (h := ?_)
    refine p_guardYes (h := ?_)
    refine p_num (h := ?_)
    refine p_pick (h := ?_)
    refine p_end ?_
    refine p_splitC (s := 13) (ht := fun hc13 => ?_) (hf := fun hc13 => ?_)
    · refine p_condT (h := ?_)
      refine p_seq (p_region fun hf => ?_)
      refine p_assign (h := ?_)
      refine p_end ?_
      refine TrC.ret ?_
      refine p_ret1 (hp := by have hsm : d.smallD = false := (by simp [Dfa.smallD]; simp at hc13; omega); rw [hsm])
    · refine p_condF (h := ?_)
      have hl24 : d.next.length ≤ 24 := by simp at hb8; omega
      refine p_skip ?_
      refine p_seq ?_
      refine p_seq (p_region fun hf => ?_)
      refine p_assign (h := ?_)
      refine p_end ?_
      refine TrC.block ?_
      refine p_loop (fun st => ∃ i : Nat, i ≤ d.next.length ∧ (∀ j (hj : j < d.next.length), j < i → d.next[j].length ≤ 6) ∧ st.env 1 = .ptr (0 + 1) 1 0 ∧ st.env 3 = iV i ∧ st.obj (0 + 1) 1 = .cells 25 (dfaL d)) (fun st => d.next.length - (st.env 3).toN) ?_ fun e ob g1 hI => ?_
      · exact ⟨0, by omega, fun j _ h => by omega, eV_, eV_, oB_⟩
      · obtain ⟨i, hi, hal, e1, e3, o1⟩ := hI
        dsimp only at e1 e3 o1
        have hE := (⟨e1, e3, o1⟩ : _ ∧ _ ∧ _)
        refine p_seq ?_
        refine p_seq (p_region fun hf => ?_)
        refine p_move (h := ?_)
        (first | refine p_fieldPtr (hf := F.fld25_1) (h := ?_) | refine p_fieldRef (hf := F.fld25_1) (h := ?_) | refine p_fieldRow (hf := F.fld25_1) (h := ?_))
        (first | refine p_load (ht := F.leaf22) (h := ?_) | refine p_loadRef (ht := F.leaf22) (h := ?_))
        refine p_len (ht := Try.underlying22) (h := ?_)
        refine p_num (h := ?_)
        refine p_end ?_
        refine p_splitC (s := 18) (ht := fun hc18 => ?_) (hf := fun hc18 => ?_)
        · refine p_condT (h := ?_)
          have hlt : i < d.next.length := by simpa using hc18
          refine p_skip ?_
          refine p_seq ?_
          refine TrC.block ?_
          refine p_seq (p_region fun hf => ?_)
          (first | refine p_fieldPtr (hf := F.fld25_1) (h := ?_) | refine p_fieldRef (hf := F.fld25_1) (h := ?_) | refine p_fieldRow (hf := F.fld25_1) (h := ?_))
          (first | refine p_load (ht := F.leaf22) (h := ?_) | refine p_loadRef (ht := F.leaf22) (h := ?_))
          refine p_move (h := ?_)
          refine p_idxMap (j := i) (ht := Try.underlying22) (hi := F.ti26) (hij := rfl) (hj := hlt) (h := ?_)
          (first | refine p_load (ht := F.leaf26) (h := ?_) | refine p_loadRef (ht := F.leaf26) (h := ?_))
          refine p_len (ht := Try.underlying26) (h := ?_)
          refine p_num (h := ?_)
          refine p_end ?_
          refine p_splitC (s := 27) (ht := fun hc27 => ?_) (hf := fun hc27 => ?_)
          · refine p_condT (h := ?_)
            refine p_seq (p_region fun hf => ?_)
            refine p_assign (h := ?_)
            refine p_end ?_
            refine TrC.ret ?_
            refine p_ret1 (hp := by have hsm : d.smallD = false := (by simp only [Dfa.smallD, Bool.and_eq_false_iff]; right; right; rw [List.all_eq_false]; exact ⟨_, List.getElem_mem hlt, by simp at hc27 ⊢; omega⟩); rw [hsm])
          · refine p_condF (h := ?_)
            refine p_skip ?_
            refine p_region fun hf => ?_
            refine p_move (h := ?_)
            refine p_add (r := ((i + 1 : Nat) : Int)) (hr := by omega) (hb := by omega) (h := ?_)
            refine p_assign (h := ?_)
            refine p_end ?_
            refine p_some ?_
            refine ⟨⟨i + 1, hlt, fun j h1 hj => ?_, eV_, eV_, oB_⟩, ?_⟩
            · rcases Nat.lt_succ_iff_lt_or_eq.1 hj with h | h
              · exact hal j h1 h
              · subst h; simp at hc27; omega
            · simp (decide := true) only [upd, e3, V.toN, ↓reduceIte]; omega
        · refine p_condF (h := ?_)
          refine p_exit ?_
          refine p_seq (p_region fun hf => ?_)
          refine p_assign (h := ?_)
          refine p_end ?_
          refine TrC.ret ?_
          refine p_ret1 (hp := by have hsm : d.smallD = true := (by simp only [Dfa.smallD, Bool.and_eq_true, decide_eq_true_eq, List.all_eq_true]; exact ⟨by simp at hb8; omega, by simp at hc13; omega, fun r hr => (by obtain ⟨j, hj, rfl⟩ := List.mem_iff_getElem.1 hr; exact hal j hj (by simp at hc18; omega))⟩); rw [hsm])

theorem reverse_nil  : FnC Try.prog 48 [.nil] (fun r => r = .tup []) := by
  refine FnC.of (fn := Try.f48) ⟨Try.func48, by kernel_rfl, rfl⟩ Try.ntmps48 (by simp) fun w0 S0 => ?_
  refine p_seq (p_region fun hf => ?_)
  refine p_move (h := ?_)
  refine p_len (ht := Try.underlying26) (h := ?_)
  refine p_sub (hr := rfl) (hb := by decide) (h := ?_)
  refine p_assign (h := ?_)
  refine p_assign (h := ?_)
  refine p_end ?_
  refine TrC.block ?_
  refine p_loop (fun st => st.env 2 = iV 0 ∧ st.env 3 = iV (-1)) (fun st => 0) ?_ fun e ob g1 hI => ?_
  · exact ⟨eV_, eV_⟩
  · obtain ⟨e2, e3⟩ := hI
    dsimp only at e2 e3
    have hE := (⟨e2, e3⟩ : _ ∧ _)
    refine p_seq ?_
    refine p_seq (p_region fun hf => ?_)
    refine p_move (h := ?_)
    refine p_move (h := ?_)
    refine p_num (h := ?_)
    refine p_end ?_
    refine p_isC (s := 9) (b := false) (hc := by first | rfl | decide) (h := ?_)
    refine p_condF (h := ?_)
    refine p_exit ?_
    exact p_ret0 rfl rfl

theorem shortest0 (d : Dfa) (h : d.Ok) (h0 : d.ac 0 = true) : FnC Try.prog 31 [dfaV d] (fun r => r = .tup [.nil, .bool true]) := by
  refine FnC.of (fn := Try.f31) ⟨Try.func31, by kernel_rfl, rfl⟩ Try.ntmps31 (by simp) fun w0 S0 => ?_
  have hac0 : 0 < d.acc.length := by have := h.acc; have := h.n0; omega
  refine p_seq (p_region fun hf => ?_)
  refine p_box (h := ?_)
  refine p_assign (h := ?_)
  refine p_assign (h := ?_)
  refine p_end ?_
  refine p_seq (p_region fun hf => ?_)
  refine p_makeMap (mp := .ints []) (hm := rfl) (h := ?_)
  refine p_build (hi := F.ti72) (hpl := F.pl72) (h := ?_)
  refine p_mapInsW (mp := .ints []) (k := .int 0) (v := .agg #[.int .i64 (-1), .int .i64 0]) Try.underlying73 (hk := rfl) (hf := Try.underlying3) (hvf := rfl) (h := ?_)
  refine p_move (h := ?_)
  refine p_assign (h := ?_)
  refine p_end ?_
  refine p_seq (p_region fun hf => ?_)
  refine p_buildSlice (ht := Try.underlying26) (hi := F.ti3) (h := ?_)
  refine p_assign (h := ?_)
  refine p_end ?_
  refine p_seq ?_
  refine p_seq (p_region fun hf => ?_)
  refine p_assign (h := ?_)
  refine p_end ?_
  refine TrC.block ?_
  refine p_loop (fun st => st.env 1 = .ptr (0 + 1) 1 0 ∧ st.env 4 = .map (0 + 1 + 1) 14 ∧ st.env 5 = .row (0 + 1 + 1 + 1) 17 1 ∧ st.env 6 = iV 0 ∧ st.obj (0 + 1) 1 = .cells 25 (dfaL d) ∧ st.obj (0 + 1 + 1) 14 = .map (.ints [(0, .agg #[.int .i64 (-1), .int .i64 0])]) ∧ st.obj (0 + 1 + 1 + 1) 17 = .row 3 ([(0 : Nat)].map fun j : Nat => iV (j : Int))) (fun st => 0) ?_ fun e ob g1 hI => ?_
  · exact ⟨eV_, eV_, eV_, eV_, oB_, oB_, oB_⟩
  · obtain ⟨e1, e4, e5, e6, o1, o14, o17⟩ := hI
    dsimp only at e1 e4 e5 e6 o1 o14 o17
    have hE := (⟨e1, e4, e5, e6, o1, o14, o17⟩ : _ ∧ _ ∧ _ ∧ _ ∧ _ ∧ _ ∧ _)
    refine p_seq ?_
    refine p_seq (p_region fun hf => ?_)
    refine p_move (h := ?_)
    refine p_move (h := ?_)
    refine p_len (ht := Try.underlying26) (h := ?_)
    refine p_num (h := ?_)
    refine p_end ?_
    refine p_isC (s := 21) (b := true) (hc := by first | rfl | decide | simp) (h := ?_)
    refine p_condT (h := ?_)
    refine p_skip ?_
    refine p_seq ?_
    refine TrC.block ?_
    refine p_seq (p_region fun hf => ?_)
    refine p_move (h := ?_)
    refine p_move (h := ?_)
    refine p_idxRowN (0) (ht := Try.underlying26) (hi := F.ti3) (hij := rfl) (hlt := by decide) (h := ?_)
    refine p_loadRowM (ht := F.leaf3) (hj := by decide) (h := ?_)
    refine p_assign (h := ?_)
    refine p_end ?_
    refine p_seq ?_
    refine p_seq (p_region fun hf => ?_)
    (first | refine p_fieldPtr (hf := F.fld25_2) (h := ?_) | refine p_fieldRef (hf := F.fld25_2) (h := ?_) | refine p_fieldRow (hf := F.fld25_2) (h := ?_))
    (first | refine p_load (ht := F.leaf23) (h := ?_) | refine p_loadRef (ht := F.leaf23) (h := ?_))
    refine p_move (h := ?_)
    refine p_idxMap (j := 0) (ht := Try.underlying23) (hi := F.ti4) (hij := rfl) (hj := hac0) (h := ?_)
    rw [Dfa.ac_is hac0]
    (first | refine p_load (ht := F.leaf4) (h := ?_) | refine p_loadRef (ht := F.leaf4) (h := ?_))
    refine p_end ?_
    refine p_isC (s := 32) (b := true) (hc := by exact h0) (h := ?_)
    refine p_condT (h := ?_)
    refine p_seq (p_region fun hf => ?_)
    refine p_assign (h := ?_)
    refine p_end ?_
    refine p_seq ?_
    refine p_seq (p_region fun hf => ?_)
    refine p_move (h := ?_)
    refine p_move (h := ?_)
    refine p_lookOwnW (mp := (.ints [(0, .agg #[.int .i64 (-1), .int .i64 0])])) (k := .int 0) (ht := Try.underlying73) (hi := F.ti72) (hk := rfl) (hf := Try.underlying3) (hv := rfl) (h := ?_)
    refine p_alloc (hi := F.ti72) (h := ?_)
    refine p_storeAll F.ti72 (h := ?_)
    refine p_end ?_
    refine TrC.block ?_
    refine p_loop (fun st => st.env 9 = .ptr (g1 + 1 + 1 + 1 + 1 + 1) 9 0 ∧ st.env 8 = .nil ∧ st.obj (g1 + 1 + 1 + 1 + 1 + 1) 9 = .cells 72 [iV (-1), iV 0]) (fun st => 0) ?_ fun e ob g2 hI => ?_
    · exact ⟨eV_, eV_, oB_⟩
    · obtain ⟨f9, f8, p9⟩ := hI
      dsimp only at f9 f8 p9
      have hE := (⟨f9, f8, p9⟩ : _ ∧ _ ∧ _)
      refine p_seq ?_
      refine p_seq (p_region fun hf => ?_)
      (first | refine p_fieldPtr (hf := F.fld72_0) (h := ?_) | refine p_fieldRef (hf := F.fld72_0) (h := ?_) | refine p_fieldRow (hf := F.fld72_0) (h := ?_))
      (first | refine p_load (ht := F.leaf3) (h := ?_) | refine p_loadRef (ht := F.leaf3) (h := ?_))
      refine p_num (h := ?_)
      refine p_end ?_
      refine p_isC (s := 38) (b := false) (hc := by first | rfl | decide) (h := ?_)
      refine p_condF (h := ?_)
      refine p_exit ?_
      refine p_seq (p_region fun hf => ?_)
      refine p_move (h := ?_)
      refine p_call (hx := rfl) (hb := ⟨Try.func48, by kernel_rfl, rfl⟩) (hf := reverse_nil) (h := ?_)
      refine p_end ?_
      refine p_seq (p_region fun hf => ?_)
      refine p_move (h := ?_)
      refine p_assign (h := ?_)
      refine p_assign (h := ?_)
      refine p_end ?_
      refine TrC.ret ?_
      refine p_rets2 rfl ⟨eV_, rfl⟩ ⟨eV_, rfl⟩ rfl

theorem first0 (d : Dfa) (hfit : d.fits) (he : d.err = 0) (h0 : d.ac 0 = true) : FnC Try.prog 12 [dfaV d] (fun r => r = .tup [.nil, .bool true, iV 0]) := by
  refine FnC.of (fn := Try.f12) ⟨Try.func12, by kernel_rfl, rfl⟩ Try.ntmps12 (by simp) fun w0 S0 => ?_
  refine p_seq (p_region fun hf => ?_)
  refine p_box (h := ?_)
  refine p_assign (h := ?_)
  refine p_assign (h := ?_)
  refine p_assign (h := ?_)
  refine p_end ?_
  refine p_seq ?_
  refine p_seq (p_region fun hf => ?_)
  (first | refine p_loadA (ht := F.agg25) (hi := F.ti25) (h := ?_) | refine p_loadRefA (ht := F.agg25) (hi := F.ti25) (h := ?_))
  refine p_call (hx := rfl) (hb := ⟨Try.func21, by kernel_rfl, rfl⟩) (hf := check09 d hfit) (h := ?_)
  refine p_assign (h := ?_)
  refine p_end ?_
  refine p_seq (p_region fun hf => ?_)
  refine p_move (h := ?_)
  refine p_num (h := ?_)
  refine p_end ?_
  refine p_isC (s := 11) (b := false) (hc := by rw [he]; rfl) (h := ?_)
  refine p_condF (h := ?_)
  refine p_skip ?_
  refine p_seq (p_region fun hf => ?_)
  (first | refine p_loadA (ht := F.agg25) (hi := F.ti25) (h := ?_) | refine p_loadRefA (ht := F.agg25) (hi := F.ti25) (h := ?_))
  refine p_call (hx := rfl) (hb := ⟨Try.func31, by kernel_rfl, rfl⟩) (hf := shortest0 d (Dfa.ok_err (by rw [he]; rfl)) h0) (h := ?_)
  refine p_move (h := ?_)
  refine p_extract (h := ?_)
  refine p_extract (h := ?_)
  refine p_assign (h := ?_)
  refine p_assign (h := ?_)
  refine p_end ?_
  refine p_seq (p_region fun hf => ?_)
  refine p_move (h := ?_)
  refine p_move (h := ?_)
  refine p_assign (h := ?_)
  refine p_assign (h := ?_)
  refine p_assign (h := ?_)
  refine p_end ?_
  refine TrC.ret ?_
  refine p_rets3 rfl ⟨eV_, rfl⟩ ⟨eV_, rfl⟩ ⟨eV_, rfl⟩ rfl

def even3 : Dfa := ⟨1, [[1], [2], [1]], [true, false, true]⟩
def even2 : Dfa := ⟨1, [[1], [0]], [true, false]⟩
theorem even_least : even3.leastR = even2 := by kernel_rfl
theorem least_even : FnC Try.prog 17 [dfaV even3] (fun r => r = .tup [dfaV even2, iV 0]) := by
  have := Least09 even3 ⟨by decide, by decide, by decide⟩
  rwa [show (if decide (even3.err ≠ 0) then Dfa.zero else even3.leastR) = even2 by rw [even_least]; rfl, show even3.err = 0 by rfl] at this
theorem count_even : FnC Try.prog 14 [dfaV even2, iV 4] (fun r => r = .tup [iV 1, iV 0]) := count09 even2 ⟨by decide, by decide, by decide⟩ 4

theorem alive09  : FnC Try.prog 9 [] (fun r => r = .bool true) := by
  refine FnC.of (fn := Try.f9) ⟨Try.func9, by kernel_rfl, rfl⟩ Try.ntmps9 (by simp) fun w0 S0 => ?_
  refine p_seq (p_region fun hf => ?_)
  refine p_assign (h := ?_)
  refine p_end ?_
  refine p_seq (p_region fun hf => ?_)
  refine p_buildSlice (ht := Try.underlying26) (hi := F.ti3) (h := ?_)
  refine p_buildSlice (ht := Try.underlying26) (hi := F.ti3) (h := ?_)
  refine p_buildSlice (ht := Try.underlying26) (hi := F.ti3) (h := ?_)
  refine p_freezeW (g1 := 0 + 1 + 1) (d1 := 9) (h := ?_)
  refine p_toSlW (s := 9) (hn := by rfl) (h := ?_)
  refine p_freezeW (g1 := 0 + 1 + 1) (d1 := 10) (h := ?_)
  refine p_toSlW (s := 10) (hn := by rfl) (h := ?_)
  refine p_freezeW (g1 := 0 + 1 + 1) (d1 := 11) (h := ?_)
  refine p_toSlW (s := 11) (hn := by rfl) (h := ?_)
  refine p_buildSlice (ht := Try.underlying22) (hi := F.ti26) (h := ?_)
  refine p_buildSlice (ht := Try.underlying23) (hi := F.ti4) (h := ?_)
  refine p_freezeW (g1 := 0 + 1 + 1) (d1 := 12) (h := ?_)
  refine p_toSlW (s := 12) (hn := by rfl) (h := ?_)
  refine p_freezeW (g1 := 0 + 1 + 1) (d1 := 13) (h := ?_)
  refine p_toSlW (s := 13) (hn := by rfl) (h := ?_)
  refine p_build (hi := F.ti25) (hpl := F.pl25) (h := ?_)
  refine p_call (hx := rfl) (hb := ⟨Try.func17, by kernel_rfl, rfl⟩) (hf := least_even) (h := ?_)
  refine p_move (h := ?_)
  refine p_extract (h := ?_)
  refine p_extract (h := ?_)
  refine p_alloc (hi := F.ti25) (h := ?_)
  refine p_storeAll F.ti25 (h := ?_)
  refine p_assign (h := ?_)
  refine p_end ?_
  refine p_seq (p_region fun hf => ?_)
  (first | refine p_loadA (ht := F.agg25) (hi := F.ti25) (h := ?_) | refine p_loadRefA (ht := F.agg25) (hi := F.ti25) (h := ?_))
  refine p_call (hx := rfl) (hb := ⟨Try.func12, by kernel_rfl, rfl⟩) (hf := first0 even2 ⟨by decide, by decide, by decide⟩ rfl rfl) (h := ?_)
  refine p_move (h := ?_)
  refine p_extract (h := ?_)
  refine p_extract (h := ?_)
  refine p_extract (h := ?_)
  refine p_assign (h := ?_)
  refine p_assign (h := ?_)
  refine p_assign (h := ?_)
  refine p_end ?_
  refine p_seq (p_region fun hf => ?_)
  (first | refine p_loadA (ht := F.agg25) (hi := F.ti25) (h := ?_) | refine p_loadRefA (ht := F.agg25) (hi := F.ti25) (h := ?_))
  refine p_call (hx := rfl) (hb := ⟨Try.func14, by kernel_rfl, rfl⟩) (hf := count_even) (h := ?_)
  refine p_move (h := ?_)
  refine p_extract (h := ?_)
  refine p_extract (h := ?_)
  refine p_assign (h := ?_)
  refine p_assign (h := ?_)
  refine p_end ?_
  refine p_seq (p_region fun hf => ?_)
  refine p_move (h := ?_)
  refine p_num (h := ?_)
  refine p_move (h := ?_)
  refine p_split (s := 31) (ht := fun hb31 => ?_) (hf := fun hb31 => ?_)
  · -- slot 31 is true
    refine p_guardYes (h := ?_)
    refine p_move (h := ?_)
    refine p_guardYes (h := ?_)
    refine p_num (h := ?_)
    refine p_pick (h := ?_)
    refine p_move (h := ?_)
    refine p_split (s := 35) (ht := fun hb35 => ?_) (hf := fun hb35 => ?_)
    · -- slot 35 is true
      refine p_guardYes (h := ?_)
      refine p_move (h := ?_)
      refine p_guardYes (h := ?_)
      refine p_num (h := ?_)
      refine p_pick (h := ?_)
      refine p_move (h := ?_)
      refine p_split (s := 39) (ht := fun hb39 => ?_) (hf := fun hb39 => ?_)
      · -- slot 39 is true
        refine p_guardYes (h := ?_)
        (first | refine p_fieldPtr (hf := F.fld25_1) (h := ?_) | refine p_fieldRef (hf := F.fld25_1) (h := ?_) | refine p_fieldRow (hf := F.fld25_1) (h := ?_))
        refine p_guardYes (h := ?_)
        (first | refine p_load (ht := F.leaf22) (h := ?_) | refine p_loadRef (ht := F.leaf22) (h := ?_))
        refine p_guardYes (h := ?_)
        refine p_len (ht := Try.underlying22) (h := ?_)
        refine p_guardYes (h := ?_)
        refine p_num (h := ?_)
        refine p_pick (h := ?_)
        refine p_move (h := ?_)
        refine p_split (s := 45) (ht := fun hb45 => ?_) (hf := fun hb45 => ?_)
        · -- slot 45 is true
          refine p_guardYes (h := ?_)
          (first | refine p_fieldPtr (hf := F.fld25_1) (h := ?_) | refine p_fieldRef (hf := F.fld25_1) (h := ?_) | refine p_fieldRow (hf := F.fld25_1) (h := ?_))
          refine p_guardYes (h := ?_)
          (first | refine p_load (ht := F.leaf22) (h := ?_) | refine p_loadRef (ht := F.leaf22) (h := ?_))
          refine p_guardYes (h := ?_)
          refine p_idxSl (ht := Try.underlying22) (hi := F.ti26) (h0 := by decide) (hv := by rfl) (h := ?_)
          refine p_guardYes (h := ?_)
          (first | refine p_load (ht := F.leaf26) (h := ?_) | refine p_loadRef (ht := F.leaf26) (h := ?_))
          refine p_guardYes (h := ?_)
          refine p_idxSl (ht := Try.underlying26) (hi := F.ti3) (h0 := by decide) (hv := by rfl) (h := ?_)
          refine p_guardYes (h := ?_)
          (first | refine p_load (ht := F.leaf3) (h := ?_) | refine p_loadRef (ht := F.leaf3) (h := ?_))
          refine p_guardYes (h := ?_)
          refine p_num (h := ?_)
          refine p_pick (h := ?_)
          refine p_move (h := ?_)
          refine p_split (s := 54) (ht := fun hb54 => ?_) (hf := fun hb54 => ?_)
          · -- slot 54 is true
            refine p_guardYes (h := ?_)
            (first | refine p_fieldPtr (hf := F.fld25_1) (h := ?_) | refine p_fieldRef (hf := F.fld25_1) (h := ?_) | refine p_fieldRow (hf := F.fld25_1) (h := ?_))
            refine p_guardYes (h := ?_)
            (first | refine p_load (ht := F.leaf22) (h := ?_) | refine p_loadRef (ht := F.leaf22) (h := ?_))
            refine p_guardYes (h := ?_)
            refine p_idxSl (ht := Try.underlying22) (hi := F.ti26) (h0 := by decide) (hv := by rfl) (h := ?_)
            refine p_guardYes (h := ?_)
            (first | refine p_load (ht := F.leaf26) (h := ?_) | refine p_loadRef (ht := F.leaf26) (h := ?_))
            refine p_guardYes (h := ?_)
            refine p_idxSl (ht := Try.underlying26) (hi := F.ti3) (h0 := by decide) (hv := by rfl) (h := ?_)
            refine p_guardYes (h := ?_)
            (first | refine p_load (ht := F.leaf3) (h := ?_) | refine p_loadRef (ht := F.leaf3) (h := ?_))
            refine p_guardYes (h := ?_)
            refine p_num (h := ?_)
            refine p_pick (h := ?_)
            refine p_move (h := ?_)
            refine p_split (s := 63) (ht := fun hb63 => ?_) (hf := fun hb63 => ?_)
            · -- slot 63 is true
              refine p_guardYes (h := ?_)
              (first | refine p_fieldPtr (hf := F.fld25_2) (h := ?_) | refine p_fieldRef (hf := F.fld25_2) (h := ?_) | refine p_fieldRow (hf := F.fld25_2) (h := ?_))
              refine p_guardYes (h := ?_)
              (first | refine p_load (ht := F.leaf23) (h := ?_) | refine p_loadRef (ht := F.leaf23) (h := ?_))
              refine p_guardYes (h := ?_)
              refine p_idxSl (ht := Try.underlying23) (hi := F.ti4) (h0 := by decide) (hv := by rfl) (h := ?_)
              refine p_guardYes (h := ?_)
              (first | refine p_load (ht := F.leaf4) (h := ?_) | refine p_loadRef (ht := F.leaf4) (h := ?_))
              refine p_pick (h := ?_)
              refine p_move (h := ?_)
              refine p_split (s := 69) (ht := fun hb69 => ?_) (hf := fun hb69 => ?_)
              · -- slot 69 is true
                refine p_guardYes (h := ?_)
                refine p_move (h := ?_)
                refine p_pick (h := ?_)
                refine p_move (h := ?_)
                refine p_split (s := 72) (ht := fun hb72 => ?_) (hf := fun hb72 => ?_)
                · -- slot 72 is true
                  refine p_guardYes (h := ?_)
                  refine p_move (h := ?_)
                  refine p_guardYes (h := ?_)
                  refine p_len (ht := Try.underlying26) (h := ?_)
                  refine p_guardYes (h := ?_)
                  refine p_num (h := ?_)
                  refine p_pick (h := ?_)
                  refine p_move (h := ?_)
                  refine p_split (s := 77) (ht := fun hb77 => ?_) (hf := fun hb77 => ?_)
                  · -- slot 77 is true
                    refine p_guardYes (h := ?_)
                    refine p_move (h := ?_)
                    refine p_guardYes (h := ?_)
                    refine p_num (h := ?_)
                    refine p_pick (h := ?_)
                    refine p_assign (h := ?_)
                    refine p_end ?_
                    refine TrC.ret ?_
                    refine p_ret1 (hp := by first | rfl | simp)
                  · exact absurd hb77 (by decide)
                · exact absurd hb72 (by decide)
              · exact absurd hb69 (by decide)
            · exact absurd hb63 (by decide)
          · exact absurd hb54 (by decide)
        · exact absurd hb45 (by decide)
      · exact absurd hb39 (by decide)
    · exact absurd hb35 (by decide)
  · exact absurd hb31 (by decide)
end Go.Proofs.Ytdpljpmohpifbaa
