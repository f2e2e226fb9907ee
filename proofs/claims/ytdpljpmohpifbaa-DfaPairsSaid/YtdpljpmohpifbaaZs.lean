/-
  dfa's shortest and First, walked: they answer the first word that is taken.
-/
import Derived.Test.YtdpljpmohpifbaaZr
set_option linter.unusedSimpArgs false
set_option linter.unusedVariables false
namespace Go.Proofs.Ytdpljpmohpifbaa
open Go.RowKit
/-- How long a slice of the call's own is. -/
def V.rowN : V → Nat
  | .row _ _ n => n
  | _ => 0
namespace Dfa
def firstE (d : Dfa) : (List Int × Bool) × Int := if decide (d.err ≠ 0) then (([], false), d.err) else (d.firstR, 0)
theorem fromI_of {d : Dfa} {C : Cm} (h : Came d C) {x : Nat × Nat × Nat} (hx : x ∈ C) (h0 : x.1 ≠ 0) : fromI C x.1 = x.2.1 ∧ byI C x.1 = x.2.2 := by
  rw [fromI, byI, h.entry hx]; simp [h0]
theorem fromI_zero {d : Dfa} {C : Cm} (h : Came d C) : fromI C 0 = -1 := by
  have := h.entry (List.mem_of_getElem? h.root)
  rw [fromI, this]; rfl
theorem wordC_len (C : Cm) : ∀ (f t : Nat), (wordC C f t).length ≤ f
  | 0, _ => Nat.le_refl _
  | f + 1, t => by
    rw [wordC]; split
    · exact Nat.zero_le _
    · split
      · have := wordC_len C f
        simp [this]
      · exact Nat.zero_le _
theorem word_len (C : Cm) (t : Nat) : (word C t).length ≤ C.length := wordC_len C _ t
theorem cameRow_hit {d : Dfa} {s k : Nat} {C : Cm} (h : (!decide (d.nx s k ∈ (d.cameRow s C k).keys)) = false) : d.cameRow s C (k + 1) = d.cameRow s C k := by
  rw [cameRow, if_pos (by simpa using h)]
theorem cameRow_new {d : Dfa} {s k : Nat} {C : Cm} (h : (!decide (d.nx s k ∈ (d.cameRow s C k).keys)) = true) : d.cameRow s C (k + 1) = d.cameRow s C k ++ [(d.nx s k, s, k)] := by
  rw [cameRow, if_neg (by simpa using h)]
end Dfa

theorem shortest09 (d : Dfa) (h : d.Ok) : FnC Try.prog 31 [dfaV d] (fun r => r = .tup [.sl 3 (d.firstR.1.map iV), .bool d.firstR.2]) := by
  refine FnC.of (fn := Try.f31) ⟨Try.func31, by kernel_rfl, rfl⟩ Try.ntmps31 (by simp) fun w0 S0 => ?_
  have hn1 := h.n1
  have hn0 := h.n0
  have hacc := h.acc
  have hn : d.n = d.next.length := rfl
  have hs1 := h.sym1
  obtain ⟨m, hm⟩ : ∃ m : Nat, d.sym.toNat = m := ⟨_, rfl⟩
  have hs0 := h.sym0
  refine p_seq (p_region fun hf => ?_)
  refine p_box (h := ?_)
  refine p_assign (h := ?_)
  refine p_assign (h := ?_)
  refine p_end ?_
  refine p_seq (p_region fun hf => ?_)
  refine p_makeMap (mp := .ints []) (hm := rfl) (h := ?_)
  refine p_build (hi := F.ti72) (hpl := F.pl72) (h := ?_)
  refine p_mapInsW (mp := .ints []) (k := .int 0) (v := .agg #[.int .i64 (-1), .int .i64 0]) Try.underlying73 (hk := rfl) (hf := Try.underlying3) (hvf := rfl) (h := ?_)
  refine p_move (h := ?_)
  refine p_assign (h := ?_)
  refine p_end ?_
  refine p_seq (p_region fun hf => ?_)
  refine p_buildSlice (ht := Try.underlying26) (hi := F.ti3) (h := ?_)
  refine p_assign (h := ?_)
  refine p_end ?_
  refine p_seq ?_
  refine p_seq (p_region fun hf => ?_)
  refine p_assign (h := ?_)
  refine p_end ?_
  refine p_renSlot (s := 5) 79 (h := ?_)
  refine TrC.block ?_
  refine p_loop (fun st => ∃ i q : Nat, i ≤ d.n ∧ d.firstR = d.firstF (d.n + 1 - i) i ∧ st.env 1 = .ptr (0 + 1) 1 0 ∧ st.env 4 = .map (0 + 1 + 1) 14 ∧ st.env 6 = iV i ∧ st.env 5 = .row q 79 (d.cameAt i).length ∧ st.obj (0 + 1) 1 = .cells 25 (dfaL d) ∧ st.obj (0 + 1 + 1) 14 = .map (.ints (Dfa.mapC (d.cameAt i))) ∧ st.obj q 79 = .row 3 ((d.cameAt i).map fun x => iV x.1)) (fun st => d.n - (st.env 6).toN) ?_ fun e ob g1 hI => ?_
  · exact ⟨0, _, by omega, rfl, eV_, eV_, eV_, eV_, oB_, oB_, oB_⟩
  · obtain ⟨i, q, hi, hfr, e1, e4, e6, e5, o1, o14, o79⟩ := hI
    dsimp only at e1 e4 e6 e5 o1 o14 o79
    have hE := (⟨e1, e4, e6, e5, o1, o14, o79⟩ : _ ∧ _ ∧ _ ∧ _ ∧ _ ∧ _ ∧ _)
    have hC := Dfa.cameAt_came h i
    have hlen := hC.len
    refine p_seq ?_
    refine p_seq (p_region fun hf => ?_)
    refine p_move (h := ?_)
    refine p_move (h := ?_)
    refine p_len (ht := Try.underlying26) (h := ?_)
    refine p_num (h := ?_)
    refine p_end ?_
    refine p_splitC (s := 21) (ht := fun hc21 => ?_) (hf := fun hc21 => ?_)
    · refine p_condT (h := ?_)
      have hlt : i < (d.cameAt i).length := by simpa using hc21
      obtain ⟨s, hs⟩ : ∃ s, s = (d.cameAt i)[i].1 := ⟨_, rfl⟩
      have hx : (d.cameAt i)[i]? = some (d.cameAt i)[i] := List.getElem?_eq_getElem hlt
      have hxm := List.getElem_mem hlt
      have hsk : s ∈ (d.cameAt i).keys := by rw [hs]; exact List.mem_map.2 ⟨_, hxm, rfl⟩
      have hsN : s < d.n := by rw [hs]; exact hC.lt _ hxm
      have hsa : s < d.acc.length := by omega
      have hsn : s < d.next.length := by omega
      have hrl := (h.rows _ (List.getElem_mem hsn)).1
      refine p_skip ?_
      refine p_seq ?_
      refine TrC.block ?_
      refine p_seq (p_region fun hf => ?_)
      refine p_move (h := ?_)
      refine p_move (h := ?_)
      refine p_idxRowN (i) (ht := Try.underlying26) (hi := F.ti3) (hij := rfl) (hlt := hlt) (h := ?_)
      refine p_loadRowM (ht := F.leaf3) (hj := hlt) (h := ?_)
      rw [← hs]
      refine p_assign (h := ?_)
      refine p_end ?_
      refine p_seq ?_
      refine p_seq (p_region fun hf => ?_)
      (first | refine p_fieldPtr (hf := F.fld25_2) (h := ?_) | refine p_fieldRef (hf := F.fld25_2) (h := ?_) | refine p_fieldRow (hf := F.fld25_2) (h := ?_))
      (first | refine p_load (ht := F.leaf23) (h := ?_) | refine p_loadRef (ht := F.leaf23) (h := ?_))
      refine p_move (h := ?_)
      refine p_idxMap (j := s) (ht := Try.underlying23) (hi := F.ti4) (hij := rfl) (hj := hsa) (h := ?_)
      rw [Dfa.ac_is hsa]
      (first | refine p_load (ht := F.leaf4) (h := ?_) | refine p_loadRef (ht := F.leaf4) (h := ?_))
      refine p_end ?_
      refine p_splitC (s := 32) (ht := fun hc32 => ?_) (hf := fun hc32 => ?_)
      all_goals rw [hs] at hc32
      · refine p_condT (h := ?_)
        refine p_seq (p_region fun hf => ?_)
        refine p_assign (h := ?_)
        refine p_end ?_
        refine p_seq ?_
        refine p_seq (p_region fun hf => ?_)
        refine p_move (h := ?_)
        refine p_move (h := ?_)
        refine p_lookOwnW (mp := .ints (Dfa.mapC (d.cameAt i))) (k := .int s) (ht := Try.underlying73) (hi := F.ti72) (hk := rfl) (hf := Try.underlying3) (hv := Dfa.look_came (d.cameAt i) s) (h := ?_)
        refine p_alloc (hi := F.ti72) (h := ?_)
        refine p_storeAll F.ti72 (h := ?_)
        refine p_end ?_
        refine p_nilSlot (s := 8) (el := 3) 47 (h := ?_)
        refine TrC.block ?_
        refine p_loop (fun st => ∃ (G r t : Nat) (pre : List Int), t ∈ (d.cameAt i).keys ∧ pre ++ Dfa.word (d.cameAt i) t = Dfa.word (d.cameAt i) s ∧ st.env 4 = .map (0 + 1 + 1) 14 ∧ st.env 8 = .row r 47 pre.length ∧ st.env 9 = .ptr G 9 0 ∧ st.obj (0 + 1 + 1) 14 = .map (.ints (Dfa.mapC (d.cameAt i))) ∧ st.obj r 47 = .row 3 (pre.map iV) ∧ st.obj G 9 = .cells 72 [iV (Dfa.fromI (d.cameAt i) t), iV (Dfa.byI (d.cameAt i) t)]) (fun st => (Dfa.word (d.cameAt i) s).length - (st.env 8).rowN) ?_ fun e ob g2 hI => ?_
        · exact ⟨_, _, s, [], hsk, rfl, eV_, eV_, eV_, oB_, oB_, oB_⟩
        · obtain ⟨G, r, t, pre, htk, hpre, f4, f8, f9, p14, p47, p9⟩ := hI
          dsimp only at f4 f8 f9 p14 p47 p9
          have hE := (⟨f4, f8, f9, p14, p47, p9⟩ : _ ∧ _ ∧ _ ∧ _ ∧ _ ∧ _)
          refine p_seq ?_
          refine p_seq (p_region fun hf => ?_)
          (first | refine p_fieldPtr (hf := F.fld72_0) (h := ?_) | refine p_fieldRef (hf := F.fld72_0) (h := ?_) | refine p_fieldRow (hf := F.fld72_0) (h := ?_))
          (first | refine p_load (ht := F.leaf3) (h := ?_) | refine p_loadRef (ht := F.leaf3) (h := ?_))
          refine p_num (h := ?_)
          refine p_end ?_
          refine p_splitC (s := 38) (ht := fun hc38 => ?_) (hf := fun hc38 => ?_)
          · refine p_condT (h := ?_)
            have ht0 : t ≠ 0 := fun e => by subst e; rw [Dfa.fromI_zero hC] at hc38; simp at hc38
            obtain ⟨x', hx'm, hx't⟩ := List.mem_map.1 htk
            subst hx't
            have hfb := Dfa.fromI_of hC hx'm ht0
            have hwu := Dfa.word_up hC hx'm ht0
            have hwl : pre.length ≤ (Dfa.word (d.cameAt i) s).length := by rw [← hpre]; simp
            have hwn := Dfa.word_len (d.cameAt i) s
            refine p_skip ?_
            refine p_seq ?_
            refine TrC.block ?_
            refine p_region fun hf => ?_
            refine p_move (h := ?_)
            (first | refine p_fieldPtr (hf := F.fld72_1) (h := ?_) | refine p_fieldRef (hf := F.fld72_1) (h := ?_) | refine p_fieldRow (hf := F.fld72_1) (h := ?_))
            (first | refine p_load (ht := F.leaf3) (h := ?_) | refine p_loadRef (ht := F.leaf3) (h := ?_))
            refine p_buildSlice (ht := Try.underlying26) (hi := F.ti3) (h := ?_)
            refine p_append (k := pre.length + 1) (ht := Try.underlying26) (hi := F.ti3) (hnl := by simp) (hy := by exact ⟨.inl oB_, rfl⟩) (hm := by simp) (hlim := by omega) (h := ?_)
            refine p_assign (h := ?_)
            refine p_end ?_
            refine p_seq ?_
            refine p_seq (p_region fun hf => ?_)
            (first | refine p_loadA (ht := F.agg72) (hi := F.ti72) (h := ?_) | refine p_loadRefA (ht := F.agg72) (hi := F.ti72) (h := ?_))
            refine p_end ?_
            refine p_region fun hf => ?_
            refine p_alloc (hi := F.ti72) (h := ?_)
            refine p_storeAll F.ti72 (h := ?_)
            refine p_end ?_
            refine p_region fun hf => ?_
            refine p_move (h := ?_)
            (first | refine p_fieldPtr (hf := F.fld72_0) (h := ?_) | refine p_fieldRef (hf := F.fld72_0) (h := ?_) | refine p_fieldRow (hf := F.fld72_0) (h := ?_))
            (first | refine p_load (ht := F.leaf3) (h := ?_) | refine p_loadRef (ht := F.leaf3) (h := ?_))
            refine p_lookOwnW (mp := .ints (Dfa.mapC (d.cameAt i))) (k := .int x'.2.1) (ht := Try.underlying73) (hi := F.ti72) (hk := by rw [hfb.1]; rfl) (hf := Try.underlying3) (hv := Dfa.look_came (d.cameAt i) x'.2.1) (h := ?_)
            refine p_storeAll F.ti72 (h := ?_)
            refine p_end ?_
            refine p_some ?_
            refine ⟨⟨_, _, x'.2.1, pre ++ [(x'.2.2 : Int)], hwu.2, by rw [← hpre, hwu.1]; simp, eV_, by rw [List.length_append]; exact eV_, eV_, oB_, by refine Eq.trans oB_ ?_; rw [hfb.2, List.map_append]; rfl, oB_⟩, ?_⟩
            simp (decide := true) only [upd, f8, V.rowN, ↓reduceIte]
            rw [← hpre, hwu.1]; simp; omega
          · refine p_condF (h := ?_)
            have hpl : pre.length ≤ 1000000000 := by
              have h1 := Dfa.word_len (d.cameAt i) s
              have h2 : pre.length ≤ (Dfa.word (d.cameAt i) s).length := by rw [← hpre]; simp
              omega
            have hrest : Dfa.word (d.cameAt i) t = [] := by
              by_cases ht0 : t = 0
              · rw [ht0]; exact Dfa.word_zero _
              · obtain ⟨x', hx'm, hx't⟩ := List.mem_map.1 htk
                subst hx't
                have hfb := Dfa.fromI_of hC hx'm ht0
                rw [hfb.1] at hc38; simp at hc38 <;> omega
            refine p_exit ?_
            refine p_seq (p_region fun hf => ?_)
            refine p_move (h := ?_)
            refine p_callIn (hf := reverse_in _ r 47 pre oB_ hpl) (h := fun g9 => ?_)
            refine p_end ?_
            refine p_seq (p_region fun hf => ?_)
            refine p_move (h := ?_)
            refine p_assign (h := ?_)
            refine p_assign (h := ?_)
            refine p_end ?_
            refine TrC.ret ?_
            refine p_freeze (g1 := r) (d1 := 47) (h := ?_)
            refine p_toSl (s := 2) (hn := by simp) (h := ?_)
            refine p_rets2 rfl ⟨eV_, rfl⟩ ⟨eV_, rfl⟩ (by rw [Dfa.first_hit hfr hi hx hc32, ← hs, ← hpre, hrest, List.append_nil])
      · refine p_condF (h := ?_)
        refine p_skip ?_
        refine p_seq (p_region fun hf => ?_)
        (first | refine p_fieldPtr (hf := F.fld25_1) (h := ?_) | refine p_fieldRef (hf := F.fld25_1) (h := ?_) | refine p_fieldRow (hf := F.fld25_1) (h := ?_))
        (first | refine p_load (ht := F.leaf22) (h := ?_) | refine p_loadRef (ht := F.leaf22) (h := ?_))
        refine p_move (h := ?_)
        refine p_idxMap (j := s) (ht := Try.underlying22) (hi := F.ti26) (hij := rfl) (hj := hsn) (h := ?_)
        (first | refine p_load (ht := F.leaf26) (h := ?_) | refine p_loadRef (ht := F.leaf26) (h := ?_))
        refine p_len (ht := Try.underlying26) (h := ?_)
        refine p_move (h := ?_)
        refine p_end ?_
        refine TrC.block ?_
        refine p_loop (fun st => ∃ k q2 : Nat, k ≤ m ∧ st.env 1 = .ptr (0 + 1) 1 0 ∧ st.env 4 = .map (0 + 1 + 1) 14 ∧ st.env 6 = iV i ∧ st.env 5 = .row q2 79 (d.cameRow s (d.cameAt i) k).length ∧ st.env 7 = iV s ∧ st.env 56 = rowV d.next[s] ∧ st.env 57 = iV d.next[s].length ∧ st.env 58 = iV k ∧ st.obj (0 + 1) 1 = .cells 25 (dfaL d) ∧ st.obj (0 + 1 + 1) 14 = .map (.ints (Dfa.mapC (d.cameRow s (d.cameAt i) k))) ∧ st.obj q2 79 = .row 3 ((d.cameRow s (d.cameAt i) k).map fun x => iV x.1)) (fun st => m - (st.env 58).toN) ?_ fun e ob g3 hI => ?_
        · exact ⟨0, _, by omega, eV_, eV_, eV_, eV_, eV_, eV_, eV_, eV_, oB_, oB_, oB_⟩
        · obtain ⟨k, q2, hk, f1, f4, f6, f5, f7, f56, f57, f58, p1, p14, p79⟩ := hI
          dsimp only at f1 f4 f6 f5 f7 f56 f57 f58 p1 p14 p79
          have hE := (⟨f1, f4, f6, f5, f7, f56, f57, f58, p1, p14, p79⟩ : _ ∧ _ ∧ _ ∧ _ ∧ _ ∧ _ ∧ _ ∧ _ ∧ _ ∧ _ ∧ _)
          have hCK := Dfa.cameRow_came h hC hsk k (by omega)
          have hlk := hCK.len
          refine p_seq (p_region fun hf => ?_)
          refine p_num (h := ?_)
          refine p_end ?_
          refine p_seq ?_
          refine p_splitC (s := 59) (ht := fun hc59 => ?_) (hf := fun hc59 => ?_)
          · refine p_condT (h := ?_)
            have hkl : k < d.next[s].length := by simpa using hc59
            refine p_skip ?_
            refine p_seq ?_
            refine TrC.block ?_
            refine p_seq (p_region fun hf => ?_)
            refine p_move (h := ?_)
            refine p_idxMap (j := k) (ht := Try.underlying26) (hi := F.ti3) (hij := rfl) (hj := hkl) (h := ?_)
            rw [Dfa.nx_is h hsn hkl]
            (first | refine p_load (ht := F.leaf3) (h := ?_) | refine p_loadRef (ht := F.leaf3) (h := ?_))
            refine p_assign (h := ?_)
            refine p_assign (h := ?_)
            refine p_end ?_
            refine p_seq (p_region fun hf => ?_)
            refine p_move (h := ?_)
            refine p_move (h := ?_)
            refine p_lookOwnW (mp := .ints (Dfa.mapC (d.cameRow s (d.cameAt i) k))) (k := .int (d.nx s k)) (ht := Try.underlying73) (hi := F.ti72) (hk := rfl) (hf := Try.underlying3) (hv := Dfa.look_came2 (d.cameRow s (d.cameAt i) k) (d.nx s k)) (h := ?_)
            refine p_move (h := ?_)
            refine p_extract (h := ?_)
            refine p_extract (h := ?_)
            refine p_alloc (hi := F.ti72) (h := ?_)
            refine p_storeAll F.ti72 (h := ?_)
            refine p_assign (h := ?_)
            refine p_end ?_
            refine p_seq (p_region fun hf => ?_)
            refine p_move (h := ?_)
            refine p_not (h := ?_)
            refine p_end ?_
            refine p_splitC (s := 70) (ht := fun hc70 => ?_) (hf := fun hc70 => ?_)
            · refine p_condT (h := ?_)
              have hnew : d.nx s k ∉ (d.cameRow s (d.cameAt i) k).keys := by simpa using hc70
              have ht0 : d.nx s k ≠ 0 := fun e => hnew (by rw [e]; exact hCK.zero)
              have hput := Dfa.put_came (s := s) (k := k) hnew ht0
              refine p_seq (p_region fun hf => ?_)
              refine p_move (h := ?_)
              refine p_move (h := ?_)
              refine p_move (h := ?_)
              refine p_move (h := ?_)
              refine p_build (hi := F.ti72) (hpl := F.pl72) (h := ?_)
              refine p_mapPutW (mp := .ints (Dfa.mapC (d.cameRow s (d.cameAt i) k))) (k := .int (d.nx s k)) (v := .agg #[.int .i64 s, .int .i64 k]) Try.underlying73 (hk := rfl) (hf := Try.underlying3) (hvf := rfl) (h := ?_)
              refine p_end ?_
              refine p_region fun hf => ?_
              refine p_move (h := ?_)
              refine p_move (h := ?_)
              refine p_buildSlice (ht := Try.underlying26) (hi := F.ti3) (h := ?_)
              refine p_append (k := (d.cameRow s (d.cameAt i) k).length + 1) (ht := Try.underlying26) (hi := F.ti3) (hnl := by simp) (hy := by exact ⟨.inl oB_, rfl⟩) (hm := by simp) (hlim := by omega) (h := ?_)
              refine p_assign (h := ?_)
              refine p_end ?_
              refine p_region fun hf => ?_
              refine p_add (r := ((k + 1 : Nat) : Int)) (hr := by omega) (hb := by omega) (h := ?_)
              refine p_move (h := ?_)
              refine p_end ?_
              refine p_some ?_
              have hxr := Dfa.cameRow_new hc70
              refine ⟨⟨k + 1, _, by omega, eV_, eV_, eV_, by rw [hxr, List.length_append]; exact eV_, eV_, eV_, eV_, eV_, oB_, by refine Eq.trans oB_ ?_; rw [hxr]; exact congrArg (fun z => Ob.map (.ints z)) hput, by refine Eq.trans oB_ ?_; rw [hxr, List.map_append]; rfl⟩, ?_⟩
              simp (decide := true) only [upd, f58, V.toN, ↓reduceIte]; omega
            · refine p_condF (h := ?_)
              refine p_skip ?_
              refine p_region fun hf => ?_
              refine p_add (r := ((k + 1 : Nat) : Int)) (hr := by omega) (hb := by omega) (h := ?_)
              refine p_move (h := ?_)
              refine p_end ?_
              refine p_some ?_
              have hxr := Dfa.cameRow_hit hc70
              refine ⟨⟨k + 1, _, by omega, eV_, eV_, eV_, by rw [hxr]; exact eV_, eV_, eV_, eV_, eV_, oB_, by rw [hxr]; exact oB_, by rw [hxr]; exact oB_⟩, ?_⟩
              simp (decide := true) only [upd, f58, V.toN, ↓reduceIte]; omega
          · refine p_condF (h := ?_)
            have hkm : m = k := by simp at hc59; omega
            subst hkm
            refine p_exit ?_
            refine p_region fun hf => ?_
            refine p_move (h := ?_)
            refine p_add (r := ((i + 1 : Nat) : Int)) (hr := by omega) (hb := by omega) (h := ?_)
            refine p_assign (h := ?_)
            refine p_end ?_
            refine p_some ?_
            have hx' := Dfa.cameAt_next hx
            rw [hm, ← hs] at hx'
            refine ⟨⟨i + 1, _, by omega, Dfa.first_more hfr hi hx hc32, eV_, eV_, eV_, by rw [hx']; exact eV_, oB_, by rw [hx']; exact oB_, by rw [hx']; exact oB_⟩, ?_⟩
            simp (decide := true) only [upd, e6, f6, V.toN, ↓reduceIte]; omega
    · refine p_condF (h := ?_)
      have hge : (d.cameAt i).length ≤ i := by simp at hc21; omega
      refine p_exit ?_
      refine p_seq (p_region fun hf => ?_)
      refine p_assign (h := ?_)
      refine p_assign (h := ?_)
      refine p_end ?_
      refine TrC.ret ?_
      refine p_nilSl (s := 2) (t := 3) (h := ?_)
      refine p_rets2 rfl ⟨eV_, rfl⟩ ⟨eV_, rfl⟩ (by rw [Dfa.first_none hfr hi hge]; rfl)

theorem First09 (d : Dfa) (hfit : d.fits) : FnC Try.prog 12 [dfaV d] (fun r => r = .tup [.sl 3 ((Dfa.firstE d).1.1.map iV), .bool (Dfa.firstE d).1.2, iV (Dfa.firstE d).2]) := by
  refine FnC.of (fn := Try.f12) ⟨Try.func12, by kernel_rfl, rfl⟩ Try.ntmps12 (by simp) fun w0 S0 => ?_
  refine p_seq (p_region fun hf => ?_)
  refine p_box (h := ?_)
  refine p_assign (h := ?_)
  refine p_assign (h := ?_)
  refine p_assign (h := ?_)
  refine p_end ?_
  refine p_seq ?_
  refine p_seq (p_region fun hf => ?_)
  (first | refine p_loadA (ht := F.agg25) (hi := F.ti25) (h := ?_) | refine p_loadRefA (ht := F.agg25) (hi := F.ti25) (h := ?_))
  refine p_call (hx := rfl) (hb := ⟨Try.func21, by kernel_rfl, rfl⟩) (hf := check09 d hfit) (h := ?_)
  refine p_assign (h := ?_)
  refine p_end ?_
  refine p_seq (p_region fun hf => ?_)
  refine p_move (h := ?_)
  refine p_num (h := ?_)
  refine p_end ?_
  refine p_splitC (s := 11) (ht := fun hc11 => ?_) (hf := fun hc11 => ?_)
  · refine p_condT (h := ?_)
    refine p_seq (p_region fun hf => ?_)
    refine p_move (h := ?_)
    refine p_assign (h := ?_)
    refine p_assign (h := ?_)
    refine p_assign (h := ?_)
    refine p_end ?_
    refine TrC.ret ?_
    refine p_nilSl (s := 2) (t := 3) (h := ?_)
    refine p_rets3 rfl ⟨eV_, rfl⟩ ⟨eV_, rfl⟩ ⟨eV_, rfl⟩ (by simp only [Dfa.firstE, hc11, ↓reduceIte]; rfl)
  · refine p_condF (h := ?_)
    refine p_skip ?_
    refine p_seq (p_region fun hf => ?_)
    (first | refine p_loadA (ht := F.agg25) (hi := F.ti25) (h := ?_) | refine p_loadRefA (ht := F.agg25) (hi := F.ti25) (h := ?_))
    refine p_call (hx := rfl) (hb := ⟨Try.func31, by kernel_rfl, rfl⟩) (hf := shortest09 d (Dfa.ok_err hc11)) (h := ?_)
    refine p_move (h := ?_)
    refine p_extract (h := ?_)
    refine p_extract (h := ?_)
    refine p_assign (h := ?_)
    refine p_assign (h := ?_)
    refine p_end ?_
    refine p_seq (p_region fun hf => ?_)
    refine p_move (h := ?_)
    refine p_move (h := ?_)
    refine p_assign (h := ?_)
    refine p_assign (h := ?_)
    refine p_assign (h := ?_)
    refine p_end ?_
    refine TrC.ret ?_
    refine p_rets3 rfl ⟨eV_, rfl⟩ ⟨eV_, rfl⟩ ⟨eV_, rfl⟩ (by simp only [Dfa.firstE, hc11, Bool.false_eq_true, ↓reduceIte])

end Go.Proofs.Ytdpljpmohpifbaa
