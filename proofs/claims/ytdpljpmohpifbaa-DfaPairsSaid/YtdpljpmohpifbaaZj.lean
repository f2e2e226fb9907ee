/-
  The reference's least, Least and Not, walked: they answer as dfa's.
-/
import Derived.Test.YtdpljpmohpifbaaZi
set_option linter.unusedSimpArgs false
set_option linter.unusedVariables false
namespace Go.Proofs.Ytdpljpmohpifbaa
open Go.RowKit
/-- A thing's place, or below 0. -/
def numOf {κ : Type} [DecidableEq κ] (l : List κ) (c : κ) : Int := if c ∈ l then nmOf c l else -1
theorem nmOf_nonneg {κ : Type} [DecidableEq κ] (c : κ) (l : List κ) : 0 ≤ nmOf c l := by
  unfold nmOf; split
  · exact Int.natCast_nonneg _
  · exact Int.le_refl _
theorem numOf_neg {κ : Type} [DecidableEq κ] (l : List κ) (c : κ) : decide (numOf l c < 0) = !decide (c ∈ l) := by
  unfold numOf
  by_cases h : c ∈ l
  · have := nmOf_nonneg c l
    rw [if_pos h]; simp [h]; omega
  · rw [if_neg h]; simp [h]
theorem numOf_old {κ : Type} [DecidableEq κ] {l : List κ} {c : κ} (h : c ∈ l) : numOf l c = ((l.idxOf c : Nat) : Int) := by rw [numOf, if_pos h, nmOf_mem h]
theorem numOf_new {κ : Type} [DecidableEq κ] {l : List κ} {c : κ} (h : c ∉ l) (j : κ) : numOf (l ++ [c]) j = if j = c then (l.length : Int) else numOf l j := by
  by_cases hj : j = c
  · subst hj
    rw [if_pos rfl, numOf_old (by simp), List.idxOf_append, if_neg h]; simp
  · rw [if_neg hj]
    by_cases hm : j ∈ l
    · rw [numOf_old (by simp [hm]), numOf_old hm, List.idxOf_append, if_pos hm]
    · rw [numOf, numOf, if_neg hm, if_neg (by simp [hm, hj])]
theorem numOf_one {κ : Type} [DecidableEq κ] (c j : κ) : numOf [c] j = if j = c then 0 else -1 := by
  by_cases hj : j = c
  · subst hj; rw [if_pos rfl, numOf_old (by simp)]; simp
  · rw [if_neg hj, numOf, if_neg (by simp [hj])]
namespace Dfa
def nextC (d : Dfa) (c k : Nat) : Nat := d.cls (d.nx (d.firstI c) k)
def accC (d : Dfa) (c : Nat) : Bool := d.ac (d.firstI c)
def InC (d : Dfa) (c : Nat) : Prop := ∃ i, i < d.n ∧ c = d.cls i
theorem InC.lt {d : Dfa} {c : Nat} (h : d.InC c) : c < d.n := by obtain ⟨i, hi, rfl⟩ := h; exact cls_lt hi
theorem InC.first {d : Dfa} {c : Nat} (h : d.InC c) : d.firstI c < d.n ∧ d.cls (d.firstI c) = c := by
  obtain ⟨i, hi, rfl⟩ := h; exact ⟨firstI_lt hi, cls_first hi⟩
theorem InC.next {d : Dfa} (hd : d.Ok) {c k : Nat} (h : d.InC c) (hk : (k : Int) < d.sym) : d.InC (d.nextC c k) := ⟨_, hd.nx_lt h.first.1 hk, rfl⟩
theorem InC.few {d : Dfa} (l : List Nat) (h : l.Nodup) (hp : ∀ s ∈ l, d.InC s) : l.length ≤ d.n := by
  have := nodup_le (l' := List.range d.n) h fun s hs => by simpa using (hp s hs).lt
  simpa using this
/-- A state of a class goes where the first of the class goes. -/
theorem nextC_is {d : Dfa} (hd : d.Ok) {t k : Nat} (ht : t < d.n) (hk : (k : Int) < d.sym) : d.nextC (d.cls t) k = d.cls (d.nx t k) :=
  cls_nx hd (firstI_lt ht) ht hk (cls_first ht)
theorem accC_is {d : Dfa} {t : Nat} (ht : t < d.n) : d.accC (d.cls t) = d.ac t := cls_ac (firstI_lt ht) ht (cls_first ht)
theorem leastC {d : Dfa} (hd : d.Ok) : d.leastR = grown d.nextC d.accC (d.cls 0) d.sym.toNat d.n :=
  grown_map (fun c : Nat => ((c : Int), (d.firstI c : Int))) (p := d.InC) (fun a b _ _ h => Int.ofNat_inj.1 (Prod.ext_iff.1 h).1) ⟨0, hd.n0, rfl⟩ rfl
    (fun s k hs hk => ⟨hs.next hd (by have := hd.sym0; omega), rfl⟩) (fun s hs => rfl)
end Dfa

theorem fill_next {i : Nat} (j : Nat) : iV (if j < i + 1 then -1 else 0) = if j = i then iV (-1) else iV (if j < i then -1 else 0) := by
  by_cases hj : j = i
  · subst hj; simp
  · rw [if_neg hj]
    by_cases hlt : j < i
    · rw [if_pos hlt, if_pos (by omega)]
    · rw [if_neg hlt, if_neg (by omega)]

theorem leastRef (d : Dfa) (h : d.Ok) : FnC Try.prog 34 [dfaV d] (fun r => r = dfaV d.leastR) := by
  refine FnC.of (fn := Try.f34) ⟨Try.func34, by kernel_rfl, rfl⟩ Try.ntmps34 (by simp) fun w0 S0 => ?_
  have hn1 := h.n1
  have hn0 := h.n0
  have hacc := h.acc
  have hn : d.n = d.next.length := rfl
  have hs1 := h.sym1
  have h00 : 0 < d.clsL.length := by rw [Dfa.clsL_len]; exact h.n0
  obtain ⟨m, hm⟩ : ∃ m : Nat, d.sym = m := ⟨d.sym.toNat, by have := h.sym0; omega⟩
  have hmn : d.sym.toNat = m := by omega
  refine p_seq (p_region fun hf => ?_)
  refine p_box (h := ?_)
  refine p_alloc (hi := F.ti25) (h := ?_)
  refine p_end ?_
  refine p_seq (p_region fun hf => ?_)
  (first | refine p_loadA (ht := F.agg25) (hi := F.ti25) (h := ?_) | refine p_loadRefA (ht := F.agg25) (hi := F.ti25) (h := ?_))
  refine p_call (hx := rfl) (hb := ⟨Try.func54, by kernel_rfl, rfl⟩) (hf := classesR d h) (h := ?_)
  refine p_assign (h := ?_)
  refine p_end ?_
  refine p_seq (p_region fun hf => ?_)
  refine p_move (h := ?_)
  refine p_len (ht := Try.underlying26) (h := ?_)
  refine p_make (n := d.clsL.length) (ht := Try.underlying26) (hi := F.ti3) (hz := rfl) (hzv := rfl) (hro := rfl) (hx := by simp (decide := true) only [evE, upd, ↓reduceIte, List.length_map] <;> rfl) (hb := by rw [Dfa.clsL_len]; omega) (h63 := by rw [Dfa.clsL_len]; omega) (h := ?_)
  refine p_assign (h := ?_)
  refine p_end ?_
  refine p_seq ?_
  refine p_seq (p_region fun hf => ?_)
  refine p_assign (h := ?_)
  refine p_end ?_
  refine TrC.block ?_
  refine p_loop (fun st => ∃ i : Nat, i ≤ d.n ∧ st.env 1 = .ptr (0 + 1) 1 0 ∧ st.env 2 = .ptr (0 + 1) 2 0 ∧ st.env 3 = .sl 3 (d.clsL.map iV) ∧ st.env 4 = .row (0 + 1 + 1 + 1) 16 d.n ∧ st.env 5 = iV i ∧ st.obj (0 + 1) 1 = .cells 25 (dfaL d) ∧ st.obj (0 + 1) 2 = .cells 25 [iV 0, .nil, .nil] ∧ st.obj (0 + 1 + 1 + 1) 16 = .row 3 ((List.range d.n).map fun j => iV (if j < i then -1 else 0))) (fun st => d.n - (st.env 5).toN) ?_ fun e ob g1 hI => ?_
  · exact ⟨0, by omega, eV_, eV_, eV_, by refine Eq.trans eV_ ?_; rw [Dfa.clsL_len], eV_, oB_, oB_, by refine Eq.trans oB_ ?_; rw [Dfa.clsL_len, replicate_range]; rfl⟩
  · obtain ⟨i, hi, e1, e2, e3, e4, e5, o1, o2, o16⟩ := hI
    dsimp only at e1 e2 e3 e4 e5 o1 o2 o16
    have hE := (⟨e1, e2, e3, e4, e5, o1, o2, o16⟩ : _ ∧ _ ∧ _ ∧ _ ∧ _ ∧ _ ∧ _ ∧ _)
    refine p_seq ?_
    refine p_seq (p_region fun hf => ?_)
    refine p_move (h := ?_)
    refine p_move (h := ?_)
    refine p_len (ht := Try.underlying26) (h := ?_)
    refine p_num (h := ?_)
    refine p_end ?_
    refine p_splitC (s := 20) (ht := fun hc20 => ?_) (hf := fun hc20 => ?_)
    · refine p_condT (h := ?_)
      have hlt1 : i < d.n := by simpa using hc20
      refine p_skip ?_
      refine p_seq ?_
      refine TrC.block ?_
      refine p_region fun hf => ?_
      refine p_move (h := ?_)
      refine p_move (h := ?_)
      refine p_idxRowN (i) (ht := Try.underlying26) (hi := F.ti3) (hij := rfl) (hlt := hlt1) (h := ?_)
      refine p_storeRowF (f' := fun j => iV (if j < i + 1 then -1 else 0)) F.ti3 (TI.cells F.ti3) (hlt := hlt1) (hf := fun j _ => fill_next j) (h := ?_)
      refine p_end ?_
      refine p_region fun hf => ?_
      refine p_move (h := ?_)
      refine p_add (r := ((i + 1 : Nat) : Int)) (hr := by omega) (hb := by omega) (h := ?_)
      refine p_assign (h := ?_)
      refine p_end ?_
      refine p_some ?_
      refine ⟨⟨i + 1, by omega, eV_, eV_, eV_, eV_, eV_, oB_, oB_, oB_⟩, ?_⟩
      simp (decide := true) only [upd, e5, V.toN, ↓reduceIte]; omega
    · refine p_condF (h := ?_)
      have hie : i = d.n := by simp at hc20; omega
      refine p_exit ?_
      refine p_seq (p_region fun hf => ?_)
      (first | refine p_fieldPtr (hf := F.fld25_0) (h := ?_) | refine p_fieldRef (hf := F.fld25_0) (h := ?_) | refine p_fieldRow (hf := F.fld25_0) (h := ?_))
      (first | refine p_load (ht := F.leaf3) (h := ?_) | refine p_loadRef (ht := F.leaf3) (h := ?_))
      refine p_build (hi := F.ti25) (hpl := F.pl25) (h := ?_)
      refine p_alloc (hi := F.ti25) (h := ?_)
      refine p_storeAll F.ti25 (h := ?_)
      refine p_end ?_
      refine p_seq (p_region fun hf => ?_)
      refine p_buildSlice (ht := Try.underlying26) (hi := F.ti3) (h := ?_)
      refine p_assign (h := ?_)
      refine p_end ?_
      refine p_seq (p_region fun hf => ?_)
      refine p_move (h := ?_)
      refine p_move (h := ?_)
      refine p_idxMap (j := 0) (ht := Try.underlying26) (hi := F.ti3) (hij := rfl) (hj := h00) (h := ?_)
      rw [Dfa.clsL_get h00]
      (first | refine p_load (ht := F.leaf3) (h := ?_) | refine p_loadRef (ht := F.leaf3) (h := ?_))
      refine p_idxRowN (d.cls 0) (ht := Try.underlying26) (hi := F.ti3) (hij := rfl) (hlt := Dfa.cls_lt h.n0) (h := ?_)
      refine p_storeRowF (f' := fun c => iV (numOf [d.cls 0] c)) F.ti3 (TI.cells F.ti3) (hlt := Dfa.cls_lt h.n0) (hf := fun j hj => by rw [numOf_one]; by_cases hjc : j = d.cls 0 <;> simp [hjc, hie, hj]) (h := ?_)
      refine p_end ?_
      refine p_seq ?_
      refine p_seq (p_region fun hf => ?_)
      refine p_assign (h := ?_)
      refine p_end ?_
      refine p_nilCell (g1 := g1 + 1 + 1) (d1 := 6) (i := 1) (el := 26) 95 (h := ?_)
      refine p_nilCell (g1 := g1 + 1 + 1) (d1 := 6) (i := 2) (el := 4) 108 (h := ?_)
      refine p_renSlot (s := 7) 80 (h := ?_)
      refine TrC.block ?_
      refine p_loop (fun st => ∃ (i q1 q2 q3 : Nat) (sts : List Nat), (∀ j, j < i → j < (metAt d.nextC (d.cls 0) m j).1.length) ∧ sts.map d.cls = (metAt d.nextC (d.cls 0) m i).1 ∧ (∀ t ∈ sts, t < d.n) ∧ st.env 1 = .ptr (0 + 1) 1 0 ∧ st.env 2 = .ptr (0 + 1) 2 0 ∧ st.env 3 = .sl 3 (d.clsL.map iV) ∧ st.env 4 = .row (0 + 1 + 1 + 1) 16 d.n ∧ st.env 6 = .ptr (g1 + 1 + 1) 6 0 ∧ st.env 8 = iV i ∧ st.env 7 = .row q3 80 sts.length ∧ st.obj (0 + 1) 1 = .cells 25 (dfaL d) ∧ st.obj (0 + 1) 2 = .cells 25 [iV 0, .nil, .nil] ∧ st.obj (g1 + 1 + 1) 6 = .cells 25 [iV d.sym, .row q1 95 i, .row q2 108 i] ∧ st.obj q1 95 = .row 26 ((metAt d.nextC (d.cls 0) m i).2.map rowV) ∧ st.obj q2 108 = .row 4 (((metAt d.nextC (d.cls 0) m i).1.take i).map fun c => .bool (d.accC c)) ∧ st.obj (0 + 1 + 1 + 1) 16 = .row 3 ((List.range d.n).map fun c => iV (numOf (metAt d.nextC (d.cls 0) m i).1 c)) ∧ st.obj q3 80 = .row 3 (sts.map fun j : Nat => iV (j : Int))) (fun st => d.n - (st.env 8).toN) ?_ fun e ob g2 hI => ?_
      · exact ⟨0, _, _, _, [0], fun j h => by omega, rfl, fun t ht => by simp at ht; omega, eV_, eV_, eV_, eV_, eV_, eV_, eV_, oB_, oB_, oB_, oB_, oB_, oB_, oB_⟩
      · obtain ⟨i, q1, q2, q3, sts, hall, hst, hsn, e1, e2, e3, e4, e6, e8, e7, o1, o2, o6, o95, o108, o16, o80⟩ := hI
        dsimp only at e1 e2 e3 e4 e6 e8 e7 o1 o2 o6 o95 o108 o16 o80
        have hE := (⟨e1, e2, e3, e4, e6, e8, e7, o1, o2, o6, o95, o108, o16, o80⟩ : _ ∧ _ ∧ _ ∧ _ ∧ _ ∧ _ ∧ _ ∧ _ ∧ _ ∧ _ ∧ _ ∧ _ ∧ _ ∧ _)
        have hpm := metAt_all (p := d.InC) (nxt := d.nextC) (start := d.cls 0) (m := m) ⟨0, h.n0, rfl⟩ (fun s k hs hk => hs.next h (by omega)) i
        have hlen := Dfa.InC.few _ (metAt_nodup d.nextC (d.cls 0) m i) hpm
        have hrl := metAt_rows d.nextC (d.cls 0) m i hall
        have hsl : sts.length = (metAt d.nextC (d.cls 0) m i).1.length := by rw [← hst, List.length_map]
        have hil : i ≤ (metAt d.nextC (d.cls 0) m i).1.length := by
          cases i with
          | zero => exact Nat.zero_le _
          | succ i => exact Nat.le_trans (hall i (by omega)) (metAt_prefix d.nextC (d.cls 0) m (Nat.le_succ i)).length_le
        refine p_seq ?_
        refine p_seq (p_region fun hf => ?_)
        refine p_move (h := ?_)
        refine p_move (h := ?_)
        refine p_len (ht := Try.underlying26) (h := ?_)
        refine p_num (h := ?_)
        refine p_end ?_
        refine p_splitC (s := 38) (ht := fun hc38 => ?_) (hf := fun hc38 => ?_)
        · refine p_condT (h := ?_)
          have hlts : i < sts.length := by simpa using hc38
          have hlt : i < (metAt d.nextC (d.cls 0) m i).1.length := by omega
          obtain ⟨s, hs⟩ : ∃ s, s = (metAt d.nextC (d.cls 0) m i).1[i] := ⟨_, rfl⟩
          have hps : d.InC s := by rw [hs]; exact hpm _ (List.getElem_mem hlt)
          obtain ⟨t, ht0⟩ : ∃ t, t = sts[i] := ⟨_, rfl⟩
          have htn : t < d.n := by rw [ht0]; exact hsn _ (List.getElem_mem hlts)
          have hct : d.cls t = s := by rw [ht0, hs]; simp only [← hst, List.getElem_map]
          have ht4 : t < d.next.length := htn
          have ht3 : t < d.acc.length := by omega
          refine p_skip ?_
          refine p_seq ?_
          refine TrC.block ?_
          refine p_seq (p_region fun hf => ?_)
          (first | refine p_fieldPtr (hf := F.fld25_0) (h := ?_) | refine p_fieldRef (hf := F.fld25_0) (h := ?_) | refine p_fieldRow (hf := F.fld25_0) (h := ?_))
          (first | refine p_load (ht := F.leaf3) (h := ?_) | refine p_loadRef (ht := F.leaf3) (h := ?_))
          refine p_make (n := m) (ht := Try.underlying26) (hi := F.ti3) (hz := rfl) (hzv := rfl) (hro := rfl) (hx := by rw [← hm]; exact eV_) (hb := by omega) (h63 := by omega) (h := ?_)
          refine p_assign (h := ?_)
          refine p_end ?_
          refine p_seq ?_
          refine p_seq (p_region fun hf => ?_)
          refine p_assign (h := ?_)
          refine p_end ?_
          refine TrC.block ?_
          refine p_loop (fun st => ∃ (k q4 : Nat) (sts : List Nat), k ≤ m ∧ sts.map d.cls = (rowAt (d.nextC s) (metAt d.nextC (d.cls 0) m i).1 k).1 ∧ (∀ t ∈ sts, t < d.n) ∧ sts[i]? = some t ∧ st.env 1 = .ptr (0 + 1) 1 0 ∧ st.env 2 = .ptr (0 + 1) 2 0 ∧ st.env 3 = .sl 3 (d.clsL.map iV) ∧ st.env 4 = .row (0 + 1 + 1 + 1) 16 d.n ∧ st.env 6 = .ptr (g1 + 1 + 1) 6 0 ∧ st.env 8 = iV i ∧ st.env 7 = .row q4 80 sts.length ∧ st.env 9 = .row (g2 + 1 + 1) 43 m ∧ st.env 10 = iV k ∧ st.obj (0 + 1) 1 = .cells 25 (dfaL d) ∧ st.obj (0 + 1) 2 = .cells 25 [iV 0, .nil, .nil] ∧ st.obj (g1 + 1 + 1) 6 = .cells 25 [iV d.sym, .row q1 95 i, .row q2 108 i] ∧ st.obj q1 95 = .row 26 ((metAt d.nextC (d.cls 0) m i).2.map rowV) ∧ st.obj q2 108 = .row 4 (((metAt d.nextC (d.cls 0) m i).1.take i).map fun c => .bool (d.accC c)) ∧ st.obj (0 + 1 + 1 + 1) 16 = .row 3 ((List.range d.n).map fun c => iV (numOf (rowAt (d.nextC s) (metAt d.nextC (d.cls 0) m i).1 k).1 c)) ∧ st.obj q4 80 = .row 3 (sts.map fun j : Nat => iV (j : Int)) ∧ st.obj (g2 + 1 + 1) 43 = .row 3 ((List.range m).map fun j => iV ((rowAt (d.nextC s) (metAt d.nextC (d.cls 0) m i).1 k).2.getD j 0))) (fun st => m - (st.env 10).toN) ?_ fun e ob g3 hI => ?_
          · exact ⟨0, _, sts, by omega, hst, hsn, by rw [ht0]; exact List.getElem?_eq_getElem hlts, eV_, eV_, eV_, eV_, eV_, eV_, eV_, eV_, eV_, oB_, oB_, oB_, oB_, oB_, oB_, oB_, by refine Eq.trans oB_ ?_; rw [replicate_range]; rfl⟩
          · obtain ⟨k, q4, sts', hk, hst', hsn', hsi, f1, f2, f3, f4, f6, f8, f7, f9, f10, p1, p2, p6, p95, p108, p16, p80, p43⟩ := hI
            dsimp only at f1 f2 f3 f4 f6 f8 f7 f9 f10 p1 p2 p6 p95 p108 p16 p80 p43
            have hE := (⟨f1, f2, f3, f4, f6, f8, f7, f9, f10, p1, p2, p6, p95, p108, p16, p80, p43⟩ : _ ∧ _ ∧ _ ∧ _ ∧ _ ∧ _ ∧ _ ∧ _ ∧ _ ∧ _ ∧ _ ∧ _ ∧ _ ∧ _ ∧ _ ∧ _ ∧ _)
            have hpr := rowAt_all (f := d.nextC s) hpm k (fun j hj => hps.next h (by omega))
            have hndr := rowAt_nodup (f := d.nextC s) (metAt_nodup d.nextC (d.cls 0) m i) k
            have hlr := Dfa.InC.few _ hndr hpr
            have hrk := rowAt_len (d.nextC s) (metAt d.nextC (d.cls 0) m i).1 k
            have hsl' : sts'.length = (rowAt (d.nextC s) (metAt d.nextC (d.cls 0) m i).1 k).1.length := by rw [← hst', List.length_map]
            obtain ⟨his, hget⟩ := List.getElem?_eq_some_iff.1 hsi
            refine p_seq ?_
            refine p_seq (p_region fun hf => ?_)
            refine p_move (h := ?_)
            (first | refine p_fieldPtr (hf := F.fld25_0) (h := ?_) | refine p_fieldRef (hf := F.fld25_0) (h := ?_) | refine p_fieldRow (hf := F.fld25_0) (h := ?_))
            (first | refine p_load (ht := F.leaf3) (h := ?_) | refine p_loadRef (ht := F.leaf3) (h := ?_))
            refine p_num (h := ?_)
            refine p_end ?_
            refine p_splitC (s := 47) (ht := fun hc47 => ?_) (hf := fun hc47 => ?_)
            · refine p_condT (h := ?_)
              have hkm : k < m := by simp at hc47; omega
              have hks : (k : Int) < d.sym := by omega
              have hkt := Dfa.row_len' h ht4 hks
              have hnc : d.nx t k < d.clsL.length := by rw [Dfa.clsL_len]; exact h.nx_lt htn hks
              have hcl : d.cls (d.nx t k) < d.n := Dfa.cls_lt (h.nx_lt htn hks)
              have hnx : d.nextC s k = d.cls (d.nx t k) := by rw [← hct]; exact Dfa.nextC_is h htn hks
              refine p_skip ?_
              refine p_seq ?_
              refine TrC.block ?_
              refine p_seq (p_draw F.mixed fun hf => ?_)
              (first | refine p_fieldPtr (hf := F.fld25_1) (h := ?_) | refine p_fieldRef (hf := F.fld25_1) (h := ?_) | refine p_fieldRow (hf := F.fld25_1) (h := ?_))
              (first | refine p_load (ht := F.leaf22) (h := ?_) | refine p_loadRef (ht := F.leaf22) (h := ?_))
              refine p_move (h := ?_)
              refine p_move (h := ?_)
              refine p_idxRowN (i) (ht := Try.underlying26) (hi := F.ti3) (hij := rfl) (hlt := his) (h := ?_)
              refine p_loadRowM (ht := F.leaf3) (hj := his) (h := ?_)
              simp only [hget]
              refine p_idxMap (j := t) (ht := Try.underlying22) (hi := F.ti26) (hij := rfl) (hj := ht4) (h := ?_)
              (first | refine p_load (ht := F.leaf26) (h := ?_) | refine p_loadRef (ht := F.leaf26) (h := ?_))
              refine p_move (h := ?_)
              refine p_idxMap (j := k) (ht := Try.underlying26) (hi := F.ti3) (hij := rfl) (hj := hkt) (h := ?_)
              rw [Dfa.nx_is h ht4 hkt]
              (first | refine p_load (ht := F.leaf3) (h := ?_) | refine p_loadRef (ht := F.leaf3) (h := ?_))
              refine p_assign (h := ?_)
              refine p_endD ?_
              refine p_seq ?_
              refine p_seq (p_region fun hf => ?_)
              refine p_move (h := ?_)
              refine p_move (h := ?_)
              refine p_move (h := ?_)
              refine p_idxMap (j := d.nx t k) (ht := Try.underlying26) (hi := F.ti3) (hij := rfl) (hj := hnc) (h := ?_)
              rw [Dfa.clsL_get hnc]
              (first | refine p_load (ht := F.leaf3) (h := ?_) | refine p_loadRef (ht := F.leaf3) (h := ?_))
              refine p_idxRowN (d.cls (d.nx t k)) (ht := Try.underlying26) (hi := F.ti3) (hij := rfl) (hlt := hcl) (h := ?_)
              refine p_loadRowF (ht := F.leaf3) (hi := hcl) (h := ?_)
              refine p_num (h := ?_)
              refine p_end ?_
              refine p_splitC (s := 68) (ht := fun hc68 => ?_) (hf := fun hc68 => ?_)
              · refine p_condT (h := ?_)
                rw [numOf_neg] at hc68
                have hnew : d.cls (d.nx t k) ∉ (rowAt (d.nextC s) (metAt d.nextC (d.cls 0) m i).1 k).1 := by simpa using hc68
                refine p_seq (p_region fun hf => ?_)
                refine p_move (h := ?_)
                refine p_move (h := ?_)
                refine p_move (h := ?_)
                refine p_idxMap (j := d.nx t k) (ht := Try.underlying26) (hi := F.ti3) (hij := rfl) (hj := hnc) (h := ?_)
                rw [Dfa.clsL_get hnc]
                (first | refine p_load (ht := F.leaf3) (h := ?_) | refine p_loadRef (ht := F.leaf3) (h := ?_))
                refine p_move (h := ?_)
                refine p_len (ht := Try.underlying26) (h := ?_)
                refine p_idxRowN (d.cls (d.nx t k)) (ht := Try.underlying26) (hi := F.ti3) (hij := rfl) (hlt := hcl) (h := ?_)
                refine p_storeRowF (f' := fun c => iV (numOf ((rowAt (d.nextC s) (metAt d.nextC (d.cls 0) m i).1 k).1 ++ [d.cls (d.nx t k)]) c)) F.ti3 (TI.cells F.ti3) (hlt := hcl) (hf := fun j _ => by rw [numOf_new hnew]; by_cases hj : j = d.cls (d.nx t k) <;> simp [hj, hsl']) (h := ?_)
                refine p_end ?_
                refine p_region fun hf => ?_
                refine p_move (h := ?_)
                refine p_move (h := ?_)
                refine p_buildSlice (ht := Try.underlying26) (hi := F.ti3) (h := ?_)
                refine p_append (k := sts'.length + 1) (ht := Try.underlying26) (hi := F.ti3) (hnl := by simp) (hy := by exact ⟨.inl oB_, rfl⟩) (hm := by simp) (hlim := by omega) (h := ?_)
                refine p_assign (h := ?_)
                refine p_end ?_
                refine p_region fun hf => ?_
                refine p_move (h := ?_)
                refine p_move (h := ?_)
                refine p_move (h := ?_)
                refine p_move (h := ?_)
                refine p_move (h := ?_)
                refine p_idxMap (j := d.nx t k) (ht := Try.underlying26) (hi := F.ti3) (hij := rfl) (hj := hnc) (h := ?_)
                rw [Dfa.clsL_get hnc]
                (first | refine p_load (ht := F.leaf3) (h := ?_) | refine p_loadRef (ht := F.leaf3) (h := ?_))
                refine p_idxRowN (d.cls (d.nx t k)) (ht := Try.underlying26) (hi := F.ti3) (hij := rfl) (hlt := hcl) (h := ?_)
                refine p_loadRowF (ht := F.leaf3) (hi := hcl) (h := ?_)
                refine p_idxRowN (k) (ht := Try.underlying26) (hi := F.ti3) (hij := rfl) (hlt := hkm) (h := ?_)
                refine p_storeRowF (f' := fun j => iV (((rowAt (d.nextC s) (metAt d.nextC (d.cls 0) m i).1 k).2 ++ [numOf ((rowAt (d.nextC s) (metAt d.nextC (d.cls 0) m i).1 k).1 ++ [d.cls (d.nx t k)]) (d.cls (d.nx t k))]).getD j 0)) F.ti3 (TI.cells F.ti3) (hlt := hkm) (hf := fun j _ => rowF_next hrk j) (h := ?_)
                refine p_end ?_
                refine p_region fun hf => ?_
                refine p_move (h := ?_)
                refine p_add (r := ((k + 1 : Nat) : Int)) (hr := by omega) (hb := by omega) (h := ?_)
                refine p_assign (h := ?_)
                refine p_end ?_
                refine p_some ?_
                have hx := rowAt_new (f := d.nextC s) (mc := (metAt d.nextC (d.cls 0) m i).1) (k := k) (by rw [hnx]; simpa using hnew)
                rw [hnx] at hx
                have hself : numOf ((rowAt (d.nextC s) (metAt d.nextC (d.cls 0) m i).1 k).1 ++ [d.cls (d.nx t k)]) (d.cls (d.nx t k)) = ((rowAt (d.nextC s) (metAt d.nextC (d.cls 0) m i).1 k).1.length : Int) := by rw [numOf_new hnew, if_pos rfl]
                refine ⟨⟨k + 1, _, sts' ++ [d.nx t k], hkm, by rw [hx, List.map_append, hst']; rfl, fun u hu => ?_, by rw [List.getElem?_append_left his]; exact hsi, eV_, eV_, eV_, eV_, eV_, eV_, by rw [List.length_append]; exact eV_, eV_, eV_, oB_, oB_, oB_, oB_, oB_, by refine Eq.trans oB_ ?_; rw [hx], by refine Eq.trans oB_ ?_; rw [List.map_append]; rfl, by refine Eq.trans oB_ ?_; rw [hx, hself]⟩, ?_⟩
                · rcases List.mem_append.1 hu with hu | hu
                  · exact hsn' u hu
                  · rw [List.mem_singleton.1 hu]; exact h.nx_lt htn hks
                · simp (decide := true) only [upd, f10, V.toN, ↓reduceIte]; omega
              · refine p_condF (h := ?_)
                rw [numOf_neg] at hc68
                have hold : d.cls (d.nx t k) ∈ (rowAt (d.nextC s) (metAt d.nextC (d.cls 0) m i).1 k).1 := by simpa using hc68
                refine p_skip ?_
                refine p_region fun hf => ?_
                refine p_move (h := ?_)
                refine p_move (h := ?_)
                refine p_move (h := ?_)
                refine p_move (h := ?_)
                refine p_move (h := ?_)
                refine p_idxMap (j := d.nx t k) (ht := Try.underlying26) (hi := F.ti3) (hij := rfl) (hj := hnc) (h := ?_)
                rw [Dfa.clsL_get hnc]
                (first | refine p_load (ht := F.leaf3) (h := ?_) | refine p_loadRef (ht := F.leaf3) (h := ?_))
                refine p_idxRowN (d.cls (d.nx t k)) (ht := Try.underlying26) (hi := F.ti3) (hij := rfl) (hlt := hcl) (h := ?_)
                refine p_loadRowF (ht := F.leaf3) (hi := hcl) (h := ?_)
                refine p_idxRowN (k) (ht := Try.underlying26) (hi := F.ti3) (hij := rfl) (hlt := hkm) (h := ?_)
                refine p_storeRowF (f' := fun j => iV (((rowAt (d.nextC s) (metAt d.nextC (d.cls 0) m i).1 k).2 ++ [numOf (rowAt (d.nextC s) (metAt d.nextC (d.cls 0) m i).1 k).1 (d.cls (d.nx t k))]).getD j 0)) F.ti3 (TI.cells F.ti3) (hlt := hkm) (hf := fun j _ => rowF_next hrk j) (h := ?_)
                refine p_end ?_
                refine p_region fun hf => ?_
                refine p_move (h := ?_)
                refine p_add (r := ((k + 1 : Nat) : Int)) (hr := by omega) (hb := by omega) (h := ?_)
                refine p_assign (h := ?_)
                refine p_end ?_
                refine p_some ?_
                have hx := rowAt_hit (f := d.nextC s) (mc := (metAt d.nextC (d.cls 0) m i).1) (k := k) (by rw [hnx]; simpa using hold)
                rw [hnx] at hx
                have hself := numOf_old hold
                refine ⟨⟨k + 1, _, sts', hkm, by rw [hx]; exact hst', hsn', hsi, eV_, eV_, eV_, eV_, eV_, eV_, eV_, eV_, eV_, oB_, oB_, oB_, oB_, oB_, by refine Eq.trans oB_ ?_; rw [hx], oB_, by refine Eq.trans oB_ ?_; rw [hx, hself]⟩, ?_⟩
                simp (decide := true) only [upd, f10, V.toN, ↓reduceIte]; omega
            · refine p_condF (h := ?_)
              have hkm : m = k := by simp at hc47; omega
              subst hkm
              have hpre := rowAt_prefix (d.nextC s) (metAt d.nextC (d.cls 0) m i).1 m
              have hir : i < (rowAt (d.nextC s) (metAt d.nextC (d.cls 0) m i).1 m).1.length := Nat.lt_of_lt_of_le hlt hpre.length_le
              have hgetR : (rowAt (d.nextC s) (metAt d.nextC (d.cls 0) m i).1 m).1[i] = s := (hpre.getElem hlt).symm.trans hs.symm
              refine p_exit ?_
              refine p_freeze (g1 := g2 + 1 + 1) (d1 := 43) (h := ?_)
              refine p_toSl (s := 9) (hn := by simp) (h := ?_)
              refine p_seq (p_region fun hf => ?_)
              (first | refine p_fieldPtr (hf := F.fld25_1) (h := ?_) | refine p_fieldRef (hf := F.fld25_1) (h := ?_) | refine p_fieldRow (hf := F.fld25_1) (h := ?_))
              (first | refine p_load (ht := F.leaf22) (h := ?_) | refine p_loadRef (ht := F.leaf22) (h := ?_))
              refine p_move (h := ?_)
              refine p_buildSlice (ht := Try.underlying22) (hi := F.ti26) (h := ?_)
              refine p_append (k := i + 1) (ht := Try.underlying22) (hi := F.ti26) (hnl := by simp [hrl]) (hy := by exact ⟨.inl oB_, rfl⟩) (hm := by simp [hrl]) (hlim := by omega) (h := ?_)
              (first | refine p_fieldPtr (hf := F.fld25_1) (h := ?_) | refine p_fieldRef (hf := F.fld25_1) (h := ?_) | refine p_fieldRow (hf := F.fld25_1) (h := ?_))
              refine p_store1 F.ti22 (h := ?_)
              refine p_end ?_
              refine p_draw F.mixed fun hf => ?_
              (first | refine p_fieldPtr (hf := F.fld25_2) (h := ?_) | refine p_fieldRef (hf := F.fld25_2) (h := ?_) | refine p_fieldRow (hf := F.fld25_2) (h := ?_))
              (first | refine p_load (ht := F.leaf23) (h := ?_) | refine p_loadRef (ht := F.leaf23) (h := ?_))
              (first | refine p_fieldPtr (hf := F.fld25_2) (h := ?_) | refine p_fieldRef (hf := F.fld25_2) (h := ?_) | refine p_fieldRow (hf := F.fld25_2) (h := ?_))
              (first | refine p_load (ht := F.leaf23) (h := ?_) | refine p_loadRef (ht := F.leaf23) (h := ?_))
              refine p_move (h := ?_)
              refine p_move (h := ?_)
              refine p_idxRowN (i) (ht := Try.underlying26) (hi := F.ti3) (hij := rfl) (hlt := his) (h := ?_)
              refine p_loadRowM (ht := F.leaf3) (hj := his) (h := ?_)
              simp only [hget]
              refine p_idxMap (j := t) (ht := Try.underlying23) (hi := F.ti4) (hij := rfl) (hj := ht3) (h := ?_)
              rw [Dfa.ac_is ht3]
              (first | refine p_load (ht := F.leaf4) (h := ?_) | refine p_loadRef (ht := F.leaf4) (h := ?_))
              refine p_buildSlice (ht := Try.underlying23) (hi := F.ti4) (h := ?_)
              refine p_append (k := i + 1) (ht := Try.underlying23) (hi := F.ti4) (hnl := by simp; omega) (hy := by exact ⟨.inl oB_, rfl⟩) (hm := by simp; omega) (hlim := by omega) (h := ?_)
              (first | refine p_fieldPtr (hf := F.fld25_2) (h := ?_) | refine p_fieldRef (hf := F.fld25_2) (h := ?_) | refine p_fieldRow (hf := F.fld25_2) (h := ?_))
              refine p_store1 F.ti23 (h := ?_)
              refine p_endD ?_
              refine p_region fun hf => ?_
              refine p_move (h := ?_)
              refine p_add (r := ((i + 1 : Nat) : Int)) (hr := by omega) (hb := by omega) (h := ?_)
              refine p_assign (h := ?_)
              refine p_end ?_
              refine p_some ?_
              have hx := metAt_next hlt
              rw [← hs] at hx
              refine ⟨⟨i + 1, _, _, _, sts', fun j hj => ?_, by rw [hx]; exact hst', hsn', eV_, eV_, eV_, eV_, eV_, eV_, eV_, oB_, oB_, oB_, by refine Eq.trans oB_ ?_; rw [hx, List.map_append, rowF_done hrk]; rfl, by refine Eq.trans oB_ ?_; rw [hx]; simp only [take_more hpre hlt hgetR, List.map_append]; rw [← hct]; simp only [List.map_cons, List.map_nil, Dfa.accC_is htn], by rw [hx]; exact oB_, oB_⟩, ?_⟩
              · rcases Nat.lt_succ_iff_lt_or_eq.1 hj with h | h
                · exact hall j h
                · subst h; exact hlt
              · simp (decide := true) only [upd, e8, f8, V.toN, ↓reduceIte]; omega
        · refine p_condF (h := ?_)
          have hge : (metAt d.nextC (d.cls 0) m i).1.length ≤ i := by simp at hc38; omega
          refine p_exit ?_
          refine p_seq (p_region fun hf => ?_)
          (first | refine p_loadA (ht := F.agg25) (hi := F.ti25) (h := ?_) | refine p_loadRefA (ht := F.agg25) (hi := F.ti25) (h := ?_))
          refine p_storeAll F.ti25 (h := ?_)
          refine p_end ?_
          refine TrC.ret ?_
          refine p_freeze (g1 := q1) (d1 := 95) (h := ?_)
          refine p_freeze (g1 := q2) (d1 := 108) (h := ?_)
          refine p_cellSl (g1 := 0 + 1) (d1 := 2) (i := 1) (hn := by simp [hrl]) (h := ?_)
          refine p_cellSl (g1 := 0 + 1) (d1 := 2) (i := 2) (hn := by simp; omega) (h := ?_)
          refine Tr.ret1 rfl (res_cell eV_ oB_ F.agg25 F.ti25 rfl rfl) (by rw [Dfa.leastC h, hmn, grown_is hall hge (Nat.le_trans hil hlen)]; simp [List.take_of_length_le hge, List.map_map, Function.comp_def, hm]) (by intro l h; cases h)

end Go.Proofs.Ytdpljpmohpifbaa
