/-
  The reference's product, walked: it answers dfa's pairs.
-/
import Derived.Test.YtdpljpmohpifbaaB
import Derived.Test.YtdpljpmohpifbaaZx
set_option linter.unusedSimpArgs false
set_option linter.unusedVariables false
namespace Go.Proofs.Ytdpljpmohpifbaa
open Go.RowKit
namespace Dfa
def nx2 (a b : Dfa) (p k : Nat) : Nat := a.nx (p / b.n) k * b.n + b.nx (p % b.n) k
def ac2 (a b : Dfa) (both : Bool) (p : Nat) : Bool := both && a.ac (p / b.n) && b.ac (p % b.n) || !both && (a.ac (p / b.n) || b.ac (p % b.n))
theorem code_lt {n m s t : Nat} (hs : s < n) (ht : t < m) : s * m + t < n * m := by
  have : (s + 1) * m ≤ n * m := Nat.mul_le_mul_right _ hs
  rw [Nat.succ_mul] at this; omega
theorem code_div {m s t : Nat} (ht : t < m) : (s * m + t) / m = s := by
  rw [Nat.mul_comm, Nat.mul_add_div (by omega), Nat.div_eq_of_lt ht]; rfl
theorem code_mod {m s t : Nat} (ht : t < m) : (s * m + t) % m = t := by
  rw [Nat.mul_comm, Nat.mul_add_mod, Nat.mod_eq_of_lt ht]
theorem fewN {N : Nat} (l : List Nat) (h : l.Nodup) (hp : ∀ s ∈ l, s < N) : l.length ≤ N := by
  have := nodup_le (l' := List.range N) h fun s hs => by simpa using hp s hs
  simpa using this
theorem in_div {a b : Dfa} {p : Nat} (h : p < a.n * b.n) (hb : 1 ≤ b.n) : p / b.n < a.n ∧ p % b.n < b.n := ⟨Nat.div_lt_of_lt_mul (by rw [Nat.mul_comm]; exact h), Nat.mod_lt _ hb⟩
theorem nx2_lt {a b : Dfa} (ha : a.Ok) (hb : b.Ok) (hs : a.sym = b.sym) {p k : Nat} (h : p < a.n * b.n) (hk : (k : Int) < a.sym) : nx2 a b p k < a.n * b.n := by
  obtain ⟨h1, h2⟩ := in_div h hb.n0
  exact code_lt (ha.nx_lt h1 hk) (hb.nx_lt h2 (by omega))
/-- Pairs as one number. -/
def code (b : Dfa) (s : Int × Int) : Nat := s.1.toNat * b.n + s.2.toNat
theorem product_pairs {a b : Dfa} (ha : a.Ok) (hb : b.Ok) (hs : a.sym = b.sym) (both : Bool) : grown (nx2 a b) (ac2 a b both) 0 a.sym.toNat (a.n * b.n) = pairsR a b both := by
  have hs0 := ha.sym0
  have hb0 := hb.n0
  have ha0 := ha.n0
  have hd : ∀ s : Int × Int, InP a b s → code b s / b.n = s.1.toNat ∧ code b s % b.n = s.2.toNat := fun s hs => by
    obtain ⟨h1, h2⟩ := hs
    exact ⟨code_div (by omega), code_mod (by omega)⟩
  refine grown_map (code b) (p := InP a b) (fun s t hs ht he => ?_) ⟨⟨by simp, by show (0 : Int) < _; omega⟩, by simp, by show (0 : Int) < _; omega⟩ ?_ (fun s k hp hk => ?_) (fun s hp => ?_)
  · obtain ⟨e1, e2⟩ := hd s hs
    obtain ⟨e3, e4⟩ := hd t ht
    rw [he, e3] at e1
    rw [he, e4] at e2
    obtain ⟨⟨h1, _⟩, h2, _⟩ := hs
    obtain ⟨⟨h3, _⟩, h4, _⟩ := ht
    exact Prod.ext (by omega) (by omega)
  · simp [code]
  · obtain ⟨e1, e2⟩ := hd s hp
    exact ⟨hp.next ha hb hs (by omega), by rw [nx2, e1, e2]; rfl⟩
  · obtain ⟨e1, e2⟩ := hd s hp
    rw [ac2, e1, e2]; rfl
end Dfa

theorem productRef (a b : Dfa) (ha : a.Ok) (hb : b.Ok) (hs' : a.sym = b.sym) (hn : a.n * b.n ≤ 1024) (both : Bool) : FnC Try.prog 47 [dfaV a, dfaV b, .bool both] (fun r => r = dfaV (Dfa.pairsR a b both)) := by
  refine FnC.of (fn := Try.f47) ⟨Try.func47, by kernel_rfl, rfl⟩ Try.ntmps47 (by simp) fun w0 S0 => ?_
  have ha0 := ha.n0
  have hb0 := hb.n0
  have hna : a.n = a.next.length := rfl
  have hnb : b.n = b.next.length := rfl
  have hacca := ha.acc
  have haccb := hb.acc
  have hs1 := ha.sym1
  have ha1 := ha.n1
  have hb1 := hb.n1
  obtain ⟨m, hm⟩ : ∃ m : Nat, a.sym = m := ⟨a.sym.toNat, by have := ha.sym0; omega⟩
  have hmn : a.sym.toNat = m := by omega
  obtain ⟨N, hN⟩ : ∃ N, a.n * b.n = N := ⟨_, rfl⟩
  rw [hN] at hn
  have hNI : (a.next.length : Int) * (b.next.length : Int) = (N : Int) := by rw [← hN]; exact (Int.natCast_mul _ _).symm
  have hN0 : 0 < N := by rw [← hN]; exact Nat.mul_pos ha0 hb0
  refine p_seq (p_region fun hf => ?_)
  refine p_box (h := ?_)
  refine p_box (h := ?_)
  refine p_alloc (hi := F.ti25) (h := ?_)
  refine p_end ?_
  refine p_seq (p_region fun hf => ?_)
  (first | refine p_fieldPtr (hf := F.fld25_0) (h := ?_) | refine p_fieldRef (hf := F.fld25_0) (h := ?_) | refine p_fieldRow (hf := F.fld25_0) (h := ?_))
  (first | refine p_load (ht := F.leaf3) (h := ?_) | refine p_loadRef (ht := F.leaf3) (h := ?_))
  refine p_build (hi := F.ti25) (hpl := F.pl25) (h := ?_)
  refine p_alloc (hi := F.ti25) (h := ?_)
  refine p_storeAll F.ti25 (h := ?_)
  refine p_end ?_
  refine p_seq (p_region fun hf => ?_)
  (first | refine p_fieldPtr (hf := F.fld25_1) (h := ?_) | refine p_fieldRef (hf := F.fld25_1) (h := ?_) | refine p_fieldRow (hf := F.fld25_1) (h := ?_))
  (first | refine p_load (ht := F.leaf22) (h := ?_) | refine p_loadRef (ht := F.leaf22) (h := ?_))
  refine p_len (ht := Try.underlying22) (h := ?_)
  refine p_assign (h := ?_)
  refine p_end ?_
  refine p_seq (p_region fun hf => ?_)
  (first | refine p_fieldPtr (hf := F.fld25_1) (h := ?_) | refine p_fieldRef (hf := F.fld25_1) (h := ?_) | refine p_fieldRow (hf := F.fld25_1) (h := ?_))
  (first | refine p_load (ht := F.leaf22) (h := ?_) | refine p_loadRef (ht := F.leaf22) (h := ?_))
  refine p_len (ht := Try.underlying22) (h := ?_)
  refine p_move (h := ?_)
  refine p_mul (hr := rfl) (hb := by rw [hNI]; omega) (h := ?_)
  refine p_make (n := N) (ht := Try.underlying26) (hi := F.ti3) (hz := rfl) (hzv := rfl) (hro := rfl) (hx := by rw [← hNI]; exact eV_) (hb := by omega) (h63 := by omega) (h := ?_)
  refine p_assign (h := ?_)
  refine p_end ?_
  refine p_seq ?_
  refine p_seq (p_region fun hf => ?_)
  refine p_assign (h := ?_)
  refine p_end ?_
  refine TrC.block ?_
  refine p_loop (fun st => ∃ i : Nat, i ≤ N ∧ st.env 2 = .bool both ∧ st.env 3 = .ptr (0 + 1) 3 0 ∧ st.env 4 = .ptr (0 + 1) 4 0 ∧ st.env 6 = .ptr (0 + 1) 6 0 ∧ st.env 7 = .ptr (0 + 1 + 1) 7 0 ∧ st.env 8 = iV b.n ∧ st.env 9 = .row (0 + 1 + 1 + 1 + 1) 31 N ∧ st.env 10 = iV i ∧ st.obj (0 + 1) 3 = .cells 25 (dfaL a) ∧ st.obj (0 + 1) 4 = .cells 25 (dfaL b) ∧ st.obj (0 + 1) 6 = .cells 25 [iV 0, .nil, .nil] ∧ st.obj (0 + 1 + 1) 7 = .cells 25 [iV a.sym, .nil, .nil] ∧ st.obj (0 + 1 + 1 + 1 + 1) 31 = .row 3 ((List.range N).map fun j => iV (if j < i then -1 else 0))) (fun st => N - (st.env 10).toN) ?_ fun e ob g1 hI => ?_
  · exact ⟨0, by omega, eV_, eV_, eV_, eV_, eV_, eV_, eV_, eV_, oB_, oB_, oB_, oB_, by refine Eq.trans oB_ ?_; rw [replicate_range]; rfl⟩
  · obtain ⟨i, hi, e2, e3, e4, e6, e7, e8, e9, e10, o3, o4, o6, o7, o31⟩ := hI
    dsimp only at e2 e3 e4 e6 e7 e8 e9 e10 o3 o4 o6 o7 o31
    have hE := (⟨e2, e3, e4, e6, e7, e8, e9, e10, o3, o4, o6, o7, o31⟩ : _ ∧ _ ∧ _ ∧ _ ∧ _ ∧ _ ∧ _ ∧ _ ∧ _ ∧ _ ∧ _ ∧ _ ∧ _)
    refine p_seq ?_
    refine p_seq (p_region fun hf => ?_)
    refine p_move (h := ?_)
    refine p_move (h := ?_)
    refine p_len (ht := Try.underlying26) (h := ?_)
    refine p_num (h := ?_)
    refine p_end ?_
    refine p_splitC (s := 35) (ht := fun hc35 => ?_) (hf := fun hc35 => ?_)
    · refine p_condT (h := ?_)
      have hlt1 : i < N := by simpa using hc35
      refine p_skip ?_
      refine p_seq ?_
      refine TrC.block ?_
      refine p_region fun hf => ?_
      refine p_move (h := ?_)
      refine p_move (h := ?_)
      refine p_idxRowN (i) (ht := Try.underlying26) (hi := F.ti3) (hij := rfl) (hlt := hlt1) (h := ?_)
      refine p_storeRowF (f' := fun j => iV (if j < i + 1 then -1 else 0)) F.ti3 (TI.cells F.ti3) (hlt := hlt1) (hf := fun j _ => fill_next j) (h := ?_)
      refine p_end ?_
      refine p_region fun hf => ?_
      refine p_move (h := ?_)
      refine p_add (r := ((i + 1 : Nat) : Int)) (hr := by omega) (hb := by omega) (h := ?_)
      refine p_assign (h := ?_)
      refine p_end ?_
      refine p_some ?_
      refine ⟨⟨i + 1, by omega, eV_, eV_, eV_, eV_, eV_, eV_, eV_, eV_, oB_, oB_, oB_, oB_, oB_⟩, ?_⟩
      simp (decide := true) only [upd, e10, V.toN, ↓reduceIte]; omega
    · refine p_condF (h := ?_)
      have hie : i = N := by simp at hc35; omega
      refine p_exit ?_
      refine p_seq (p_region fun hf => ?_)
      refine p_buildSlice (ht := Try.underlying26) (hi := F.ti3) (h := ?_)
      refine p_assign (h := ?_)
      refine p_end ?_
      refine p_seq (p_region fun hf => ?_)
      refine p_move (h := ?_)
      refine p_idxRowN (0) (ht := Try.underlying26) (hi := F.ti3) (hij := rfl) (hlt := hN0) (h := ?_)
      refine p_storeRowF (f' := fun c => iV (numOf [0] c)) F.ti3 (TI.cells F.ti3) (hlt := hN0) (hf := fun j hj => by rw [numOf_one]; by_cases hjc : j = 0 <;> simp [hjc, hie, hj]) (h := ?_)
      refine p_end ?_
      refine p_seq ?_
      refine p_seq (p_region fun hf => ?_)
      refine p_assign (h := ?_)
      refine p_end ?_
      refine p_nilCell (g1 := 0 + 1 + 1) (d1 := 7) (i := 1) (el := 26) 115 (h := ?_)
      refine p_nilCell (g1 := 0 + 1 + 1) (d1 := 7) (i := 2) (el := 4) 147 (h := ?_)
      refine p_renSlot (s := 11) 103 (h := ?_)
      refine TrC.block ?_
      refine p_loop (fun st => ∃ i q1 q2 q3 : Nat, (∀ j, j < i → j < (metAt (Dfa.nx2 a b) 0 m j).1.length) ∧ st.env 2 = .bool both ∧ st.env 3 = .ptr (0 + 1) 3 0 ∧ st.env 4 = .ptr (0 + 1) 4 0 ∧ st.env 6 = .ptr (0 + 1) 6 0 ∧ st.env 7 = .ptr (0 + 1 + 1) 7 0 ∧ st.env 8 = iV b.n ∧ st.env 9 = .row (0 + 1 + 1 + 1 + 1) 31 N ∧ st.env 12 = iV i ∧ st.env 11 = .row q3 103 (metAt (Dfa.nx2 a b) 0 m i).1.length ∧ st.obj (0 + 1) 3 = .cells 25 (dfaL a) ∧ st.obj (0 + 1) 4 = .cells 25 (dfaL b) ∧ st.obj (0 + 1) 6 = .cells 25 [iV 0, .nil, .nil] ∧ st.obj (0 + 1 + 1) 7 = .cells 25 [iV a.sym, .row q1 115 i, .row q2 147 i] ∧ st.obj q1 115 = .row 26 ((metAt (Dfa.nx2 a b) 0 m i).2.map rowV) ∧ st.obj q2 147 = .row 4 (((metAt (Dfa.nx2 a b) 0 m i).1.take i).map fun c => .bool (Dfa.ac2 a b both c)) ∧ st.obj (0 + 1 + 1 + 1 + 1) 31 = .row 3 ((List.range N).map fun c => iV (numOf (metAt (Dfa.nx2 a b) 0 m i).1 c)) ∧ st.obj q3 103 = .row 3 ((metAt (Dfa.nx2 a b) 0 m i).1.map fun j : Nat => iV (j : Int))) (fun st => N - (st.env 12).toN) ?_ fun e ob g2 hI => ?_
      · exact ⟨0, _, _, _, fun j h => by omega, eV_, eV_, eV_, eV_, eV_, eV_, eV_, eV_, eV_, oB_, oB_, oB_, oB_, oB_, oB_, oB_, oB_⟩
      · obtain ⟨i, q1, q2, q3, hall, e2, e3, e4, e6, e7, e8, e9, e12, e11, o3, o4, o6, o7, o115, o147, o31, o103⟩ := hI
        dsimp only at e2 e3 e4 e6 e7 e8 e9 e12 e11 o3 o4 o6 o7 o115 o147 o31 o103
        have hE := (⟨e2, e3, e4, e6, e7, e8, e9, e12, e11, o3, o4, o6, o7, o115, o147, o31, o103⟩ : _ ∧ _ ∧ _ ∧ _ ∧ _ ∧ _ ∧ _ ∧ _ ∧ _ ∧ _ ∧ _ ∧ _ ∧ _ ∧ _ ∧ _ ∧ _ ∧ _)
        have hpm := metAt_all (p := fun c => c < N) (nxt := Dfa.nx2 a b) (start := 0) (m := m) (by omega) (fun s k hs hk => by rw [← hN] at hs ⊢; exact Dfa.nx2_lt ha hb hs' hs (by omega)) i
        have hlen := Dfa.fewN _ (metAt_nodup (Dfa.nx2 a b) 0 m i) hpm
        have hrl := metAt_rows (Dfa.nx2 a b) 0 m i hall
        have hil : i ≤ (metAt (Dfa.nx2 a b) 0 m i).1.length := by
          cases i with
          | zero => exact Nat.zero_le _
          | succ i => exact Nat.le_trans (hall i (by omega)) (metAt_prefix (Dfa.nx2 a b) 0 m (Nat.le_succ i)).length_le
        refine p_seq ?_
        refine p_seq (p_region fun hf => ?_)
        refine p_move (h := ?_)
        refine p_move (h := ?_)
        refine p_len (ht := Try.underlying26) (h := ?_)
        refine p_num (h := ?_)
        refine p_end ?_
        refine p_splitC (s := 47) (ht := fun hc47 => ?_) (hf := fun hc47 => ?_)
        · refine p_condT (h := ?_)
          have hlt : i < (metAt (Dfa.nx2 a b) 0 m i).1.length := by simpa using hc47
          obtain ⟨p, hp⟩ : ∃ p, p = (metAt (Dfa.nx2 a b) 0 m i).1[i] := ⟨_, rfl⟩
          have hps : p < N := by rw [hp]; exact hpm _ (List.getElem_mem hlt)
          have hin := Dfa.in_div (a := a) (b := b) (p := p) (by rw [hN]; exact hps) hb0
          have hac : p / b.n < a.acc.length ∧ p % b.n < b.acc.length := ⟨by omega, by omega⟩
          refine p_skip ?_
          refine p_seq ?_
          refine TrC.block ?_
          refine p_seq (p_draw F.mixed fun hf => ?_)
          refine p_move (h := ?_)
          refine p_move (h := ?_)
          refine p_idxRowN (i) (ht := Try.underlying26) (hi := F.ti3) (hij := rfl) (hlt := hlt) (h := ?_)
          refine p_loadRowM (ht := F.leaf3) (hj := hlt) (h := ?_)
          rw [← hp]
          refine p_move (h := ?_)
          refine p_quo (r := ((p / b.n : Nat) : Int)) (by decide) eV_ eV_ rfl (by omega) ?_
          refine p_move (h := ?_)
          refine p_move (h := ?_)
          refine p_idxRowN (i) (ht := Try.underlying26) (hi := F.ti3) (hij := rfl) (hlt := hlt) (h := ?_)
          refine p_loadRowM (ht := F.leaf3) (hj := hlt) (h := ?_)
          rw [← hp]
          refine p_move (h := ?_)
          refine p_rem (r := ((p % b.n : Nat) : Int)) (by decide) eV_ eV_ rfl (by omega) ?_
          refine p_assign (h := ?_)
          refine p_assign (h := ?_)
          refine p_endD ?_
          refine p_seq (p_region fun hf => ?_)
          (first | refine p_fieldPtr (hf := F.fld25_0) (h := ?_) | refine p_fieldRef (hf := F.fld25_0) (h := ?_) | refine p_fieldRow (hf := F.fld25_0) (h := ?_))
          (first | refine p_load (ht := F.leaf3) (h := ?_) | refine p_loadRef (ht := F.leaf3) (h := ?_))
          refine p_make (n := m) (ht := Try.underlying26) (hi := F.ti3) (hz := rfl) (hzv := rfl) (hro := rfl) (hx := by rw [← hm]; exact eV_) (hb := by omega) (h63 := by omega) (h := ?_)
          refine p_assign (h := ?_)
          refine p_end ?_
          refine p_seq ?_
          refine p_seq (p_region fun hf => ?_)
          refine p_assign (h := ?_)
          refine p_end ?_
          refine TrC.block ?_
          refine p_loop (fun st => ∃ k q4 : Nat, k ≤ m ∧ st.env 2 = .bool both ∧ st.env 3 = .ptr (0 + 1) 3 0 ∧ st.env 4 = .ptr (0 + 1) 4 0 ∧ st.env 6 = .ptr (0 + 1) 6 0 ∧ st.env 7 = .ptr (0 + 1 + 1) 7 0 ∧ st.env 8 = iV b.n ∧ st.env 9 = .row (0 + 1 + 1 + 1 + 1) 31 N ∧ st.env 12 = iV i ∧ st.env 11 = .row q4 103 (rowAt (Dfa.nx2 a b p) (metAt (Dfa.nx2 a b) 0 m i).1 k).1.length ∧ st.env 13 = iV ((p / b.n : Nat) : Int) ∧ st.env 14 = iV ((p % b.n : Nat) : Int) ∧ st.env 15 = .row (g2 + 1 + 1 + 1) 64 m ∧ st.env 16 = iV k ∧ st.obj (0 + 1) 3 = .cells 25 (dfaL a) ∧ st.obj (0 + 1) 4 = .cells 25 (dfaL b) ∧ st.obj (0 + 1) 6 = .cells 25 [iV 0, .nil, .nil] ∧ st.obj (0 + 1 + 1) 7 = .cells 25 [iV a.sym, .row q1 115 i, .row q2 147 i] ∧ st.obj q1 115 = .row 26 ((metAt (Dfa.nx2 a b) 0 m i).2.map rowV) ∧ st.obj q2 147 = .row 4 (((metAt (Dfa.nx2 a b) 0 m i).1.take i).map fun c => .bool (Dfa.ac2 a b both c)) ∧ st.obj (0 + 1 + 1 + 1 + 1) 31 = .row 3 ((List.range N).map fun c => iV (numOf (rowAt (Dfa.nx2 a b p) (metAt (Dfa.nx2 a b) 0 m i).1 k).1 c)) ∧ st.obj q4 103 = .row 3 ((rowAt (Dfa.nx2 a b p) (metAt (Dfa.nx2 a b) 0 m i).1 k).1.map fun j : Nat => iV (j : Int)) ∧ st.obj (g2 + 1 + 1 + 1) 64 = .row 3 ((List.range m).map fun j => iV ((rowAt (Dfa.nx2 a b p) (metAt (Dfa.nx2 a b) 0 m i).1 k).2.getD j 0))) (fun st => m - (st.env 16).toN) ?_ fun e ob g3 hI => ?_
          · exact ⟨0, _, by omega, eV_, eV_, eV_, eV_, eV_, eV_, eV_, eV_, eV_, eV_, eV_, eV_, eV_, oB_, oB_, oB_, oB_, oB_, oB_, oB_, oB_, by refine Eq.trans oB_ ?_; rw [replicate_range]; rfl⟩
          · obtain ⟨k, q4, hk, f2, f3, f4, f6, f7, f8, f9, f12, f11, f13, f14, f15, f16, p3, p4, p6, p7, p115, p147, p31, p103, p64⟩ := hI
            dsimp only at f2 f3 f4 f6 f7 f8 f9 f12 f11 f13 f14 f15 f16 p3 p4 p6 p7 p115 p147 p31 p103 p64
            have hE := (⟨f2, f3, f4, f6, f7, f8, f9, f12, f11, f13, f14, f15, f16, p3, p4, p6, p7, p115, p147, p31, p103, p64⟩ : _ ∧ _ ∧ _ ∧ _ ∧ _ ∧ _ ∧ _ ∧ _ ∧ _ ∧ _ ∧ _ ∧ _ ∧ _ ∧ _ ∧ _ ∧ _ ∧ _ ∧ _ ∧ _ ∧ _ ∧ _ ∧ _)
            have hpr := rowAt_all (f := Dfa.nx2 a b p) hpm k (fun j hj => by show _ < N; rw [← hN]; exact Dfa.nx2_lt ha hb hs' (by rw [hN]; exact hps) (by omega))
            have hndr := rowAt_nodup (f := Dfa.nx2 a b p) (metAt_nodup (Dfa.nx2 a b) 0 m i) k
            have hlr := Dfa.fewN _ hndr hpr
            have hrk := rowAt_len (Dfa.nx2 a b p) (metAt (Dfa.nx2 a b) 0 m i).1 k
            refine p_seq ?_
            refine p_seq (p_region fun hf => ?_)
            refine p_move (h := ?_)
            (first | refine p_fieldPtr (hf := F.fld25_0) (h := ?_) | refine p_fieldRef (hf := F.fld25_0) (h := ?_) | refine p_fieldRow (hf := F.fld25_0) (h := ?_))
            (first | refine p_load (ht := F.leaf3) (h := ?_) | refine p_loadRef (ht := F.leaf3) (h := ?_))
            refine p_num (h := ?_)
            refine p_end ?_
            refine p_splitC (s := 68) (ht := fun hc68 => ?_) (hf := fun hc68 => ?_)
            · refine p_condT (h := ?_)
              have hkm : k < m := by simp at hc68; omega
              have hks : (k : Int) < a.sym := by omega
              have hka := Dfa.row_len' ha hin.1 hks
              have hkb := Dfa.row_len' hb hin.2 (show (k : Int) < b.sym by omega)
              have hcl : (Dfa.nx2 a b p k) < N := by rw [← hN]; exact Dfa.nx2_lt ha hb hs' (by rw [hN]; exact hps) hks
              have hcI : (((Dfa.nx2 a b p k) : Nat) : Int) = (a.nx (p / b.n) k : Int) * (b.n : Int) + (b.nx (p % b.n) k : Int) := by rw [Dfa.nx2, Int.natCast_add, Int.natCast_mul]
              have hm0 := Int.mul_nonneg (Int.natCast_nonneg (a.nx (p / b.n) k)) (Int.natCast_nonneg b.n)
              refine p_skip ?_
              refine p_seq ?_
              refine TrC.block ?_
              refine p_seq (p_draw F.mixed fun hf => ?_)
              (first | refine p_fieldPtr (hf := F.fld25_1) (h := ?_) | refine p_fieldRef (hf := F.fld25_1) (h := ?_) | refine p_fieldRow (hf := F.fld25_1) (h := ?_))
              (first | refine p_load (ht := F.leaf22) (h := ?_) | refine p_loadRef (ht := F.leaf22) (h := ?_))
              refine p_move (h := ?_)
              refine p_idxMap (j := p / b.n) (ht := Try.underlying22) (hi := F.ti26) (hij := rfl) (hj := hin.1) (h := ?_)
              (first | refine p_load (ht := F.leaf26) (h := ?_) | refine p_loadRef (ht := F.leaf26) (h := ?_))
              refine p_move (h := ?_)
              refine p_idxMap (j := k) (ht := Try.underlying26) (hi := F.ti3) (hij := rfl) (hj := hka) (h := ?_)
              rw [Dfa.nx_is ha hin.1 hka]
              (first | refine p_load (ht := F.leaf3) (h := ?_) | refine p_loadRef (ht := F.leaf3) (h := ?_))
              refine p_move (h := ?_)
              refine p_mul (hr := rfl) (hb := by omega) (h := ?_)
              (first | refine p_fieldPtr (hf := F.fld25_1) (h := ?_) | refine p_fieldRef (hf := F.fld25_1) (h := ?_) | refine p_fieldRow (hf := F.fld25_1) (h := ?_))
              (first | refine p_load (ht := F.leaf22) (h := ?_) | refine p_loadRef (ht := F.leaf22) (h := ?_))
              refine p_move (h := ?_)
              refine p_idxMap (j := p % b.n) (ht := Try.underlying22) (hi := F.ti26) (hij := rfl) (hj := hin.2) (h := ?_)
              (first | refine p_load (ht := F.leaf26) (h := ?_) | refine p_loadRef (ht := F.leaf26) (h := ?_))
              refine p_move (h := ?_)
              refine p_idxMap (j := k) (ht := Try.underlying26) (hi := F.ti3) (hij := rfl) (hj := hkb) (h := ?_)
              rw [Dfa.nx_is hb hin.2 hkb]
              (first | refine p_load (ht := F.leaf3) (h := ?_) | refine p_loadRef (ht := F.leaf3) (h := ?_))
              refine p_add (r := (((Dfa.nx2 a b p k) : Nat) : Int)) (hr := by omega) (hb := by omega) (h := ?_)
              refine p_assign (h := ?_)
              refine p_endD ?_
              refine p_seq ?_
              refine p_seq (p_region fun hf => ?_)
              refine p_move (h := ?_)
              refine p_move (h := ?_)
              refine p_idxRowN ((Dfa.nx2 a b p k)) (ht := Try.underlying26) (hi := F.ti3) (hij := rfl) (hlt := hcl) (h := ?_)
              refine p_loadRowF (ht := F.leaf3) (hi := hcl) (h := ?_)
              refine p_num (h := ?_)
              refine p_end ?_
              refine p_splitC (s := 94) (ht := fun hc94 => ?_) (hf := fun hc94 => ?_)
              · refine p_condT (h := ?_)
                rw [numOf_neg] at hc94
                have hnew : (Dfa.nx2 a b p k) ∉ (rowAt (Dfa.nx2 a b p) (metAt (Dfa.nx2 a b) 0 m i).1 k).1 := by simpa using hc94
                refine p_seq (p_region fun hf => ?_)
                refine p_move (h := ?_)
                refine p_move (h := ?_)
                refine p_move (h := ?_)
                refine p_len (ht := Try.underlying26) (h := ?_)
                refine p_idxRowN ((Dfa.nx2 a b p k)) (ht := Try.underlying26) (hi := F.ti3) (hij := rfl) (hlt := hcl) (h := ?_)
                refine p_storeRowF (f' := fun c => iV (numOf ((rowAt (Dfa.nx2 a b p) (metAt (Dfa.nx2 a b) 0 m i).1 k).1 ++ [(Dfa.nx2 a b p k)]) c)) F.ti3 (TI.cells F.ti3) (hlt := hcl) (hf := fun j _ => by rw [numOf_new hnew]; by_cases hj : j = (Dfa.nx2 a b p k) <;> simp [hj]) (h := ?_)
                refine p_end ?_
                refine p_region fun hf => ?_
                refine p_move (h := ?_)
                refine p_move (h := ?_)
                refine p_buildSlice (ht := Try.underlying26) (hi := F.ti3) (h := ?_)
                refine p_append (k := (rowAt (Dfa.nx2 a b p) (metAt (Dfa.nx2 a b) 0 m i).1 k).1.length + 1) (ht := Try.underlying26) (hi := F.ti3) (hnl := by simp) (hy := by exact ⟨.inl oB_, rfl⟩) (hm := by simp) (hlim := by omega) (h := ?_)
                refine p_assign (h := ?_)
                refine p_end ?_
                refine p_region fun hf => ?_
                refine p_move (h := ?_)
                refine p_move (h := ?_)
                refine p_move (h := ?_)
                refine p_move (h := ?_)
                refine p_idxRowN ((Dfa.nx2 a b p k)) (ht := Try.underlying26) (hi := F.ti3) (hij := rfl) (hlt := hcl) (h := ?_)
                refine p_loadRowF (ht := F.leaf3) (hi := hcl) (h := ?_)
                refine p_idxRowN (k) (ht := Try.underlying26) (hi := F.ti3) (hij := rfl) (hlt := hkm) (h := ?_)
                refine p_storeRowF (f' := fun j => iV (((rowAt (Dfa.nx2 a b p) (metAt (Dfa.nx2 a b) 0 m i).1 k).2 ++ [numOf ((rowAt (Dfa.nx2 a b p) (metAt (Dfa.nx2 a b) 0 m i).1 k).1 ++ [(Dfa.nx2 a b p k)]) (Dfa.nx2 a b p k)]).getD j 0)) F.ti3 (TI.cells F.ti3) (hlt := hkm) (hf := fun j _ => rowF_next hrk j) (h := ?_)
                refine p_end ?_
                refine p_region fun hf => ?_
                refine p_move (h := ?_)
                refine p_add (r := ((k + 1 : Nat) : Int)) (hr := by omega) (hb := by omega) (h := ?_)
                refine p_assign (h := ?_)
                refine p_end ?_
                refine p_some ?_
                have hx := rowAt_new (f := Dfa.nx2 a b p) (mc := (metAt (Dfa.nx2 a b) 0 m i).1) (k := k) (by simpa using hnew)
                have hself : numOf ((rowAt (Dfa.nx2 a b p) (metAt (Dfa.nx2 a b) 0 m i).1 k).1 ++ [(Dfa.nx2 a b p k)]) (Dfa.nx2 a b p k) = ((rowAt (Dfa.nx2 a b p) (metAt (Dfa.nx2 a b) 0 m i).1 k).1.length : Int) := by rw [numOf_new hnew, if_pos rfl]
                refine ⟨⟨k + 1, _, hkm, eV_, eV_, eV_, eV_, eV_, eV_, eV_, eV_, by rw [hx, List.length_append]; exact eV_, eV_, eV_, eV_, eV_, oB_, oB_, oB_, oB_, oB_, oB_, by refine Eq.trans oB_ ?_; rw [hx], by refine Eq.trans oB_ ?_; rw [hx, List.map_append]; rfl, by refine Eq.trans oB_ ?_; rw [hx, hself]⟩, ?_⟩
                simp (decide := true) only [upd, f16, V.toN, ↓reduceIte]; omega
              · refine p_condF (h := ?_)
                rw [numOf_neg] at hc94
                have hold : (Dfa.nx2 a b p k) ∈ (rowAt (Dfa.nx2 a b p) (metAt (Dfa.nx2 a b) 0 m i).1 k).1 := by simpa using hc94
                refine p_skip ?_
                refine p_region fun hf => ?_
                refine p_move (h := ?_)
                refine p_move (h := ?_)
                refine p_move (h := ?_)
                refine p_move (h := ?_)
                refine p_idxRowN ((Dfa.nx2 a b p k)) (ht := Try.underlying26) (hi := F.ti3) (hij := rfl) (hlt := hcl) (h := ?_)
                refine p_loadRowF (ht := F.leaf3) (hi := hcl) (h := ?_)
                refine p_idxRowN (k) (ht := Try.underlying26) (hi := F.ti3) (hij := rfl) (hlt := hkm) (h := ?_)
                refine p_storeRowF (f' := fun j => iV (((rowAt (Dfa.nx2 a b p) (metAt (Dfa.nx2 a b) 0 m i).1 k).2 ++ [numOf (rowAt (Dfa.nx2 a b p) (metAt (Dfa.nx2 a b) 0 m i).1 k).1 (Dfa.nx2 a b p k)]).getD j 0)) F.ti3 (TI.cells F.ti3) (hlt := hkm) (hf := fun j _ => rowF_next hrk j) (h := ?_)
                refine p_end ?_
                refine p_region fun hf => ?_
                refine p_move (h := ?_)
                refine p_add (r := ((k + 1 : Nat) : Int)) (hr := by omega) (hb := by omega) (h := ?_)
                refine p_assign (h := ?_)
                refine p_end ?_
                refine p_some ?_
                have hx := rowAt_hit (f := Dfa.nx2 a b p) (mc := (metAt (Dfa.nx2 a b) 0 m i).1) (k := k) (by simpa using hold)
                have hself := numOf_old hold
                refine ⟨⟨k + 1, _, hkm, eV_, eV_, eV_, eV_, eV_, eV_, eV_, eV_, by rw [hx]; exact eV_, eV_, eV_, eV_, eV_, oB_, oB_, oB_, oB_, oB_, oB_, by refine Eq.trans oB_ ?_; rw [hx], by refine Eq.trans oB_ ?_; rw [hx], by refine Eq.trans oB_ ?_; rw [hx, hself]⟩, ?_⟩
                simp (decide := true) only [upd, f16, V.toN, ↓reduceIte]; omega
            · refine p_condF (h := ?_)
              have hkm : m = k := by simp at hc68; omega
              subst hkm
              have hpre := rowAt_prefix (Dfa.nx2 a b p) (metAt (Dfa.nx2 a b) 0 m i).1 m
              have hgetR : (rowAt (Dfa.nx2 a b p) (metAt (Dfa.nx2 a b) 0 m i).1 m).1[i]'(Nat.lt_of_lt_of_le hlt hpre.length_le) = p := (hpre.getElem hlt).symm.trans hp.symm
              refine p_exit ?_
              refine p_freeze (g1 := g2 + 1 + 1 + 1) (d1 := 64) (h := ?_)
              refine p_toSl (s := 15) (hn := by simp) (h := ?_)
              refine p_seq (p_region fun hf => ?_)
              (first | refine p_fieldPtr (hf := F.fld25_1) (h := ?_) | refine p_fieldRef (hf := F.fld25_1) (h := ?_) | refine p_fieldRow (hf := F.fld25_1) (h := ?_))
              (first | refine p_load (ht := F.leaf22) (h := ?_) | refine p_loadRef (ht := F.leaf22) (h := ?_))
              refine p_move (h := ?_)
              refine p_buildSlice (ht := Try.underlying22) (hi := F.ti26) (h := ?_)
              refine p_append (k := i + 1) (ht := Try.underlying22) (hi := F.ti26) (hnl := by simp [hrl]) (hy := by exact ⟨.inl oB_, rfl⟩) (hm := by simp [hrl]) (hlim := by omega) (h := ?_)
              (first | refine p_fieldPtr (hf := F.fld25_1) (h := ?_) | refine p_fieldRef (hf := F.fld25_1) (h := ?_) | refine p_fieldRow (hf := F.fld25_1) (h := ?_))
              refine p_store1 F.ti22 (h := ?_)
              refine p_end ?_
              refine p_seq (p_draw F.mixed fun hf => ?_)
              (first | refine p_fieldPtr (hf := F.fld25_2) (h := ?_) | refine p_fieldRef (hf := F.fld25_2) (h := ?_) | refine p_fieldRow (hf := F.fld25_2) (h := ?_))
              (first | refine p_load (ht := F.leaf23) (h := ?_) | refine p_loadRef (ht := F.leaf23) (h := ?_))
              refine p_move (h := ?_)
              refine p_idxMap (j := p / b.n) (ht := Try.underlying23) (hi := F.ti4) (hij := rfl) (hj := hac.1) (h := ?_)
              rw [Dfa.ac_is hac.1]
              (first | refine p_load (ht := F.leaf4) (h := ?_) | refine p_loadRef (ht := F.leaf4) (h := ?_))
              (first | refine p_fieldPtr (hf := F.fld25_2) (h := ?_) | refine p_fieldRef (hf := F.fld25_2) (h := ?_) | refine p_fieldRow (hf := F.fld25_2) (h := ?_))
              (first | refine p_load (ht := F.leaf23) (h := ?_) | refine p_loadRef (ht := F.leaf23) (h := ?_))
              refine p_move (h := ?_)
              refine p_idxMap (j := p % b.n) (ht := Try.underlying23) (hi := F.ti4) (hij := rfl) (hj := hac.2) (h := ?_)
              rw [Dfa.ac_is hac.2]
              (first | refine p_load (ht := F.leaf4) (h := ?_) | refine p_loadRef (ht := F.leaf4) (h := ?_))
              refine p_assign (h := ?_)
              refine p_assign (h := ?_)
              refine p_endD ?_
              refine p_region fun hf => ?_
              (first | refine p_fieldPtr (hf := F.fld25_2) (h := ?_) | refine p_fieldRef (hf := F.fld25_2) (h := ?_) | refine p_fieldRow (hf := F.fld25_2) (h := ?_))
              (first | refine p_load (ht := F.leaf23) (h := ?_) | refine p_loadRef (ht := F.leaf23) (h := ?_))
              refine p_move (h := ?_)
              refine p_move (h := ?_)
              refine p_split (s := 130) (ht := fun hb130 => ?_) (hf := fun hb130 => ?_)
              · -- slot 130 is true
                refine p_guardYes (h := ?_)
                refine p_move (h := ?_)
                refine p_pick (h := ?_)
                refine p_move (h := ?_)
                refine p_split (s := 133) (ht := fun hb133 => ?_) (hf := fun hb133 => ?_)
                · -- slot 133 is true
                  refine p_guardYes (h := ?_)
                  refine p_move (h := ?_)
                  refine p_pick (h := ?_)
                  refine p_move (h := ?_)
                  refine p_split (s := 136) (ht := fun hb136 => ?_) (hf := fun hb136 => ?_)
                  · -- slot 136 is true
                    iterate 3 (refine p_guardNo (h := ?_))
                    refine p_guardUn (h := ?_)
                    refine p_guardUn (h := ?_)
                    refine p_guardUn (h := ?_)
                    refine p_guardUn (h := ?_)
                    refine p_guardNo (h := ?_)
                    refine p_pick (h := ?_)
                    refine p_buildSlice (ht := Try.underlying23) (hi := F.ti4) (h := ?_)
                    refine p_append (k := i + 1) (ht := Try.underlying23) (hi := F.ti4) (hnl := by simp; omega) (hy := by exact ⟨.inl oB_, rfl⟩) (hm := by simp; omega) (hlim := by omega) (h := ?_)
                    (first | refine p_fieldPtr (hf := F.fld25_2) (h := ?_) | refine p_fieldRef (hf := F.fld25_2) (h := ?_) | refine p_fieldRow (hf := F.fld25_2) (h := ?_))
                    refine p_store1 F.ti23 (h := ?_)
                    refine p_end ?_
                    refine p_region fun hf => ?_
                    refine p_move (h := ?_)
                    refine p_add (r := ((i + 1 : Nat) : Int)) (hr := by omega) (hb := by omega) (h := ?_)
                    refine p_assign (h := ?_)
                    refine p_end ?_
                    refine p_some ?_
                    have hx := metAt_next hlt
                    rw [← hp] at hx
                    refine ⟨⟨i + 1, _, _, _, fun j hj => ?_, eV_, eV_, eV_, eV_, eV_, eV_, eV_, eV_, by rw [hx]; exact eV_, oB_, oB_, oB_, oB_, by refine Eq.trans oB_ ?_; rw [hx, List.map_append, rowF_done hrk]; rfl, by refine Eq.trans oB_ ?_; rw [hx]; simp only [take_more hpre hlt hgetR, List.map_append]; exact congrArg (fun z => Ob.row _ (_ ++ [V.bool z])) (by simp_all [Dfa.ac2]), by rw [hx]; exact oB_, by rw [hx]; exact oB_⟩, ?_⟩
                    · rcases Nat.lt_succ_iff_lt_or_eq.1 hj with h | h
                      · exact hall j h
                      · subst h; exact hlt
                    · simp (decide := true) only [upd, e12, f12, V.toN, ↓reduceIte]; omega
                  · -- slot 136 is false
                    refine p_guardYes (h := ?_)
                    refine p_move (h := ?_)
                    refine p_guardYes (h := ?_)
                    refine p_not (h := ?_)
                    refine p_guardYes (h := ?_)
                    refine p_move (h := ?_)
                    refine p_split (s := 139) (ht := fun hb139 => ?_) (hf := fun hb139 => ?_)
                    · -- slot 139 is true
                      refine p_guardYes (h := ?_)
                      refine p_move (h := ?_)
                      refine p_guardYes (h := ?_)
                      refine p_move (h := ?_)
                      refine p_split (s := 141) (ht := fun hb141 => ?_) (hf := fun hb141 => ?_)
                      · -- slot 141 is true
                        refine p_guardNo (h := ?_)
                        refine p_guardYes (h := ?_)
                        refine p_pick (h := ?_)
                        refine p_guardYes (h := ?_)
                        refine p_pick (h := ?_)
                        refine p_pick (h := ?_)
                        refine p_buildSlice (ht := Try.underlying23) (hi := F.ti4) (h := ?_)
                        refine p_append (k := i + 1) (ht := Try.underlying23) (hi := F.ti4) (hnl := by simp; omega) (hy := by exact ⟨.inl oB_, rfl⟩) (hm := by simp; omega) (hlim := by omega) (h := ?_)
                        (first | refine p_fieldPtr (hf := F.fld25_2) (h := ?_) | refine p_fieldRef (hf := F.fld25_2) (h := ?_) | refine p_fieldRow (hf := F.fld25_2) (h := ?_))
                        refine p_store1 F.ti23 (h := ?_)
                        refine p_end ?_
                        refine p_region fun hf => ?_
                        refine p_move (h := ?_)
                        refine p_add (r := ((i + 1 : Nat) : Int)) (hr := by omega) (hb := by omega) (h := ?_)
                        refine p_assign (h := ?_)
                        refine p_end ?_
                        refine p_some ?_
                        have hx := metAt_next hlt
                        rw [← hp] at hx
                        refine ⟨⟨i + 1, _, _, _, fun j hj => ?_, eV_, eV_, eV_, eV_, eV_, eV_, eV_, eV_, by rw [hx]; exact eV_, oB_, oB_, oB_, oB_, by refine Eq.trans oB_ ?_; rw [hx, List.map_append, rowF_done hrk]; rfl, by refine Eq.trans oB_ ?_; rw [hx]; simp only [take_more hpre hlt hgetR, List.map_append]; exact congrArg (fun z => Ob.row _ (_ ++ [V.bool z])) (by simp_all [Dfa.ac2]), by rw [hx]; exact oB_, by rw [hx]; exact oB_⟩, ?_⟩
                        · rcases Nat.lt_succ_iff_lt_or_eq.1 hj with h | h
                          · exact hall j h
                          · subst h; exact hlt
                        · simp (decide := true) only [upd, e12, f12, V.toN, ↓reduceIte]; omega
                      · -- slot 141 is false
                        refine p_guardYes (h := ?_)
                        refine p_move (h := ?_)
                        refine p_guardYes (h := ?_)
                        refine p_pick (h := ?_)
                        refine p_guardYes (h := ?_)
                        refine p_pick (h := ?_)
                        refine p_pick (h := ?_)
                        refine p_buildSlice (ht := Try.underlying23) (hi := F.ti4) (h := ?_)
                        refine p_append (k := i + 1) (ht := Try.underlying23) (hi := F.ti4) (hnl := by simp; omega) (hy := by exact ⟨.inl oB_, rfl⟩) (hm := by simp; omega) (hlim := by omega) (h := ?_)
                        (first | refine p_fieldPtr (hf := F.fld25_2) (h := ?_) | refine p_fieldRef (hf := F.fld25_2) (h := ?_) | refine p_fieldRow (hf := F.fld25_2) (h := ?_))
                        refine p_store1 F.ti23 (h := ?_)
                        refine p_end ?_
                        refine p_region fun hf => ?_
                        refine p_move (h := ?_)
                        refine p_add (r := ((i + 1 : Nat) : Int)) (hr := by omega) (hb := by omega) (h := ?_)
                        refine p_assign (h := ?_)
                        refine p_end ?_
                        refine p_some ?_
                        have hx := metAt_next hlt
                        rw [← hp] at hx
                        refine ⟨⟨i + 1, _, _, _, fun j hj => ?_, eV_, eV_, eV_, eV_, eV_, eV_, eV_, eV_, by rw [hx]; exact eV_, oB_, oB_, oB_, oB_, by refine Eq.trans oB_ ?_; rw [hx, List.map_append, rowF_done hrk]; rfl, by refine Eq.trans oB_ ?_; rw [hx]; simp only [take_more hpre hlt hgetR, List.map_append]; exact congrArg (fun z => Ob.row _ (_ ++ [V.bool z])) (by simp_all [Dfa.ac2]), by rw [hx]; exact oB_, by rw [hx]; exact oB_⟩, ?_⟩
                        · rcases Nat.lt_succ_iff_lt_or_eq.1 hj with h | h
                          · exact hall j h
                          · subst h; exact hlt
                        · simp (decide := true) only [upd, e12, f12, V.toN, ↓reduceIte]; omega
                    · -- slot 139 is false
                      iterate 2 (refine p_guardNo (h := ?_))
                      refine p_guardUn (h := ?_)
                      refine p_guardNo (h := ?_)
                      refine p_guardYes (h := ?_)
                      refine p_pick (h := ?_)
                      refine p_pick (h := ?_)
                      refine p_buildSlice (ht := Try.underlying23) (hi := F.ti4) (h := ?_)
                      refine p_append (k := i + 1) (ht := Try.underlying23) (hi := F.ti4) (hnl := by simp; omega) (hy := by exact ⟨.inl oB_, rfl⟩) (hm := by simp; omega) (hlim := by omega) (h := ?_)
                      (first | refine p_fieldPtr (hf := F.fld25_2) (h := ?_) | refine p_fieldRef (hf := F.fld25_2) (h := ?_) | refine p_fieldRow (hf := F.fld25_2) (h := ?_))
                      refine p_store1 F.ti23 (h := ?_)
                      refine p_end ?_
                      refine p_region fun hf => ?_
                      refine p_move (h := ?_)
                      refine p_add (r := ((i + 1 : Nat) : Int)) (hr := by omega) (hb := by omega) (h := ?_)
                      refine p_assign (h := ?_)
                      refine p_end ?_
                      refine p_some ?_
                      have hx := metAt_next hlt
                      rw [← hp] at hx
                      refine ⟨⟨i + 1, _, _, _, fun j hj => ?_, eV_, eV_, eV_, eV_, eV_, eV_, eV_, eV_, by rw [hx]; exact eV_, oB_, oB_, oB_, oB_, by refine Eq.trans oB_ ?_; rw [hx, List.map_append, rowF_done hrk]; rfl, by refine Eq.trans oB_ ?_; rw [hx]; simp only [take_more hpre hlt hgetR, List.map_append]; exact congrArg (fun z => Ob.row _ (_ ++ [V.bool z])) (by simp_all [Dfa.ac2]), by rw [hx]; exact oB_, by rw [hx]; exact oB_⟩, ?_⟩
                      · rcases Nat.lt_succ_iff_lt_or_eq.1 hj with h | h
                        · exact hall j h
                        · subst h; exact hlt
                      · simp (decide := true) only [upd, e12, f12, V.toN, ↓reduceIte]; omega
                · -- slot 133 is false
                  refine p_guardNo (h := ?_)
                  refine p_pick (h := ?_)
                  refine p_move (h := ?_)
                  refine p_guardYes (h := ?_)
                  refine p_move (h := ?_)
                  refine p_guardYes (h := ?_)
                  refine p_not (h := ?_)
                  refine p_guardYes (h := ?_)
                  refine p_move (h := ?_)
                  refine p_split (s := 139) (ht := fun hb139 => ?_) (hf := fun hb139 => ?_)
                  · -- slot 139 is true
                    refine p_guardYes (h := ?_)
                    refine p_move (h := ?_)
                    refine p_guardYes (h := ?_)
                    refine p_move (h := ?_)
                    refine p_split (s := 141) (ht := fun hb141 => ?_) (hf := fun hb141 => ?_)
                    · -- slot 141 is true
                      refine p_guardNo (h := ?_)
                      refine p_guardYes (h := ?_)
                      refine p_pick (h := ?_)
                      refine p_guardYes (h := ?_)
                      refine p_pick (h := ?_)
                      refine p_pick (h := ?_)
                      refine p_buildSlice (ht := Try.underlying23) (hi := F.ti4) (h := ?_)
                      refine p_append (k := i + 1) (ht := Try.underlying23) (hi := F.ti4) (hnl := by simp; omega) (hy := by exact ⟨.inl oB_, rfl⟩) (hm := by simp; omega) (hlim := by omega) (h := ?_)
                      (first | refine p_fieldPtr (hf := F.fld25_2) (h := ?_) | refine p_fieldRef (hf := F.fld25_2) (h := ?_) | refine p_fieldRow (hf := F.fld25_2) (h := ?_))
                      refine p_store1 F.ti23 (h := ?_)
                      refine p_end ?_
                      refine p_region fun hf => ?_
                      refine p_move (h := ?_)
                      refine p_add (r := ((i + 1 : Nat) : Int)) (hr := by omega) (hb := by omega) (h := ?_)
                      refine p_assign (h := ?_)
                      refine p_end ?_
                      refine p_some ?_
                      have hx := metAt_next hlt
                      rw [← hp] at hx
                      refine ⟨⟨i + 1, _, _, _, fun j hj => ?_, eV_, eV_, eV_, eV_, eV_, eV_, eV_, eV_, by rw [hx]; exact eV_, oB_, oB_, oB_, oB_, by refine Eq.trans oB_ ?_; rw [hx, List.map_append, rowF_done hrk]; rfl, by refine Eq.trans oB_ ?_; rw [hx]; simp only [take_more hpre hlt hgetR, List.map_append]; exact congrArg (fun z => Ob.row _ (_ ++ [V.bool z])) (by simp_all [Dfa.ac2]), by rw [hx]; exact oB_, by rw [hx]; exact oB_⟩, ?_⟩
                      · rcases Nat.lt_succ_iff_lt_or_eq.1 hj with h | h
                        · exact hall j h
                        · subst h; exact hlt
                      · simp (decide := true) only [upd, e12, f12, V.toN, ↓reduceIte]; omega
                    · -- slot 141 is false
                      refine p_guardYes (h := ?_)
                      refine p_move (h := ?_)
                      refine p_guardYes (h := ?_)
                      refine p_pick (h := ?_)
                      refine p_guardYes (h := ?_)
                      refine p_pick (h := ?_)
                      refine p_pick (h := ?_)
                      refine p_buildSlice (ht := Try.underlying23) (hi := F.ti4) (h := ?_)
                      refine p_append (k := i + 1) (ht := Try.underlying23) (hi := F.ti4) (hnl := by simp; omega) (hy := by exact ⟨.inl oB_, rfl⟩) (hm := by simp; omega) (hlim := by omega) (h := ?_)
                      (first | refine p_fieldPtr (hf := F.fld25_2) (h := ?_) | refine p_fieldRef (hf := F.fld25_2) (h := ?_) | refine p_fieldRow (hf := F.fld25_2) (h := ?_))
                      refine p_store1 F.ti23 (h := ?_)
                      refine p_end ?_
                      refine p_region fun hf => ?_
                      refine p_move (h := ?_)
                      refine p_add (r := ((i + 1 : Nat) : Int)) (hr := by omega) (hb := by omega) (h := ?_)
                      refine p_assign (h := ?_)
                      refine p_end ?_
                      refine p_some ?_
                      have hx := metAt_next hlt
                      rw [← hp] at hx
                      refine ⟨⟨i + 1, _, _, _, fun j hj => ?_, eV_, eV_, eV_, eV_, eV_, eV_, eV_, eV_, by rw [hx]; exact eV_, oB_, oB_, oB_, oB_, by refine Eq.trans oB_ ?_; rw [hx, List.map_append, rowF_done hrk]; rfl, by refine Eq.trans oB_ ?_; rw [hx]; simp only [take_more hpre hlt hgetR, List.map_append]; exact congrArg (fun z => Ob.row _ (_ ++ [V.bool z])) (by simp_all [Dfa.ac2]), by rw [hx]; exact oB_, by rw [hx]; exact oB_⟩, ?_⟩
                      · rcases Nat.lt_succ_iff_lt_or_eq.1 hj with h | h
                        · exact hall j h
                        · subst h; exact hlt
                      · simp (decide := true) only [upd, e12, f12, V.toN, ↓reduceIte]; omega
                  · -- slot 139 is false
                    iterate 2 (refine p_guardNo (h := ?_))
                    refine p_guardUn (h := ?_)
                    refine p_guardNo (h := ?_)
                    refine p_guardYes (h := ?_)
                    refine p_pick (h := ?_)
                    refine p_pick (h := ?_)
                    refine p_buildSlice (ht := Try.underlying23) (hi := F.ti4) (h := ?_)
                    refine p_append (k := i + 1) (ht := Try.underlying23) (hi := F.ti4) (hnl := by simp; omega) (hy := by exact ⟨.inl oB_, rfl⟩) (hm := by simp; omega) (hlim := by omega) (h := ?_)
                    (first | refine p_fieldPtr (hf := F.fld25_2) (h := ?_) | refine p_fieldRef (hf := F.fld25_2) (h := ?_) | refine p_fieldRow (hf := F.fld25_2) (h := ?_))
                    refine p_store1 F.ti23 (h := ?_)
                    refine p_end ?_
                    refine p_region fun hf => ?_
                    refine p_move (h := ?_)
                    refine p_add (r := ((i + 1 : Nat) : Int)) (hr := by omega) (hb := by omega) (h := ?_)
                    refine p_assign (h := ?_)
                    refine p_end ?_
                    refine p_some ?_
                    have hx := metAt_next hlt
                    rw [← hp] at hx
                    refine ⟨⟨i + 1, _, _, _, fun j hj => ?_, eV_, eV_, eV_, eV_, eV_, eV_, eV_, eV_, by rw [hx]; exact eV_, oB_, oB_, oB_, oB_, by refine Eq.trans oB_ ?_; rw [hx, List.map_append, rowF_done hrk]; rfl, by refine Eq.trans oB_ ?_; rw [hx]; simp only [take_more hpre hlt hgetR, List.map_append]; exact congrArg (fun z => Ob.row _ (_ ++ [V.bool z])) (by simp_all [Dfa.ac2]), by rw [hx]; exact oB_, by rw [hx]; exact oB_⟩, ?_⟩
                    · rcases Nat.lt_succ_iff_lt_or_eq.1 hj with h | h
                      · exact hall j h
                      · subst h; exact hlt
                    · simp (decide := true) only [upd, e12, f12, V.toN, ↓reduceIte]; omega
              · -- slot 130 is false
                refine p_guardNo (h := ?_)
                refine p_pick (h := ?_)
                refine p_move (h := ?_)
                refine p_guardNo (h := ?_)
                refine p_pick (h := ?_)
                refine p_move (h := ?_)
                refine p_guardYes (h := ?_)
                refine p_move (h := ?_)
                refine p_guardYes (h := ?_)
                refine p_not (h := ?_)
                refine p_guardYes (h := ?_)
                refine p_move (h := ?_)
                refine p_split (s := 139) (ht := fun hb139 => ?_) (hf := fun hb139 => ?_)
                · -- slot 139 is true
                  refine p_guardYes (h := ?_)
                  refine p_move (h := ?_)
                  refine p_guardYes (h := ?_)
                  refine p_move (h := ?_)
                  refine p_split (s := 141) (ht := fun hb141 => ?_) (hf := fun hb141 => ?_)
                  · -- slot 141 is true
                    refine p_guardNo (h := ?_)
                    refine p_guardYes (h := ?_)
                    refine p_pick (h := ?_)
                    refine p_guardYes (h := ?_)
                    refine p_pick (h := ?_)
                    refine p_pick (h := ?_)
                    refine p_buildSlice (ht := Try.underlying23) (hi := F.ti4) (h := ?_)
                    refine p_append (k := i + 1) (ht := Try.underlying23) (hi := F.ti4) (hnl := by simp; omega) (hy := by exact ⟨.inl oB_, rfl⟩) (hm := by simp; omega) (hlim := by omega) (h := ?_)
                    (first | refine p_fieldPtr (hf := F.fld25_2) (h := ?_) | refine p_fieldRef (hf := F.fld25_2) (h := ?_) | refine p_fieldRow (hf := F.fld25_2) (h := ?_))
                    refine p_store1 F.ti23 (h := ?_)
                    refine p_end ?_
                    refine p_region fun hf => ?_
                    refine p_move (h := ?_)
                    refine p_add (r := ((i + 1 : Nat) : Int)) (hr := by omega) (hb := by omega) (h := ?_)
                    refine p_assign (h := ?_)
                    refine p_end ?_
                    refine p_some ?_
                    have hx := metAt_next hlt
                    rw [← hp] at hx
                    refine ⟨⟨i + 1, _, _, _, fun j hj => ?_, eV_, eV_, eV_, eV_, eV_, eV_, eV_, eV_, by rw [hx]; exact eV_, oB_, oB_, oB_, oB_, by refine Eq.trans oB_ ?_; rw [hx, List.map_append, rowF_done hrk]; rfl, by refine Eq.trans oB_ ?_; rw [hx]; simp only [take_more hpre hlt hgetR, List.map_append]; exact congrArg (fun z => Ob.row _ (_ ++ [V.bool z])) (by simp_all [Dfa.ac2]), by rw [hx]; exact oB_, by rw [hx]; exact oB_⟩, ?_⟩
                    · rcases Nat.lt_succ_iff_lt_or_eq.1 hj with h | h
                      · exact hall j h
                      · subst h; exact hlt
                    · simp (decide := true) only [upd, e12, f12, V.toN, ↓reduceIte]; omega
                  · -- slot 141 is false
                    refine p_guardYes (h := ?_)
                    refine p_move (h := ?_)
                    refine p_guardYes (h := ?_)
                    refine p_pick (h := ?_)
                    refine p_guardYes (h := ?_)
                    refine p_pick (h := ?_)
                    refine p_pick (h := ?_)
                    refine p_buildSlice (ht := Try.underlying23) (hi := F.ti4) (h := ?_)
                    refine p_append (k := i + 1) (ht := Try.underlying23) (hi := F.ti4) (hnl := by simp; omega) (hy := by exact ⟨.inl oB_, rfl⟩) (hm := by simp; omega) (hlim := by omega) (h := ?_)
                    (first | refine p_fieldPtr (hf := F.fld25_2) (h := ?_) | refine p_fieldRef (hf := F.fld25_2) (h := ?_) | refine p_fieldRow (hf := F.fld25_2) (h := ?_))
                    refine p_store1 F.ti23 (h := ?_)
                    refine p_end ?_
                    refine p_region fun hf => ?_
                    refine p_move (h := ?_)
                    refine p_add (r := ((i + 1 : Nat) : Int)) (hr := by omega) (hb := by omega) (h := ?_)
                    refine p_assign (h := ?_)
                    refine p_end ?_
                    refine p_some ?_
                    have hx := metAt_next hlt
                    rw [← hp] at hx
                    refine ⟨⟨i + 1, _, _, _, fun j hj => ?_, eV_, eV_, eV_, eV_, eV_, eV_, eV_, eV_, by rw [hx]; exact eV_, oB_, oB_, oB_, oB_, by refine Eq.trans oB_ ?_; rw [hx, List.map_append, rowF_done hrk]; rfl, by refine Eq.trans oB_ ?_; rw [hx]; simp only [take_more hpre hlt hgetR, List.map_append]; exact congrArg (fun z => Ob.row _ (_ ++ [V.bool z])) (by simp_all [Dfa.ac2]), by rw [hx]; exact oB_, by rw [hx]; exact oB_⟩, ?_⟩
                    · rcases Nat.lt_succ_iff_lt_or_eq.1 hj with h | h
                      · exact hall j h
                      · subst h; exact hlt
                    · simp (decide := true) only [upd, e12, f12, V.toN, ↓reduceIte]; omega
                · -- slot 139 is false
                  iterate 2 (refine p_guardNo (h := ?_))
                  refine p_guardUn (h := ?_)
                  refine p_guardNo (h := ?_)
                  refine p_guardYes (h := ?_)
                  refine p_pick (h := ?_)
                  refine p_pick (h := ?_)
                  refine p_buildSlice (ht := Try.underlying23) (hi := F.ti4) (h := ?_)
                  refine p_append (k := i + 1) (ht := Try.underlying23) (hi := F.ti4) (hnl := by simp; omega) (hy := by exact ⟨.inl oB_, rfl⟩) (hm := by simp; omega) (hlim := by omega) (h := ?_)
                  (first | refine p_fieldPtr (hf := F.fld25_2) (h := ?_) | refine p_fieldRef (hf := F.fld25_2) (h := ?_) | refine p_fieldRow (hf := F.fld25_2) (h := ?_))
                  refine p_store1 F.ti23 (h := ?_)
                  refine p_end ?_
                  refine p_region fun hf => ?_
                  refine p_move (h := ?_)
                  refine p_add (r := ((i + 1 : Nat) : Int)) (hr := by omega) (hb := by omega) (h := ?_)
                  refine p_assign (h := ?_)
                  refine p_end ?_
                  refine p_some ?_
                  have hx := metAt_next hlt
                  rw [← hp] at hx
                  refine ⟨⟨i + 1, _, _, _, fun j hj => ?_, eV_, eV_, eV_, eV_, eV_, eV_, eV_, eV_, by rw [hx]; exact eV_, oB_, oB_, oB_, oB_, by refine Eq.trans oB_ ?_; rw [hx, List.map_append, rowF_done hrk]; rfl, by refine Eq.trans oB_ ?_; rw [hx]; simp only [take_more hpre hlt hgetR, List.map_append]; exact congrArg (fun z => Ob.row _ (_ ++ [V.bool z])) (by simp_all [Dfa.ac2]), by rw [hx]; exact oB_, by rw [hx]; exact oB_⟩, ?_⟩
                  · rcases Nat.lt_succ_iff_lt_or_eq.1 hj with h | h
                    · exact hall j h
                    · subst h; exact hlt
                  · simp (decide := true) only [upd, e12, f12, V.toN, ↓reduceIte]; omega
        · refine p_condF (h := ?_)
          have hge : (metAt (Dfa.nx2 a b) 0 m i).1.length ≤ i := by simp at hc47; omega
          refine p_exit ?_
          refine p_seq (p_region fun hf => ?_)
          (first | refine p_loadA (ht := F.agg25) (hi := F.ti25) (h := ?_) | refine p_loadRefA (ht := F.agg25) (hi := F.ti25) (h := ?_))
          refine p_storeAll F.ti25 (h := ?_)
          refine p_end ?_
          refine TrC.ret ?_
          refine p_freeze (g1 := q1) (d1 := 115) (h := ?_)
          refine p_freeze (g1 := q2) (d1 := 147) (h := ?_)
          refine p_cellSl (g1 := 0 + 1) (d1 := 6) (i := 1) (hn := by simp [hrl]) (h := ?_)
          refine p_cellSl (g1 := 0 + 1) (d1 := 6) (i := 2) (hn := by simp; omega) (h := ?_)
          refine Tr.ret1 rfl (res_cell eV_ oB_ F.agg25 F.ti25 rfl rfl) (by rw [← Dfa.product_pairs ha hb hs' both, hmn, grown_is hall hge (by rw [hN]; exact Nat.le_trans hil hlen)]; simp [List.take_of_length_le hge, List.map_map, Function.comp_def, hm]) (by intro l h; cases h)

end Go.Proofs.Ytdpljpmohpifbaa
