/-
  The closures of dfa's least, walked.
-/
import Derived.Test.YtdpljpmohpifbaaZd
set_option linter.unusedSimpArgs false
set_option linter.unusedVariables false
namespace Go.Proofs.Ytdpljpmohpifbaa
open Go.RowKit
namespace Dfa
/-- The classes of the states, as a list. -/
def clsL (d : Dfa) : List Int := (List.range d.n).map fun i => (d.cls i : Int)
theorem clsL_len (d : Dfa) : d.clsL.length = d.n := by simp [clsL]
theorem clsL_get {d : Dfa} {i : Nat} (h : i < d.clsL.length) : d.clsL[i] = (d.cls i : Int) := by simp [clsL]
/-- The first state of a class. -/
def firstI (d : Dfa) (a : Int) : Nat := d.clsL.idxOf a
theorem cls_mem {d : Dfa} {i : Nat} (h : i < d.n) : (d.cls i : Int) ∈ d.clsL := List.mem_map.2 ⟨i, by simpa using h, rfl⟩
theorem firstI_lt {d : Dfa} {i : Nat} (h : i < d.n) : d.firstI (d.cls i) < d.n := by
  have := List.idxOf_lt_length_iff.2 (cls_mem h)
  rwa [clsL_len] at this
theorem cls_first {d : Dfa} {i : Nat} (h : i < d.n) : d.cls (d.firstI (d.cls i)) = d.cls i := by
  have h1 := List.idxOf_lt_length_iff.2 (cls_mem h)
  have h2 := List.getElem_idxOf h1
  rw [clsL_get] at h2
  exact Int.ofNat_inj.1 h2
def nextP (d : Dfa) (s : Int × Int) (k : Nat) : Int × Int := (d.cls (d.nx s.2.toNat k), d.firstI (d.cls (d.nx s.2.toNat k)))
def accP (d : Dfa) (s : Int × Int) : Bool := d.ac s.2.toNat
theorem nx_is {d : Dfa} (h : d.Ok) {i k : Nat} (hi : i < d.next.length) (hk : k < d.next[i].length) : d.next[i][k] = (d.nx i k : Int) := by
  have hr : d.row i = d.next[i] := by simp [row, List.getD, List.getElem?_eq_getElem hi]
  have := (h.rows _ (List.getElem_mem hi)).2 _ (List.getElem_mem hk)
  simp only [nx, hr, List.getD, List.getElem?_eq_getElem hk, Option.getD_some]
  omega
theorem row_len' {d : Dfa} (h : d.Ok) {i k : Nat} (hi : i < d.next.length) (hk : (k : Int) < d.sym) : k < d.next[i].length := by
  have := (h.rows _ (List.getElem_mem hi)).1
  omega
theorem ac_is {d : Dfa} {i : Nat} (hi : i < d.acc.length) : d.acc[i] = d.ac i := by simp [ac, hi]
end Dfa

theorem least1 (d : Dfa) (h : d.Ok) (s : Int × Int) (k : Nat) (hs : 0 ≤ s.2 ∧ s.2 < d.n) (hk : (k : Int) < d.sym) : FnC Try.prog 51 [pairV s, iV k, .ref (dfaL d), .ref [.sl 3 (d.clsL.map iV)]] (fun r => r = pairV (d.nextP s k)) := by
  refine FnC.of (fn := Try.f51) ⟨Try.func51, by kernel_rfl, rfl⟩ Try.ntmps51 (by simp) fun w0 S0 => ?_
  have hlt : s.2.toNat < d.next.length := by have : d.n = d.next.length := rfl; omega
  have hk2 := Dfa.row_len' h hlt hk
  have hto := Dfa.nx_is h hlt hk2
  have hto2 : d.nx s.2.toNat k < d.clsL.length := by rw [Dfa.clsL_len]; exact h.nx_lt hlt hk
  refine p_seq (p_region fun hf => ?_)
  refine p_box (h := ?_)
  refine p_alloc (hi := F.ti78) (h := ?_)
  refine p_end ?_
  refine p_seq (p_region fun hf => ?_)
  (first | refine p_fieldPtr (hf := F.fld25_1) (h := ?_) | refine p_fieldRef (hf := F.fld25_1) (h := ?_) | refine p_fieldRow (hf := F.fld25_1) (h := ?_))
  (first | refine p_load (ht := F.leaf22) (h := ?_) | refine p_loadRef (ht := F.leaf22) (h := ?_))
  refine p_idxArr (ht := Try.underlying78) (hi := F.ti3) (h0 := by decide) (hlt := by decide) (h := ?_)
  (first | refine p_load (ht := F.leaf3) (h := ?_) | refine p_loadRef (ht := F.leaf3) (h := ?_))
  refine p_idxMap (j := s.2.toNat) (ht := Try.underlying22) (hi := F.ti26) (hij := by omega) (hj := hlt) (h := ?_)
  (first | refine p_load (ht := F.leaf26) (h := ?_) | refine p_loadRef (ht := F.leaf26) (h := ?_))
  refine p_move (h := ?_)
  refine p_idxMap (j := k) (ht := Try.underlying26) (hi := F.ti3) (hij := rfl) (hj := hk2) (h := ?_)
  (first | refine p_load (ht := F.leaf3) (h := ?_) | refine p_loadRef (ht := F.leaf3) (h := ?_))
  refine p_assign (h := ?_)
  refine p_end ?_
  refine p_seq (p_draw F.mixed fun hf => ?_)
  (first | refine p_load (ht := F.leaf26) (h := ?_) | refine p_loadRef (ht := F.leaf26) (h := ?_))
  refine p_move (h := ?_)
  refine p_idxMap (j := d.nx s.2.toNat k) (ht := Try.underlying26) (hi := F.ti3) (hij := hto) (hj := hto2) (h := ?_)
  (first | refine p_load (ht := F.leaf3) (h := ?_) | refine p_loadRef (ht := F.leaf3) (h := ?_))
  (first | refine p_load (ht := F.leaf26) (h := ?_) | refine p_loadRef (ht := F.leaf26) (h := ?_))
  (first | refine p_load (ht := F.leaf26) (h := ?_) | refine p_loadRef (ht := F.leaf26) (h := ?_))
  refine p_move (h := ?_)
  refine p_idxMap (j := d.nx s.2.toNat k) (ht := Try.underlying26) (hi := F.ti3) (hij := hto) (hj := hto2) (h := ?_)
  (first | refine p_load (ht := F.leaf3) (h := ?_) | refine p_loadRef (ht := F.leaf3) (h := ?_))
  refine p_call (hx := rfl) (hb := ⟨Try.func52, by kernel_rfl, rfl⟩) (hf := first09 d.clsL d.clsL[d.nx s.2.toNat k] (by rw [Dfa.clsL_len]; have := h.n1; omega)) (h := ?_)
  refine p_build (hi := F.ti78) (hpl := F.pl78) (h := ?_)
  refine p_storeAll F.ti78 (h := ?_)
  refine p_endD ?_
  refine TrC.ret ?_
  refine Tr.ret1 rfl (res_cell eV_ oB_ F.agg78 F.ti78 rfl rfl) (by rw [idx_nat (List.getElem_mem hto2), Dfa.clsL_get hto2]; rfl) (by intro l h; cases h)

theorem least2 (d : Dfa) (h : d.Ok) (s : Int × Int) (hs : 0 ≤ s.2 ∧ s.2 < d.n) : FnC Try.prog 53 [pairV s, .ref (dfaL d)] (fun r => r = .bool (d.accP s)) := by
  refine FnC.of (fn := Try.f53) ⟨Try.func53, by kernel_rfl, rfl⟩ Try.ntmps53 (by simp) fun w0 S0 => ?_
  have hlt : s.2.toNat < d.acc.length := by have := h.acc; omega
  refine p_seq (p_region fun hf => ?_)
  refine p_box (h := ?_)
  refine p_assign (h := ?_)
  refine p_end ?_
  refine p_seq (p_region fun hf => ?_)
  (first | refine p_fieldPtr (hf := F.fld25_2) (h := ?_) | refine p_fieldRef (hf := F.fld25_2) (h := ?_) | refine p_fieldRow (hf := F.fld25_2) (h := ?_))
  (first | refine p_load (ht := F.leaf23) (h := ?_) | refine p_loadRef (ht := F.leaf23) (h := ?_))
  refine p_idxArr (ht := Try.underlying78) (hi := F.ti3) (h0 := by decide) (hlt := by decide) (h := ?_)
  (first | refine p_load (ht := F.leaf3) (h := ?_) | refine p_loadRef (ht := F.leaf3) (h := ?_))
  refine p_idxMap (j := s.2.toNat) (ht := Try.underlying23) (hi := F.ti4) (hij := by omega) (hj := hlt) (h := ?_)
  (first | refine p_load (ht := F.leaf4) (h := ?_) | refine p_loadRef (ht := F.leaf4) (h := ?_))
  refine p_assign (h := ?_)
  refine p_end ?_
  refine TrC.ret ?_
  refine p_ret1 (hp := by rw [Dfa.ac_is]; rfl)

end Go.Proofs.Ytdpljpmohpifbaa
