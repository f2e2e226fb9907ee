/-
  Automata as data; slices.IndexFunc, ContainsFunc and Index of whole numbers, walked; the closures of dfa's Check and least.
-/
import Derived.Test.YtdpljpmohpifbaaZb
import Derived.Test.YtdpljpmohpifbaaY
import Derived.Test.YtdpljpmohpifbaaF
set_option linter.unusedSimpArgs false
set_option linter.unusedVariables false
namespace Go.Proofs.Ytdpljpmohpifbaa
open Go.RowKit
abbrev iV (n : Int) : V := .int .i64 n
abbrev rowV (r : List Int) : V := .sl 3 (r.map iV)
abbrev dfaL (d : Dfa) : List V := [iV d.sym, .sl 26 (d.next.map rowV), .sl 4 (d.acc.map .bool)]
abbrev dfaV (d : Dfa) : V := .agg (dfaL d)
abbrev pairV (p : Int × Int) : V := .agg [iV p.1, iV p.2]
/-- Sizes at which no count overflows. -/
def Dfa.fits (d : Dfa) : Prop := d.next.length ≤ 1000000000 ∧ d.acc.length ≤ 1000000000 ∧ ∀ r ∈ d.next, r.length ≤ 1000000000
def idx {α : Type} (p : α → Bool) (l : List α) : Int := if l.any p then (l.findIdx p : Nat) else -1
theorem idx_hit {α : Type} {p : α → Bool} {l : List α} {i : Nat} (hi : i < l.length) (hp : p l[i] = true) (h : ∀ j (hj : j < l.length), j < i → p l[j] = false) : idx p l = i := by
  have h1 : l.any p = true := List.any_eq_true.2 ⟨_, List.getElem_mem hi, hp⟩
  rw [idx, if_pos h1]
  congr 1
  refine (List.findIdx_eq hi).2 ⟨hp, fun j hj => h j (by omega) hj⟩
theorem idx_miss {α : Type} {p : α → Bool} {l : List α} (h : ∀ j (hj : j < l.length), p l[j] = false) : idx p l = -1 := by
  have h1 : ¬ l.any p = true := fun h1 => by
    obtain ⟨x, hx, hp⟩ := List.any_eq_true.1 h1
    obtain ⟨j, hj, rfl⟩ := List.mem_iff_getElem.1 hx
    rw [h j hj] at hp; cases hp
  rw [idx, if_neg h1]
theorem idx_nonneg {α : Type} (p : α → Bool) (l : List α) : decide (0 ≤ idx p l) = l.any p := by
  unfold idx; split <;> simp_all

theorem indexFunc_int (p : Int → Bool) (l : List Int) (hl : l.length ≤ 1000000000) (fid : FuncId) (fn : Func) (code : Code) (cap : List V) (hcap : V.outs cap = true) (hb : HasBody Try.prog fid fn code) (hp : ∀ x ∈ l, FnC Try.prog fid (iV x :: cap) (fun r => r = .bool (p x))) :
    FnC Try.prog 55 [.sl 3 (l.map iV), .fn fid cap] (fun r => r = iV (idx p l)) := by
  refine FnC.of (fn := Try.f55) ⟨Try.func55, by kernel_rfl, rfl⟩ Try.ntmps55 (by simp) fun w0 S0 => ?_
  refine p_seq (p_region fun hf => ?_)
  refine p_assign (h := ?_)
  refine p_end ?_
  refine p_seq ?_
  refine p_seq (p_region fun hf => ?_)
  refine p_move (h := ?_)
  refine p_len (ht := Try.underlying26) (h := ?_)
  refine p_move (h := ?_)
  refine p_end ?_
  refine TrC.block ?_
  refine p_loop (fun st => ∃ i : Nat, i ≤ l.length ∧ (∀ j (hj : j < l.length), j < i → p l[j] = false) ∧ st.env 0 = .sl 3 (l.map iV) ∧ st.env 1 = .fn fid cap ∧ st.env 7 = iV l.length ∧ st.env 8 = iV i) (fun st => l.length - (st.env 8).toN) ?_ fun e ob g hI => ?_
  · exact ⟨0, by omega, fun j hj h => by omega, eV_, eV_, eV_, eV_⟩
  · obtain ⟨i, hi, hn, e0, e1, e7, e8⟩ := hI
    dsimp only at e0 e1 e7 e8
    have hE := (⟨e0, e1, e7, e8⟩ : _ ∧ _ ∧ _ ∧ _)
    refine p_seq (p_region fun hf => ?_)
    refine p_num (h := ?_)
    refine p_end ?_
    refine p_seq ?_
    refine p_cond (ht := fun hc => ?_) (hf := fun hc => ?_)
    · have hlt : i < l.length := by simpa using hc
      refine p_skip ?_
      refine p_seq ?_
      refine TrC.block ?_
      refine p_seq (p_region fun hf => ?_)
      refine p_move (h := ?_)
      refine p_assign (h := ?_)
      refine p_end ?_
      refine p_seq (p_region fun hf => ?_)
      refine p_move (h := ?_)
      refine p_move (h := ?_)
      refine p_move (h := ?_)
      refine p_idxMap (j := i) (ht := Try.underlying26) (hi := F.ti3) (hij := rfl) (hj := hlt) (h := ?_)
      (first | refine p_load (ht := F.leaf3) (h := ?_) | refine p_loadRef (ht := F.leaf3) (h := ?_))
      refine p_call (vs := iV l[i] :: cap) (hb := hb) (hro := by simp [V.outs, V.out, hcap]) (hf := hp l[i] (List.getElem_mem hlt)) (h := ?_)
      refine p_end ?_
      refine p_cond (ht := fun hc => ?_) (hf := fun hc => ?_)
      · refine p_seq (p_region fun hf => ?_)
        refine p_move (h := ?_)
        refine p_assign (h := ?_)
        refine p_end ?_
        refine TrC.ret ?_
        refine p_ret1 (hp := by rw [idx_hit hlt hc hn])
      · refine p_skip ?_
        refine p_region fun hf => ?_
        refine p_add (r := ((i + 1 : Nat) : Int)) (hr := by omega) (hb := by omega) (h := ?_)
        refine p_move (h := ?_)
        refine p_end ?_
        refine p_some ?_
        refine ⟨⟨i + 1, hlt, fun j hj h => ?_, eV_, eV_, eV_, eV_⟩, ?_⟩
        · rcases Nat.lt_succ_iff_lt_or_eq.1 h with h | h
          · exact hn j hj h
          · subst h; exact hc
        · simp (decide := true) only [upd, e8, V.toN, ↓reduceIte]; omega
    · have hge : i = l.length := by have := hc; simp at this; omega
      refine p_exit ?_
      refine p_seq (p_region fun hf => ?_)
      refine p_assign (h := ?_)
      refine p_end ?_
      refine TrC.ret ?_
      refine p_ret1 (hp := by rw [idx_miss fun j hj => hn j hj (by omega)])
theorem containsFunc_int (p : Int → Bool) (l : List Int) (hl : l.length ≤ 1000000000) (fid : FuncId) (fn : Func) (code : Code) (cap : List V) (hcap : V.outs cap = true) (hb : HasBody Try.prog fid fn code) (hp : ∀ x ∈ l, FnC Try.prog fid (iV x :: cap) (fun r => r = .bool (p x))) :
    FnC Try.prog 36 [.sl 3 (l.map iV), .fn fid cap] (fun r => r = .bool (l.any p)) := by
  refine FnC.of (fn := Try.f36) ⟨Try.func36, by kernel_rfl, rfl⟩ Try.ntmps36 (by simp) fun w0 S0 => ?_
  refine p_seq (p_region fun hf => ?_)
  refine p_assign (h := ?_)
  refine p_end ?_
  refine p_seq (p_region fun hf => ?_)
  refine p_move (h := ?_)
  refine p_move (h := ?_)
  refine p_call (vs := [.sl 3 (l.map iV), .fn fid cap]) (hx := rfl) (hb := ⟨Try.func55, by kernel_rfl, rfl⟩) (hro := by simp [V.outs, V.out, hcap]) (hf := indexFunc_int p l hl fid fn code cap hcap hb hp) (h := ?_)
  refine p_num (h := ?_)
  refine p_assign (h := ?_)
  refine p_end ?_
  refine TrC.ret ?_
  refine p_ret1 (hp := by rw [idx_nonneg])


theorem idx_nat {l : List Int} {x : Int} (h : x ∈ l) : idx (fun y => decide (x = y)) l = (l.idxOf x : Nat) := by
  have h1 : l.any (fun y => decide (x = y)) = true := List.any_eq_true.2 ⟨x, h, by simp⟩
  rw [idx, if_pos h1]
  congr 1
  unfold List.idxOf
  congr 1
  funext y
  rw [Bool.eq_iff_iff, decide_eq_true_iff, beq_iff_eq]; exact ⟨Eq.symm, Eq.symm⟩

theorem index_int (l : List Int) (x : Int) (hl : l.length ≤ 1000000000) : FnC Try.prog 58 [.sl 3 (l.map iV), iV x] (fun r => r = iV (idx (fun y => decide (x = y)) l)) := by
  refine FnC.of (fn := Try.f58) ⟨Try.func58, by kernel_rfl, rfl⟩ Try.ntmps58 (by simp) fun w0 S0 => ?_
  refine p_seq (p_region fun hf => ?_)
  refine p_assign (h := ?_)
  refine p_end ?_
  refine p_seq ?_
  refine p_seq (p_region fun hf => ?_)
  refine p_move (h := ?_)
  refine p_len (ht := Try.underlying26) (h := ?_)
  refine p_move (h := ?_)
  refine p_end ?_
  refine TrC.block ?_
  refine p_loop (fun st => ∃ i : Nat, i ≤ l.length ∧ (∀ j (hj : j < l.length), j < i → decide (x = l[j]) = false) ∧ st.env 0 = .sl 3 (l.map iV) ∧ st.env 1 = iV x ∧ st.env 7 = iV l.length ∧ st.env 8 = iV i) (fun st => l.length - (st.env 8).toN) ?_ fun e ob g1 hI => ?_
  · exact ⟨0, by omega, fun j hj h => by omega, eV_, eV_, eV_, eV_⟩
  · obtain ⟨i, hi, hn, e0, e1, e7, e8⟩ := hI
    dsimp only at e0 e1 e7 e8
    have hE := (⟨e0, e1, e7, e8⟩ : _ ∧ _ ∧ _ ∧ _)
    refine p_seq (p_region fun hf => ?_)
    refine p_num (h := ?_)
    refine p_end ?_
    refine p_seq ?_
    refine p_splitC (s := 9) (ht := fun hc9 => ?_) (hf := fun hc9 => ?_)
    · refine p_condT (h := ?_)
      have hlt : i < l.length := by simpa using hc9
      refine p_skip ?_
      refine p_seq ?_
      refine TrC.block ?_
      refine p_seq (p_region fun hf => ?_)
      refine p_move (h := ?_)
      refine p_assign (h := ?_)
      refine p_end ?_
      refine p_seq (p_region fun hf => ?_)
      refine p_move (h := ?_)
      refine p_move (h := ?_)
      refine p_move (h := ?_)
      refine p_idxMap (j := i) (ht := Try.underlying26) (hi := F.ti3) (hij := rfl) (hj := hlt) (h := ?_)
      (first | refine p_load (ht := F.leaf3) (h := ?_) | refine p_loadRef (ht := F.leaf3) (h := ?_))
      refine p_num (h := ?_)
      refine p_end ?_
      refine p_splitC (s := 16) (ht := fun hc16 => ?_) (hf := fun hc16 => ?_)
      · refine p_condT (h := ?_)
        refine p_seq (p_region fun hf => ?_)
        refine p_move (h := ?_)
        refine p_assign (h := ?_)
        refine p_end ?_
        refine TrC.ret ?_
        refine p_ret1 (hp := by rw [idx_hit hlt hc16 hn])
      · refine p_condF (h := ?_)
        refine p_skip ?_
        refine p_region fun hf => ?_
        refine p_add (r := ((i + 1 : Nat) : Int)) (hr := by omega) (hb := by omega) (h := ?_)
        refine p_move (h := ?_)
        refine p_end ?_
        refine p_some ?_
        refine ⟨⟨i + 1, hlt, fun j hj hji => ?_, eV_, eV_, eV_, eV_⟩, ?_⟩
        · rcases Nat.lt_succ_iff_lt_or_eq.1 hji with h | h
          · exact hn j hj h
          · subst h; exact hc16
        · simp (decide := true) only [upd, e8, V.toN, ↓reduceIte]; omega
    · refine p_condF (h := ?_)
      refine p_exit ?_
      refine p_seq (p_region fun hf => ?_)
      refine p_assign (h := ?_)
      refine p_end ?_
      refine TrC.ret ?_
      refine p_ret1 (hp := by rw [idx_miss fun j hj => hn j hj (by simp at hc9; omega)])

theorem first09 (l : List Int) (x : Int) (hl : l.length ≤ 1000000000) : FnC Try.prog 52 [.sl 3 (l.map iV), iV x] (fun r => r = iV (idx (fun y => decide (x = y)) l)) := by
  refine FnC.of (fn := Try.f52) ⟨Try.func52, by kernel_rfl, rfl⟩ Try.ntmps52 (by simp) fun w0 S0 => ?_
  refine p_seq (p_region fun hf => ?_)
  refine p_assign (h := ?_)
  refine p_end ?_
  refine p_seq (p_region fun hf => ?_)
  refine p_move (h := ?_)
  refine p_move (h := ?_)
  refine p_call (hx := rfl) (hb := ⟨Try.func58, by kernel_rfl, rfl⟩) (hf := index_int l x hl) (h := ?_)
  refine p_assign (h := ?_)
  refine p_end ?_
  refine TrC.ret ?_
  refine p_ret1 (hp := by rfl)

theorem check1 (x n : Int) : FnC Try.prog 37 [iV x, .ref [iV n]] (fun r => r = .bool (Dfa.outB n x)) := by
  refine FnC.of (fn := Try.f37) ⟨Try.func37, by kernel_rfl, rfl⟩ Try.ntmps37 (by simp) fun w0 S0 => ?_
  refine p_seq (p_region fun hf => ?_)
  refine p_assign (h := ?_)
  refine p_end ?_
  refine p_seq (p_region fun hf => ?_)
  refine p_move (h := ?_)
  refine p_num (h := ?_)
  refine p_move (h := ?_)
  refine p_split (s := 6) (ht := fun hb6 => ?_) (hf := fun hb6 => ?_)
  · -- slot 6 is true
    iterate 3 (refine p_guardNo (h := ?_))
    refine p_pick (h := ?_)
    refine p_assign (h := ?_)
    refine p_end ?_
    refine TrC.ret ?_
    refine p_ret1 (hp := by simp [Dfa.outB, hb6])
  · -- slot 6 is false
    refine p_guardYes (h := ?_)
    refine p_move (h := ?_)
    refine p_guardYes (h := ?_)
    (first | refine p_load (ht := F.leaf3) (h := ?_) | refine p_loadRef (ht := F.leaf3) (h := ?_))
    refine p_guardYes (h := ?_)
    refine p_num (h := ?_)
    refine p_pick (h := ?_)
    refine p_assign (h := ?_)
    refine p_end ?_
    refine TrC.ret ?_
    refine p_ret1 (hp := by simp [Dfa.outB, hb6])

end Go.Proofs.Ytdpljpmohpifbaa
