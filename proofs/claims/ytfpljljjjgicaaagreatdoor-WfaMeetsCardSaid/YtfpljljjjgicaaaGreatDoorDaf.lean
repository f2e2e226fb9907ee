import Derived.Test.YtfpljljjjgicaaaGreatDoorApb
/-
  Deterministic automata: dfa's Check and the reference's, walked; accepting, accepts.
-/
set_option maxHeartbeats 4000000
set_option linter.unusedSimpArgs false
set_option linter.unusedVariables false
namespace Go.Proofs.YtfpljljjjgicaaaGreatDoor
open Go.RowKit
attribute [local irreducible] Wk Tr
structure Dfa where
  sym : Int
  next : List (List Int)
  acc : List Bool
namespace Dfa
def n (d : Dfa) : Nat := d.next.length
def row (d : Dfa) (i : Nat) : List Int := d.next.getD i []
def nx (d : Dfa) (i k : Nat) : Nat := ((d.row i).getD k 0).toNat
def ac (d : Dfa) (i : Nat) : Bool := d.acc.getD i false
def outB (n x : Int) : Bool := decide (x < 0) || decide (n ≤ x)
def headBad (d : Dfa) : Bool := decide (d.sym < 0) || decide (4096 < d.sym) || decide ((d.next.length : Int) < 1) || decide (1024 < (d.next.length : Int)) || decide ((d.acc.length : Int) ≠ d.next.length) || decide (65536 < (d.next.length : Int) * d.sym)
def rowBad (d : Dfa) (r : List Int) : Bool := decide ((r.length : Int) ≠ d.sym) || r.any (outB d.next.length)
def good (d : Dfa) : Bool := !d.headBad && !d.next.any d.rowBad
def err (d : Dfa) : Int := if d.good then 0 else 90
/-- What an automaton that may be has. -/
structure Ok (d : Dfa) : Prop where
  sym0 : 0 ≤ d.sym
  sym1 : d.sym ≤ 4096
  n0 : 1 ≤ d.n
  n1 : d.n ≤ 1024
  acc : d.acc.length = d.n
  rows : ∀ r ∈ d.next, (r.length : Int) = d.sym ∧ ∀ x ∈ r, 0 ≤ x ∧ x < d.n
theorem ok_of {d : Dfa} (h : d.good = true) : d.Ok := by
  simp only [good, headBad, Bool.and_eq_true, Bool.not_eq_true', Bool.or_eq_false_iff, decide_eq_false_iff_not, List.any_eq_false] at h
  obtain ⟨⟨⟨⟨⟨⟨h1, h2⟩, h3⟩, h4⟩, h5⟩, h6⟩, h7⟩ := h
  have hn : d.n = d.next.length := rfl
  refine ⟨by omega, by omega, by omega, by omega, by omega, fun r hr => ?_⟩
  have h8 := h7 r hr
  simp only [rowBad, Bool.not_eq_true, Bool.or_eq_false_iff, decide_eq_false_iff_not, List.any_eq_false] at h8
  refine ⟨by omega, fun x hx => ?_⟩
  have := h8.2 x hx
  simp [outB] at this
  omega
theorem Ok.row_len {d : Dfa} (h : d.Ok) {i : Nat} (hi : i < d.n) : ((d.row i).length : Int) = d.sym := by
  have : d.row i = d.next[i] := by simp [row, List.getD, List.getElem?_eq_getElem hi]
  rw [this]; exact (h.rows _ (List.getElem_mem hi)).1
theorem Ok.row_in {d : Dfa} (h : d.Ok) {i : Nat} (hi : i < d.n) : ∀ x ∈ d.row i, 0 ≤ x ∧ x < d.n := by
  have : d.row i = d.next[i] := by simp [row, List.getD, List.getElem?_eq_getElem hi]
  rw [this]; exact (h.rows _ (List.getElem_mem hi)).2
theorem Ok.nx_lt {d : Dfa} (h : d.Ok) {i k : Nat} (hi : i < d.n) (hk : (k : Int) < d.sym) : d.nx i k < d.n := by
  have hl := h.row_len hi
  have hk' : k < (d.row i).length := by omega
  have := h.row_in hi _ (List.getElem_mem hk')
  simp only [nx, List.getD, List.getElem?_eq_getElem hk', Option.getD_some]
  omega
end Dfa
abbrev rowV (r : List Int) : V := .sl 3 (r.map iV)
abbrev dfaL (d : Dfa) : List V := [iV d.sym, .sl 26 (d.next.map rowV), .sl 4 (d.acc.map .bool)]
abbrev dfaV (d : Dfa) : V := .agg (dfaL d)
/-- Sizes at which no count overflows. -/
structure Dfa.Sm (d : Dfa) : Prop where
  next : d.next.length ≤ 17592186044416
  acc : d.acc.length ≤ 140737488351232
  rows : ∀ r ∈ d.next, r.length ≤ 17592186044416
namespace Dfa
theorem err_head {d : Dfa} (h : d.headBad = true) : d.err = 90 := by simp [err, good, h]
theorem err_row {d : Dfa} {i : Nat} (hlt : i < d.next.length) (h : d.rowBad d.next[i] = true) : d.err = 90 := by
  have : d.next.any d.rowBad = true := List.any_eq_true.2 ⟨_, List.getElem_mem hlt, h⟩
  simp [err, good, this]
theorem err_ok {d : Dfa} (h : d.headBad = false) (h2 : ∀ j (hj : j < d.next.length), d.rowBad d.next[j] = false) : d.err = 0 := by
  have : d.next.any d.rowBad = false := by
    rw [List.any_eq_false]
    intro x hx
    obtain ⟨j, hj, rfl⟩ := List.mem_iff_getElem.1 hx
    simp [h2 j hj]
  simp [err, good, h, this]
theorem rowBad_len {d : Dfa} {r : List Int} (h : decide ((r.length : Int) ≠ d.sym) = true) : d.rowBad r = true := by rw [rowBad, h]; rfl
theorem rowBad_out {d : Dfa} {r : List Int} (h : decide ((r.length : Int) ≠ d.sym) = false) : d.rowBad r = r.any (outB d.next.length) := by rw [rowBad, h]; rfl
theorem row_out {d : Dfa} {r : List Int} {k : Nat} (hk : k < r.length) (h : (decide (r[k] < 0) || decide ((d.next.length : Int) ≤ r[k])) = true) : d.rowBad r = true := by
  have : r.any (outB d.next.length) = true := List.any_eq_true.2 ⟨_, List.getElem_mem hk, h⟩
  rw [rowBad, this]; simp
theorem row_in' {d : Dfa} {r : List Int} (hl : decide ((r.length : Int) ≠ d.sym) = false) (h : ∀ k (hk : k < r.length), (decide (r[k] < 0) || decide ((d.next.length : Int) ≤ r[k])) = false) : d.rowBad r = false := by
  rw [rowBad_out hl, List.any_eq_false]
  intro x hx
  obtain ⟨j, hj, rfl⟩ := List.mem_iff_getElem.1 hx
  have := h j hj
  simpa [outB] using this
end Dfa

theorem check1 (x n : Int) : FnC Tryz.prog 87 [iV x, .ref [iV n]] (fun r => r = .bool (Dfa.outB n x)) := by
  refine FnC.of (fn := Tryz.f87) ⟨Tryz.func87, by kernel_rfl, rfl⟩ Tryz.ntmps87 (by simp) fun w0 S0 => ?_
  refine p_go ?_
  refine p_ret1 (hp := by simp [Dfa.outB, ])

theorem check09 (d : Dfa) (h : d.Sm) : FnC Tryz.prog 54 [dfaV d] (fun r => r = iV d.err) := by
  refine FnC.of (fn := Tryz.f54) ⟨Tryz.func54, by kernel_rfl, rfl⟩ Tryz.ntmps54 (by simp) fun w0 S0 => ?_
  have hfit := h.next
  have hacc := h.acc
  refine p_go fun hf => ?_
  refine p_split (s := 32) (ht := fun hb32 => ?_) (hf := fun hb32 => ?_)
  · -- slot 32 is true
    refine p_go ?_
    refine p_ret1 (hp := by rw [Dfa.err_head (by simp only [Dfa.headBad, hb32, Bool.true_or, Bool.or_true])])
  · -- slot 32 is false
    refine p_go fun hf => ?_
    refine p_mul (hr := rfl) (hb := mul_small (by omega) (by simp at hb32; omega) (by simp at hb32; omega) (by simp at hb32; omega)) (h := ?_)
    refine p_go ?_
    refine p_splitC (s := 38) (ht := fun hc38 => ?_) (hf := fun hc38 => ?_)
    · refine p_go ?_
      refine p_ret1 (hp := by rw [Dfa.err_head (by simp only [Dfa.headBad, hb32, hc38, Bool.true_or, Bool.or_true])])
    · refine p_go ?_
      refine p_loopK [1, 3, 40, 41] [(0 + 1, 1), (0 + 1 + 1, 3)] (fun st => ∃ i : Nat, (i ≤ d.next.length) ∧ (∀ j (hj : j < d.next.length), j < i → d.rowBad d.next[j] = false) ∧ st.env 42 = iV i) (fun st => d.next.length - (st.env 42).toN) ?_ fun e ob g1 hK hO hI => ?_
      · exact ⟨0, by omega, fun j hj h => absurd h (by omega), eV_⟩
      · obtain ⟨i, hi, hn, e42⟩ := hI
        dsimp only at e42
        simp only [valsE, List.cons.injEq, and_true] at hK
        simp only [valsO, List.cons.injEq, and_true] at hO
        have hE := (⟨hK, hO, e42⟩ : _ ∧ _ ∧ _)
        refine p_go ?_
        refine p_splitC (s := 43) (ht := fun hc43 => ?_) (hf := fun hc43 => ?_)
        · have hlt : i < d.next.length := by simpa using hc43
          refine p_go fun hf => ?_
          refine p_idxMap (j := i) (ht := Tryz.underlying57) (hi := F.ti26.h) (hij := rfl) (hj := hlt) (h := ?_)
          refine p_go fun hf => ?_
          refine p_split (s := 51) (ht := fun hb51 => ?_) (hf := fun hb51 => ?_)
          · -- slot 51 is true
            refine p_go ?_
            refine p_ret1 (hp := by rw [Dfa.err_row hlt (Dfa.rowBad_len hb51)])
          · -- slot 51 is false
            refine p_go fun hf => ?_
            refine p_callFlat (us := [.sl 3 (d.next[i].map iV), .fn 87 [.ptr (0 + 1 + 1) 3 0]]) (vs := [.sl 3 (d.next[i].map iV), .fn 87 [.ref [iV d.next.length]]]) (vs' := []) [(0 + 1 + 1, 3)] (hx := rfl) (hb := ⟨Tryz.func86, by kernel_rfl, rfl⟩) (hvs := fun e' ob' g' hk => ⟨⟨⟨rfl, rfl⟩, .inl ⟨[.ref [iV d.next.length]], ⟨⟨_, [iV d.next.length], [iV d.next.length], (hk (0 + 1 + 1, 3) (by simp)).trans oB_, ⟨⟨rfl, rfl⟩, trivial⟩, rfl⟩, trivial⟩, rfl⟩, trivial⟩, trivial⟩) (hf := containsFunc_int (Dfa.outB d.next.length) d.next[i] (h.rows _ (List.getElem_mem hlt)) _ _ _ _ rfl ⟨Tryz.func87, by kernel_rfl, rfl⟩ fun x _ => check1 x _) (h := ?_)
            refine p_go ?_
            refine p_splitC (s := 55) (ht := fun hc55 => ?_) (hf := fun hc55 => ?_)
            · refine p_go ?_
              refine p_ret1 (hp := by rw [Dfa.err_row hlt (by rw [Dfa.rowBad_out hb51]; exact hc55)])
            · refine p_go fun hf => ?_
              refine p_add (r := ((i + 1 : Nat) : Int)) (hr := (by first | omega | (simp only [decide_eq_true_eq, decide_eq_false_iff_not, Bool.or_eq_false_iff, Bool.and_eq_true, Bool.not_eq_true', Bool.not_eq_false'] at *; omega))) (hb := (by first | omega | (simp only [decide_eq_true_eq, decide_eq_false_iff_not, Bool.or_eq_false_iff, Bool.and_eq_true, Bool.not_eq_true', Bool.not_eq_false'] at *; omega))) (h := ?_)
              refine p_go ?_
              refine p_some ?_
              refine ⟨⟨(by simp (decide := true) only [valsE, evE, upd, cv, args0, argsFrom, List.length_map, ↓reduceIte, hE] <;> rfl), (by simp (decide := true) only [valsO, updO, upd, true_and, and_true, false_and, and_false, ↓reduceIte, hE] <;> rfl)⟩, ⟨i + 1, hlt, none_next (p := d.rowBad) (by rw [Dfa.rowBad_out hb51]; exact hc55) hn, eV_⟩, ?_⟩
              simp (decide := true) only [upd, e42, V.toN, ↓reduceIte]; omega
        · have hge : d.next.length ≤ i := by simpa using hc43
          refine p_go ?_
          refine p_ret1 (hp := by rw [Dfa.err_ok (by simp only [Dfa.headBad, hb32, hc38, Bool.or_self]) fun j hj => hn j hj (by omega)])

theorem rcheck09 (d : Dfa) (h : d.Sm) : FnC Tryz.prog 55 [dfaV d] (fun r => r = iV d.err) := by
  refine FnC.of (fn := Tryz.f55) ⟨Tryz.func55, by kernel_rfl, rfl⟩ Tryz.ntmps55 (by simp) fun w0 S0 => ?_
  have hfit := h.next
  have hacc := h.acc
  refine p_go fun hf => ?_
  refine p_split (s := 32) (ht := fun hb32 => ?_) (hf := fun hb32 => ?_)
  · -- slot 32 is true
    refine p_go ?_
    refine p_ret1 (hp := by rw [Dfa.err_head (by simp only [Dfa.headBad, hb32, Bool.true_or, Bool.or_true])])
  · -- slot 32 is false
    refine p_go fun hf => ?_
    refine p_mul (hr := rfl) (hb := mul_small (by omega) (by simp at hb32; omega) (by simp at hb32; omega) (by simp at hb32; omega)) (h := ?_)
    refine p_go ?_
    refine p_splitC (s := 38) (ht := fun hc38 => ?_) (hf := fun hc38 => ?_)
    · refine p_go ?_
      refine p_ret1 (hp := by rw [Dfa.err_head (by simp only [Dfa.headBad, hb32, hc38, Bool.true_or, Bool.or_true])])
    · refine p_go ?_
      refine p_loopK [1, 3] [(0 + 1, 1)] (fun st => ∃ i : Nat, (i ≤ d.next.length) ∧ (∀ j (hj : j < d.next.length), j < i → d.rowBad d.next[j] = false) ∧ st.env 4 = iV i) (fun st => d.next.length - (st.env 4).toN) ?_ fun e ob g1 hK hO hI => ?_
      · exact ⟨0, by omega, fun j hj h => absurd h (by omega), eV_⟩
      · obtain ⟨i, hi, hn, e4⟩ := hI
        dsimp only at e4
        simp only [valsE, List.cons.injEq, and_true] at hK
        simp only [valsO, List.cons.injEq, and_true] at hO
        have hE := (⟨hK, hO, e4⟩ : _ ∧ _ ∧ _)
        refine p_go ?_
        refine p_splitC (s := 41) (ht := fun hc41 => ?_) (hf := fun hc41 => ?_)
        · have hlt : i < d.next.length := by simpa using hc41
          refine p_go fun hf => ?_
          refine p_idxMap (j := i) (ht := Tryz.underlying57) (hi := F.ti26.h) (hij := rfl) (hj := hlt) (h := ?_)
          refine p_go ?_
          refine p_splitC (s := 52) (ht := fun hc52 => ?_) (hf := fun hc52 => ?_)
          · refine p_go ?_
            refine p_ret1 (hp := by rw [Dfa.err_row hlt (Dfa.rowBad_len hc52)])
          · have hrow : (d.next[i].length : Int) = d.sym := by simpa using hc52
            have hrl := h.rows _ (List.getElem_mem hlt)
            refine p_go ?_
            refine p_loopK [1, 3, 4] [(0 + 1, 1)] (fun st => ∃ k : Nat, (k ≤ d.next[i].length) ∧ (∀ j (hj : j < d.next[i].length), j < k → (decide (d.next[i][j] < 0) || decide ((d.next.length : Int) ≤ d.next[i][j])) = false) ∧ st.env 5 = iV k) (fun st => d.next[i].length - (st.env 5).toN) ?_ fun e ob g2 hK hO hI => ?_
            · exact ⟨0, by omega, fun j hj h => absurd h (by omega), eV_⟩
            · obtain ⟨k, hk, hm, e5⟩ := hI
              dsimp only at e5
              simp only [valsE, List.cons.injEq, and_true] at hK
              simp only [valsO, List.cons.injEq, and_true] at hO
              have hE := (⟨hK, hO, e5⟩ : _ ∧ _ ∧ _)
              refine p_go ?_
              refine p_splitC (s := 56) (ht := fun hc56 => ?_) (hf := fun hc56 => ?_)
              · have hk2 : k < d.next[i].length := by have := hc56; simp at this; omega
                refine p_go fun hf => ?_
                refine p_idxMap (j := i) (ht := Tryz.underlying57) (hi := F.ti26.h) (hij := rfl) (hj := hlt) (h := ?_)
                refine p_go fun hf => ?_
                refine p_idxMap (j := k) (ht := Tryz.underlying26) (hi := F.ti3.h) (hij := rfl) (hj := hk2) (h := ?_)
                refine p_go fun hf => ?_
                refine p_split (s := 68) (ht := fun hb68 => ?_) (hf := fun hb68 => ?_)
                · -- slot 68 is true
                  refine p_go ?_
                  refine p_ret1 (hp := by rw [Dfa.err_row hlt (Dfa.row_out hk2 (by rw [hb68]; rfl))])
                · -- slot 68 is false
                  refine p_go fun hf => ?_
                  refine p_idxMap (j := i) (ht := Tryz.underlying57) (hi := F.ti26.h) (hij := rfl) (hj := hlt) (h := ?_)
                  refine p_go fun hf => ?_
                  refine p_idxMap (j := k) (ht := Tryz.underlying26) (hi := F.ti3.h) (hij := rfl) (hj := hk2) (h := ?_)
                  refine p_go ?_
                  refine p_splitC (s := 79) (ht := fun hc79 => ?_) (hf := fun hc79 => ?_)
                  · refine p_go ?_
                    refine p_ret1 (hp := by rw [Dfa.err_row hlt (Dfa.row_out hk2 (by rw [hb68, hc79]; rfl))])
                  · refine p_go fun hf => ?_
                    refine p_add (r := ((k + 1 : Nat) : Int)) (hr := (by first | omega | (simp only [decide_eq_true_eq, decide_eq_false_iff_not, Bool.or_eq_false_iff, Bool.and_eq_true, Bool.not_eq_true', Bool.not_eq_false'] at *; omega))) (hb := (by first | omega | (simp only [decide_eq_true_eq, decide_eq_false_iff_not, Bool.or_eq_false_iff, Bool.and_eq_true, Bool.not_eq_true', Bool.not_eq_false'] at *; omega))) (h := ?_)
                    refine p_go ?_
                    refine p_some ?_
                    refine ⟨⟨(by simp (decide := true) only [valsE, evE, upd, cv, args0, argsFrom, List.length_map, ↓reduceIte, hE] <;> rfl), (by simp (decide := true) only [valsO, updO, upd, true_and, and_true, false_and, and_false, ↓reduceIte, hE] <;> rfl)⟩, ⟨k + 1, hk2, none_next (p := fun x => decide (x < 0) || decide ((d.next.length : Int) ≤ x)) (by rw [hb68, hc79]; rfl) hm, eV_⟩, ?_⟩
                    simp (decide := true) only [upd, e5, V.toN, ↓reduceIte]; omega
              · have hkge : d.next[i].length ≤ k := by have := hc56; simp at this; omega
                refine p_go fun hf => ?_
                refine p_add (r := ((i + 1 : Nat) : Int)) (hr := (by first | omega | (simp only [decide_eq_true_eq, decide_eq_false_iff_not, Bool.or_eq_false_iff, Bool.and_eq_true, Bool.not_eq_true', Bool.not_eq_false'] at *; omega))) (hb := (by first | omega | (simp only [decide_eq_true_eq, decide_eq_false_iff_not, Bool.or_eq_false_iff, Bool.and_eq_true, Bool.not_eq_true', Bool.not_eq_false'] at *; omega))) (h := ?_)
                refine p_go ?_
                refine p_some ?_
                refine ⟨⟨(by simp (decide := true) only [valsE, evE, upd, cv, args0, argsFrom, List.length_map, ↓reduceIte, hE] <;> rfl), (by simp (decide := true) only [valsO, updO, upd, true_and, and_true, false_and, and_false, ↓reduceIte, hE] <;> rfl)⟩, ⟨i + 1, hlt, none_next (p := d.rowBad) (Dfa.row_in' hc52 fun q hq => hm q hq (by omega)) hn, eV_⟩, ?_⟩
                simp (decide := true) only [upd, e4, V.toN, ↓reduceIte]; omega
        · have hge : d.next.length ≤ i := by simpa using hc41
          refine p_go ?_
          refine p_ret1 (hp := by rw [Dfa.err_ok (by simp only [Dfa.headBad, hb32, hc38, Bool.or_self]) fun j hj => hn j hj (by omega)])

/-- How many states accept, of the first ones. -/
def Dfa.cnt (d : Dfa) (i : Nat) : Nat := (d.acc.take i).count true
theorem Dfa.cnt_le (d : Dfa) (i : Nat) : d.cnt i ≤ i := Nat.le_trans (List.count_le_length ..) (by simp; omega)
theorem Dfa.cnt_t {d : Dfa} {i : Nat} (hi : i < d.acc.length) (h : d.acc[i] = true) : d.cnt (i + 1) = d.cnt i + 1 := by
  rw [cnt, List.take_add_one, List.getElem?_eq_getElem hi, List.count_append, h]; rfl
theorem Dfa.cnt_f {d : Dfa} {i : Nat} (hi : i < d.acc.length) (h : d.acc[i] = false) : d.cnt (i + 1) = d.cnt i := by
  rw [cnt, List.take_add_one, List.getElem?_eq_getElem hi, List.count_append, h]; rfl
theorem Dfa.cnt_0 {d : Dfa} (h : d.cnt d.acc.length = 0) : ∀ x ∈ d.acc, x = false := by
  rw [cnt, List.take_length, List.count_eq_zero] at h
  intro x hx
  cases x with
  | false => rfl
  | true => exact absurd hx h

theorem raccepting (d : Dfa) (h : d.Sm) : FnC Tryz.prog 56 [dfaV d] (fun r => r = iV (d.cnt d.acc.length : Nat)) := by
  refine FnC.of (fn := Tryz.f56) ⟨Tryz.func56, by kernel_rfl, rfl⟩ Tryz.ntmps56 (by simp) fun w0 S0 => ?_
  have hacc := h.acc
  refine p_go ?_
  refine p_loopK [1] [(0 + 1, 1)] (fun st => ∃ i : Nat, (i ≤ d.acc.length) ∧ st.env 3 = iV (d.cnt i : Nat) ∧ st.env 4 = iV i) (fun st => d.acc.length - (st.env 4).toN) ?_ fun e ob g1 hK hO hI => ?_
  · exact ⟨0, by omega, eV_, eV_⟩
  · obtain ⟨i, hi, e3, e4⟩ := hI
    dsimp only at e3 e4
    simp only [valsE, List.cons.injEq, and_true] at hK
    simp only [valsO, List.cons.injEq, and_true] at hO
    have hE := (⟨hK, hO, e3, e4⟩ : _ ∧ _ ∧ _ ∧ _)
    refine p_go ?_
    refine p_splitC (s := 9) (ht := fun hc9 => ?_) (hf := fun hc9 => ?_)
    · have hlt : i < d.acc.length := by simpa using hc9
      have hcl := d.cnt_le i
      refine p_go fun hf => ?_
      refine p_idxMap (j := i) (ht := Tryz.underlying58) (hi := F.ti4.h) (hij := rfl) (hj := hlt) (h := ?_)
      refine p_go ?_
      refine p_splitC (s := 16) (ht := fun hc16 => ?_) (hf := fun hc16 => ?_)
      · refine p_go fun hf => ?_
        refine p_add (r := ((d.cnt i + 1 : Nat) : Int)) (hr := (by first | omega | (simp only [decide_eq_true_eq, decide_eq_false_iff_not, Bool.or_eq_false_iff, Bool.and_eq_true, Bool.not_eq_true', Bool.not_eq_false'] at *; omega))) (hb := (by first | omega | (simp only [decide_eq_true_eq, decide_eq_false_iff_not, Bool.or_eq_false_iff, Bool.and_eq_true, Bool.not_eq_true', Bool.not_eq_false'] at *; omega))) (h := ?_)
        refine p_go fun hf => ?_
        refine p_add (r := ((i + 1 : Nat) : Int)) (hr := (by first | omega | (simp only [decide_eq_true_eq, decide_eq_false_iff_not, Bool.or_eq_false_iff, Bool.and_eq_true, Bool.not_eq_true', Bool.not_eq_false'] at *; omega))) (hb := (by first | omega | (simp only [decide_eq_true_eq, decide_eq_false_iff_not, Bool.or_eq_false_iff, Bool.and_eq_true, Bool.not_eq_true', Bool.not_eq_false'] at *; omega))) (h := ?_)
        refine p_go ?_
        refine p_some ?_
        refine ⟨⟨(by simp (decide := true) only [valsE, evE, upd, cv, args0, argsFrom, List.length_map, ↓reduceIte, hE] <;> rfl), (by simp (decide := true) only [valsO, updO, upd, true_and, and_true, false_and, and_false, ↓reduceIte, hE] <;> rfl)⟩, ⟨i + 1, hlt, by rw [Dfa.cnt_t hlt (by simpa using hc16)]; exact eV_, eV_⟩, ?_⟩
        simp (decide := true) only [upd, e4, V.toN, ↓reduceIte]; omega
      · refine p_go fun hf => ?_
        refine p_add (r := ((i + 1 : Nat) : Int)) (hr := (by first | omega | (simp only [decide_eq_true_eq, decide_eq_false_iff_not, Bool.or_eq_false_iff, Bool.and_eq_true, Bool.not_eq_true', Bool.not_eq_false'] at *; omega))) (hb := (by first | omega | (simp only [decide_eq_true_eq, decide_eq_false_iff_not, Bool.or_eq_false_iff, Bool.and_eq_true, Bool.not_eq_true', Bool.not_eq_false'] at *; omega))) (h := ?_)
        refine p_go ?_
        refine p_some ?_
        refine ⟨⟨(by simp (decide := true) only [valsE, evE, upd, cv, args0, argsFrom, List.length_map, ↓reduceIte, hE] <;> rfl), (by simp (decide := true) only [valsO, updO, upd, true_and, and_true, false_and, and_false, ↓reduceIte, hE] <;> rfl)⟩, ⟨i + 1, hlt, by rw [Dfa.cnt_f hlt (by simpa using hc16)]; exact eV_, eV_⟩, ?_⟩
        simp (decide := true) only [upd, e4, V.toN, ↓reduceIte]; omega
    · have hge : d.acc.length ≤ i := by simpa using hc9
      obtain rfl : i = d.acc.length := by omega
      refine p_go ?_
      refine p_ret1 (hp := by rfl)

/-- The state behind a word, from another one. -/
def Dfa.run (d : Dfa) : Nat → List Int → Nat
  | k, [] => k
  | k, x :: w => d.run (d.nx k x.toNat) w
theorem Dfa.run_lt {d : Dfa} (h : d.Ok) : ∀ (w : List Int) (k : Nat), k < d.n → (∀ x ∈ w, 0 ≤ x ∧ x < d.sym) → d.run k w < d.n
  | [], _, hk, _ => hk
  | x :: w, k, hk, hw => by
    have h1 := hw x (List.mem_cons_self ..)
    exact Dfa.run_lt h w _ (h.nx_lt hk (by omega)) fun y hy => hw y (List.mem_cons_of_mem _ hy)
theorem Dfa.nx_is {d : Dfa} (h : d.Ok) {k : Nat} {x : Int} (hk : k < d.next.length) (hx : 0 ≤ x ∧ x < d.sym) : ∃ (h2 : x.toNat < d.next[k].length), d.next[k][x.toNat] = (d.nx k x.toNat : Int) := by
  have h1 : d.row k = d.next[k] := by simp [Dfa.row, List.getD, List.getElem?_eq_getElem hk]
  have hl := h.row_len (i := k) hk
  rw [h1] at hl
  have h2 : x.toNat < d.next[k].length := by omega
  refine ⟨h2, ?_⟩
  have h3 := h.row_in (i := k) hk d.next[k][x.toNat] (by rw [h1]; exact List.getElem_mem h2)
  rw [Dfa.nx, h1, List.getD, List.getElem?_eq_getElem h2]
  simp only [Option.getD_some]
  omega

theorem acceptsC (d : Dfa) (w : List Int) (h : d.Ok) (hw : w.length ≤ 17592186044416) (hs : ∀ x ∈ w, 0 ≤ x ∧ x < d.sym) : FnC Tryz.prog 23 [dfaV d, .sl 3 (w.map iV)] (fun r => r = .bool (d.ac (d.run 0 w))) := by
  refine FnC.of (fn := Tryz.f23) ⟨Tryz.func23, by kernel_rfl, rfl⟩ Tryz.ntmps23 (by simp) fun w0 S0 => ?_
  have hn0 := h.n0
  have hacc := h.acc
  have hnd : d.n = d.next.length := rfl
  refine p_go ?_
  refine p_loopK [1, 2] [(0 + 1, 2)] (fun st => ∃ (i k : Nat), (i ≤ w.length) ∧ (k < d.next.length) ∧ (d.run 0 w = d.run k (w.drop i)) ∧ st.env 5 = iV k ∧ st.env 6 = iV i) (fun st => w.length - (st.env 6).toN) ?_ fun e ob g1 hK hO hI => ?_
  · exact ⟨0, 0, by omega, by omega, rfl, eV_, eV_⟩
  · obtain ⟨i, k, hi, hk2, hr, e5, e6⟩ := hI
    dsimp only at e5 e6
    simp only [valsE, List.cons.injEq, and_true] at hK
    simp only [valsO, List.cons.injEq, and_true] at hO
    have hE := (⟨hK, hO, e5, e6⟩ : _ ∧ _ ∧ _ ∧ _)
    refine p_go ?_
    refine p_splitC (s := 10) (ht := fun hc10 => ?_) (hf := fun hc10 => ?_)
    · have hlt : i < w.length := by simpa using hc10
      have hx := hs _ (List.getElem_mem hlt)
      obtain ⟨hx2, hx3⟩ := Dfa.nx_is h hk2 hx
      have hd : w.drop i = w[i] :: w.drop (i + 1) := List.drop_eq_getElem_cons hlt
      refine p_go fun hf => ?_
      refine p_idxMap (j := k) (ht := Tryz.underlying57) (hi := F.ti26.h) (hij := rfl) (hj := hk2) (h := ?_)
      refine p_go fun hf => ?_
      refine p_idxMap (j := i) (ht := Tryz.underlying26) (hi := F.ti3.h) (hij := rfl) (hj := hlt) (h := ?_)
      refine p_go fun hf => ?_
      refine p_idxMap (j := w[i].toNat) (ht := Tryz.underlying26) (hi := F.ti3.h) (hij := by omega) (hj := hx2) (h := ?_)
      refine p_go fun hf => ?_
      refine p_add (r := ((i + 1 : Nat) : Int)) (hr := (by first | omega | (simp only [decide_eq_true_eq, decide_eq_false_iff_not, Bool.or_eq_false_iff, Bool.and_eq_true, Bool.not_eq_true', Bool.not_eq_false'] at *; omega))) (hb := (by first | omega | (simp only [decide_eq_true_eq, decide_eq_false_iff_not, Bool.or_eq_false_iff, Bool.and_eq_true, Bool.not_eq_true', Bool.not_eq_false'] at *; omega))) (h := ?_)
      refine p_go ?_
      refine p_some ?_
      refine ⟨⟨(by simp (decide := true) only [valsE, evE, upd, cv, args0, argsFrom, List.length_map, ↓reduceIte, hE] <;> rfl), (by simp (decide := true) only [valsO, updO, upd, true_and, and_true, false_and, and_false, ↓reduceIte, hE] <;> rfl)⟩, ⟨i + 1, d.nx k w[i].toNat, hlt, h.nx_lt (i := k) hk2 (by omega), by rw [hr, hd, Dfa.run], by rw [← hx3]; exact eV_, eV_⟩, ?_⟩
      simp (decide := true) only [upd, e6, V.toN, ↓reduceIte]; omega
    · have hge : w.length ≤ i := by simpa using hc10
      have hka : k < d.acc.length := by omega
      have hd : w.drop i = [] := List.drop_eq_nil_of_le hge
      refine p_go fun hf => ?_
      refine p_idxMap (j := k) (ht := Tryz.underlying58) (hi := F.ti4.h) (hij := rfl) (hj := hka) (h := ?_)
      refine p_go ?_
      refine p_ret1 (hp := by rw [hr, hd, Dfa.run, Dfa.ac, List.getD, List.getElem?_eq_getElem hka]; rfl)

end Go.Proofs.YtfpljljjjgicaaaGreatDoor
/-
  The reference's SameSpace and Same of automata: each is the same as itself.
-/
set_option maxHeartbeats 4000000
set_option linter.unusedSimpArgs false
set_option linter.unusedVariables false
namespace Go.Proofs.YtfpljljjjgicaaaGreatDoor
open Go.RowKit
attribute [local irreducible] Wk Tr
theorem leaf_nil {s : Sp} (h : leafOk s = true) : s.parts = [] := by
  have hn : nop s = true := by
    unfold leafOk at h
    split at h
    · simp only [Bool.and_eq_true] at h; exact h.2
    · split at h
      · simp only [Bool.and_eq_true] at h; exact h.2
      · split at h
        · simp only [Bool.and_eq_true] at h; exact h.2
        · cases h
  have : (s.parts.length : Int) = 0 := of_decide_eq_true hn
  exact List.length_eq_zero_iff.1 (by omega)

theorem rspace_self (s : Sp) (hl : s.parts.length ≤ 17592186044416) (hp : ∀ p ∈ s.parts, FnC Tryz.prog 57 [spA p, spA p] (fun r => r = .bool true)) : FnC Tryz.prog 57 [spA s, spA s] (fun r => r = .bool true) := by
  refine FnC.of (fn := Tryz.f57) ⟨Tryz.func57, by kernel_rfl, rfl⟩ Tryz.ntmps57 (by simp) fun w0 S0 => ?_
  refine p_go ?_
  refine p_isC (s := 26) (b := false) (hc := by simp) (h := ?_)
  refine p_go ?_
  refine p_loopK [2, 3] [(0 + 1, 2), (0 + 1, 3)] (fun st => ∃ i : Nat, (i ≤ s.parts.length) ∧ st.env 5 = iV i) (fun st => s.parts.length - (st.env 5).toN) ?_ fun e ob g1 hK hO hI => ?_
  · exact ⟨0, by omega, eV_⟩
  · obtain ⟨i, hi, e5⟩ := hI
    dsimp only at e5
    simp only [valsE, List.cons.injEq, and_true] at hK
    simp only [valsO, List.cons.injEq, and_true] at hO
    have hE := (⟨hK, hO, e5⟩ : _ ∧ _ ∧ _)
    refine p_go ?_
    refine p_splitC (s := 31) (ht := fun hc31 => ?_) (hf := fun hc31 => ?_)
    · have hlt : i < s.parts.length := by simpa using hc31
      refine p_go fun hf => ?_
      refine p_idxMap (j := i) (ht := Tryz.underlying23) (hi := F.ti25.h) (hij := rfl) (hj := hlt) (h := ?_)
      rw [spV_cells]
      refine p_go fun hf => ?_
      refine p_idxMap (j := i) (ht := Tryz.underlying23) (hi := F.ti25.h) (hij := rfl) (hj := hlt) (h := ?_)
      rw [spV_cells]
      refine p_go fun hf => ?_
      refine p_call (hx := rfl) (hb := ⟨Tryz.func57, by kernel_rfl, rfl⟩) (hf := hp s.parts[i] (List.getElem_mem hlt)) (h := ?_)
      refine p_go fun hf => ?_
      refine p_add (r := ((i + 1 : Nat) : Int)) (hr := (by first | omega | (simp only [decide_eq_true_eq, decide_eq_false_iff_not, Bool.or_eq_false_iff, Bool.and_eq_true, Bool.not_eq_true', Bool.not_eq_false'] at *; omega))) (hb := (by first | omega | (simp only [decide_eq_true_eq, decide_eq_false_iff_not, Bool.or_eq_false_iff, Bool.and_eq_true, Bool.not_eq_true', Bool.not_eq_false'] at *; omega))) (h := ?_)
      refine p_go ?_
      refine p_some ?_
      refine ⟨⟨(by simp (decide := true) only [valsE, evE, upd, cv, args0, argsFrom, List.length_map, ↓reduceIte, hE] <;> rfl), (by simp (decide := true) only [valsO, updO, upd, true_and, and_true, false_and, and_false, ↓reduceIte, hE] <;> rfl)⟩, ⟨i + 1, hlt, eV_⟩, ?_⟩
      simp (decide := true) only [upd, e5, V.toN, ↓reduceIte]; omega
    · refine p_go ?_
      refine p_ret1 (hp := by rfl)

theorem rspace_same {s : Sp} (h : spOk s = true) : FnC Tryz.prog 57 [spA s, spA s] (fun r => r = .bool true) := by
  have hz : ∀ p : Sp, leafOk p = true → FnC Tryz.prog 57 [spA p, spA p] (fun r => r = .bool true) := fun p hp => rspace_self p (by rw [leaf_nil hp]; decide) fun q hq => by rw [leaf_nil hp] at hq; cases hq
  rcases spOk_cases h with ⟨hl, h5⟩ | ⟨p, q, rfl, hp, hq⟩
  · exact hz s hl
  · refine rspace_self _ (by show 2 ≤ _; decide) fun x hx => ?_
    have hx' : x ∈ [p, q] := hx
    rcases List.mem_cons.1 hx' with rfl | h
    · exact hz _ hp
    · rw [List.mem_singleton.1 h]; exact hz _ hq
/-- The automaton that is told where there is none. -/
def aut0 : Aut := ⟨.mk 0 0 [], 0, 0, [], []⟩

theorem rsame10_self (a : Aut) (ha : a.Sm) (hs : FnC Tryz.prog 57 [spA a.sp, spA a.sp] (fun r => r = .bool true)) (hw : ∀ t ∈ a.trs, FnC Tryz.prog 16 [wtA t.w, wtA t.w] (fun r => r = .bool true)) : FnC Tryz.prog 22 [autV a, autV a] (fun r => r = .bool true) := by
  refine FnC.of (fn := Tryz.f22) ⟨Tryz.func22, by kernel_rfl, rfl⟩ Tryz.ntmps22 (by simp) fun w0 S0 => ?_
  have hl1 := ha.fin
  have hl2 := ha.trs
  refine p_go fun hf => ?_
  refine p_call (hx := rfl) (hb := ⟨Tryz.func57, by kernel_rfl, rfl⟩) (hf := hs) (h := ?_)
  refine p_go ?_
  refine p_isC (s := 46) (b := false) (hc := by simp) (h := ?_)
  refine p_go ?_
  refine p_loopK [2, 3] [(0 + 1, 2), (0 + 1, 3)] (fun st => ∃ i : Nat, (i ≤ a.fin.length) ∧ st.env 5 = iV i) (fun st => a.fin.length - (st.env 5).toN) ?_ fun e ob g1 hK hO hI => ?_
  · exact ⟨0, by omega, eV_⟩
  · obtain ⟨i, hi, e5⟩ := hI
    dsimp only at e5
    simp only [valsE, List.cons.injEq, and_true] at hK
    simp only [valsO, List.cons.injEq, and_true] at hO
    have hE := (⟨hK, hO, e5⟩ : _ ∧ _ ∧ _)
    refine p_go ?_
    refine p_splitC (s := 51) (ht := fun hc51 => ?_) (hf := fun hc51 => ?_)
    · have hlt : i < a.fin.length := by simpa using hc51
      refine p_go fun hf => ?_
      refine p_idxMap (j := i) (ht := Tryz.underlying26) (hi := F.ti3.h) (hij := rfl) (hj := hlt) (h := ?_)
      refine p_go fun hf => ?_
      refine p_idxMap (j := i) (ht := Tryz.underlying26) (hi := F.ti3.h) (hij := rfl) (hj := hlt) (h := ?_)
      refine p_go ?_
      refine p_isC (s := 64) (b := false) (hc := by simp) (h := ?_)
      refine p_go fun hf => ?_
      refine p_add (r := ((i + 1 : Nat) : Int)) (hr := (by first | omega | (simp only [decide_eq_true_eq, decide_eq_false_iff_not, Bool.or_eq_false_iff, Bool.and_eq_true, Bool.not_eq_true', Bool.not_eq_false'] at *; omega))) (hb := (by first | omega | (simp only [decide_eq_true_eq, decide_eq_false_iff_not, Bool.or_eq_false_iff, Bool.and_eq_true, Bool.not_eq_true', Bool.not_eq_false'] at *; omega))) (h := ?_)
      refine p_go ?_
      refine p_some ?_
      refine ⟨⟨(by simp (decide := true) only [valsE, evE, upd, cv, args0, argsFrom, List.length_map, ↓reduceIte, hE] <;> rfl), (by simp (decide := true) only [valsO, updO, upd, true_and, and_true, false_and, and_false, ↓reduceIte, hE] <;> rfl)⟩, ⟨i + 1, hlt, eV_⟩, ?_⟩
      simp (decide := true) only [upd, e5, V.toN, ↓reduceIte]; omega
    · refine p_go ?_
      refine p_loopK [2, 3] [(0 + 1, 2), (0 + 1, 3)] (fun st => ∃ i : Nat, (i ≤ a.trs.length) ∧ st.env 6 = iV i) (fun st => a.trs.length - (st.env 6).toN) ?_ fun e ob g2 hK hO hI => ?_
      · exact ⟨0, by omega, eV_⟩
      · obtain ⟨i, hi, e6⟩ := hI
        dsimp only at e6
        simp only [valsE, List.cons.injEq, and_true] at hK
        simp only [valsO, List.cons.injEq, and_true] at hO
        have hE := (⟨hK, hO, e6⟩ : _ ∧ _ ∧ _)
        refine p_go ?_
        refine p_splitC (s := 69) (ht := fun hc69 => ?_) (hf := fun hc69 => ?_)
        · have hlt : i < a.trs.length := by simpa using hc69
          refine p_go fun hf => ?_
          refine p_idxMap (j := i) (ht := Tryz.underlying27) (hi := F.ti39.h) (hij := rfl) (hj := hlt) (h := ?_)
          refine p_go fun hf => ?_
          refine p_idxMap (j := i) (ht := Tryz.underlying27) (hi := F.ti39.h) (hij := rfl) (hj := hlt) (h := ?_)
          refine p_go fun hf => ?_
          refine p_isW (s := 101) (b := false) (hc := by simp) (h := ?_)
          refine p_go fun hf => ?_
          refine p_call (hx := rfl) (hb := ⟨Tryz.func16, by kernel_rfl, rfl⟩) (hf := hw a.trs[i] (List.getElem_mem hlt)) (h := ?_)
          refine p_go fun hf => ?_
          refine p_add (r := ((i + 1 : Nat) : Int)) (hr := (by first | omega | (simp only [decide_eq_true_eq, decide_eq_false_iff_not, Bool.or_eq_false_iff, Bool.and_eq_true, Bool.not_eq_true', Bool.not_eq_false'] at *; omega))) (hb := (by first | omega | (simp only [decide_eq_true_eq, decide_eq_false_iff_not, Bool.or_eq_false_iff, Bool.and_eq_true, Bool.not_eq_true', Bool.not_eq_false'] at *; omega))) (h := ?_)
          refine p_go ?_
          refine p_some ?_
          refine ⟨⟨(by simp (decide := true) only [valsE, evE, upd, cv, args0, argsFrom, List.length_map, ↓reduceIte, hE] <;> rfl), (by simp (decide := true) only [valsO, updO, upd, true_and, and_true, false_and, and_false, ↓reduceIte, hE] <;> rfl)⟩, ⟨i + 1, hlt, eV_⟩, ?_⟩
          simp (decide := true) only [upd, e6, V.toN, ↓reduceIte]; omega
        · refine p_go ?_
          refine p_ret1 (hp := by rfl)

theorem rsame10 {a : Aut} (ha : a.Sm) (h : a = aut0 ∨ spOk a.sp = true ∧ ∀ t ∈ a.trs, isB a.sp t.w = true) : FnC Tryz.prog 22 [autV a, autV a] (fun r => r = .bool true) := by
  rcases h with rfl | ⟨h1, h2⟩
  · exact rsame10_self _ ha (rspace_self _ (by decide) fun p hp => by cases hp) fun t ht => by cases ht
  · exact rsame10_self _ ha (rspace_same h1) fun t ht => rsame_self h1 (h2 t ht)

end Go.Proofs.YtfpljljjjgicaaaGreatDoor
/-
  wfa.Meet: the automaton of those words that a deterministic one accepts.
-/
set_option maxHeartbeats 4000000
set_option linter.unusedSimpArgs false
set_option linter.unusedVariables false
namespace Go.Proofs.YtfpljljjjgicaaaGreatDoor
open Go.RowKit
attribute [local irreducible] Wk Tr
def mkT (n : Nat) (t : Trn) (k to : Int) : Trn := ⟨t.frm * n + k, t.sym, t.to * n + to, t.w⟩
def dTo (d : Dfa) (t : Trn) (k : Nat) : Int := if 0 ≤ t.sym then (d.nx k t.sym.toNat : Int) else k
def prodK (d : Dfa) (t : Trn) (k : Nat) : List Trn := (List.range k).map fun (k : Nat) => mkT d.n t k (dTo d t k)
def prodL (d : Dfa) (l : List Trn) : List Trn := l.flatMap fun t => prodK d t d.n
def prodFK (d : Dfa) (s : Int) (k : Nat) : List Int := ((List.range k).filter d.ac).map fun (k : Nat) => s * d.n + k
def prodF (d : Dfa) (l : List Int) : List Int := l.flatMap fun s => prodFK d s d.n
/-- The automaton of both. -/
def prod (a : Aut) (d : Dfa) : Aut := ⟨a.sp, a.states * d.n, a.symbols, prodF d a.fin, prodL d a.trs⟩
def meetE (a : Aut) (d : Dfa) : Int := if checkE10 a ≠ 0 then checkE10 a else if d.err ≠ 0 ∨ d.sym ≠ a.symbols then 90 else if 4096 < a.states * d.n ∨ 65536 < (a.trs.length : Int) * d.n then 3 else 0
def meetA (a : Aut) (d : Dfa) : Aut := if meetE a d = 0 then prod a d else aut0
def mRes (a : Aut) (d : Dfa) : V := .tup [autV (meetA a d), iV (meetE a d)]
theorem m_1 {a : Aut} {d : Dfa} (h : decide (checkE10 a ≠ 0) = true) : mRes a d = .tup [autV aut0, iV (checkE10 a)] := by
  have h := of_decide_eq_true h
  have e : meetE a d = checkE10 a := if_pos h
  rw [mRes, meetA, e, if_neg h]
theorem m_2 {a : Aut} {d : Dfa} (h1 : decide (checkE10 a ≠ 0) = false) (h : (decide (d.err ≠ 0) || decide (d.sym ≠ a.symbols)) = true) : mRes a d = .tup [autV aut0, iV 90] := by
  have h1 := of_decide_eq_false h1
  have h2 : d.err ≠ 0 ∨ d.sym ≠ a.symbols := by simpa using h
  have e : meetE a d = 90 := by rw [meetE, if_neg h1, if_pos h2]
  rw [mRes, meetA, e]; rfl
theorem m_3 {a : Aut} {d : Dfa} (h1 : decide (checkE10 a ≠ 0) = false) (h2 : (decide (d.err ≠ 0) || decide (d.sym ≠ a.symbols)) = false) (h : 4096 < a.states * d.n ∨ 65536 < (a.trs.length : Int) * d.n) : mRes a d = .tup [autV aut0, iV 3] := by
  have h1 := of_decide_eq_false h1
  have h2 : ¬ (d.err ≠ 0 ∨ d.sym ≠ a.symbols) := by simpa using h2
  have e : meetE a d = 3 := by rw [meetE, if_neg h1, if_neg h2, if_pos h]
  rw [mRes, meetA, e]; rfl
theorem m_0 {a : Aut} {d : Dfa} (h1 : decide (checkE10 a ≠ 0) = false) (h2 : (decide (d.err ≠ 0) || decide (d.sym ≠ a.symbols)) = false) (h : ¬ (4096 < a.states * d.n ∨ 65536 < (a.trs.length : Int) * d.n)) : mRes a d = .tup [autV (prod a d), iV 0] := by
  have h1 := of_decide_eq_false h1
  have h2 : ¬ (d.err ≠ 0 ∨ d.sym ≠ a.symbols) := by simpa using h2
  have e : meetE a d = 0 := by rw [meetE, if_neg h1, if_neg h2, if_neg h]
  rw [mRes, meetA, e]; rfl
theorem prodK_0 (d : Dfa) (t : Trn) : prodK d t 0 = [] := rfl
theorem prodK_s (d : Dfa) (t : Trn) (k : Nat) : prodK d t (k + 1) = prodK d t k ++ [mkT d.n t k (dTo d t k)] := by rw [prodK, List.range_succ, List.map_append]; rfl
theorem prodL_s (d : Dfa) {l : List Trn} {i : Nat} (h : i < l.length) : prodL d (l.take (i + 1)) = prodL d (l.take i) ++ prodK d l[i] d.n := by
  rw [List.take_add_one, List.getElem?_eq_getElem h, prodL, List.flatMap_append]; simp [prodL]
theorem prodK_len (d : Dfa) (t : Trn) (k : Nat) : (prodK d t k).length = k := by simp [prodK]
theorem prodL_len (d : Dfa) : ∀ l : List Trn, (prodL d l).length = l.length * d.n
  | [] => by simp [prodL]
  | t :: l => by
    have := prodL_len d l
    rw [prodL] at this
    rw [prodL, List.flatMap_cons, List.length_append, prodK_len, this, List.length_cons, Nat.add_one_mul, Nat.add_comm]
theorem prodFK_0 (d : Dfa) (s : Int) : prodFK d s 0 = [] := rfl
theorem prodFK_t (d : Dfa) (s : Int) (k : Nat) (h : d.ac k = true) : prodFK d s (k + 1) = prodFK d s k ++ [s * d.n + k] := by
  simp [prodFK, List.range_succ, List.filter_append, h]
theorem prodFK_f (d : Dfa) (s : Int) (k : Nat) (h : d.ac k = false) : prodFK d s (k + 1) = prodFK d s k := by
  simp [prodFK, List.range_succ, List.filter_append, h]
theorem prodF_s (d : Dfa) {l : List Int} {i : Nat} (h : i < l.length) : prodF d (l.take (i + 1)) = prodF d (l.take i) ++ prodFK d l[i] d.n := by
  rw [List.take_add_one, List.getElem?_eq_getElem h, prodF, List.flatMap_append]; simp [prodF]
theorem prodFK_len (d : Dfa) (s : Int) (k : Nat) : (prodFK d s k).length ≤ k := by
  rw [prodFK, List.length_map]; exact Nat.le_trans (List.length_filter_le ..) (by simp)
theorem prodF_len (d : Dfa) : ∀ l : List Int, (prodF d l).length ≤ l.length * d.n
  | [] => by simp [prodF]
  | s :: l => by
    have h1 := prodF_len d l
    have h2 := prodFK_len d s d.n
    rw [prodF] at h1
    rw [prodF, List.flatMap_cons, List.length_append, List.length_cons, Nat.add_one_mul]; omega
/-- Bounds of the places that the product has. -/
theorem mul_bd {x n : Int} (h1 : 0 ≤ x) (h2 : x ≤ 65536) (h3 : 0 ≤ n) (h4 : n ≤ 1024) : 0 ≤ x * n ∧ x * n ≤ 67108864 := by
  have h5 : 0 ≤ x * n := Int.mul_nonneg h1 h3
  have h6 : x * n ≤ 65536 * 1024 := Int.mul_le_mul h2 h4 h3 (by omega)
  omega
theorem nat_bd {x n : Nat} (h2 : x ≤ 65536) (h4 : n ≤ 1024) : x * n ≤ 67108864 := by
  have h6 : x * n ≤ 65536 * 1024 := Nat.mul_le_mul h2 h4
  omega
theorem nat_le {i l n : Nat} (h : i < l) : i * n + n ≤ l * n := by
  have := Nat.mul_le_mul_right n h
  rw [Nat.succ_mul] at this; exact this
/-- There are not more final states than states. -/
theorem finOk_len {a : Aut} : ∀ {last : Int} {l : List Int}, finOk a last l = true → (l.length : Int) ≤ max 0 (a.states - max 0 (last + 1))
  | _, [], _ => by simp; omega
  | last, s :: l, h => by
    simp only [finOk, inS, Bool.and_eq_true, decide_eq_true_eq, Bool.not_eq_true', decide_eq_false_iff_not] at h
    obtain ⟨⟨⟨h1, h2⟩, h3⟩, h4⟩ := h
    have := finOk_len h4
    simp only [List.length_cons]; omega
theorem check10_fin {a : Aut} (h : checkE10 a = 0) : finOk a (-1) a.fin = true := by
  unfold checkE10 at h
  split at h
  · contradiction
  · split at h
    · contradiction
    · split at h
      · contradiction
      · split at h
        · contradiction
        · rename_i h3; simpa using h3
theorem fin_len {a : Aut} (h : checkE10 a = 0) : a.fin.length ≤ 4096 := by
  have h1 := finOk_len (check10_fin h)
  have h2 := (checkE10_ok h).st
  omega

theorem meetC (a : Aut) (d : Dfa) (ha : a.Sm) (hd : d.Sm) : FnC Tryz.prog 20 [autV a, dfaV d] (fun r => r = mRes a d) := by
  refine FnC.of (fn := Tryz.f20) ⟨Tryz.func20, by kernel_rfl, rfl⟩ Tryz.ntmps20 (by simp) fun w0 S0 => ?_
  have hd1 := hd.next
  have hd2 := hd.acc
  have hl1 := ha.trs
  have hl2 := ha.fin
  refine p_go fun hf => ?_
  refine p_call (hx := rfl) (hb := ⟨Tryz.func25, by kernel_rfl, rfl⟩) (hf := check10 a ha) (h := ?_)
  refine p_go ?_
  refine p_splitC (s := 20) (ht := fun hc20 => ?_) (hf := fun hc20 => ?_)
  · refine p_go fun hf => ?_
    refine p_build (hi := F.ti29.h) (hpl := F.pl29.h) (h := ?_)
    refine p_go ?_
    refine p_cellNil (g1 := 0 + 1) (d1 := 4) (i := 2) (el := 25) (h := ?_)
    refine p_cellNil (g1 := 0 + 1) (d1 := 4) (i := 5) (el := 3) (h := ?_)
    refine p_cellNil (g1 := 0 + 1) (d1 := 4) (i := 6) (el := 39) (h := ?_)
    refine p_r2 (hp := by rw [m_1 hc20]; rfl)
  · have hch : checkE10 a = 0 := by simpa using hc20
    have hok := checkE10_ok hch
    have hst := hok.st
    have hmany := hok.many
    have hfl := fin_len hch
    refine p_go fun hf => ?_
    refine p_call (hx := rfl) (hb := ⟨Tryz.func54, by kernel_rfl, rfl⟩) (hf := check09 d hd) (h := ?_)
    refine p_go ?_
    refine p_splitC (s := 32) (ht := fun hc32 => ?_) (hf := fun hc32 => ?_)
    · refine p_go fun hf => ?_
      refine p_build (hi := F.ti29.h) (hpl := F.pl29.h) (h := ?_)
      refine p_go ?_
      refine p_cellNil (g1 := 0 + 1) (d1 := 4) (i := 2) (el := 25) (h := ?_)
      refine p_cellNil (g1 := 0 + 1) (d1 := 4) (i := 5) (el := 3) (h := ?_)
      refine p_cellNil (g1 := 0 + 1) (d1 := 4) (i := 6) (el := 39) (h := ?_)
      refine p_r2 (hp := by rw [m_2 hc20 hc32]; rfl)
    · obtain ⟨hde, hds⟩ : d.err = 0 ∧ d.sym = a.symbols := by simpa using hc32
      have hdo : d.Ok := Dfa.ok_of (by rw [Dfa.err] at hde; split at hde; assumption; contradiction)
      have hn0 := hdo.n0
      have hn1 := hdo.n1
      have hacc := hdo.acc
      have hnd : d.n = d.next.length := rfl
      have hb1 := mul_bd hst.1 (by omega) (Int.natCast_nonneg d.next.length) (by omega)
      have hb2 := mul_bd (Int.natCast_nonneg a.trs.length) (by omega) (Int.natCast_nonneg d.next.length) (by omega)
      refine p_go fun hf => ?_
      refine p_mul (hr := rfl) (hb := by omega) (h := ?_)
      refine p_go fun hf => ?_
      refine p_split (s := 42) (ht := fun hb42 => ?_) (hf := fun hb42 => ?_)
      · -- slot 42 is true
        refine p_go fun hf => ?_
        refine p_build (hi := F.ti29.h) (hpl := F.pl29.h) (h := ?_)
        refine p_go ?_
        refine p_cellNil (g1 := 0 + 1) (d1 := 4) (i := 2) (el := 25) (h := ?_)
        refine p_cellNil (g1 := 0 + 1) (d1 := 4) (i := 5) (el := 3) (h := ?_)
        refine p_cellNil (g1 := 0 + 1) (d1 := 4) (i := 6) (el := 39) (h := ?_)
        refine p_r2 (hp := by rw [m_3 hc20 hc32 (.inl (by have := hb42; simp at this; rw [hnd]; exact this))]; rfl)
      · -- slot 42 is false
        refine p_go fun hf => ?_
        refine p_mul (hr := rfl) (hb := by omega) (h := ?_)
        refine p_go ?_
        refine p_splitC (s := 49) (ht := fun hc49 => ?_) (hf := fun hc49 => ?_)
        · refine p_go fun hf => ?_
          refine p_build (hi := F.ti29.h) (hpl := F.pl29.h) (h := ?_)
          refine p_go ?_
          refine p_cellNil (g1 := 0 + 1) (d1 := 4) (i := 2) (el := 25) (h := ?_)
          refine p_cellNil (g1 := 0 + 1) (d1 := 4) (i := 5) (el := 3) (h := ?_)
          refine p_cellNil (g1 := 0 + 1) (d1 := 4) (i := 6) (el := 39) (h := ?_)
          refine p_r2 (hp := by rw [m_3 hc20 hc32 (.inr (by have := hc49; simp at this; rw [hnd]; exact this))]; rfl)
        · have hsm : ¬ (4096 < a.states * d.n ∨ 65536 < (a.trs.length : Int) * d.n) := by have h1 := hb42; have h2 := hc49; simp at h1 h2; rw [hnd]; omega
          refine p_go fun hf => ?_
          refine p_mul (hr := rfl) (hb := by omega) (h := ?_)
          refine p_go fun hf => ?_
          refine p_build (hi := F.ti29.h) (hpl := F.pl29.h) (h := ?_)
          refine p_go ?_
          refine p_nilCell (g1 := 0 + 1 + 1 + 1 + 1 + 1 + 1 + 1) (d1 := 8) (i := 6) (el := 39) 107 (h := ?_)
          refine p_nilCell (g1 := 0 + 1 + 1 + 1 + 1 + 1 + 1 + 1) (d1 := 8) (i := 5) (el := 3) 135 (h := ?_)
          refine p_loopK [2, 3, 4, 7, 8, 61, 62] [(0 + 1, 2), (0 + 1, 3), (0 + 1, 4), (0 + 1 + 1 + 1 + 1 + 1 + 1 + 1 + 1, 135)] (fun st => ∃ (i q m : Nat) (L : List V), (i ≤ a.trs.length) ∧ (L = (prodL d (a.trs.take i)).map trV) ∧ (L.length = m) ∧ st.env 63 = iV i ∧ st.obj (0 + 1 + 1 + 1 + 1 + 1 + 1 + 1) 8 = .cells 29 [iV a.sp.tag, iV a.sp.dim, .sl 25 (a.sp.parts.map spV), iV (a.states * d.next.length), iV a.symbols, .row (0 + 1 + 1 + 1 + 1 + 1 + 1 + 1 + 1) 135 0, .row q 107 m] ∧ st.obj q 107 = .row 39 L) (fun st => a.trs.length - (st.env 63).toN) ?_ fun e ob g1 hK hO hI => ?_
          · exact ⟨0, _, 0, [], by omega, rfl, rfl, eV_, oB_, oB_⟩
          · obtain ⟨i, q, m, L, hi, hL, hm, e63, o8, o107⟩ := hI
            dsimp only at e63 o8 o107
            simp only [valsE, List.cons.injEq, and_true] at hK
            simp only [valsO, List.cons.injEq, and_true] at hO
            have hE := (⟨hK, hO, e63, o8, o107⟩ : _ ∧ _ ∧ _ ∧ _ ∧ _)
            refine p_go ?_
            refine p_splitC (s := 64) (ht := fun hc64 => ?_) (hf := fun hc64 => ?_)
            · have hlt : i < a.trs.length := by have := hc64; simpa using this
              have hm1 := List.getElem_mem hlt
              obtain ⟨hf1, hf2, hf3⟩ := hok.trs _ hm1
              have hb3 := mul_bd hf1.1 (by omega) (Int.natCast_nonneg d.next.length) (by omega)
              have hb4 := mul_bd hf2.1 (by omega) (Int.natCast_nonneg d.next.length) (by omega)
              have hB := hok.w _ hm1
              have hbl := nat_bd hmany hn1
              have hil := nat_le (n := d.n) hlt
              have hpl := prodL_len d (a.trs.take i)
              rw [List.length_take, Nat.min_eq_left hi] at hpl
              refine p_go fun hf => ?_
              refine p_idxMap (j := i) (ht := Tryz.underlying27) (hi := F.ti39.h) (hij := rfl) (hj := hlt) (h := ?_)
              refine p_go ?_
              refine p_loopK [2, 3, 4, 7, 8, 10, 61, 62, 63, 67] [(0 + 1, 2), (0 + 1, 3), (0 + 1, 4), (g1 + 1 + 1, 10), (0 + 1 + 1 + 1 + 1 + 1 + 1 + 1 + 1, 135)] (fun st => ∃ (k q m : Nat) (L : List V), (k ≤ d.next.length) ∧ (L = (prodL d (a.trs.take i) ++ prodK d a.trs[i] k).map trV) ∧ (L.length = m) ∧ st.env 68 = iV k ∧ st.obj (0 + 1 + 1 + 1 + 1 + 1 + 1 + 1) 8 = .cells 29 [iV a.sp.tag, iV a.sp.dim, .sl 25 (a.sp.parts.map spV), iV (a.states * d.next.length), iV a.symbols, .row (0 + 1 + 1 + 1 + 1 + 1 + 1 + 1 + 1) 135 0, .row q 107 m] ∧ st.obj q 107 = .row 39 L) (fun st => d.next.length - (st.env 68).toN) ?_ fun e ob g2 hK hO hI => ?_
              · exact ⟨0, _, m, L, by omega, by rw [prodK_0, List.append_nil, hL], hm, eV_, oB_, oB_⟩
              · obtain ⟨k, q, m, L, hk, hL, hm, e68, o8, o107⟩ := hI
                dsimp only at e68 o8 o107
                simp only [valsE, List.cons.injEq, and_true] at hK
                simp only [valsO, List.cons.injEq, and_true] at hO
                have hE := (⟨hK, hO, e68, o8, o107⟩ : _ ∧ _ ∧ _ ∧ _ ∧ _)
                refine p_go ?_
                refine p_splitC (s := 69) (ht := fun hc69 => ?_) (hf := fun hc69 => ?_)
                · have hkn : k < d.next.length := by have := hc69; simpa using this
                  have hLl : L.length = i * d.n + k := by rw [hL, List.length_map, List.length_append, hpl, prodK_len]
                  refine p_go ?_
                  refine p_splitC (s := 74) (ht := fun hc74 => ?_) (hf := fun hc74 => ?_)
                  · have hs : 0 ≤ a.trs[i].sym := by simpa using hc74
                    obtain ⟨hx2, hx3⟩ := Dfa.nx_is hdo hkn ⟨hs, by omega⟩
                    have hto : dTo d a.trs[i] k = d.next[k][a.trs[i].sym.toNat] := by rw [dTo, if_pos hs, hx3]
                    have hnx := hdo.nx_lt (i := k) (k := a.trs[i].sym.toNat) hkn (by omega)
                    refine p_go fun hf => ?_
                    refine p_idxMap (j := k) (ht := Tryz.underlying57) (hi := F.ti26.h) (hij := rfl) (hj := hkn) (h := ?_)
                    refine p_go fun hf => ?_
                    refine p_idxMap (j := a.trs[i].sym.toNat) (ht := Tryz.underlying26) (hi := F.ti3.h) (hij := by omega) (hj := hx2) (h := ?_)
                    refine p_go fun hf => ?_
                    refine p_mul (hr := rfl) (hb := by omega) (h := ?_)
                    refine p_go fun hf => ?_
                    refine p_add (r := a.trs[i].frm * d.next.length + k) (hr := (by first | omega | (simp only [decide_eq_true_eq, decide_eq_false_iff_not, Bool.or_eq_false_iff, Bool.and_eq_true, Bool.not_eq_true', Bool.not_eq_false'] at *; omega))) (hb := (by first | omega | (simp only [decide_eq_true_eq, decide_eq_false_iff_not, Bool.or_eq_false_iff, Bool.and_eq_true, Bool.not_eq_true', Bool.not_eq_false'] at *; omega))) (h := ?_)
                    refine p_go fun hf => ?_
                    refine p_mul (hr := rfl) (hb := by omega) (h := ?_)
                    refine p_go fun hf => ?_
                    refine p_add (r := a.trs[i].to * d.next.length + dTo d a.trs[i] k) (hr := (by first | omega | (simp only [decide_eq_true_eq, decide_eq_false_iff_not, Bool.or_eq_false_iff, Bool.and_eq_true, Bool.not_eq_true', Bool.not_eq_false'] at *; omega))) (hb := (by first | omega | (simp only [decide_eq_true_eq, decide_eq_false_iff_not, Bool.or_eq_false_iff, Bool.and_eq_true, Bool.not_eq_true', Bool.not_eq_false'] at *; omega))) (h := ?_)
                    refine p_go fun hf => ?_
                    refine p_call (hx := rfl) (hb := ⟨Tryz.func38, by kernel_rfl, rfl⟩) (hf := by have := wcopied hok.sp hB; rwa [either_self hok.sp hB] at this) (h := ?_)
                    refine p_build (hi := F.ti39.h) (hpl := F.pl39.h) (h := ?_)
                    refine p_buildSlice (ht := Tryz.underlying27) (hi := F.ti39.h) (h := ?_)
                    refine p_append (k := m + 1) (ht := Tryz.underlying27) (hi := F.ti39.h) (hnl := by exact hm.symm) (hy := by exact ⟨.inl oB_, rfl⟩) (hm := by simp [hm]) (hlim := by omega) (h := ?_)
                    refine p_go fun hf => ?_
                    refine p_add (r := ((k + 1 : Nat) : Int)) (hr := (by first | omega | (simp only [decide_eq_true_eq, decide_eq_false_iff_not, Bool.or_eq_false_iff, Bool.and_eq_true, Bool.not_eq_true', Bool.not_eq_false'] at *; omega))) (hb := (by first | omega | (simp only [decide_eq_true_eq, decide_eq_false_iff_not, Bool.or_eq_false_iff, Bool.and_eq_true, Bool.not_eq_true', Bool.not_eq_false'] at *; omega))) (h := ?_)
                    refine p_go ?_
                    refine p_some ?_
                    refine ⟨⟨(by simp (decide := true) only [valsE, evE, upd, cv, args0, argsFrom, List.length_map, ↓reduceIte, hE] <;> rfl), (by simp (decide := true) only [valsO, updO, upd, true_and, and_true, false_and, and_false, ↓reduceIte, hE] <;> rfl)⟩, ⟨k + 1, _, m + 1, L ++ [trV (mkT d.n a.trs[i] k (dTo d a.trs[i] k))], hkn, by simp [hL, prodK_s], by simp [hm], eV_, oB_, oB_⟩, ?_⟩
                    simp (decide := true) only [upd, e68, V.toN, ↓reduceIte]; omega
                  · have hs : ¬ 0 ≤ a.trs[i].sym := by simpa using hc74
                    have hto : dTo d a.trs[i] k = k := by rw [dTo, if_neg hs]
                    refine p_go fun hf => ?_
                    refine p_mul (hr := rfl) (hb := by omega) (h := ?_)
                    refine p_go fun hf => ?_
                    refine p_add (r := a.trs[i].frm * d.next.length + k) (hr := (by first | omega | (simp only [decide_eq_true_eq, decide_eq_false_iff_not, Bool.or_eq_false_iff, Bool.and_eq_true, Bool.not_eq_true', Bool.not_eq_false'] at *; omega))) (hb := (by first | omega | (simp only [decide_eq_true_eq, decide_eq_false_iff_not, Bool.or_eq_false_iff, Bool.and_eq_true, Bool.not_eq_true', Bool.not_eq_false'] at *; omega))) (h := ?_)
                    refine p_go fun hf => ?_
                    refine p_mul (hr := rfl) (hb := by omega) (h := ?_)
                    refine p_go fun hf => ?_
                    refine p_add (r := a.trs[i].to * d.next.length + dTo d a.trs[i] k) (hr := (by first | omega | (simp only [decide_eq_true_eq, decide_eq_false_iff_not, Bool.or_eq_false_iff, Bool.and_eq_true, Bool.not_eq_true', Bool.not_eq_false'] at *; omega))) (hb := (by first | omega | (simp only [decide_eq_true_eq, decide_eq_false_iff_not, Bool.or_eq_false_iff, Bool.and_eq_true, Bool.not_eq_true', Bool.not_eq_false'] at *; omega))) (h := ?_)
                    refine p_go fun hf => ?_
                    refine p_call (hx := rfl) (hb := ⟨Tryz.func38, by kernel_rfl, rfl⟩) (hf := by have := wcopied hok.sp hB; rwa [either_self hok.sp hB] at this) (h := ?_)
                    refine p_build (hi := F.ti39.h) (hpl := F.pl39.h) (h := ?_)
                    refine p_buildSlice (ht := Tryz.underlying27) (hi := F.ti39.h) (h := ?_)
                    refine p_append (k := m + 1) (ht := Tryz.underlying27) (hi := F.ti39.h) (hnl := by exact hm.symm) (hy := by exact ⟨.inl oB_, rfl⟩) (hm := by simp [hm]) (hlim := by omega) (h := ?_)
                    refine p_go fun hf => ?_
                    refine p_add (r := ((k + 1 : Nat) : Int)) (hr := (by first | omega | (simp only [decide_eq_true_eq, decide_eq_false_iff_not, Bool.or_eq_false_iff, Bool.and_eq_true, Bool.not_eq_true', Bool.not_eq_false'] at *; omega))) (hb := (by first | omega | (simp only [decide_eq_true_eq, decide_eq_false_iff_not, Bool.or_eq_false_iff, Bool.and_eq_true, Bool.not_eq_true', Bool.not_eq_false'] at *; omega))) (h := ?_)
                    refine p_go ?_
                    refine p_some ?_
                    refine ⟨⟨(by simp (decide := true) only [valsE, evE, upd, cv, args0, argsFrom, List.length_map, ↓reduceIte, hE] <;> rfl), (by simp (decide := true) only [valsO, updO, upd, true_and, and_true, false_and, and_false, ↓reduceIte, hE] <;> rfl)⟩, ⟨k + 1, _, m + 1, L ++ [trV (mkT d.n a.trs[i] k (dTo d a.trs[i] k))], hkn, by simp [hL, prodK_s], by simp [hm], eV_, oB_, oB_⟩, ?_⟩
                    simp (decide := true) only [upd, e68, V.toN, ↓reduceIte]; omega
                · have hkd : d.next.length = k := by have := hc69; simp at this; omega
                  refine p_go fun hf => ?_
                  refine p_add (r := ((i + 1 : Nat) : Int)) (hr := (by first | omega | (simp only [decide_eq_true_eq, decide_eq_false_iff_not, Bool.or_eq_false_iff, Bool.and_eq_true, Bool.not_eq_true', Bool.not_eq_false'] at *; omega))) (hb := (by first | omega | (simp only [decide_eq_true_eq, decide_eq_false_iff_not, Bool.or_eq_false_iff, Bool.and_eq_true, Bool.not_eq_true', Bool.not_eq_false'] at *; omega))) (h := ?_)
                  refine p_go ?_
                  refine p_some ?_
                  refine ⟨⟨(by simp (decide := true) only [valsE, evE, upd, cv, args0, argsFrom, List.length_map, ↓reduceIte, hE] <;> rfl), (by simp (decide := true) only [valsO, updO, upd, true_and, and_true, false_and, and_false, ↓reduceIte, hE] <;> rfl)⟩, ⟨i + 1, q, m, L, hlt, by rw [hL, prodL_s d hlt, show d.n = k from hkd], hm, eV_, oB_, oB_⟩, ?_⟩
                  simp (decide := true) only [upd, e63, V.toN, ↓reduceIte]; omega
            · have hge : a.trs.length ≤ i := by simpa using hc64
              refine p_go ?_
              obtain rfl : i = a.trs.length := by omega
              rw [List.take_length] at hL
              subst hL
              subst hm
              refine p_freeze (g1 := q) (d1 := 107) (h := ?_)
              refine p_cellSl (g1 := 0 + 1 + 1 + 1 + 1 + 1 + 1 + 1) (d1 := 8) (i := 6) (hn := rfl) (h := ?_)
              refine p_loopK [3, 4, 7, 8, 112, 113] [(0 + 1, 2), (0 + 1, 3), (0 + 1, 4)] (fun st => ∃ (i q m : Nat) (L : List V), (i ≤ a.fin.length) ∧ (L = (prodF d (a.fin.take i)).map iV) ∧ (L.length = m) ∧ st.env 114 = iV i ∧ st.obj (0 + 1 + 1 + 1 + 1 + 1 + 1 + 1) 8 = .cells 29 [iV a.sp.tag, iV a.sp.dim, .sl 25 (a.sp.parts.map spV), iV (a.states * d.next.length), iV a.symbols, .row q 135 m, .sl 39 ((prodL d a.trs).map trV)] ∧ st.obj q 135 = .row 3 L) (fun st => a.fin.length - (st.env 114).toN) ?_ fun e ob g3 hK hO hI => ?_
              · exact ⟨0, _, 0, [], by omega, rfl, rfl, eV_, oB_, oB_⟩
              · obtain ⟨i, q, m, L, hi, hL, hm, e114, o8, o135⟩ := hI
                dsimp only at e114 o8 o135
                simp only [valsE, List.cons.injEq, and_true] at hK
                simp only [valsO, List.cons.injEq, and_true] at hO
                have hE := (⟨hK, hO, e114, o8, o135⟩ : _ ∧ _ ∧ _ ∧ _ ∧ _)
                refine p_go ?_
                refine p_splitC (s := 115) (ht := fun hc115 => ?_) (hf := fun hc115 => ?_)
                · have hlt : i < a.fin.length := by simpa using hc115
                  have hf1 := hok.fin _ (List.getElem_mem hlt)
                  have hb3 := mul_bd hf1.1 (by omega) (Int.natCast_nonneg d.next.length) (by omega)
                  have hbl := nat_bd (x := a.fin.length) (by omega) hn1
                  have hil := nat_le (n := d.n) hlt
                  have hpl := prodF_len d (a.fin.take i)
                  rw [List.length_take, Nat.min_eq_left hi] at hpl
                  refine p_go fun hf => ?_
                  refine p_idxMap (j := i) (ht := Tryz.underlying26) (hi := F.ti3.h) (hij := rfl) (hj := hlt) (h := ?_)
                  refine p_go ?_
                  refine p_loopK [3, 4, 7, 8, 14, 112, 113, 114, 119, 120] [(0 + 1, 2), (0 + 1, 3), (0 + 1, 4)] (fun st => ∃ (k q m : Nat) (L : List V), (k ≤ d.acc.length) ∧ (L = (prodF d (a.fin.take i) ++ prodFK d a.fin[i] k).map iV) ∧ (L.length = m) ∧ st.env 121 = iV k ∧ st.obj (0 + 1 + 1 + 1 + 1 + 1 + 1 + 1) 8 = .cells 29 [iV a.sp.tag, iV a.sp.dim, .sl 25 (a.sp.parts.map spV), iV (a.states * d.next.length), iV a.symbols, .row q 135 m, .sl 39 ((prodL d a.trs).map trV)] ∧ st.obj q 135 = .row 3 L) (fun st => d.acc.length - (st.env 121).toN) ?_ fun e ob g4 hK hO hI => ?_
                  · exact ⟨0, _, m, L, by omega, by rw [prodFK_0, List.append_nil, hL], hm, eV_, oB_, oB_⟩
                  · obtain ⟨k, q, m, L, hk, hL, hm, e121, o8, o135⟩ := hI
                    dsimp only at e121 o8 o135
                    simp only [valsE, List.cons.injEq, and_true] at hK
                    simp only [valsO, List.cons.injEq, and_true] at hO
                    have hE := (⟨hK, hO, e121, o8, o135⟩ : _ ∧ _ ∧ _ ∧ _ ∧ _)
                    refine p_go ?_
                    refine p_splitC (s := 122) (ht := fun hc122 => ?_) (hf := fun hc122 => ?_)
                    · have hka : k < d.acc.length := by simpa using hc122
                      have hac : d.acc[k] = d.ac k := by simp [Dfa.ac, List.getD, List.getElem?_eq_getElem hka]
                      have hLl : L.length ≤ i * d.n + k := by rw [hL, List.length_map, List.length_append]; have := prodFK_len d a.fin[i] k; omega
                      refine p_go fun hf => ?_
                      refine p_idxMap (j := k) (ht := Tryz.underlying58) (hi := F.ti4.h) (hij := rfl) (hj := hka) (h := ?_)
                      refine p_go ?_
                      refine p_splitC (s := 126) (ht := fun hc126 => ?_) (hf := fun hc126 => ?_)
                      · have hak : d.ac k = true := by rw [← hac]; simpa using hc126
                        refine p_go fun hf => ?_
                        refine p_mul (hr := rfl) (hb := by omega) (h := ?_)
                        refine p_go fun hf => ?_
                        refine p_add (r := a.fin[i] * d.next.length + k) (hr := (by first | omega | (simp only [decide_eq_true_eq, decide_eq_false_iff_not, Bool.or_eq_false_iff, Bool.and_eq_true, Bool.not_eq_true', Bool.not_eq_false'] at *; omega))) (hb := (by first | omega | (simp only [decide_eq_true_eq, decide_eq_false_iff_not, Bool.or_eq_false_iff, Bool.and_eq_true, Bool.not_eq_true', Bool.not_eq_false'] at *; omega))) (h := ?_)
                        refine p_buildSlice (ht := Tryz.underlying26) (hi := F.ti3.h) (h := ?_)
                        refine p_append (k := m + 1) (ht := Tryz.underlying26) (hi := F.ti3.h) (hnl := by exact hm.symm) (hy := by exact ⟨.inl oB_, rfl⟩) (hm := by simp [hm]) (hlim := by omega) (h := ?_)
                        refine p_go fun hf => ?_
                        refine p_add (r := ((k + 1 : Nat) : Int)) (hr := (by first | omega | (simp only [decide_eq_true_eq, decide_eq_false_iff_not, Bool.or_eq_false_iff, Bool.and_eq_true, Bool.not_eq_true', Bool.not_eq_false'] at *; omega))) (hb := (by first | omega | (simp only [decide_eq_true_eq, decide_eq_false_iff_not, Bool.or_eq_false_iff, Bool.and_eq_true, Bool.not_eq_true', Bool.not_eq_false'] at *; omega))) (h := ?_)
                        refine p_go ?_
                        refine p_some ?_
                        refine ⟨⟨(by simp (decide := true) only [valsE, evE, upd, cv, args0, argsFrom, List.length_map, ↓reduceIte, hE] <;> rfl), (by simp (decide := true) only [valsO, updO, upd, true_and, and_true, false_and, and_false, ↓reduceIte, hE] <;> rfl)⟩, ⟨k + 1, _, m + 1, L ++ [iV (a.fin[i] * d.next.length + k)], hka, by rw [prodFK_t _ _ _ hak, hL]; simp [hnd], by simp [hm], eV_, oB_, oB_⟩, ?_⟩
                        simp (decide := true) only [upd, e121, V.toN, ↓reduceIte]; omega
                      · have hak : d.ac k = false := by rw [← hac]; simpa using hc126
                        refine p_go fun hf => ?_
                        refine p_add (r := ((k + 1 : Nat) : Int)) (hr := (by first | omega | (simp only [decide_eq_true_eq, decide_eq_false_iff_not, Bool.or_eq_false_iff, Bool.and_eq_true, Bool.not_eq_true', Bool.not_eq_false'] at *; omega))) (hb := (by first | omega | (simp only [decide_eq_true_eq, decide_eq_false_iff_not, Bool.or_eq_false_iff, Bool.and_eq_true, Bool.not_eq_true', Bool.not_eq_false'] at *; omega))) (h := ?_)
                        refine p_go ?_
                        refine p_some ?_
                        refine ⟨⟨(by simp (decide := true) only [valsE, evE, upd, cv, args0, argsFrom, List.length_map, ↓reduceIte, hE] <;> rfl), (by simp (decide := true) only [valsO, updO, upd, true_and, and_true, false_and, and_false, ↓reduceIte, hE] <;> rfl)⟩, ⟨k + 1, q, m, L, hka, by rw [prodFK_f _ _ _ hak, hL], hm, eV_, oB_, oB_⟩, ?_⟩
                        simp (decide := true) only [upd, e121, V.toN, ↓reduceIte]; omega
                    · have hkd : d.n = k := by have := hc122; simp at this; omega
                      refine p_go fun hf => ?_
                      refine p_add (r := ((i + 1 : Nat) : Int)) (hr := (by first | omega | (simp only [decide_eq_true_eq, decide_eq_false_iff_not, Bool.or_eq_false_iff, Bool.and_eq_true, Bool.not_eq_true', Bool.not_eq_false'] at *; omega))) (hb := (by first | omega | (simp only [decide_eq_true_eq, decide_eq_false_iff_not, Bool.or_eq_false_iff, Bool.and_eq_true, Bool.not_eq_true', Bool.not_eq_false'] at *; omega))) (h := ?_)
                      refine p_go ?_
                      refine p_some ?_
                      refine ⟨⟨(by simp (decide := true) only [valsE, evE, upd, cv, args0, argsFrom, List.length_map, ↓reduceIte, hE] <;> rfl), (by simp (decide := true) only [valsO, updO, upd, true_and, and_true, false_and, and_false, ↓reduceIte, hE] <;> rfl)⟩, ⟨i + 1, q, m, L, hlt, by rw [hL, prodF_s d hlt, hkd], hm, eV_, oB_, oB_⟩, ?_⟩
                      simp (decide := true) only [upd, e114, V.toN, ↓reduceIte]; omega
                · have hge : a.fin.length ≤ i := by simpa using hc115
                  subst hL
                  subst hm
                  refine p_freeze (g1 := q) (d1 := 135) (h := ?_)
                  refine p_cellSl (g1 := 0 + 1 + 1 + 1 + 1 + 1 + 1 + 1) (d1 := 8) (i := 5) (hn := rfl) (h := ?_)
                  refine p_go ?_
                  obtain rfl : i = a.fin.length := by omega
                  refine p_r2 (hp := by rw [m_0 hc20 hc32 hsm, List.take_length]; rfl)

end Go.Proofs.YtfpljljjjgicaaaGreatDoor
/-
  The reference's Meet.
-/
set_option maxHeartbeats 4000000
set_option linter.unusedSimpArgs false
set_option linter.unusedVariables false
namespace Go.Proofs.YtfpljljjjgicaaaGreatDoor
open Go.RowKit
attribute [local irreducible] Wk Tr
theorem no_acc {d : Dfa} (h : ∀ x ∈ d.acc, x = false) (k : Nat) : d.ac k = false := by
  rw [Dfa.ac, List.getD]
  cases e : d.acc[k]? with
  | none => rfl
  | some x => exact h x (List.mem_of_getElem? e)
theorem no_prodF {d : Dfa} (h : ∀ x ∈ d.acc, x = false) (l : List Int) : prodF d l = [] := by
  refine List.flatMap_eq_nil_iff.2 fun s _ => ?_
  rw [prodFK, List.map_eq_nil_iff, List.filter_eq_nil_iff]
  intro k _; rw [no_acc h k]; decide

theorem rmeetC (a : Aut) (d : Dfa) (ha : a.Sm) (hd : d.Sm) : FnC Tryz.prog 21 [autV a, dfaV d] (fun r => r = mRes a d) := by
  refine FnC.of (fn := Tryz.f21) ⟨Tryz.func21, by kernel_rfl, rfl⟩ Tryz.ntmps21 (by simp) fun w0 S0 => ?_
  have hd1 := hd.next
  have hd2 := hd.acc
  have hl1 := ha.trs
  have hl2 := ha.fin
  refine p_go fun hf => ?_
  refine p_call (hx := rfl) (hb := ⟨Tryz.func11, by kernel_rfl, rfl⟩) (hf := rcheck10 a ha) (h := ?_)
  refine p_go ?_
  refine p_splitC (s := 18) (ht := fun hc18 => ?_) (hf := fun hc18 => ?_)
  · refine p_go fun hf => ?_
    refine p_build (hi := F.ti29.h) (hpl := F.pl29.h) (h := ?_)
    refine p_go ?_
    refine p_cellNil (g1 := 0 + 1) (d1 := 4) (i := 2) (el := 25) (h := ?_)
    refine p_cellNil (g1 := 0 + 1) (d1 := 4) (i := 5) (el := 3) (h := ?_)
    refine p_cellNil (g1 := 0 + 1) (d1 := 4) (i := 6) (el := 39) (h := ?_)
    refine p_r2 (hp := by rw [m_1 hc18]; rfl)
  · have hch : checkE10 a = 0 := by simpa using hc18
    have hok := checkE10_ok hch
    have hst := hok.st
    have hmany := hok.many
    have hfl := fin_len hch
    refine p_go fun hf => ?_
    refine p_call (hx := rfl) (hb := ⟨Tryz.func55, by kernel_rfl, rfl⟩) (hf := rcheck09 d hd) (h := ?_)
    refine p_go ?_
    refine p_splitC (s := 30) (ht := fun hc30 => ?_) (hf := fun hc30 => ?_)
    · refine p_go fun hf => ?_
      refine p_build (hi := F.ti29.h) (hpl := F.pl29.h) (h := ?_)
      refine p_go ?_
      refine p_cellNil (g1 := 0 + 1) (d1 := 4) (i := 2) (el := 25) (h := ?_)
      refine p_cellNil (g1 := 0 + 1) (d1 := 4) (i := 5) (el := 3) (h := ?_)
      refine p_cellNil (g1 := 0 + 1) (d1 := 4) (i := 6) (el := 39) (h := ?_)
      refine p_r2 (hp := by rw [m_2 hc18 hc30]; rfl)
    · obtain ⟨hde, hds⟩ : d.err = 0 ∧ d.sym = a.symbols := by simpa using hc30
      have hdo : d.Ok := Dfa.ok_of (by rw [Dfa.err] at hde; split at hde; assumption; contradiction)
      have hn0 := hdo.n0
      have hn1 := hdo.n1
      have hacc := hdo.acc
      have hnd : d.n = d.next.length := rfl
      have hb1 := mul_bd hst.1 (by omega) (Int.natCast_nonneg d.next.length) (by omega)
      have hb2 := mul_bd (Int.natCast_nonneg a.trs.length) (by omega) (Int.natCast_nonneg d.next.length) (by omega)
      refine p_go fun hf => ?_
      refine p_mul (hr := rfl) (hb := by omega) (h := ?_)
      refine p_go fun hf => ?_
      refine p_split (s := 40) (ht := fun hb40 => ?_) (hf := fun hb40 => ?_)
      · -- slot 40 is true
        refine p_go fun hf => ?_
        refine p_build (hi := F.ti29.h) (hpl := F.pl29.h) (h := ?_)
        refine p_go ?_
        refine p_cellNil (g1 := 0 + 1) (d1 := 4) (i := 2) (el := 25) (h := ?_)
        refine p_cellNil (g1 := 0 + 1) (d1 := 4) (i := 5) (el := 3) (h := ?_)
        refine p_cellNil (g1 := 0 + 1) (d1 := 4) (i := 6) (el := 39) (h := ?_)
        refine p_r2 (hp := by rw [m_3 hc18 hc30 (.inl (by have := hb40; simp at this; rw [hnd]; exact this))]; rfl)
      · -- slot 40 is false
        refine p_go fun hf => ?_
        refine p_mul (hr := rfl) (hb := by omega) (h := ?_)
        refine p_go ?_
        refine p_splitC (s := 47) (ht := fun hc47 => ?_) (hf := fun hc47 => ?_)
        · refine p_go fun hf => ?_
          refine p_build (hi := F.ti29.h) (hpl := F.pl29.h) (h := ?_)
          refine p_go ?_
          refine p_cellNil (g1 := 0 + 1) (d1 := 4) (i := 2) (el := 25) (h := ?_)
          refine p_cellNil (g1 := 0 + 1) (d1 := 4) (i := 5) (el := 3) (h := ?_)
          refine p_cellNil (g1 := 0 + 1) (d1 := 4) (i := 6) (el := 39) (h := ?_)
          refine p_r2 (hp := by rw [m_3 hc18 hc30 (.inr (by have := hc47; simp at this; rw [hnd]; exact this))]; rfl)
        · have hsm : ¬ (4096 < a.states * d.n ∨ 65536 < (a.trs.length : Int) * d.n) := by have h1 := hb40; have h2 := hc47; simp at h1 h2; rw [hnd]; omega
          refine p_go fun hf => ?_
          refine p_mul (hr := rfl) (hb := by omega) (h := ?_)
          refine p_go fun hf => ?_
          refine p_build (hi := F.ti29.h) (hpl := F.pl29.h) (h := ?_)
          refine p_go ?_
          refine p_nilCell (g1 := 0 + 1 + 1 + 1 + 1 + 1 + 1 + 1) (d1 := 8) (i := 6) (el := 39) 108 (h := ?_)
          refine p_nilCell (g1 := 0 + 1 + 1 + 1 + 1 + 1 + 1 + 1) (d1 := 8) (i := 5) (el := 3) 143 (h := ?_)
          refine p_loopK [2, 3, 4, 7, 8] [(0 + 1, 2), (0 + 1, 3), (0 + 1, 4), (0 + 1 + 1 + 1 + 1 + 1 + 1 + 1 + 1, 143)] (fun st => ∃ (i q m : Nat) (L : List V), (i ≤ a.trs.length) ∧ (L = (prodL d (a.trs.take i)).map trV) ∧ (L.length = m) ∧ st.env 9 = iV i ∧ st.obj (0 + 1 + 1 + 1 + 1 + 1 + 1 + 1) 8 = .cells 29 [iV a.sp.tag, iV a.sp.dim, .sl 25 (a.sp.parts.map spV), iV (a.states * d.next.length), iV a.symbols, .row (0 + 1 + 1 + 1 + 1 + 1 + 1 + 1 + 1) 143 0, .row q 108 m] ∧ st.obj q 108 = .row 39 L) (fun st => a.trs.length - (st.env 9).toN) ?_ fun e ob g1 hK hO hI => ?_
          · exact ⟨0, _, 0, [], by omega, rfl, rfl, eV_, oB_, oB_⟩
          · obtain ⟨i, q, m, L, hi, hL, hm, e9, o8, o108⟩ := hI
            dsimp only at e9 o8 o108
            simp only [valsE, List.cons.injEq, and_true] at hK
            simp only [valsO, List.cons.injEq, and_true] at hO
            have hE := (⟨hK, hO, e9, o8, o108⟩ : _ ∧ _ ∧ _ ∧ _ ∧ _)
            refine p_go ?_
            refine p_splitC (s := 62) (ht := fun hc62 => ?_) (hf := fun hc62 => ?_)
            · have hlt : i < a.trs.length := by have := hc62; simpa using this
              have hm1 := List.getElem_mem hlt
              obtain ⟨hf1, hf2, hf3⟩ := hok.trs _ hm1
              have hb3 := mul_bd hf1.1 (by omega) (Int.natCast_nonneg d.next.length) (by omega)
              have hb4 := mul_bd hf2.1 (by omega) (Int.natCast_nonneg d.next.length) (by omega)
              have hB := hok.w _ hm1
              have hbl := nat_bd hmany hn1
              have hil := nat_le (n := d.n) hlt
              have hpl := prodL_len d (a.trs.take i)
              rw [List.length_take, Nat.min_eq_left hi] at hpl
              refine p_go fun hf => ?_
              refine p_idxMap (j := i) (ht := Tryz.underlying27) (hi := F.ti39.h) (hij := rfl) (hj := hlt) (h := ?_)
              refine p_go ?_
              refine p_loopK [2, 3, 4, 7, 8, 9, 10] [(0 + 1, 2), (0 + 1, 3), (0 + 1, 4), (g1 + 1 + 1, 10), (0 + 1 + 1 + 1 + 1 + 1 + 1 + 1 + 1, 143)] (fun st => ∃ (k q m : Nat) (L : List V), (k ≤ d.next.length) ∧ (L = (prodL d (a.trs.take i) ++ prodK d a.trs[i] k).map trV) ∧ (L.length = m) ∧ st.env 11 = iV k ∧ st.obj (0 + 1 + 1 + 1 + 1 + 1 + 1 + 1) 8 = .cells 29 [iV a.sp.tag, iV a.sp.dim, .sl 25 (a.sp.parts.map spV), iV (a.states * d.next.length), iV a.symbols, .row (0 + 1 + 1 + 1 + 1 + 1 + 1 + 1 + 1) 143 0, .row q 108 m] ∧ st.obj q 108 = .row 39 L) (fun st => d.next.length - (st.env 11).toN) ?_ fun e ob g2 hK hO hI => ?_
              · exact ⟨0, _, m, L, by omega, by rw [prodK_0, List.append_nil, hL], hm, eV_, oB_, oB_⟩
              · obtain ⟨k, q, m, L, hk, hL, hm, e11, o8, o108⟩ := hI
                dsimp only at e11 o8 o108
                simp only [valsE, List.cons.injEq, and_true] at hK
                simp only [valsO, List.cons.injEq, and_true] at hO
                have hE := (⟨hK, hO, e11, o8, o108⟩ : _ ∧ _ ∧ _ ∧ _ ∧ _)
                refine p_go ?_
                refine p_splitC (s := 72) (ht := fun hc72 => ?_) (hf := fun hc72 => ?_)
                · have hkn : k < d.next.length := by have := hc72; simpa using this
                  have hLl : L.length = i * d.n + k := by rw [hL, List.length_map, List.length_append, hpl, prodK_len]
                  refine p_go ?_
                  refine p_splitC (s := 78) (ht := fun hc78 => ?_) (hf := fun hc78 => ?_)
                  · have hs : 0 ≤ a.trs[i].sym := by simpa using hc78
                    obtain ⟨hx2, hx3⟩ := Dfa.nx_is hdo hkn ⟨hs, by omega⟩
                    have hto : dTo d a.trs[i] k = d.next[k][a.trs[i].sym.toNat] := by rw [dTo, if_pos hs, hx3]
                    have hnx := hdo.nx_lt (i := k) (k := a.trs[i].sym.toNat) hkn (by omega)
                    refine p_go fun hf => ?_
                    refine p_idxMap (j := k) (ht := Tryz.underlying57) (hi := F.ti26.h) (hij := rfl) (hj := hkn) (h := ?_)
                    refine p_go fun hf => ?_
                    refine p_idxMap (j := a.trs[i].sym.toNat) (ht := Tryz.underlying26) (hi := F.ti3.h) (hij := by omega) (hj := hx2) (h := ?_)
                    refine p_go fun hf => ?_
                    refine p_mul (hr := rfl) (hb := by omega) (h := ?_)
                    refine p_go fun hf => ?_
                    refine p_add (r := a.trs[i].frm * d.next.length + k) (hr := (by first | omega | (simp only [decide_eq_true_eq, decide_eq_false_iff_not, Bool.or_eq_false_iff, Bool.and_eq_true, Bool.not_eq_true', Bool.not_eq_false'] at *; omega))) (hb := (by first | omega | (simp only [decide_eq_true_eq, decide_eq_false_iff_not, Bool.or_eq_false_iff, Bool.and_eq_true, Bool.not_eq_true', Bool.not_eq_false'] at *; omega))) (h := ?_)
                    refine p_go fun hf => ?_
                    refine p_mul (hr := rfl) (hb := by omega) (h := ?_)
                    refine p_go fun hf => ?_
                    refine p_add (r := a.trs[i].to * d.next.length + dTo d a.trs[i] k) (hr := (by first | omega | (simp only [decide_eq_true_eq, decide_eq_false_iff_not, Bool.or_eq_false_iff, Bool.and_eq_true, Bool.not_eq_true', Bool.not_eq_false'] at *; omega))) (hb := (by first | omega | (simp only [decide_eq_true_eq, decide_eq_false_iff_not, Bool.or_eq_false_iff, Bool.and_eq_true, Bool.not_eq_true', Bool.not_eq_false'] at *; omega))) (h := ?_)
                    refine p_go fun hf => ?_
                    refine p_build (hi := F.ti39.h) (hpl := F.pl39.h) (h := ?_)
                    refine p_buildSlice (ht := Tryz.underlying27) (hi := F.ti39.h) (h := ?_)
                    refine p_append (k := m + 1) (ht := Tryz.underlying27) (hi := F.ti39.h) (hnl := by exact hm.symm) (hy := by exact ⟨.inl oB_, rfl⟩) (hm := by simp [hm]) (hlim := by omega) (h := ?_)
                    refine p_go fun hf => ?_
                    refine p_add (r := ((k + 1 : Nat) : Int)) (hr := (by first | omega | (simp only [decide_eq_true_eq, decide_eq_false_iff_not, Bool.or_eq_false_iff, Bool.and_eq_true, Bool.not_eq_true', Bool.not_eq_false'] at *; omega))) (hb := (by first | omega | (simp only [decide_eq_true_eq, decide_eq_false_iff_not, Bool.or_eq_false_iff, Bool.and_eq_true, Bool.not_eq_true', Bool.not_eq_false'] at *; omega))) (h := ?_)
                    refine p_go ?_
                    refine p_some ?_
                    refine ⟨⟨(by simp (decide := true) only [valsE, evE, upd, cv, args0, argsFrom, List.length_map, ↓reduceIte, hE] <;> rfl), (by simp (decide := true) only [valsO, updO, upd, true_and, and_true, false_and, and_false, ↓reduceIte, hE] <;> rfl)⟩, ⟨k + 1, _, m + 1, L ++ [trV (mkT d.n a.trs[i] k (dTo d a.trs[i] k))], hkn, by simp [hL, prodK_s], by simp [hm], eV_, oB_, oB_⟩, ?_⟩
                    simp (decide := true) only [upd, e11, V.toN, ↓reduceIte]; omega
                  · have hs : ¬ 0 ≤ a.trs[i].sym := by simpa using hc78
                    have hto : dTo d a.trs[i] k = k := by rw [dTo, if_neg hs]
                    refine p_go fun hf => ?_
                    refine p_mul (hr := rfl) (hb := by omega) (h := ?_)
                    refine p_go fun hf => ?_
                    refine p_add (r := a.trs[i].frm * d.next.length + k) (hr := (by first | omega | (simp only [decide_eq_true_eq, decide_eq_false_iff_not, Bool.or_eq_false_iff, Bool.and_eq_true, Bool.not_eq_true', Bool.not_eq_false'] at *; omega))) (hb := (by first | omega | (simp only [decide_eq_true_eq, decide_eq_false_iff_not, Bool.or_eq_false_iff, Bool.and_eq_true, Bool.not_eq_true', Bool.not_eq_false'] at *; omega))) (h := ?_)
                    refine p_go fun hf => ?_
                    refine p_mul (hr := rfl) (hb := by omega) (h := ?_)
                    refine p_go fun hf => ?_
                    refine p_add (r := a.trs[i].to * d.next.length + dTo d a.trs[i] k) (hr := (by first | omega | (simp only [decide_eq_true_eq, decide_eq_false_iff_not, Bool.or_eq_false_iff, Bool.and_eq_true, Bool.not_eq_true', Bool.not_eq_false'] at *; omega))) (hb := (by first | omega | (simp only [decide_eq_true_eq, decide_eq_false_iff_not, Bool.or_eq_false_iff, Bool.and_eq_true, Bool.not_eq_true', Bool.not_eq_false'] at *; omega))) (h := ?_)
                    refine p_go fun hf => ?_
                    refine p_build (hi := F.ti39.h) (hpl := F.pl39.h) (h := ?_)
                    refine p_buildSlice (ht := Tryz.underlying27) (hi := F.ti39.h) (h := ?_)
                    refine p_append (k := m + 1) (ht := Tryz.underlying27) (hi := F.ti39.h) (hnl := by exact hm.symm) (hy := by exact ⟨.inl oB_, rfl⟩) (hm := by simp [hm]) (hlim := by omega) (h := ?_)
                    refine p_go fun hf => ?_
                    refine p_add (r := ((k + 1 : Nat) : Int)) (hr := (by first | omega | (simp only [decide_eq_true_eq, decide_eq_false_iff_not, Bool.or_eq_false_iff, Bool.and_eq_true, Bool.not_eq_true', Bool.not_eq_false'] at *; omega))) (hb := (by first | omega | (simp only [decide_eq_true_eq, decide_eq_false_iff_not, Bool.or_eq_false_iff, Bool.and_eq_true, Bool.not_eq_true', Bool.not_eq_false'] at *; omega))) (h := ?_)
                    refine p_go ?_
                    refine p_some ?_
                    refine ⟨⟨(by simp (decide := true) only [valsE, evE, upd, cv, args0, argsFrom, List.length_map, ↓reduceIte, hE] <;> rfl), (by simp (decide := true) only [valsO, updO, upd, true_and, and_true, false_and, and_false, ↓reduceIte, hE] <;> rfl)⟩, ⟨k + 1, _, m + 1, L ++ [trV (mkT d.n a.trs[i] k (dTo d a.trs[i] k))], hkn, by simp [hL, prodK_s], by simp [hm], eV_, oB_, oB_⟩, ?_⟩
                    simp (decide := true) only [upd, e11, V.toN, ↓reduceIte]; omega
                · have hkd : d.next.length = k := by have := hc72; simp at this; omega
                  refine p_go fun hf => ?_
                  refine p_add (r := ((i + 1 : Nat) : Int)) (hr := (by first | omega | (simp only [decide_eq_true_eq, decide_eq_false_iff_not, Bool.or_eq_false_iff, Bool.and_eq_true, Bool.not_eq_true', Bool.not_eq_false'] at *; omega))) (hb := (by first | omega | (simp only [decide_eq_true_eq, decide_eq_false_iff_not, Bool.or_eq_false_iff, Bool.and_eq_true, Bool.not_eq_true', Bool.not_eq_false'] at *; omega))) (h := ?_)
                  refine p_go ?_
                  refine p_some ?_
                  refine ⟨⟨(by simp (decide := true) only [valsE, evE, upd, cv, args0, argsFrom, List.length_map, ↓reduceIte, hE] <;> rfl), (by simp (decide := true) only [valsO, updO, upd, true_and, and_true, false_and, and_false, ↓reduceIte, hE] <;> rfl)⟩, ⟨i + 1, q, m, L, hlt, by rw [hL, prodL_s d hlt, show d.n = k from hkd], hm, eV_, oB_, oB_⟩, ?_⟩
                  simp (decide := true) only [upd, e9, V.toN, ↓reduceIte]; omega
            · have hge : a.trs.length ≤ i := by simpa using hc62
              obtain rfl : i = a.trs.length := by omega
              rw [List.take_length] at hL
              subst hL
              subst hm
              refine p_freeze (g1 := q) (d1 := 108) (h := ?_)
              refine p_cellSl (g1 := 0 + 1 + 1 + 1 + 1 + 1 + 1 + 1) (d1 := 8) (i := 6) (cs' := [iV a.sp.tag, iV a.sp.dim, .sl 25 (a.sp.parts.map spV), iV (a.states * d.next.length), iV a.symbols, .row (0 + 1 + 1 + 1 + 1 + 1 + 1 + 1 + 1) 143 0, .sl 39 ((prodL d a.trs).map trV)]) (hn := rfl) (h := ?_)
              refine p_go fun hf => ?_
              refine p_call (hx := rfl) (hb := ⟨Tryz.func56, by kernel_rfl, rfl⟩) (hf := raccepting d hd) (h := ?_)
              refine p_go ?_
              refine p_splitC (s := 112) (ht := fun hc112 => ?_) (hf := fun hc112 => ?_)
              · have hno := Dfa.cnt_0 (d := d) (by have := hc112; simp at this; omega)
                refine p_freeze (g1 := 0 + 1 + 1 + 1 + 1 + 1 + 1 + 1 + 1) (d1 := 143) (h := ?_)
                refine p_cellSl (g1 := 0 + 1 + 1 + 1 + 1 + 1 + 1 + 1) (d1 := 8) (i := 5) (hn := by simp) (h := ?_)
                refine p_go ?_
                refine p_r2 (hp := by rw [m_0 hc18 hc30 hsm, prod, no_prodF hno]; rfl)
              · refine p_go ?_
                skip
                refine p_loopK [2, 3, 4, 7, 8] [(0 + 1, 2), (0 + 1, 3), (0 + 1, 4)] (fun st => ∃ (i q m : Nat) (L : List V), (i ≤ a.fin.length) ∧ (L = (prodF d (a.fin.take i)).map iV) ∧ (L.length = m) ∧ st.env 13 = iV i ∧ st.obj (0 + 1 + 1 + 1 + 1 + 1 + 1 + 1) 8 = .cells 29 [iV a.sp.tag, iV a.sp.dim, .sl 25 (a.sp.parts.map spV), iV (a.states * d.next.length), iV a.symbols, .row q 143 m, .sl 39 ((prodL d a.trs).map trV)] ∧ st.obj q 143 = .row 3 L) (fun st => a.fin.length - (st.env 13).toN) ?_ fun e ob g3 hK hO hI => ?_
                · exact ⟨0, _, 0, [], by omega, rfl, rfl, eV_, oB_, oB_⟩
                · obtain ⟨i, q, m, L, hi, hL, hm, e13, o8, o143⟩ := hI
                  dsimp only at e13 o8 o143
                  simp only [valsE, List.cons.injEq, and_true] at hK
                  simp only [valsO, List.cons.injEq, and_true] at hO
                  have hE := (⟨hK, hO, e13, o8, o143⟩ : _ ∧ _ ∧ _ ∧ _ ∧ _)
                  refine p_go ?_
                  refine p_splitC (s := 118) (ht := fun hc118 => ?_) (hf := fun hc118 => ?_)
                  · have hlt : i < a.fin.length := by simpa using hc118
                    have hf1 := hok.fin _ (List.getElem_mem hlt)
                    have hb3 := mul_bd hf1.1 (by omega) (Int.natCast_nonneg d.next.length) (by omega)
                    have hbl := nat_bd (x := a.fin.length) (by omega) hn1
                    have hil := nat_le (n := d.n) hlt
                    have hpl := prodF_len d (a.fin.take i)
                    rw [List.length_take, Nat.min_eq_left hi] at hpl
                    refine p_go ?_
                    refine p_loopK [2, 3, 4, 7, 8, 13] [(0 + 1, 2), (0 + 1, 3), (0 + 1, 4)] (fun st => ∃ (k q m : Nat) (L : List V), (k ≤ d.acc.length) ∧ (L = (prodF d (a.fin.take i) ++ prodFK d a.fin[i] k).map iV) ∧ (L.length = m) ∧ st.env 14 = iV k ∧ st.obj (0 + 1 + 1 + 1 + 1 + 1 + 1 + 1) 8 = .cells 29 [iV a.sp.tag, iV a.sp.dim, .sl 25 (a.sp.parts.map spV), iV (a.states * d.next.length), iV a.symbols, .row q 143 m, .sl 39 ((prodL d a.trs).map trV)] ∧ st.obj q 143 = .row 3 L) (fun st => d.acc.length - (st.env 14).toN) ?_ fun e ob g4 hK hO hI => ?_
                    · exact ⟨0, _, m, L, by omega, by rw [prodFK_0, List.append_nil, hL], hm, eV_, oB_, oB_⟩
                    · obtain ⟨k, q, m, L, hk, hL, hm, e14, o8, o143⟩ := hI
                      dsimp only at e14 o8 o143
                      simp only [valsE, List.cons.injEq, and_true] at hK
                      simp only [valsO, List.cons.injEq, and_true] at hO
                      have hE := (⟨hK, hO, e14, o8, o143⟩ : _ ∧ _ ∧ _ ∧ _ ∧ _)
                      refine p_go ?_
                      refine p_splitC (s := 123) (ht := fun hc123 => ?_) (hf := fun hc123 => ?_)
                      · have hka : k < d.acc.length := by have := hc123; simp at this; omega
                        have hac : d.acc[k] = d.ac k := by simp [Dfa.ac, List.getD, List.getElem?_eq_getElem hka]
                        have hLl : L.length ≤ i * d.n + k := by rw [hL, List.length_map, List.length_append]; have := prodFK_len d a.fin[i] k; omega
                        refine p_go fun hf => ?_
                        refine p_idxMap (j := k) (ht := Tryz.underlying58) (hi := F.ti4.h) (hij := rfl) (hj := hka) (h := ?_)
                        refine p_go ?_
                        refine p_splitC (s := 130) (ht := fun hc130 => ?_) (hf := fun hc130 => ?_)
                        · have hak : d.ac k = true := by rw [← hac]; simpa using hc130
                          refine p_go fun hf => ?_
                          refine p_idxMap (j := i) (ht := Tryz.underlying26) (hi := F.ti3.h) (hij := rfl) (hj := hlt) (h := ?_)
                          refine p_go fun hf => ?_
                          refine p_mul (hr := rfl) (hb := by omega) (h := ?_)
                          refine p_go fun hf => ?_
                          refine p_add (r := a.fin[i] * d.next.length + k) (hr := (by first | omega | (simp only [decide_eq_true_eq, decide_eq_false_iff_not, Bool.or_eq_false_iff, Bool.and_eq_true, Bool.not_eq_true', Bool.not_eq_false'] at *; omega))) (hb := (by first | omega | (simp only [decide_eq_true_eq, decide_eq_false_iff_not, Bool.or_eq_false_iff, Bool.and_eq_true, Bool.not_eq_true', Bool.not_eq_false'] at *; omega))) (h := ?_)
                          refine p_buildSlice (ht := Tryz.underlying26) (hi := F.ti3.h) (h := ?_)
                          refine p_append (k := m + 1) (ht := Tryz.underlying26) (hi := F.ti3.h) (hnl := by exact hm.symm) (hy := by exact ⟨.inl oB_, rfl⟩) (hm := by simp [hm]) (hlim := by omega) (h := ?_)
                          refine p_go fun hf => ?_
                          refine p_add (r := ((k + 1 : Nat) : Int)) (hr := (by first | omega | (simp only [decide_eq_true_eq, decide_eq_false_iff_not, Bool.or_eq_false_iff, Bool.and_eq_true, Bool.not_eq_true', Bool.not_eq_false'] at *; omega))) (hb := (by first | omega | (simp only [decide_eq_true_eq, decide_eq_false_iff_not, Bool.or_eq_false_iff, Bool.and_eq_true, Bool.not_eq_true', Bool.not_eq_false'] at *; omega))) (h := ?_)
                          refine p_go ?_
                          refine p_some ?_
                          refine ⟨⟨(by simp (decide := true) only [valsE, evE, upd, cv, args0, argsFrom, List.length_map, ↓reduceIte, hE] <;> rfl), (by simp (decide := true) only [valsO, updO, upd, true_and, and_true, false_and, and_false, ↓reduceIte, hE] <;> rfl)⟩, ⟨k + 1, _, m + 1, L ++ [iV (a.fin[i] * d.next.length + k)], hka, by rw [prodFK_t _ _ _ hak, hL]; simp [hnd], by simp [hm], eV_, oB_, oB_⟩, ?_⟩
                          simp (decide := true) only [upd, e14, V.toN, ↓reduceIte]; omega
                        · have hak : d.ac k = false := by rw [← hac]; simpa using hc130
                          refine p_go fun hf => ?_
                          refine p_add (r := ((k + 1 : Nat) : Int)) (hr := (by first | omega | (simp only [decide_eq_true_eq, decide_eq_false_iff_not, Bool.or_eq_false_iff, Bool.and_eq_true, Bool.not_eq_true', Bool.not_eq_false'] at *; omega))) (hb := (by first | omega | (simp only [decide_eq_true_eq, decide_eq_false_iff_not, Bool.or_eq_false_iff, Bool.and_eq_true, Bool.not_eq_true', Bool.not_eq_false'] at *; omega))) (h := ?_)
                          refine p_go ?_
                          refine p_some ?_
                          refine ⟨⟨(by simp (decide := true) only [valsE, evE, upd, cv, args0, argsFrom, List.length_map, ↓reduceIte, hE] <;> rfl), (by simp (decide := true) only [valsO, updO, upd, true_and, and_true, false_and, and_false, ↓reduceIte, hE] <;> rfl)⟩, ⟨k + 1, q, m, L, hka, by rw [prodFK_f _ _ _ hak, hL], hm, eV_, oB_, oB_⟩, ?_⟩
                          simp (decide := true) only [upd, e14, V.toN, ↓reduceIte]; omega
                      · have hkd : d.n = k := by have := hc123; simp at this; omega
                        refine p_go fun hf => ?_
                        refine p_add (r := ((i + 1 : Nat) : Int)) (hr := (by first | omega | (simp only [decide_eq_true_eq, decide_eq_false_iff_not, Bool.or_eq_false_iff, Bool.and_eq_true, Bool.not_eq_true', Bool.not_eq_false'] at *; omega))) (hb := (by first | omega | (simp only [decide_eq_true_eq, decide_eq_false_iff_not, Bool.or_eq_false_iff, Bool.and_eq_true, Bool.not_eq_true', Bool.not_eq_false'] at *; omega))) (h := ?_)
                        refine p_go ?_
                        refine p_some ?_
                        refine ⟨⟨(by simp (decide := true) only [valsE, evE, upd, cv, args0, argsFrom, List.length_map, ↓reduceIte, hE] <;> rfl), (by simp (decide := true) only [valsO, updO, upd, true_and, and_true, false_and, and_false, ↓reduceIte, hE] <;> rfl)⟩, ⟨i + 1, q, m, L, hlt, by rw [hL, prodF_s d hlt, hkd], hm, eV_, oB_, oB_⟩, ?_⟩
                        simp (decide := true) only [upd, e13, V.toN, ↓reduceIte]; omega
                  · have hge : a.fin.length ≤ i := by simpa using hc118
                    subst hL
                    subst hm
                    refine p_freeze (g1 := q) (d1 := 143) (h := ?_)
                    refine p_cellSl (g1 := 0 + 1 + 1 + 1 + 1 + 1 + 1 + 1) (d1 := 8) (i := 5) (hn := rfl) (h := ?_)
                    refine p_go ?_
                    obtain rfl : i = a.fin.length := by omega
                    refine p_r2 (hp := by rw [m_0 hc18 hc30 hsm, List.take_length]; rfl)

end Go.Proofs.YtfpljljjjgicaaaGreatDoor
/-
  What a word is worth in the automaton of both: what it is worth without, if the deterministic one accepts it; else nothing.
-/
set_option maxHeartbeats 4000000
set_option linter.unusedSimpArgs false
set_option linter.unusedVariables false
namespace Go.Proofs.YtfpljljjjgicaaaGreatDoor
theorem then_zero {s : Sp} (a : Wt) (hs : spOk s = true) (ha : isB s a = true) : thenW s a (zeroW s) = zeroW s ∧ thenW s (zeroW s) a = zeroW s := by
  have e1 : ∀ (p : Sp) (x : Wt), thenL p x wtZ = wtZ := fun p x => if_pos (by rw [show wtZ.zero = true from rfl, Bool.or_true])
  have e2 : ∀ (p : Sp) (x : Wt), thenL p wtZ x = wtZ := fun p x => if_pos (by rw [show wtZ.zero = true from rfl, Bool.true_or])
  rcases spOk_cases hs with ⟨hl, h5⟩ | ⟨p, q, rfl, hp, hq⟩
  · rw [thenW, if_neg h5, thenW, if_neg h5, zeroW, if_neg h5]; exact ⟨e1 _ _, e2 _ _⟩
  · obtain ⟨a0, a1, rfl, h1, h2⟩ := isB_pair ha
    constructor
    · show wtP (thenL p a0 wtZ) (thenL q a1 wtZ) = wtP wtZ wtZ
      rw [e1, e1]
    · show wtP (thenL p wtZ a0) (thenL q wtZ a1) = wtP wtZ wtZ
      rw [e2, e2]
theorem Ext_zero {s : Sp} {back : Bool} (w : Wt) (hs : spOk s = true) (hw : isB s w = true) : Ext s back w (zeroW s) = zeroW s := by
  unfold Ext; split
  · exact (then_zero w hs hw).2
  · exact (then_zero w hs hw).1
/-- What the values behind a symbol are: the least above each transition's. -/
theorem foldR_has {a : Aut} {back : Bool} {sym : Int} {l : List Wt} (ha : a.Ok) (hl : Vals a l) : ∀ (ts : List Trn) (o : List Wt), (∀ t ∈ ts, t ∈ a.trs) → Vals a o → ∀ t ∈ ts, t.sym = sym → leW a.sp (Ext a.sp back t.w (l.getD t.to.toNat wt0)) ((ts.foldl (stepR a back sym l) o).getD t.frm.toNat wt0)
  | [], _, _, _, t, ht => by cases ht
  | u :: ts, o, hts, ho, t, ht => fun e => by
    have hu := hts u (List.mem_cons_self ..)
    have hts' : ∀ y ∈ ts, y ∈ a.trs := fun y hy => hts y (List.mem_cons_of_mem _ hy)
    have h1 := stepR_vals (back := back) (sym := sym) ha hl ho hu
    rw [List.foldl_cons]
    rcases List.mem_cons.1 ht with rfl | ht
    · obtain ⟨k1, k2, _⟩ := ha.trs t hu
      have n1 := ho.len
      have n2 := hl.len
      have i1 : t.frm.toNat < o.length := by omega
      have i2 : t.to.toNat < l.length := by omega
      have e1 := Ext_ok (back := back) ha.sp (ha.w t hu) (hl.at_ i2)
      have h2 := (foldR_up (back := back) (sym := sym) ha hl ts _ hts' h1).at_ t.frm.toNat (by rw [h1.len]; omega)
      have h3 := restW_fold (back := back) (sym := sym) ha hl ts _ hts' h1
      have h4 : (stepR a back sym l o t).getD t.frm.toNat wt0 = eitherW a.sp (o.getD t.frm.toNat wt0) (Ext a.sp back t.w (l.getD t.to.toNat wt0)) := by
        rw [stepR, if_pos e, getD_setW _ _ _ _ i1, if_pos rfl]
      rw [h4] at h2
      exact leW_trans ha.sp e1 (eitherW_ok ha.sp (ho.at_ i1) e1) (h3.at_ (by rw [h3.len]; omega)) (leW_right ha.sp (ho.at_ i1) e1) h2
    · exact foldR_has ha hl ts _ hts' h1 t ht e
theorem foldR_least {a : Aut} {back : Bool} {sym : Int} {l m : List Wt} (ha : a.Ok) (hl : Vals a l) (hm : Vals a m) (hc : ∀ t ∈ a.trs, t.sym = sym → leW a.sp (Ext a.sp back t.w (l.getD t.to.toNat wt0)) (m.getD t.frm.toNat wt0)) : ∀ (ts : List Trn) (o : List Wt), (∀ t ∈ ts, t ∈ a.trs) → Vals a o → leV a.sp o m → leV a.sp (ts.foldl (stepR a back sym l) o) m
  | [], _, _, _, h => h
  | t :: ts, o, hts, ho, h => by
    have ht := hts t (List.mem_cons_self ..)
    have hts' : ∀ y ∈ ts, y ∈ a.trs := fun y hy => hts y (List.mem_cons_of_mem _ hy)
    refine foldR_least ha hl hm hc ts _ hts' (stepR_vals ha hl ho ht) ?_
    unfold stepR
    split
    · rename_i e
      obtain ⟨k1, k2, _⟩ := ha.trs t ht
      have n1 := ho.len
      have n2 := hl.len
      have i1 : t.frm.toNat < o.length := by omega
      have i2 : t.to.toNat < l.length := by omega
      have i3 : t.frm.toNat < m.length := h.len ▸ i1
      exact leV_set h i1 (leW_lub ha.sp (ho.at_ i1) (Ext_ok ha.sp (ha.w t ht) (hl.at_ i2)) (hm.at_ i3) (h.at_ _ i1) (hc t ht e))
    · exact h
theorem zeros_le {a : Aut} {m : List Wt} (ha : a.Ok) (hm : Vals a m) : leV a.sp (List.replicate a.states.toNat (zeroW a.sp)) m :=
  ⟨by rw [List.length_replicate, hm.len], fun i hi => by
    have hi' := hi
    rw [List.length_replicate] at hi'
    rw [getD_at hi, List.getElem_replicate]
    exact leW_zero ha.sp (hm.at_ (by rw [hm.len]; exact hi'))⟩
theorem restW_has {a : Aut} {back : Bool} {sym : Int} {l : List Wt} (ha : a.Ok) (hl : Vals a l) : ∀ t ∈ a.trs, t.sym = sym → leW a.sp (Ext a.sp back t.w (l.getD t.to.toNat wt0)) ((restW a back sym l).getD t.frm.toNat wt0) :=
  foldR_has ha hl a.trs _ (fun _ h => h) (zeros_vals ha)
theorem restW_least {a : Aut} {back : Bool} {sym : Int} {l m : List Wt} (ha : a.Ok) (hl : Vals a l) (hm : Vals a m) (hc : ∀ t ∈ a.trs, t.sym = sym → leW a.sp (Ext a.sp back t.w (l.getD t.to.toNat wt0)) (m.getD t.frm.toNat wt0)) : leV a.sp (restW a back sym l) m :=
  foldR_least ha hl hm hc a.trs _ (fun _ h => h) (zeros_vals ha) (zeros_le ha hm)

/-- Values of the automaton of both: those of the first, at the states of the second that are chosen. -/
def liftV (a : Aut) (n : Nat) (f : Nat → Bool) (l : List Wt) : List Wt := (List.range (a.states.toNat * n)).map fun j => if f (j % n) then l.getD (j / n) wt0 else zeroW a.sp
theorem lift_len (a : Aut) (n : Nat) (f : Nat → Bool) (l : List Wt) : (liftV a n f l).length = a.states.toNat * n := by simp [liftV]
theorem lift_get {a : Aut} {n : Nat} {f : Nat → Bool} {l : List Wt} {j : Nat} (h : j < a.states.toNat * n) : (liftV a n f l).getD j wt0 = if f (j % n) then l.getD (j / n) wt0 else zeroW a.sp := by
  rw [getD_at (by rw [lift_len]; exact h)]; simp [liftV]
theorem place_lt {s n S k : Nat} (hs : s < S) (hk : k < n) : s * n + k < S * n := by
  have := Nat.mul_le_mul_right n hs
  rw [Nat.succ_mul] at this; omega
theorem place_div {s n k : Nat} (hk : k < n) : (s * n + k) / n = s := by
  rw [Nat.mul_comm, Nat.mul_add_div (by omega), Nat.div_eq_of_lt hk, Nat.add_zero]
theorem place_mod {s n k : Nat} (hk : k < n) : (s * n + k) % n = k := by
  rw [Nat.mul_comm, Nat.mul_add_mod, Nat.mod_eq_of_lt hk]
theorem lift_at {a : Aut} {n : Nat} {f : Nat → Bool} {l : List Wt} {s k : Nat} (hs : s < a.states.toNat) (hk : k < n) : (liftV a n f l).getD (s * n + k) wt0 = if f k then l.getD s wt0 else zeroW a.sp := by
  rw [lift_get (place_lt hs hk), place_div hk, place_mod hk]
/-- All that hangs together: both automata, and that their product is small. -/
structure Both (a : Aut) (d : Dfa) : Prop where
  ok : a.Ok
  dok : d.Ok
  sym : d.sym = a.symbols
  st : a.states * d.n ≤ 4096
  tr : (a.trs.length : Int) * d.n ≤ 65536
theorem int_place {x n : Int} {k : Int} (hx : 0 ≤ x) (hn : 0 ≤ n) (hk : 0 ≤ k) : (x * n + k).toNat = x.toNat * n.toNat + k.toNat := by
  have h1 : 0 ≤ x * n := Int.mul_nonneg hx hn
  rw [Int.toNat_add h1 hk, Int.toNat_mul hx hn]
theorem Both.states {a : Aut} {d : Dfa} (h : Both a d) : (prod a d).states.toNat = a.states.toNat * d.n := by
  show (a.states * d.n).toNat = _
  rw [Int.toNat_mul h.ok.st.1 (Int.natCast_nonneg _), Int.toNat_natCast]
theorem Both.vals {a : Aut} {d : Dfa} (h : Both a d) {l : List Wt} : Vals (prod a d) l ↔ l.length = a.states.toNat * d.n ∧ ∀ w ∈ l, isB a.sp w = true :=
  ⟨fun k => ⟨by rw [k.len, h.states], k.ok⟩, fun k => ⟨by rw [k.1, h.states], k.2⟩⟩
theorem mem_prodL {d : Dfa} {l : List Trn} {u : Trn} : u ∈ prodL d l ↔ ∃ t ∈ l, ∃ k, k < d.n ∧ u = mkT d.n t k (dTo d t k) := by
  simp only [prodL, List.mem_flatMap, prodK, List.mem_map, List.mem_range]
  constructor
  · rintro ⟨t, ht, k, hk, rfl⟩; exact ⟨t, ht, k, hk, rfl⟩
  · rintro ⟨t, ht, k, hk, rfl⟩; exact ⟨t, ht, k, hk, rfl⟩
/-- Where a transition of the product goes. -/
def toN (d : Dfa) (t : Trn) (k : Nat) : Nat := if 0 ≤ t.sym then d.nx k t.sym.toNat else k
theorem dTo_is (d : Dfa) (t : Trn) (k : Nat) : dTo d t k = (toN d t k : Int) := by unfold dTo toN; split <;> rfl
theorem Both.toN_lt {a : Aut} {d : Dfa} (h : Both a d) {t : Trn} (ht : t ∈ a.trs) {k : Nat} (hk : k < d.n) : toN d t k < d.n := by
  unfold toN; split
  · have := (h.ok.trs t ht).2.2.2
    have := h.sym
    exact h.dok.nx_lt hk (by omega)
  · exact hk
theorem Both.place {a : Aut} {d : Dfa} (h : Both a d) {t : Trn} (ht : t ∈ a.trs) {k : Nat} (hk : k < d.n) : (mkT d.n t k (dTo d t k)).frm.toNat = t.frm.toNat * d.n + k ∧ (mkT d.n t k (dTo d t k)).to.toNat = t.to.toNat * d.n + toN d t k := by
  obtain ⟨h1, h2, _⟩ := h.ok.trs t ht
  rw [dTo_is]
  exact ⟨by rw [mkT, int_place h1.1 (Int.natCast_nonneg _) (Int.natCast_nonneg _)]; rfl, by rw [mkT, int_place h2.1 (Int.natCast_nonneg _) (Int.natCast_nonneg _)]; rfl⟩
theorem Both.bnd {a : Aut} {d : Dfa} (h : Both a d) {x k : Int} (hx : 0 ≤ x ∧ x < a.states) (hk : 0 ≤ k ∧ k < d.n) : 0 ≤ x * d.n + k ∧ x * d.n + k < a.states * d.n := by
  have h1 : 0 ≤ x * d.n := Int.mul_nonneg hx.1 (Int.natCast_nonneg _)
  have h2 : (x + 1) * d.n ≤ a.states * d.n := Int.mul_le_mul_of_nonneg_right (by omega) (Int.natCast_nonneg _)
  rw [Int.add_mul, Int.one_mul] at h2
  omega
theorem mem_prodF {d : Dfa} {l : List Int} {x : Int} : x ∈ prodF d l ↔ ∃ s ∈ l, ∃ k, k < d.n ∧ d.ac k = true ∧ x = s * d.n + k := by
  simp only [prodF, List.mem_flatMap, prodFK, List.mem_map, List.mem_filter, List.mem_range]
  constructor
  · rintro ⟨s, hs, k, ⟨hk, ha⟩, rfl⟩; exact ⟨s, hs, k, hk, ha, rfl⟩
  · rintro ⟨s, hs, k, hk, ha, rfl⟩; exact ⟨s, hs, k, ⟨hk, ha⟩, rfl⟩
theorem Both.prodOk {a : Aut} {d : Dfa} (h : Both a d) : (prod a d).Ok where
  sp := h.ok.sp
  many := by have := h.tr; show (prodL d a.trs).length ≤ _; rw [prodL_len]; rw [← Int.natCast_mul] at this; omega
  st := ⟨Int.mul_nonneg h.ok.st.1 (Int.natCast_nonneg _), h.st⟩
  sy := h.ok.sy
  fin := fun x hx => by
    obtain ⟨s, hs, k, hk, _, rfl⟩ := mem_prodF.1 hx
    exact h.bnd (h.ok.fin s hs) ⟨Int.natCast_nonneg _, by omega⟩
  trs := fun u hu => by
    obtain ⟨t, ht, k, hk, rfl⟩ := mem_prodL.1 hu
    obtain ⟨h1, h2, h3⟩ := h.ok.trs t ht
    have h4 := h.toN_lt ht hk
    refine ⟨h.bnd h1 ⟨Int.natCast_nonneg _, by omega⟩, ?_, h3⟩
    rw [dTo_is]; exact h.bnd h2 ⟨Int.natCast_nonneg _, by omega⟩
  w := fun u hu => by
    obtain ⟨t, ht, k, hk, rfl⟩ := mem_prodL.1 hu
    exact h.ok.w t ht
theorem Both.lift_vals {a : Aut} {d : Dfa} (h : Both a d) {f : Nat → Bool} {l : List Wt} (hl : Vals a l) : Vals (prod a d) (liftV a d.n f l) := h.vals.2 ⟨lift_len .., fun w hw => by
  simp only [liftV, List.mem_map, List.mem_range] at hw
  obtain ⟨j, hj, rfl⟩ := hw
  split
  · refine hl.at_ ?_
    rw [hl.len]; exact Nat.div_lt_of_lt_mul (by rw [Nat.mul_comm]; exact hj)
  · exact zeroW_ok h.ok.sp⟩
/-- To be below, place by place. -/
theorem Both.le {a : Aut} {d : Dfa} (h : Both a d) {l m : List Wt} (hl : Vals (prod a d) l) (hm : Vals (prod a d) m) (hp : ∀ s k, s < a.states.toNat → k < d.n → leW a.sp (l.getD (s * d.n + k) wt0) (m.getD (s * d.n + k) wt0)) : leV (prod a d).sp l m :=
  ⟨by rw [hl.len, hm.len], fun j hj => by
    have hn := h.dok.n0
    rw [hl.len, h.states] at hj
    have h1 : j / d.n < a.states.toNat := Nat.div_lt_of_lt_mul (by rw [Nat.mul_comm]; exact hj)
    have h2 := hp (j / d.n) (j % d.n) h1 (Nat.mod_lt _ (by omega))
    rwa [Nat.div_add_mod'] at h2⟩
theorem Both.lift_le {a : Aut} {d : Dfa} (h : Both a d) {f : Nat → Bool} {l m : List Wt} (hl : Vals a l) (hm : Vals a m) (hlm : leV a.sp l m) : leV (prod a d).sp (liftV a d.n f l) (liftV a d.n f m) :=
  h.le (h.lift_vals hl) (h.lift_vals hm) fun s k hs hk => by
    rw [lift_at hs hk, lift_at hs hk]
    split
    · exact hlm.at_ s (by rw [hl.len]; exact hs)
    · exact leW_refl h.ok.sp (zeroW_ok h.ok.sp)
/-- The values at one state of the deterministic automaton. -/
def sliceV (a : Aut) (n k : Nat) (m : List Wt) : List Wt := (List.range a.states.toNat).map fun s => m.getD (s * n + k) wt0
theorem slice_at {a : Aut} {n k s : Nat} {m : List Wt} (hs : s < a.states.toNat) : (sliceV a n k m).getD s wt0 = m.getD (s * n + k) wt0 := by
  rw [getD_at (by simpa [sliceV] using hs)]; simp [sliceV]
theorem Both.slice_vals {a : Aut} {d : Dfa} (h : Both a d) {k : Nat} (hk : k < d.n) {m : List Wt} (hm : Vals (prod a d) m) : Vals a (sliceV a d.n k m) := ⟨by simp [sliceV], fun w hw => by
  simp only [sliceV, List.mem_map, List.mem_range] at hw
  obtain ⟨s, hs, rfl⟩ := hw
  exact hm.at_ (by rw [hm.len, h.states]; exact place_lt hs hk)⟩
theorem lt_st {a : Aut} (ha : a.Ok) {x : Int} (h : 0 ≤ x ∧ x < a.states) : x.toNat < a.states.toNat := by omega
theorem Both.lift_grow {a : Aut} {d : Dfa} (h : Both a d) {back : Bool} {f : Nat → Bool} {l : List Wt} (hl : Vals a l) : growV (prod a d) back sil (liftV a d.n f l) = liftV a d.n f (growV a back sil l) := by
  have hv := h.lift_vals (f := f) hl
  have hg := (growV_is (back := back) (cnt := sil) h.ok hl).2
  have hG := (growV_is (back := back) (cnt := sil) h.prodOk hv).2
  have hL := h.lift_vals (f := f) hg
  obtain ⟨p1, p2, p3⟩ := growV_props (back := back) (cnt := sil) h.ok hl
  obtain ⟨q1, q2, q3⟩ := growV_props (back := back) (cnt := sil) h.prodOk hv
  have hsil : ∀ (t : Trn) (k : Nat), sil t = true → toN d t k = k := fun t k hs => if_neg (by have : t.sym < 0 := of_decide_eq_true hs; omega)
  refine leV_anti h.prodOk hG hL (q3 _ hL (fun u hu hs => ?_) (h.lift_le hl hg p1)) (h.le hL hG fun s k hs hk => ?_)
  · obtain ⟨t, ht, k, hk, rfl⟩ := mem_prodL.1 hu
    have hs' : sil t = true := hs
    obtain ⟨e1, e2⟩ := h.place ht hk
    obtain ⟨k1, k2, _⟩ := h.ok.trs t ht
    rw [e1, e2, hsil t k hs', lift_at (lt_st h.ok k2) hk, lift_at (lt_st h.ok k1) hk]
    show leW a.sp (Ext a.sp back t.w _) _
    split
    · exact p2 t ht hs'
    · rw [Ext_zero _ h.ok.sp (h.ok.w t ht)]; exact leW_refl h.ok.sp (zeroW_ok h.ok.sp)
  · rw [lift_at hs hk]
    split
    · rename_i hf
      have hS := h.slice_vals hk hG
      have h1 : leV a.sp (growV a back sil l) (sliceV a d.n k (growV (prod a d) back sil (liftV a d.n f l))) := p3 _ hS (fun t ht hs' => by
        obtain ⟨e1, e2⟩ := h.place ht hk
        obtain ⟨k1, k2, _⟩ := h.ok.trs t ht
        rw [slice_at (lt_st h.ok k2), slice_at (lt_st h.ok k1)]
        have := q2 _ (mem_prodL.2 ⟨t, ht, k, hk, rfl⟩) hs'
        rw [e1, e2, hsil t k hs'] at this
        exact this) ⟨by rw [hl.len, hS.len], fun j hj => by
          rw [hl.len] at hj
          have := q1.at_ (j * d.n + k) (by rw [lift_len]; exact place_lt hj hk)
          rw [lift_at hj hk, if_pos hf] at this
          rw [slice_at hj]; exact this⟩
      have h2 := h1.at_ s (by rw [hg.len]; exact hs)
      rwa [slice_at hs] at h2
    · exact leW_zero h.ok.sp (hG.at_ (by rw [hG.len, h.states]; exact place_lt hs hk))
theorem Both.lift_rest {a : Aut} {d : Dfa} (h : Both a d) {back : Bool} {f : Nat → Bool} {l : List Wt} {sym : Int} (hl : Vals a l) (hs0 : 0 ≤ sym ∧ sym < a.symbols) : restW (prod a d) back sym (liftV a d.n f l) = liftV a d.n (fun k => f (d.nx k sym.toNat)) (restW a back sym l) := by
  have hv := h.lift_vals (f := f) hl
  have hr := restW_vals (back := back) (sym := sym) h.ok hl
  have hR := restW_vals (back := back) (sym := sym) h.prodOk hv
  have hL := h.lift_vals (f := fun k => f (d.nx k sym.toNat)) hr
  have hto : ∀ (t : Trn) (k : Nat), t.sym = sym → toN d t k = d.nx k sym.toNat := fun t k e => by rw [toN, if_pos (by omega), e]
  refine leV_anti h.prodOk hR hL (restW_least h.prodOk hv hL fun u hu hs => ?_) (h.le hL hR fun s k hs hk => ?_)
  · obtain ⟨t, ht, k, hk, rfl⟩ := mem_prodL.1 hu
    have hs' : t.sym = sym := hs
    obtain ⟨e1, e2⟩ := h.place ht hk
    obtain ⟨k1, k2, _⟩ := h.ok.trs t ht
    have hk2 := h.toN_lt ht hk
    rw [e1, e2, lift_at (lt_st h.ok k2) hk2, lift_at (lt_st h.ok k1) hk, hto t k hs']
    show leW a.sp (Ext a.sp back t.w _) _
    split
    · rename_i hf
      exact restW_has h.ok hl t ht hs'
    · rw [Ext_zero _ h.ok.sp (h.ok.w t ht)]; exact leW_refl h.ok.sp (zeroW_ok h.ok.sp)
  · rw [lift_at hs hk]
    split
    · rename_i hf
      have hS := h.slice_vals hk hR
      have h1 : leV a.sp (restW a back sym l) (sliceV a d.n k (restW (prod a d) back sym (liftV a d.n f l))) := restW_least h.ok hl hS fun t ht hs' => by
        obtain ⟨e1, e2⟩ := h.place ht hk
        obtain ⟨k1, k2, _⟩ := h.ok.trs t ht
        have hk2 := h.toN_lt ht hk
        rw [slice_at (lt_st h.ok k1)]
        have := restW_has (back := back) (sym := sym) h.prodOk hv _ (mem_prodL.2 ⟨t, ht, k, hk, rfl⟩) hs'
        rw [e1, e2, lift_at (lt_st h.ok k2) hk2, hto t k hs', if_pos hf] at this
        exact this
      have h2 := h1.at_ s (by rw [hr.len]; exact hs)
      rwa [slice_at hs] at h2
    · exact leW_zero h.ok.sp (hR.at_ (by rw [hR.len, h.states]; exact place_lt hs hk))
theorem Both.lift_ends {a : Aut} {d : Dfa} (h : Both a d) : endsW (prod a d) = liftV a d.n d.ac (endsW a) := by
  rw [endsW_is h.prodOk, endsW_is h.ok, h.states]
  refine List.map_congr_left fun j hj => ?_
  rw [List.mem_range] at hj
  have hn := h.dok.n0
  have h1 : j / d.n < a.states.toNat := Nat.div_lt_of_lt_mul (by rw [Nat.mul_comm]; exact hj)
  have h2 : j % d.n < d.n := Nat.mod_lt _ (by omega)
  have e : (j : Int) ∈ prodF d a.fin ↔ d.ac (j % d.n) = true ∧ ((j / d.n : Nat) : Int) ∈ a.fin := by
    rw [mem_prodF]
    constructor
    · rintro ⟨s, hs, k, hk, hac, ej⟩
      have hs0 := h.ok.fin s hs
      have ej' : j = s.toNat * d.n + k := by
        have := congrArg Int.toNat ej
        rwa [int_place hs0.1 (Int.natCast_nonneg _) (Int.natCast_nonneg _), Int.toNat_natCast, Int.toNat_natCast, Int.toNat_natCast] at this
      rw [ej', place_mod hk, place_div hk]
      exact ⟨hac, by rw [Int.toNat_of_nonneg hs0.1]; exact hs⟩
    · rintro ⟨hac, hs⟩
      exact ⟨_, hs, j % d.n, h2, hac, by rw [← Int.natCast_mul, ← Int.natCast_add, Nat.div_add_mod']⟩
  rw [getD_at (by simpa using h1)]
  simp only [List.getElem_map, List.getElem_range, endR]
  show (if (j : Int) ∈ prodF d a.fin then oneW a.sp else zeroW a.sp) = _
  by_cases h3 : d.ac (j % d.n) = true
  · rw [if_pos h3]
    by_cases h4 : ((j / d.n : Nat) : Int) ∈ a.fin
    · rw [if_pos (e.2 ⟨h3, h4⟩), if_pos h4]
    · rw [if_neg fun k => h4 (e.1 k).2, if_neg h4]
  · rw [if_neg fun k => h3 (e.1 k).1, if_neg h3]
theorem Both.value {a : Aut} {d : Dfa} (h : Both a d) {back : Bool} : ∀ w : List Int, (∀ x ∈ w, 0 ≤ x ∧ x < a.symbols) → valV (prod a d) back w = liftV a d.n (fun k => d.ac (d.run k w)) (valV a back w)
  | [], _ => by
    show growV (prod a d) back sil (endsW (prod a d)) = liftV a d.n d.ac (growV a back sil (endsW a))
    rw [h.lift_ends]
    exact h.lift_grow (ends_vals h.ok)
  | x :: w, hw => by
    have ih := h.value (back := back) w fun y hy => hw y (List.mem_cons_of_mem _ hy)
    have hv := valV_vals (back := back) h.ok w
    show growV (prod a d) back sil (restW (prod a d) back x (valV (prod a d) back w)) = liftV a d.n (fun k => d.ac (d.run (d.nx k x.toNat) w)) (growV a back sil (restW a back x (valV a back w)))
    rw [ih, h.lift_rest hv (hw x (List.mem_cons_self ..))]
    exact h.lift_grow (restW_vals h.ok hv)
end Go.Proofs.YtfpljljjjgicaaaGreatDoor
/-
  WfaMeets.
-/
set_option maxHeartbeats 4000000
set_option linter.unusedSimpArgs false
set_option linter.unusedVariables false
namespace Go.Proofs.YtfpljljjjgicaaaGreatDoor
open Go.RowKit
attribute [local irreducible] Wk Tr
theorem finOk_of {a : Aut} : ∀ {last : Int} {l : List Int}, (∀ x ∈ l, 0 ≤ x ∧ x < a.states) → (last :: l).Pairwise (· < ·) → finOk a last l = true
  | _, [], _, _ => rfl
  | last, s :: l, h, hp => by
    obtain ⟨h1, h2⟩ := List.pairwise_cons.1 hp
    have h3 := h s (List.mem_cons_self ..)
    have h4 := h1 s (List.mem_cons_self ..)
    rw [finOk, finOk_of (fun x hx => h x (List.mem_cons_of_mem _ hx)) h2, inS, decide_eq_true h3.1, decide_eq_true h3.2, decide_eq_false (by omega)]; rfl
theorem finOk_gt {a : Aut} : ∀ {last : Int} {l : List Int}, finOk a last l = true → (last :: l).Pairwise (· < ·)
  | _, [], _ => List.pairwise_singleton ..
  | last, s :: l, h => by
    simp only [finOk, inS, Bool.and_eq_true, decide_eq_true_eq, Bool.not_eq_true', decide_eq_false_iff_not] at h
    obtain ⟨⟨⟨h1, h2⟩, h3⟩, h4⟩ := h
    have h5 := finOk_gt h4
    refine List.pairwise_cons.2 ⟨fun x hx => ?_, h5⟩
    rcases List.mem_cons.1 hx with rfl | hx
    · omega
    · have := (List.pairwise_cons.1 h5).1 x hx; omega
theorem prodF_gt {a : Aut} {d : Dfa} (h : Both a d) (hp : a.fin.Pairwise (· < ·)) : (prodF d a.fin).Pairwise (· < ·) := by
  rw [prodF, List.pairwise_flatMap]
  refine ⟨fun s _ => ?_, ?_⟩
  · rw [prodFK, List.pairwise_map]
    exact (List.Pairwise.filter _ List.pairwise_lt_range).imp fun {x y} hxy => by omega
  · refine hp.imp fun {x y} hxy => ?_
    intro u hu v hv
    simp only [prodFK, List.mem_map, List.mem_filter, List.mem_range] at hu hv
    obtain ⟨j, ⟨hj, _⟩, rfl⟩ := hu
    obtain ⟨k, ⟨hk, _⟩, rfl⟩ := hv
    have h2 : (x + 1) * d.n ≤ y * d.n := Int.mul_le_mul_of_nonneg_right (by omega) (Int.natCast_nonneg _)
    rw [Int.add_mul, Int.one_mul] at h2
    omega
theorem prod_check {a : Aut} {d : Dfa} (h : Both a d) (hc : checkE10 a = 0) : checkE10 (prod a d) = 0 := by
  have hf := check10_fin hc
  have hb := h.prodOk
  have e1 : spE (prod a d).sp = 0 := by rw [spE, if_pos hb.sp]
  have e2 : finOk (prod a d) (-1) (prod a d).fin = true := finOk_of hb.fin (List.pairwise_cons.2 ⟨fun x hx => by have := hb.fin x hx; omega, prodF_gt h (List.pairwise_cons.1 (finOk_gt hf)).2⟩)
  have e3 : (prod a d).trs.any (trBad (prod a d)) = false := List.any_eq_false.2 fun t ht => by
    have := hb.trs t ht
    simp only [trBad, inS, Bool.or_eq_true, Bool.not_eq_true', Bool.and_eq_false_iff, decide_eq_true_eq, decide_eq_false_iff_not]
    omega
  have e4 : (prod a d).trs.any (fun t => decide (checkedW (prod a d).sp [t.w] ≠ 0)) = false := by
    have ha : a.trs.any (fun t => decide (checkedW a.sp [t.w] ≠ 0)) = false := by
      unfold checkE10 at hc
      split at hc
      · contradiction
      · split at hc
        · contradiction
        · split at hc
          · contradiction
          · split at hc
            · contradiction
            · split at hc
              · contradiction
              · split at hc
                · contradiction
                · rename_i h6; simpa using h6
    refine List.any_eq_false.2 fun u hu => ?_
    obtain ⟨t, ht, k, hk, rfl⟩ := mem_prodL.1 hu
    exact (List.any_eq_false.1 ha) t ht
  have e5 : dimBad (prod a d) = false := by
    have h1 := hb.st
    have h2 := hb.sy
    simp only [dimBad, Bool.or_eq_false_iff, decide_eq_false_iff_not]; omega
  have h3 := hb.many
  rw [checkE10, if_neg (by rw [e1]; decide), if_neg (by omega), e5, e2, e3, e4]; rfl
theorem prod_Sm {a : Aut} {d : Dfa} (h : Both a d) (hc : checkE10 a = 0) : (prod a d).Sm := by
  have h1 := fin_len (prod_check h hc)
  have h2 := h.prodOk.many
  exact ⟨spOk_len h.ok.sp, by omega, by omega, fun t ht => isB_Sm2 h.ok.sp (h.prodOk.w t ht)⟩
theorem meet_both {a : Aut} {d : Dfa} (h : meetE a d = 0) : Both a d ∧ checkE10 a = 0 ∧ meetA a d = prod a d := by
  have hA : meetA a d = prod a d := by rw [meetA, if_pos h]
  unfold meetE at h
  split at h
  · contradiction
  · rename_i h1
    split at h
    · contradiction
    · rename_i h2
      split at h
      · contradiction
      · rename_i h3
        have h1' : checkE10 a = 0 := by simpa using h1
        have h2' : d.err = 0 ∧ d.sym = a.symbols := by simpa using h2
        have hde := h2'.1
        exact ⟨⟨checkE10_ok h1', Dfa.ok_of (by rw [Dfa.err] at hde; split at hde; assumption; contradiction), h2'.2, by omega, by omega⟩, h1', hA⟩
theorem meetA_fine (a : Aut) (d : Dfa) : (meetA a d).Sm ∧ (meetA a d = aut0 ∨ spOk (meetA a d).sp = true ∧ ∀ t ∈ (meetA a d).trs, isB (meetA a d).sp t.w = true) := by
  by_cases h : meetE a d = 0
  · obtain ⟨h1, h2, h3⟩ := meet_both h
    rw [h3]
    exact ⟨prod_Sm h1 h2, .inr ⟨h1.ok.sp, h1.prodOk.w⟩⟩
  · rw [meetA, if_neg h]
    exact ⟨⟨by decide, by decide, by decide, fun t ht => by cases ht⟩, .inl rfl⟩
theorem prod_asked {a : Aut} {d : Dfa} (h : Both a d) (hc : checkE10 a = 0) {frm : Int} {w : List Int} (hk : askedE a [frm] w = 0) : askedE (prod a d) [frm * d.n] w = 0 := by
  obtain ⟨_, h1, h2⟩ := askedE_ok hk
  have hc' := prod_check h hc
  have h3 := h1 frm (by simp)
  have hn := h.dok.n0
  have h4 := h.bnd (k := 0) h3 (by omega)
  have e1 : [frm * d.n].any (badS (prod a d)) = false := List.any_eq_false.2 fun x hx => by
    rw [List.mem_singleton.1 hx]
    have : (prod a d).states = a.states * d.n := rfl
    simp [badS]; omega
  have e2 : w.any (badY (prod a d)) = false := List.any_eq_false.2 fun x hx => by
    have := h2 x hx
    have e : (prod a d).symbols = a.symbols := rfl
    simp [badY]; omega
  rw [askedE, if_neg (by simp [hc']), e1, e2]; rfl
theorem prod_value {a : Aut} {d : Dfa} (h : Both a d) (hc : checkE10 a = 0) {back : Bool} {frm : Int} {w : List Int} (hk : askedE a [frm] w = 0) : valueW (prod a d) back (frm * d.n) w = if d.ac (d.run 0 w) then valueW a back frm w else zeroW a.sp := by
  obtain ⟨_, h1, h2⟩ := askedE_ok hk
  have h3 := h1 frm (by simp)
  have hn := h.dok.n0
  have e : (frm * (d.n : Int)).toNat = frm.toNat * d.n + 0 := by
    have := int_place (k := 0) h3.1 (Int.natCast_nonneg d.n) (Int.le_refl 0)
    rwa [Int.add_zero, Int.toNat_natCast] at this
  rw [valueW, if_pos (prod_asked h hc hk), valueW, if_pos hk, h.value w h2, e, lift_at (lt_st h.ok h3) (by omega)]

theorem wfaMeets (a : Aut) (d : Dfa) (back : Bool) (frm : Int) (w : List Int) (ha : a.Sm) (hd : d.Sm) : FnC Tryz.prog 6 [autV a, dfaV d, .bool back, iV frm, .sl 3 (w.map iV)] (fun r => r = .bool true) := by
  refine FnC.of (fn := Tryz.f6) ⟨Tryz.func6, by kernel_rfl, rfl⟩ Tryz.ntmps6 (by simp) fun w0 S0 => ?_
  have hd1 := hd.next
  refine p_go fun hf => ?_
  refine p_call (hx := rfl) (hb := ⟨Tryz.func8, by kernel_rfl, rfl⟩) (hf := awakeC) (h := ?_)
  refine p_go fun hf => ?_
  refine p_call (hx := rfl) (hb := ⟨Tryz.func9, by kernel_rfl, rfl⟩) (hf := smallC a w) (h := ?_)
  refine p_go ?_
  refine p_splitC (s := 30) (ht := fun hc30 => ?_) (hf := fun hc30 => ?_)
  · refine p_go ?_
    refine p_ret1 (hp := by rfl)
  · have hw : w.length ≤ 17592186044416 := by simp at hc30; omega
    refine p_go fun hf => ?_
    refine p_call (hx := rfl) (hb := ⟨Tryz.func20, by kernel_rfl, rfl⟩) (hf := meetC a d ha hd) (h := ?_)
    refine p_go fun hf => ?_
    refine p_call (hx := rfl) (hb := ⟨Tryz.func21, by kernel_rfl, rfl⟩) (hf := rmeetC a d ha hd) (h := ?_)
    refine p_go fun hf => ?_
    refine p_call (hx := rfl) (hb := ⟨Tryz.func22, by kernel_rfl, rfl⟩) (hf := rsame10 (meetA_fine a d).1 (meetA_fine a d).2) (h := ?_)
    refine p_go ?_
    refine p_isC (s := 51) (b := false) (hc := by simp) (h := ?_)
    refine p_go fun hf => ?_
    refine p_call (hx := rfl) (hb := ⟨Tryz.func10, by kernel_rfl, rfl⟩) (hf := valueC a back frm w ha hw) (h := ?_)
    refine p_go ?_
    refine p_splitC (s := 65) (ht := fun hc65 => ?_) (hf := fun hc65 => ?_)
    · refine p_go ?_
      refine p_ret1 (hp := by rfl)
    · obtain ⟨he, hk⟩ : meetE a d = 0 ∧ askedE a [frm] w = 0 := by simpa only [Bool.or_eq_false_iff, decide_eq_false_iff_not, ne_eq, Classical.not_not] using hc65
      obtain ⟨hB, hch, hA⟩ := meet_both he
      obtain ⟨_, hfr, hws⟩ := askedE_ok hk
      have hf1 := hfr frm (by simp)
      have hst := hB.ok.st
      have hn1 := hB.dok.n1
      have hnd : d.n = d.next.length := rfl
      have hb1 := mul_bd hf1.1 (by omega) (Int.natCast_nonneg d.next.length) (by omega)
      have hval : FnC Tryz.prog 10 [autV (meetA a d), .bool back, iV (frm * d.next.length), .sl 3 (w.map iV)] (fun r => r = .tup [wtA (if d.ac (d.run 0 w) then valueW a back frm w else zeroW a.sp), iV 0]) := by
        have h1 := valueC (prod a d) back (frm * d.next.length) w (prod_Sm hB hch) hw
        have e1 := prod_value (back := back) hB hch hk
        have e2 := prod_asked hB hch hk
        rw [hnd] at e1 e2
        rw [hA]; rwa [e1, e2] at h1
      have hB1 := value_B (back := back) hk
      refine p_go fun hf => ?_
      refine p_mul (hr := rfl) (hb := by omega) (h := ?_)
      refine p_go fun hf => ?_
      refine p_call (hx := rfl) (hb := ⟨Tryz.func10, by kernel_rfl, rfl⟩) (hf := hval) (h := ?_)
      refine p_go fun hf => ?_
      refine p_call (hx := rfl) (hb := ⟨Tryz.func23, by kernel_rfl, rfl⟩) (hf := acceptsC d w hB.dok hw (by rw [hB.sym]; exact hws)) (h := ?_)
      refine p_go ?_
      refine p_splitC (s := 81) (ht := fun hc81 => ?_) (hf := fun hc81 => ?_)
      · have hac : d.ac (d.run 0 w) = false := by simpa using hc81
        have hS : FnC Tryz.prog 16 [wtA (zeroW a.sp), wtA (if d.ac (d.run 0 w) then valueW a back frm w else zeroW a.sp)] (fun r => r = .bool true) := by rw [if_neg (by rw [hac]; decide)]; exact rsame_self hB.ok.sp (zeroW_ok hB.ok.sp)
        refine p_go fun hf => ?_
        refine p_call (hx := rfl) (hb := ⟨Tryz.func24, by kernel_rfl, rfl⟩) (hf := rZero10 a.sp hB.ok.sp) (h := ?_)
        refine p_go fun hf => ?_
        refine p_isW (s := 87) (b := true) (hc := by simp) (h := ?_)
        refine p_go fun hf => ?_
        refine p_call (hx := rfl) (hb := ⟨Tryz.func16, by kernel_rfl, rfl⟩) (hf := hS) (h := ?_)
        refine p_go ?_
        refine p_ret1 (hp := by rfl)
      · have hac : d.ac (d.run 0 w) = true := by simpa using hc81
        have hS : FnC Tryz.prog 16 [wtA (valueW a back frm w), wtA (if d.ac (d.run 0 w) then valueW a back frm w else zeroW a.sp)] (fun r => r = .bool true) := by rw [if_pos hac]; exact rsame_self hB.ok.sp hB1
        refine p_go fun hf => ?_
        refine p_isW (s := 87) (b := true) (hc := by simp) (h := ?_)
        refine p_go fun hf => ?_
        refine p_call (hx := rfl) (hb := ⟨Tryz.func16, by kernel_rfl, rfl⟩) (hf := hS) (h := ?_)
        refine p_go ?_
        refine p_ret1 (hp := by rfl)

end Go.Proofs.YtfpljljjjgicaaaGreatDoor
