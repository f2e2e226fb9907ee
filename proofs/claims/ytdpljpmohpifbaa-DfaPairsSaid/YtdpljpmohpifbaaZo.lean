/-
  Plain laws: what automata take; the least ones, complements and pairs take what they should.
-/
import Derived.Test.YtdpljpmohpifbaaZm
set_option linter.unusedSimpArgs false
set_option linter.unusedVariables false
namespace Go.Proofs.Ytdpljpmohpifbaa
open Go.RowKit
section
variable {κ : Type} [DecidableEq κ]
theorem idx_prefix {l l' : List κ} (h : l <+: l') {x : κ} (hx : x ∈ l) : l'.idxOf x = l.idxOf x := idxOf_prefix h hx
/-- What stands in a row: the places of those that are met. -/
theorem rowAt_get {f : Nat → κ} {mc : List κ} : ∀ k j, j < k → f j ∈ (rowAt f mc k).1 ∧ (rowAt f mc k).2[j]? = some (((rowAt f mc k).1.idxOf (f j) : Nat) : Int)
  | 0, j, h => by omega
  | k + 1, j, h => by
    have hl := rowAt_len f mc k
    by_cases hjk : j = k
    · subst hjk
      by_cases hm : f j ∈ (rowAt f mc j).1
      · rw [rowAt, if_pos hm]
        exact ⟨hm, by simp [hl]⟩
      · rw [rowAt, if_neg hm]
        refine ⟨by simp, ?_⟩
        rw [List.getElem?_append_right (by omega), hl, Nat.sub_self, List.idxOf_append, if_neg hm]; simp
    · obtain ⟨h1, h2⟩ := rowAt_get (f := f) (mc := mc) k j (by omega)
      by_cases hm : f k ∈ (rowAt f mc k).1
      · rw [rowAt, if_pos hm]
        exact ⟨h1, by rw [List.getElem?_append_left (by omega)]; exact h2⟩
      · rw [rowAt, if_neg hm]
        refine ⟨by simp [h1], ?_⟩
        rw [List.getElem?_append_left (by omega), h2, List.idxOf_append, if_pos h1]
theorem metAt_get {nxt : κ → Nat → κ} {start : κ} {m : Nat} : ∀ i, (∀ j, j < i → j < (metAt nxt start m j).1.length) → ∀ j (s : κ), j < i → (metAt nxt start m i).1[j]? = some s → ∃ r, (metAt nxt start m i).2[j]? = some r ∧ r.length = m ∧ ∀ k, k < m → nxt s k ∈ (metAt nxt start m i).1 ∧ r[k]? = some (((metAt nxt start m i).1.idxOf (nxt s k) : Nat) : Int)
  | 0, _, j, s, h, _ => by omega
  | i + 1, hall, j, s, h, hs => by
    have hi := hall i (by omega)
    have hrl := metAt_rows nxt start m i fun j hj => hall j (by omega)
    have hp := metAt_prefix nxt start m (Nat.le_add_right i 1)
    rw [metAt_next hi] at hs hp ⊢
    have hpp := rowAt_prefix (nxt (metAt nxt start m i).1[i]) (metAt nxt start m i).1 m
    by_cases hji : j = i
    · subst hji
      have hsj : (metAt nxt start m j).1[j] = s := by
        have := hpp.getElem hi
        have h2 : ((rowAt (nxt (metAt nxt start m j).1[j]) (metAt nxt start m j).1 m).1)[j]? = some s := hs
        rw [List.getElem?_eq_getElem (Nat.lt_of_lt_of_le hi hpp.length_le), ← this] at h2
        exact Option.some.inj h2
      refine ⟨_, by rw [List.getElem?_append_right (by omega), hrl, Nat.sub_self]; rfl, rowAt_len _ _ _, fun k hk => ?_⟩
      have := rowAt_get (f := nxt (metAt nxt start m j).1[j]) (mc := (metAt nxt start m j).1) m k hk
      rw [hsj] at this ⊢
      exact this
    · have hs' : (metAt nxt start m i).1[j]? = some s := by
        have hjl : j < (metAt nxt start m i).1.length := by omega
        have := hpp.getElem hjl
        have h2 : ((rowAt (nxt (metAt nxt start m i).1[i]) (metAt nxt start m i).1 m).1)[j]? = some s := hs
        rw [List.getElem?_eq_getElem (Nat.lt_of_lt_of_le hjl hpp.length_le), ← this] at h2
        rw [List.getElem?_eq_getElem hjl]; exact h2
      obtain ⟨r, h1, h2, h3⟩ := metAt_get i (fun j hj => hall j (by omega)) j s (by omega) hs'
      refine ⟨r, by rw [List.getElem?_append_left (by omega)]; exact h1, h2, fun k hk => ?_⟩
      obtain ⟨h4, h5⟩ := h3 k hk
      exact ⟨hpp.subset h4, by rw [h5, idxOf_prefix hpp h4]⟩
end
namespace Dfa
def run (d : Dfa) : Nat → List Int → Nat
  | s, [] => s
  | s, x :: w => run d (d.nx s x.toNat) w
def takes (d : Dfa) (w : List Int) : Bool := d.ac (d.run 0 w)
def fitsW (d : Dfa) (w : List Int) : Prop := ∀ x ∈ w, 0 ≤ x ∧ x < d.sym
theorem run_lt {d : Dfa} (h : d.Ok) : ∀ (w : List Int) (s : Nat), s < d.n → d.fitsW w → d.run s w < d.n
  | [], s, hs, _ => hs
  | x :: w, s, hs, hw => run_lt h w _ (h.nx_lt hs (by have := hw x (by simp); omega)) fun y hy => hw y (by simp [hy])
end Dfa
/-- What is taken by an automaton of states that are met. -/
def runK {κ : Type} (nxt : κ → Nat → κ) : κ → List Int → κ
  | s, [] => s
  | s, x :: w => runK nxt (nxt s x.toNat) w
theorem grown_takes {κ : Type} [DecidableEq κ] {nxt : κ → Nat → κ} {acc : κ → Bool} {start : κ} {m most : Nat} (h : ∀ i, (metAt nxt start m i).1.length ≤ most) {w : List Int} (hw : ∀ x ∈ w, 0 ≤ x ∧ x < (m : Int)) : (grown nxt acc start m most).takes w = acc (runK nxt start w) := by
  obtain ⟨i, h1, h2, h3, h4⟩ := grown_end (acc := acc) h
  have hpre : [start] <+: (metAt nxt start m i).1 := metAt_prefix nxt start m (Nat.zero_le i)
  generalize hM : metAt nxt start m i = M at *
  have hstart : start ∈ M.1 := hpre.subset (by simp)
  have h0 : M.1.idxOf start = 0 := by rw [idxOf_prefix hpre (by simp)]; simp
  have hget := metAt_get (nxt := nxt) (start := start) (m := m) i h2
  rw [hM] at hget
  have key : ∀ (w : List Int) (s : κ), s ∈ M.1 → (∀ x ∈ w, 0 ≤ x ∧ x < (m : Int)) → runK nxt s w ∈ M.1 ∧ (grown nxt acc start m most).run (M.1.idxOf s) w = M.1.idxOf (runK nxt s w) := by
    intro w
    induction w with
    | nil => exact fun s hs _ => ⟨hs, rfl⟩
    | cons x w ih =>
      intro s hs hw
      have hx := hw x (by simp)
      have hlt := List.idxOf_lt_length_iff.2 hs
      obtain ⟨r, r1, r2, r3⟩ := hget (M.1.idxOf s) s (by omega) (by rw [List.getElem?_eq_getElem hlt, List.getElem_idxOf hlt])
      obtain ⟨r4, r5⟩ := r3 x.toNat (by omega)
      have hnx : (grown nxt acc start m most).nx (M.1.idxOf s) x.toNat = M.1.idxOf (nxt s x.toNat) := by
        rw [h4]
        simp only [Dfa.nx, Dfa.row, List.getD, r1, Option.getD_some, r5, Int.toNat_natCast]
      have := ih (nxt s x.toNat) r4 fun y hy => hw y (by simp [hy])
      refine ⟨this.1, ?_⟩
      rw [Dfa.run, hnx]; exact this.2
  obtain ⟨k1, k2⟩ := key w start hstart hw
  rw [h0] at k2
  have hlt := List.idxOf_lt_length_iff.2 k1
  rw [Dfa.takes, k2]
  simp only [h4, Dfa.ac, List.getD, List.getElem?_map, List.getElem?_eq_getElem hlt, List.getElem_idxOf hlt, Option.map_some, Option.getD_some]
namespace Dfa
theorem least_len {d : Dfa} (h : d.Ok) (i : Nat) : (metAt d.nextC (d.cls 0) d.sym.toNat i).1.length ≤ d.n :=
  InC.few _ (metAt_nodup _ _ _ i) (metAt_all (p := d.InC) ⟨0, h.n0, rfl⟩ (fun s k hs hk => hs.next h (by have := h.sym0; omega)) i)
theorem least_run {d : Dfa} (h : d.Ok) : ∀ (w : List Int) (s : Nat), s < d.n → d.fitsW w → runK d.nextC (d.cls s) w = d.cls (d.run s w)
  | [], s, _, _ => rfl
  | x :: w, s, hs, hw => by
    have hx := hw x (by simp)
    rw [runK, run, nextC_is h hs (by omega)]
    exact least_run h w _ (h.nx_lt hs (by omega)) fun y hy => hw y (by simp [hy])
theorem least_takes {d : Dfa} (h : d.Ok) {w : List Int} (hw : d.fitsW w) : d.leastR.takes w = d.takes w := by
  have hs := h.sym0
  rw [leastC h, grown_takes (least_len h) (fun x hx => by have := hw x hx; omega), least_run h w 0 h.n0 hw, accC_is (run_lt h w 0 h.n0 hw)]; rfl
theorem flip_run (d : Dfa) : ∀ (w : List Int) (s : Nat), d.flip.run s w = d.run s w
  | [], _ => rfl
  | x :: w, s => flip_run d w _
theorem flip_takes {d : Dfa} (h : d.Ok) {w : List Int} (hw : d.fitsW w) : d.flip.takes w = !d.takes w := by
  have := run_lt h w 0 h.n0 hw
  have hacc := h.acc
  rw [takes, flip_run, takes]
  simp [ac, flip, List.getD, List.getElem?_eq_getElem (show d.run 0 w < d.acc.length by omega)]
/-- Pairs of states. -/
def nextPP (a b : Dfa) (s : Int × Int) (k : Nat) : Int × Int := (a.nx s.1.toNat k, b.nx s.2.toNat k)
def accPP (a b : Dfa) (both : Bool) (s : Int × Int) : Bool := both && a.ac s.1.toNat && b.ac s.2.toNat || !both && (a.ac s.1.toNat || b.ac s.2.toNat)
def InP (a b : Dfa) (s : Int × Int) : Prop := (0 ≤ s.1 ∧ s.1 < a.n) ∧ 0 ≤ s.2 ∧ s.2 < b.n
def pairsR (a b : Dfa) (both : Bool) : Dfa := grown (nextPP a b) (accPP a b both) (0, 0) a.sym.toNat (a.n * b.n)
theorem InP.next {a b : Dfa} (ha : a.Ok) (hb : b.Ok) (hs : a.sym = b.sym) {s : Int × Int} {k : Nat} (h : InP a b s) (hk : (k : Int) < a.sym) : InP a b (nextPP a b s k) := by
  have h1 := ha.nx_lt (i := s.1.toNat) (k := k) (by have := h.1; omega) hk
  have h2 := hb.nx_lt (i := s.2.toNat) (k := k) (by have := h.2; omega) (by omega)
  refine ⟨⟨?_, ?_⟩, ?_, ?_⟩ <;> simp only [nextPP] <;> omega
theorem sum_const {α : Type} (c : Nat) : ∀ l : List α, (l.map fun _ => c).sum = l.length * c
  | [] => by simp
  | _ :: l => by rw [List.map_cons, List.sum_cons, sum_const c l, List.length_cons, Nat.succ_mul]; omega
theorem InP.few {a b : Dfa} (l : List (Int × Int)) (h : l.Nodup) (hp : ∀ s ∈ l, InP a b s) : l.length ≤ a.n * b.n := by
  have := nodup_le (l' := (List.range a.n).flatMap fun i : Nat => (List.range b.n).map fun j : Nat => ((i : Int), (j : Int))) h fun s hs => by
    obtain ⟨h1, h2⟩ := hp s hs
    refine List.mem_flatMap.2 ⟨s.1.toNat, by simp; omega, List.mem_map.2 ⟨s.2.toNat, by simp; omega, ?_⟩⟩
    exact Prod.ext (by show ((s.1.toNat : Nat) : Int) = s.1; omega) (by show ((s.2.toNat : Nat) : Int) = s.2; omega)
  simpa [sum_const] using this
theorem pairs_len {a b : Dfa} (ha : a.Ok) (hb : b.Ok) (hs : a.sym = b.sym) (i : Nat) : (metAt (nextPP a b) (0, 0) a.sym.toNat i).1.length ≤ a.n * b.n := by
  have h0 := ha.sym0
  have h1 := ha.n0
  have h2 := hb.n0
  exact InP.few _ (metAt_nodup _ _ _ i) (metAt_all (p := InP a b) ⟨⟨by simp, by show (0 : Int) < _; omega⟩, by simp, by show (0 : Int) < _; omega⟩ (fun s k hp hk => hp.next ha hb hs (by omega)) i)
theorem pairs_run (a b : Dfa) : ∀ (w : List Int) (s t : Nat), runK (nextPP a b) ((s : Int), (t : Int)) w = ((a.run s w : Int), (b.run t w : Int))
  | [], _, _ => rfl
  | x :: w, s, t => by rw [runK, nextPP]; exact pairs_run a b w _ _
theorem pairs_takes {a b : Dfa} (ha : a.Ok) (hb : b.Ok) (hs : a.sym = b.sym) (both : Bool) {w : List Int} (hw : a.fitsW w) : (pairsR a b both).takes w = (both && a.takes w && b.takes w || !both && (a.takes w || b.takes w)) := by
  have h0 := ha.sym0
  rw [pairsR, grown_takes (pairs_len ha hb hs) (fun x hx => by have := hw x hx; omega)]
  have := pairs_run a b w 0 0
  rw [show ((0 : Int), (0 : Int)) = (((0 : Nat) : Int), ((0 : Nat) : Int)) from rfl, this]
  rfl
theorem pairs_ok {a b : Dfa} (ha : a.Ok) (hb : b.Ok) (hs : a.sym = b.sym) (hn : a.n * b.n ≤ 1024) (both : Bool) : (pairsR a b both).Ok ∧ (pairsR a b both).n ≤ a.n * b.n ∧ (pairsR a b both).sym = a.sym := by
  have h0 := ha.sym0
  have h1 := ha.sym1
  obtain ⟨i, k1, k2, k3, k4⟩ := grown_end (acc := accPP a b both) (pairs_len ha hb hs)
  have hr := metAt_rows _ _ _ i k2
  have hpos : 1 ≤ (metAt (nextPP a b) (0, 0) a.sym.toNat i).1.length := (metAt_prefix (nextPP a b) (0, 0) a.sym.toNat (Nat.zero_le i)).length_le
  rw [pairsR, k4]
  have hn' : Dfa.n ⟨(a.sym.toNat : Nat), (metAt (nextPP a b) (0, 0) a.sym.toNat i).2, (metAt (nextPP a b) (0, 0) a.sym.toNat i).1.map (accPP a b both)⟩ = i := hr
  refine ⟨⟨by show (0 : Int) ≤ ((a.sym.toNat : Nat) : Int); omega, by show ((a.sym.toNat : Nat) : Int) ≤ _; omega, by rw [hn']; omega, by rw [hn']; omega, by rw [hn']; simp only [List.length_map]; exact k3, fun r hr' => ?_⟩, by rw [hn']; exact k1, by show ((a.sym.toNat : Nat) : Int) = _; omega⟩
  have := metAt_range i r hr'
  refine ⟨by show (r.length : Int) = ((a.sym.toNat : Nat) : Int); omega, fun x hx => ?_⟩
  have h5 := this.2 x hx
  rw [hn']; omega
theorem leastR_ok {d : Dfa} (h : d.Ok) : d.leastR.Ok ∧ d.leastR.n ≤ d.n ∧ d.leastR.sym = d.sym := by
  obtain ⟨h1, h2, h3, h4, h5⟩ := leastR_small h
  have hn : d.leastR.n = d.leastR.next.length := rfl
  have := h.sym0
  have := h.sym1
  have := h.n1
  exact ⟨⟨by omega, by omega, by omega, by omega, by omega, fun r hr => by have := h5 r hr; rw [h1, hn]; exact this⟩, by omega, h1⟩
theorem ok_good {d : Dfa} (h : d.Ok) (hp : (d.n : Int) * d.sym ≤ 65536) : d.good = true := by
  have h1 := h.sym0
  have h2 := h.sym1
  have h3 := h.n0
  have h4 := h.n1
  have h5 := h.acc
  have hn : d.n = d.next.length := rfl
  rw [hn] at hp h3 h4 h5
  simp only [good, headBad, Bool.and_eq_true, Bool.not_eq_true', Bool.or_eq_false_iff, decide_eq_false_iff_not, List.any_eq_false]
  refine ⟨⟨⟨⟨⟨⟨by omega, by omega⟩, by omega⟩, by omega⟩, by omega⟩, by omega⟩, fun r hr => ?_⟩
  have h6 := h.rows r hr
  rw [hn] at h6
  simp only [rowBad, Bool.not_eq_true, Bool.or_eq_false_iff, decide_eq_false_iff_not, List.any_eq_false]
  refine ⟨by omega, fun x hx => ?_⟩
  have := h6.2 x hx
  simp [outB]; omega
end Dfa
end Go.Proofs.Ytdpljpmohpifbaa
