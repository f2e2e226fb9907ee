/-
  The first word that is taken, as the states are met: plain laws; slices.Reverse, walked.
-/
import Derived.Test.YtdpljpmohpifbaaA
import Derived.Test.YtdpljpmohpifbaaZq
set_option linter.unusedSimpArgs false
set_option linter.unusedVariables false
namespace Go.Proofs.Ytdpljpmohpifbaa
open Go.RowKit
abbrev Cm := List (Nat × Nat × Nat)
def Cm.keys (C : Cm) : List Nat := C.map (·.1)
namespace Dfa
/-- The states that are met, with the state and the symbol by which each is. -/
def cameRow (d : Dfa) (s : Nat) (C : Cm) : Nat → Cm
  | 0 => C
  | k + 1 => if d.nx s k ∈ (cameRow d s C k).keys then cameRow d s C k else cameRow d s C k ++ [(d.nx s k, s, k)]
def cameAt (d : Dfa) : Nat → Cm
  | 0 => [(0, 0, 0)]
  | i + 1 => match (cameAt d i)[i]? with
    | some x => cameRow d x.1 (cameAt d i) d.sym.toNat
    | none => cameAt d i
structure Came (d : Dfa) (C : Cm) : Prop where
  nodup : C.keys.Nodup
  lt : ∀ x ∈ C, x.1 < d.n
  root : C[0]? = some (0, 0, 0)
  up : ∀ (j : Nat) x, C[j]? = some x → 0 < j → x.1 ≠ 0 ∧ ∃ (i : Nat) (y : Nat × Nat × Nat), i < j ∧ C[i]? = some y ∧ y.1 = x.2.1
variable {d : Dfa} {C : Cm}
theorem Came.len (h : Came d C) : C.length ≤ d.n := by
  have := nodup_le (l' := List.range d.n) h.nodup fun t ht => by
    obtain ⟨x, hx, rfl⟩ := List.mem_map.1 ht
    simpa using h.lt x hx
  simpa [Cm.keys] using this
theorem Came.zero (h : Came d C) : 0 ∈ C.keys := List.mem_map.2 ⟨_, List.mem_of_getElem? h.root, rfl⟩
theorem Came.add (h : Came d C) {t s k : Nat} (hs : s ∈ C.keys) (ht : t < d.n) (hn : t ∉ C.keys) : Came d (C ++ [(t, s, k)]) := by
  have h0 : 0 < C.length := (List.getElem?_eq_some_iff.1 h.root).1
  refine ⟨?_, fun x hx => ?_, by rw [List.getElem?_append_left h0]; exact h.root, fun j x hx hj => ?_⟩
  · show (List.map _ _).Nodup
    rw [List.map_append, List.nodup_append]
    refine ⟨h.nodup, by simp, fun a ha b hb e => ?_⟩
    obtain rfl : b = t := by simpa using hb
    exact hn (e ▸ ha)
  · rcases List.mem_append.1 hx with hx | hx
    · exact h.lt x hx
    · rw [List.mem_singleton.1 hx]; exact ht
  · by_cases hlt : j < C.length
    · rw [List.getElem?_append_left hlt] at hx
      obtain ⟨h1, i, y, h2, h3, h4⟩ := h.up j x hx hj
      exact ⟨h1, i, y, h2, by rw [List.getElem?_append_left (by omega)]; exact h3, h4⟩
    · have hjl : j = C.length := by
        have := (List.getElem?_eq_some_iff.1 hx).1
        simp at this; omega
      subst hjl
      obtain rfl : (t, s, k) = x := by simpa using hx
      refine ⟨fun e => hn (by have e' : t = 0 := e; rw [e']; exact h.zero), ?_⟩
      obtain ⟨y, hy, hys⟩ := List.mem_map.1 hs
      obtain ⟨i, hi, rfl⟩ := List.mem_iff_getElem.1 hy
      exact ⟨i, C[i], hi, by rw [List.getElem?_append_left hi, List.getElem?_eq_getElem hi], hys⟩
theorem cameRow_prefix (d : Dfa) (s : Nat) (C : Cm) : ∀ k, C <+: cameRow d s C k
  | 0 => List.prefix_refl _
  | k + 1 => by
    rw [cameRow]; split
    · exact cameRow_prefix d s C k
    · exact (cameRow_prefix d s C k).trans (List.prefix_append _ _)
theorem keys_sub {C C' : Cm} (h : C <+: C') {t : Nat} (ht : t ∈ C.keys) : t ∈ C'.keys := by
  obtain ⟨x, hx, rfl⟩ := List.mem_map.1 ht
  exact List.mem_map.2 ⟨x, h.subset hx, rfl⟩
theorem cameRow_came (ho : d.Ok) (h : Came d C) {s : Nat} (hs : s ∈ C.keys) : ∀ k : Nat, (k : Int) ≤ d.sym → Came d (cameRow d s C k)
  | 0, _ => h
  | k + 1, hk => by
    have ih := cameRow_came ho h hs k (by omega)
    have hsn : s < d.n := by obtain ⟨x, hx, rfl⟩ := List.mem_map.1 hs; exact h.lt x hx
    rw [cameRow]; split
    · exact ih
    · rename_i hn
      exact ih.add (keys_sub (cameRow_prefix d s C k) hs) (ho.nx_lt hsn (by omega)) hn
theorem cameAt_came (ho : d.Ok) : ∀ i, Came d (cameAt d i)
  | 0 => ⟨by simp [cameAt, Cm.keys], fun x hx => by simp [cameAt] at hx; subst hx; exact ho.n0, rfl, fun j x hx hj => by
      have := (List.getElem?_eq_some_iff.1 hx).1
      simp [cameAt] at this; omega⟩
  | i + 1 => by
    have ih := cameAt_came ho i
    rw [cameAt]
    split
    · rename_i x hx
      exact cameRow_came ho ih (List.mem_map.2 ⟨x, List.mem_of_getElem? hx, rfl⟩) _ (by have := ho.sym0; omega)
    · exact ih
theorem cameAt_next {i : Nat} {x : Nat × Nat × Nat} (hx : (cameAt d i)[i]? = some x) : cameAt d (i + 1) = cameRow d x.1 (cameAt d i) d.sym.toNat := by rw [cameAt, hx]
def entry (C : Cm) (t : Nat) : Option (Nat × Nat × Nat) := C.find? fun x => decide (x.1 = t)
theorem entry_none {t : Nat} (h : t ∉ C.keys) : entry C t = none := by
  rw [entry, List.find?_eq_none]
  intro x hx he
  exact h (List.mem_map.2 ⟨x, hx, by simpa using he⟩)
theorem entry_some {t : Nat} (h : t ∈ C.keys) : ∃ x, x ∈ C ∧ x.1 = t ∧ entry C t = some x := by
  cases he : entry C t with
  | none =>
    rw [entry, List.find?_eq_none] at he
    obtain ⟨x, hx, rfl⟩ := List.mem_map.1 h
    exact absurd (by simp) (he x hx)
  | some x =>
    have h1 := List.mem_of_find?_eq_some he
    have h2 := List.find?_some he
    exact ⟨x, h1, by simpa using h2, rfl⟩
theorem nodup_key {C : Cm} (h : C.keys.Nodup) {x y : Nat × Nat × Nat} (hx : x ∈ C) (hy : y ∈ C) (he : x.1 = y.1) : x = y := by
  induction C with
  | nil => simp at hx
  | cons z C ih =>
    have h' : (z.1 :: Cm.keys C).Nodup := h
    rw [List.nodup_cons] at h'
    rcases List.mem_cons.1 hx with rfl | hx1 <;> rcases List.mem_cons.1 hy with rfl | hy1
    · rfl
    · exact absurd (List.mem_map.2 ⟨y, hy1, he.symm⟩) h'.1
    · exact absurd (List.mem_map.2 ⟨x, hx1, he⟩) h'.1
    · exact ih h'.2 hx1 hy1
theorem Came.entry (h : Came d C) {x : Nat × Nat × Nat} (hx : x ∈ C) : entry C x.1 = some x := by
  obtain ⟨y, h1, h2, h3⟩ := entry_some (C := C) (t := x.1) (List.mem_map.2 ⟨x, hx, rfl⟩)
  rw [h3, nodup_key h.nodup h1 hx h2]
/-- The symbols from a state back to the first one. -/
def wordC (C : Cm) : Nat → Nat → List Int
  | 0, _ => []
  | f + 1, t => if t = 0 then [] else match Dfa.entry C t with
    | some x => (x.2.2 : Int) :: wordC C f x.2.1
    | none => []
theorem wordC_fuel (h : Came d C) : ∀ (j : Nat) (x : Nat × Nat × Nat) (f f' : Nat), C[j]? = some x → j ≤ f → j ≤ f' → wordC C f x.1 = wordC C f' x.1 := by
  intro j
  induction j using Nat.strongRecOn with
  | _ j ih =>
    intro x f f' hx hf hf'
    by_cases hj : j = 0
    · subst hj
      rw [h.root] at hx
      cases hx
      cases f <;> cases f' <;> simp [wordC]
    · obtain ⟨h1, i, y, h2, h3, h4⟩ := h.up j x hx (by omega)
      obtain ⟨a, rfl⟩ : ∃ a, f = a + 1 := ⟨f - 1, by omega⟩
      obtain ⟨b, rfl⟩ : ∃ b, f' = b + 1 := ⟨f' - 1, by omega⟩
      have he := h.entry (List.mem_of_getElem? hx)
      simp only [wordC, if_neg h1, he]
      rw [← h4, ih i h2 y a b h3 (by omega) (by omega)]
def word (C : Cm) (t : Nat) : List Int := wordC C C.length t
theorem word_zero (C : Cm) : word C 0 = [] := by
  rw [word]; cases C.length <;> simp [wordC]
theorem word_up (h : Came d C) {x : Nat × Nat × Nat} (hx : x ∈ C) (h0 : x.1 ≠ 0) : word C x.1 = (x.2.2 : Int) :: word C x.2.1 ∧ x.2.1 ∈ C.keys := by
  obtain ⟨j, hj, rfl⟩ := List.mem_iff_getElem.1 hx
  have hx' := List.getElem?_eq_getElem hj
  by_cases hj0 : j = 0
  · subst hj0
    rw [h.root] at hx'
    exact absurd (by rw [← Option.some.inj hx']) h0
  · obtain ⟨h1, i, y, h2, h3, h4⟩ := h.up j _ hx' (by omega)
    refine ⟨?_, by rw [← h4]; exact List.mem_map.2 ⟨y, List.mem_of_getElem? h3, rfl⟩⟩
    have he := h.entry hx
    have e1 : word C C[j].1 = wordC C (C.length + 1) C[j].1 := wordC_fuel h j _ _ _ hx' (by omega) (by omega)
    rw [e1, wordC, if_neg h1, he]; rfl
def firstF (d : Dfa) : Nat → Nat → List Int × Bool
  | 0, _ => ([], false)
  | f + 1, i => match (cameAt d i)[i]? with
    | none => ([], false)
    | some x => if d.ac x.1 then ((word (cameAt d i) x.1).reverse, true) else firstF d f (i + 1)
def firstR (d : Dfa) : List Int × Bool := firstF d (d.n + 1) 0
theorem first_hit {i : Nat} {x : Nat × Nat × Nat} (hr : d.firstR = d.firstF (d.n + 1 - i) i) (hi : i ≤ d.n) (hx : (cameAt d i)[i]? = some x) (ha : d.ac x.1 = true) : d.firstR = ((word (cameAt d i) x.1).reverse, true) := by
  rw [hr, show d.n + 1 - i = (d.n - i) + 1 by omega, firstF, hx]; simp only [ha, ↓reduceIte]
theorem first_more {i : Nat} {x : Nat × Nat × Nat} (hr : d.firstR = d.firstF (d.n + 1 - i) i) (hi : i ≤ d.n) (hx : (cameAt d i)[i]? = some x) (ha : d.ac x.1 = false) : d.firstR = d.firstF (d.n + 1 - (i + 1)) (i + 1) := by
  rw [hr, show d.n + 1 - i = (d.n - i) + 1 by omega, firstF, hx]; simp only [ha, Bool.false_eq_true, ↓reduceIte]
  rw [show d.n + 1 - (i + 1) = d.n - i by omega]
theorem first_none {i : Nat} (hr : d.firstR = d.firstF (d.n + 1 - i) i) (hi : i ≤ d.n) (hx : (cameAt d i).length ≤ i) : d.firstR = ([], false) := by
  rw [hr, show d.n + 1 - i = (d.n - i) + 1 by omega, firstF, List.getElem?_eq_none hx]
/-- What the code's map tells. -/
def stepVal (x : Nat × Nat × Nat) : Value := if x.1 = 0 then .agg #[.int .i64 (-1), .int .i64 0] else .agg #[.int .i64 x.2.1, .int .i64 x.2.2]
def mapC (C : Cm) : List (Int × Value) := C.map fun x => ((x.1 : Int), stepVal x)
def fromI (C : Cm) (t : Nat) : Int := match Dfa.entry C t with
  | none => 0
  | some x => if x.1 = 0 then -1 else x.2.1
def byI (C : Cm) (t : Nat) : Int := match Dfa.entry C t with
  | none => 0
  | some x => if x.1 = 0 then 0 else x.2.2
theorem mget_came (t : Nat) : ∀ C : Cm, mget (t : Int) (mapC C) = (Dfa.entry C t).map stepVal
  | [] => rfl
  | x :: C => by
    have ih := mget_came t C
    simp only [mapC, List.map_cons, mget, Dfa.entry, List.find?_cons]
    by_cases hx : x.1 = t
    · simp [hx]
    · have : ¬ (t : Int) = (x.1 : Int) := fun e => hx (by omega)
      rw [if_neg this, show decide (x.1 = t) = false by simpa using hx]; exact ih
theorem look_came (C : Cm) (t : Nat) : cw ((mget (t : Int) (mapC C)).getD (.agg #[.int .i64 0, .int .i64 0])) = .agg [iV (fromI C t), iV (byI C t)] := by
  rw [mget_came, fromI, byI]
  cases Dfa.entry C t with
  | none => rfl
  | some x =>
    simp only [Option.map_some, Option.getD_some, stepVal]
    split <;> rfl
theorem look_came2 (C : Cm) (t : Nat) : V.tup [cw ((mget (t : Int) (mapC C)).getD (.agg #[.int .i64 0, .int .i64 0])), .bool (mget (t : Int) (mapC C)).isSome] = .tup [.agg [iV (fromI C t), iV (byI C t)], .bool (decide (t ∈ C.keys))] := by
  rw [look_came, mget_came, Option.isSome_map]
  by_cases h : t ∈ C.keys
  · obtain ⟨x, _, _, h3⟩ := entry_some h
    rw [h3]; simp [h]
  · rw [entry_none h]; simp [h]
theorem put_came {C : Cm} {t s k : Nat} (h : t ∉ C.keys) (h0 : t ≠ 0) : mput (t : Int) (.agg #[.int .i64 s, .int .i64 k]) (mapC C) = mapC (C ++ [(t, s, k)]) := by
  rw [mput_new _ _ _ (by rw [mget_came, entry_none h]; rfl)]
  simp [mapC, stepVal, h0]
/-- What the reference's rows tell. -/
def fromA (C : Cm) (t : Nat) : Int := match Dfa.entry C t with
  | none => -1
  | some x => x.2.1
def byA (C : Cm) (t : Nat) : Int := match Dfa.entry C t with
  | none => 0
  | some x => x.2.2
theorem entry_app {C : Cm} {x : Nat × Nat × Nat} (h : x.1 ∉ C.keys) (t : Nat) : Dfa.entry (C ++ [x]) t = if t = x.1 then some x else Dfa.entry C t := by
  by_cases ht : t = x.1
  · subst ht
    have h1 := entry_none h
    rw [if_pos rfl]
    rw [Dfa.entry] at h1 ⊢
    rw [List.find?_append, h1]; simp
  · rw [if_neg ht]
    have : ¬ x.1 = t := fun e => ht e.symm
    simp only [Dfa.entry, List.find?_append, List.find?_cons, this, decide_false, List.find?_nil, Option.or_none]
theorem fromA_app {C : Cm} {x : Nat × Nat × Nat} (h : x.1 ∉ C.keys) (t : Nat) : iV (fromA (C ++ [x]) t) = if t = x.1 then iV x.2.1 else iV (fromA C t) := by
  rw [fromA, entry_app h]
  by_cases ht : t = x.1 <;> simp [ht, fromA]
theorem byA_app {C : Cm} {x : Nat × Nat × Nat} (h : x.1 ∉ C.keys) (t : Nat) : iV (byA (C ++ [x]) t) = if t = x.1 then iV x.2.2 else iV (byA C t) := by
  rw [byA, entry_app h]
  by_cases ht : t = x.1 <;> simp [ht, byA]
theorem fromA_neg (C : Cm) (t : Nat) : decide (fromA C t < 0) = !decide (t ∈ C.keys) := by
  by_cases h : t ∈ C.keys
  · obtain ⟨x, _, _, h3⟩ := entry_some h
    simp [fromA, h3, h]
  · simp [fromA, entry_none h, h]
end Dfa
/-- A list after some swaps of its ends. -/
def swp (xs : List Int) (i k : Nat) : Int := if k < i ∨ xs.length ≤ k + i then xs.getD (xs.length - 1 - k) 0 else xs.getD k 0
theorem swp_zero (xs : List Int) : (List.range xs.length).map (fun k => iV (swp xs 0 k)) = xs.map iV := by
  refine List.ext_getElem (by simp) fun j h1 h2 => ?_
  simp only [List.length_map] at h2
  simp [swp, List.getD, h2]
  omega
theorem swp_end {xs : List Int} {i : Nat} (h : xs.length ≤ 2 * i + 1) : (List.range xs.length).map (fun k => iV (swp xs i k)) = xs.reverse.map iV := by
  refine List.ext_getElem (by simp) fun j h1 h2 => ?_
  simp only [List.length_map, List.length_reverse] at h2
  simp only [List.getElem_map, List.getElem_range, List.getElem_reverse, swp]
  split
  · simp [List.getD, show xs.length - 1 - j < xs.length by omega]
  · have : xs.length - 1 - j = j := by omega
    simp [List.getD, h2, this]
theorem swp_next {xs : List Int} {i : Nat} (h : 2 * i + 1 < xs.length) (k : Nat) (hk : k < xs.length) : iV (swp xs (i + 1) k) = if k = xs.length - 1 - i then iV (swp xs i i) else if k = i then iV (swp xs i (xs.length - 1 - i)) else iV (swp xs i k) := by
  by_cases h1 : k = xs.length - 1 - i
  · subst h1
    rw [if_pos rfl]
    simp only [swp]
    rw [if_pos (by omega), if_neg (by omega), show xs.length - 1 - (xs.length - 1 - i) = i by omega]
  · rw [if_neg h1]
    by_cases h2 : k = i
    · subst h2
      rw [if_pos rfl]
      simp only [swp]
      rw [if_pos (by omega), if_neg (by omega)]
    · rw [if_neg h2]
      simp only [swp]
      by_cases h3 : k < i ∨ xs.length ≤ k + i
      · rw [if_pos h3, if_pos (by omega)]
      · rw [if_neg h3, if_neg (by omega)]

theorem reverse_in (ob : Nat → Nat → Ob) (g1 d1 : Nat) (xs : List Int) (ho : ob g1 d1 = .row 3 (xs.map iV)) (hl : xs.length ≤ 1000000000) : FnI Try.prog 48 [.row g1 d1 xs.length] ob (.tup []) (updO ob g1 d1 (.row 3 (xs.reverse.map iV))) := by
  refine FnI.of (fn := Try.f48) ⟨Try.func48, by kernel_rfl, rfl⟩ Try.ntmps48 (by simp) fun w0 S0 frs g => ?_
  refine p_seq (p_region fun hf => ?_)
  refine p_move (h := ?_)
  refine p_len (ht := Try.underlying26) (h := ?_)
  refine p_sub (hr := rfl) (hb := by omega) (h := ?_)
  refine p_assign (h := ?_)
  refine p_assign (h := ?_)
  refine p_end ?_
  refine TrC.block ?_
  refine p_loop (fun st => ∃ i : Nat, i ≤ xs.length ∧ st.env 0 = .row g1 d1 xs.length ∧ st.env 2 = iV i ∧ st.env 3 = iV ((xs.length : Int) - 1 - i) ∧ st.obj = updO ob g1 d1 (.row 3 ((List.range xs.length).map fun k => iV (swp xs i k)))) (fun st => xs.length - (st.env 2).toN) ?_ fun e ob g1 hI => ?_
  · exact ⟨0, by omega, eV_, eV_, by refine Eq.trans eV_ ?_; simp, by rw [swp_zero]; exact (updO_self ho).symm⟩
  · obtain ⟨i, hi, e0, e2, e3, ho'⟩ := hI
    dsimp only at e0 e2 e3
    have hE := (⟨e0, e2, e3⟩ : _ ∧ _ ∧ _)
    dsimp only at ho'
    subst ho'
    refine p_seq ?_
    refine p_seq (p_region fun hf => ?_)
    refine p_move (h := ?_)
    refine p_move (h := ?_)
    refine p_num (h := ?_)
    refine p_end ?_
    refine p_splitC (s := 9) (ht := fun hc9 => ?_) (hf := fun hc9 => ?_)
    · refine p_condT (h := ?_)
      have hlt : 2 * i + 1 < xs.length := by simp at hc9; omega
      refine p_skip ?_
      refine p_seq ?_
      refine TrC.block ?_
      refine p_draw F.mixed fun hf => ?_
      refine p_move (h := ?_)
      refine p_move (h := ?_)
      refine p_move (h := ?_)
      refine p_move (h := ?_)
      refine p_move (h := ?_)
      refine p_move (h := ?_)
      refine p_idxRowN ((xs.length - 1 - i)) (ht := Try.underlying26) (hi := F.ti3) (hij := by omega) (hlt := by omega) (h := ?_)
      refine p_loadRowF (ht := F.leaf3) (hi := by omega) (h := ?_)
      refine p_move (h := ?_)
      refine p_move (h := ?_)
      refine p_idxRowN (i) (ht := Try.underlying26) (hi := F.ti3) (hij := rfl) (hlt := by omega) (h := ?_)
      refine p_loadRowF (ht := F.leaf3) (hi := by omega) (h := ?_)
      refine p_idxRowN (i) (ht := Try.underlying26) (hi := F.ti3) (hij := rfl) (hlt := by omega) (h := ?_)
      refine p_storeRowF (f' := fun k => if k = i then iV (swp xs i (xs.length - 1 - i)) else iV (swp xs i k)) F.ti3 (TI.cells F.ti3) (hlt := by omega) (hf := fun k _ => rfl) (h := ?_)
      refine p_idxRowN ((xs.length - 1 - i)) (ht := Try.underlying26) (hi := F.ti3) (hij := by omega) (hlt := by omega) (h := ?_)
      refine p_storeRowF (f' := fun k => iV (swp xs (i + 1) k)) F.ti3 (TI.cells F.ti3) (hlt := by omega) (hf := fun k hk => swp_next (by omega) k hk) (h := ?_)
      refine p_endD ?_
      refine p_region fun hf => ?_
      refine p_move (h := ?_)
      refine p_add (r := ((i + 1 : Nat) : Int)) (hr := by omega) (hb := by omega) (h := ?_)
      refine p_move (h := ?_)
      refine p_sub (hr := rfl) (hb := by omega) (h := ?_)
      refine p_assign (h := ?_)
      refine p_assign (h := ?_)
      refine p_end ?_
      refine p_some ?_
      refine ⟨⟨i + 1, by omega, eV_, eV_, by rw [show ((xs.length : Int) - 1 - ((i + 1 : Nat) : Int)) = (xs.length : Int) - 1 - i - 1 by omega]; exact eV_, by simp only [updO_upd]⟩, ?_⟩
      simp (decide := true) only [upd, e2, V.toN, ↓reduceIte]; omega
    · refine p_condF (h := ?_)
      have hge : xs.length ≤ 2 * i + 1 := by simp at hc9; omega
      refine p_exit ?_
      refine p_retI0 rfl ⟨rfl, ?_⟩
      rw [swp_end hge]

end Go.Proofs.Ytdpljpmohpifbaa
