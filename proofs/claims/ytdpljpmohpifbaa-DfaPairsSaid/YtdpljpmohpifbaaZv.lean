/-
  Plain law: the first word that is told is the least of those that are taken: of the least length, and of these the first one.
-/
import Derived.Test.YtdpljpmohpifbaaZu
set_option linter.unusedSimpArgs false
set_option linter.unusedVariables false
namespace Go.Proofs.Ytdpljpmohpifbaa
open Go.RowKit
/-- Words from their ends, by length, then in order. -/
def rl : List Int → List Int → Prop
  | _, [] => False
  | [], _ :: _ => True
  | x :: u, y :: v => rl u v ∨ (u = v ∧ x < y)
theorem rl_nil (u : List Int) : ¬ rl u [] := by cases u <;> simp [rl]
theorem rl_cons {x y : Int} {u v : List Int} : rl (x :: u) (y :: v) ↔ rl u v ∨ (u = v ∧ x < y) := Iff.rfl
theorem rl_irr : ∀ u, ¬ rl u u
  | [] => rl_nil _
  | x :: u => fun h => by
    rcases rl_cons.1 h with h | h
    · exact rl_irr u h
    · omega
theorem rl_trans : ∀ {u v w : List Int}, rl u v → rl v w → rl u w
  | _, [], _, h, _ => (rl_nil _ h).elim
  | _, _ :: _, [], _, h => (rl_nil _ h).elim
  | [], _ :: _, _ :: _, _, _ => trivial
  | x :: u, y :: v, z :: w, h1, h2 => by
    rw [rl_cons] at h1 h2 ⊢
    rcases h1 with h1 | ⟨rfl, h1⟩
    · rcases h2 with h2 | ⟨rfl, h2⟩
      · exact .inl (rl_trans h1 h2)
      · exact .inl h1
    · rcases h2 with h2 | ⟨rfl, h2⟩
      · exact .inl h2
      · exact .inr ⟨rfl, by omega⟩
/-- At most. -/
def re (u v : List Int) : Prop := u = v ∨ rl u v
theorem re_trans {u v w : List Int} (h1 : re u v) (h2 : re v w) : re u w := by
  rcases h1 with rfl | h1
  · exact h2
  · rcases h2 with rfl | h2
    · exact .inr h1
    · exact .inr (rl_trans h1 h2)
theorem re_cons {u v : List Int} (x : Int) (h : re u v) : re (x :: u) (x :: v) := by
  rcases h with rfl | h
  · exact .inl rfl
  · exact .inr (rl_cons.2 (.inl h))
theorem re_anti {u v : List Int} (h1 : re u v) (h2 : re v u) : u = v := by
  rcases h1 with rfl | h1
  · rfl
  · rcases h2 with rfl | h2
    · rfl
    · exact absurd (rl_trans h1 h2) (rl_irr _)
theorem rl_re {u v w : List Int} (h1 : rl u v) (h2 : re v w) : rl u w := by
  rcases h2 with rfl | h2
  · exact h1
  · exact rl_trans h1 h2
namespace Dfa
variable {d : Dfa} {C C' : Cm}
/-- The state behind a word that is told from its end. -/
def runB (d : Dfa) : List Int → Nat
  | [] => 0
  | x :: u => d.nx (runB d u) x.toNat
theorem run_rev (d : Dfa) (u : List Int) : d.run 0 u.reverse = d.runB u := by
  induction u with
  | nil => rfl
  | cons x u ih => rw [List.reverse_cons, run_more, ih]; rfl
theorem word_prefix (h : Came d C) (h' : Came d C') (hp : C <+: C') : ∀ (j : Nat) (x : Nat × Nat × Nat), C[j]? = some x → word C' x.1 = word C x.1 := by
  intro j
  induction j using Nat.strongRecOn with
  | _ j ih =>
    intro x hx
    by_cases h0 : x.1 = 0
    · rw [h0, word_zero, word_zero]
    · have hm := List.mem_of_getElem? hx
      obtain ⟨h1, _⟩ := word_up h hm h0
      obtain ⟨h2, _⟩ := word_up h' (hp.subset hm) h0
      have hj : 0 < j := by
        rcases Nat.eq_zero_or_pos j with e | e
        · subst e; rw [h.root] at hx; exact absurd (by rw [← Option.some.inj hx]) h0
        · exact e
      obtain ⟨_, i, y, h3, h4, h5⟩ := h.up j x hx hj
      rw [h1, h2, ← h5, ih i h3 y h4]
theorem word_keep (h : Came d C) (h' : Came d C') (hp : C <+: C') {t : Nat} (ht : t ∈ C.keys) : word C' t = word C t := by
  obtain ⟨x, hx, rfl⟩ := List.mem_map.1 ht
  obtain ⟨j, hj⟩ := List.mem_iff_getElem?.1 hx
  exact word_prefix h h' hp j x hj
/-- Each state is behind its word. -/
def Stp' (d : Dfa) (C : Cm) : Prop := ∀ x ∈ C, x.1 ≠ 0 → d.nx x.2.1 x.2.2 = x.1 ∧ (x.2.2 : Int) < d.sym
def inB (d : Dfa) (u : List Int) : Prop := ∀ x ∈ u, 0 ≤ x ∧ x < d.sym
theorem word_runs (h : Came d C) (hs : Stp' d C) : ∀ (j : Nat) (x : Nat × Nat × Nat), C[j]? = some x → d.runB (word C x.1) = x.1 ∧ d.inB (word C x.1) := by
  intro j
  induction j using Nat.strongRecOn with
  | _ j ih =>
    intro x hx
    by_cases h0 : x.1 = 0
    · rw [h0, word_zero]; exact ⟨rfl, fun x hx => by simp at hx⟩
    · have hm := List.mem_of_getElem? hx
      obtain ⟨h1, _⟩ := word_up h hm h0
      obtain ⟨h2, h2'⟩ := hs x hm h0
      have hj : 0 < j := by
        rcases Nat.eq_zero_or_pos j with e | e
        · subst e; rw [h.root] at hx; exact absurd (by rw [← Option.some.inj hx]) h0
        · exact e
      obtain ⟨_, i, y, h3, h4, h5⟩ := h.up j x hx hj
      obtain ⟨h6, h7⟩ := ih i h3 y h4
      rw [h1, ← h5]
      refine ⟨?_, fun z hz => ?_⟩
      · rw [runB, h6, h5, Int.toNat_natCast, h2]
      · rcases List.mem_cons.1 hz with rfl | hz
        · exact ⟨by omega, h2'⟩
        · exact h7 z hz
/-- The words of the states that are met rise; and all are below f. -/
def Rise (C : Cm) : Prop := ∀ (i j : Nat) (x y : Nat × Nat × Nat), C[i]? = some x → C[j]? = some y → i < j → rl (word C x.1) (word C y.1)
def Below (C : Cm) (f : List Int) : Prop := ∀ x ∈ C, rl (word C x.1) f
theorem Rise.add {z : Nat × Nat × Nat} (h : Came d C) (h' : Came d (C ++ [z])) (hr : Rise C) (hb : Below C (word (C ++ [z]) z.1)) : Rise (C ++ [z]) := by
  intro i j x y hx hy hij
  have hjl := (List.getElem?_eq_some_iff.1 hy).1
  simp only [List.length_append, List.length_cons, List.length_nil] at hjl
  have hx' : C[i]? = some x := by rw [List.getElem?_append_left (by omega)] at hx; exact hx
  rw [word_prefix h h' (List.prefix_append _ _) i x hx']
  by_cases hj : j < C.length
  · have hy' : C[j]? = some y := by rw [List.getElem?_append_left hj] at hy; exact hy
    rw [word_prefix h h' (List.prefix_append _ _) j y hy']
    exact hr i j x y hx' hy' hij
  · obtain rfl : j = C.length := by omega
    obtain rfl : z = y := by simpa using hy
    exact hb x (List.mem_of_getElem? hx')
theorem row_law (ho : d.Ok) (h : Came d C) (hst : Stp' d C) (hr : Rise C) {s : Nat} (hs : s ∈ C.keys) (hb : Below C (0 :: word C s)) : ∀ k : Nat, (k : Int) ≤ d.sym →
    Stp' d (cameRow d s C k) ∧ Rise (cameRow d s C k) ∧ Below (cameRow d s C k) ((k : Int) :: word C s) ∧ ∀ y : Nat, y < k → d.nx s y ∈ (cameRow d s C k).keys ∧ re (word (cameRow d s C k) (d.nx s y)) ((y : Int) :: word C s)
  | 0, _ => ⟨hst, hr, hb, fun y hy => by omega⟩
  | k + 1, hk => by
    obtain ⟨i1, i2, i3, i4⟩ := row_law ho h hst hr hs hb k (by omega)
    have hc := cameRow_came ho h hs k (by omega)
    have hc' := cameRow_came ho h hs (k + 1) hk
    have hup : ∀ u, rl u ((k : Int) :: word C s) → rl u (((k + 1 : Nat) : Int) :: word C s) := fun u hu => rl_trans hu (rl_cons.2 (.inr ⟨rfl, by omega⟩))
    by_cases hm : d.nx s k ∈ (cameRow d s C k).keys
    · rw [cameRow, if_pos hm]
      refine ⟨i1, i2, fun x hx => hup _ (i3 x hx), fun y hy => ?_⟩
      rcases Nat.lt_succ_iff_lt_or_eq.1 hy with hy | rfl
      · exact i4 y hy
      · refine ⟨hm, ?_⟩
        obtain ⟨x, hx, he⟩ := List.mem_map.1 hm
        rw [← he]; exact .inr (i3 x hx)
    · have hsn : s < d.n := by obtain ⟨x, hx, rfl⟩ := List.mem_map.1 hs; exact h.lt x hx
      rw [cameRow, if_neg hm] at hc' ⊢
      have h0 : d.nx s k ≠ 0 := fun e => hm (e ▸ hc.zero)
      have hpre := List.prefix_append (cameRow d s C k) [(d.nx s k, s, k)]
      have hw : word (cameRow d s C k ++ [(d.nx s k, s, k)]) (d.nx s k) = (k : Int) :: word C s := by
        have := (word_up hc' (x := (d.nx s k, s, k)) (by simp) h0).1
        rw [this, word_keep h hc' ((cameRow_prefix d s C k).trans hpre) hs]
      refine ⟨fun x hx hx0 => ?_, Rise.add hc hc' i2 (by show Below _ (word _ (d.nx s k)); rw [hw]; exact i3), fun x hx => ?_, fun y hy => ?_⟩
      · rcases List.mem_append.1 hx with hx | hx
        · exact i1 x hx hx0
        · rw [List.mem_singleton.1 hx]; exact ⟨rfl, by show (k : Int) < d.sym; omega⟩
      · rcases List.mem_append.1 hx with hx | hx
        · rw [word_keep hc hc' hpre (List.mem_map.2 ⟨x, hx, rfl⟩)]; exact hup _ (i3 x hx)
        · rw [List.mem_singleton.1 hx]
          show rl (word _ (d.nx s k)) _
          rw [hw]; exact rl_cons.2 (.inr ⟨rfl, by omega⟩)
      · rcases Nat.lt_succ_iff_lt_or_eq.1 hy with hy | rfl
        · obtain ⟨k1, k2⟩ := i4 y hy
          exact ⟨keys_sub hpre k1, by rw [word_keep hc hc' hpre k1]; exact k2⟩
        · exact ⟨List.mem_map.2 ⟨_, List.mem_append_right _ (List.mem_singleton.2 rfl), rfl⟩, by rw [hw]; exact .inl rfl⟩
structure Law (d : Dfa) (C : Cm) (i : Nat) : Prop where
  came : Came d C
  stp : Stp' d C
  rise : Rise C
  below : ∀ x, C[i]? = some x → Below C (0 :: word C x.1)
  done : ∀ (j : Nat) x, j < i → C[j]? = some x → ∀ y : Nat, (y : Int) < d.sym → d.nx x.1 y ∈ C.keys ∧ re (word C (d.nx x.1 y)) ((y : Int) :: word C x.1)
theorem cameAt_law (ho : d.Ok) : ∀ i, Law d (cameAt d i) i
  | 0 => by
    refine ⟨cameAt_came ho 0, fun x hx h0 => ?_, fun i j x y hx hy hij => ?_, fun x hx z hz => ?_, fun j x hj => by omega⟩
    · simp [cameAt] at hx; subst hx; exact absurd rfl h0
    · have := (List.getElem?_eq_some_iff.1 hy).1
      simp [cameAt] at this; omega
    · simp [cameAt] at hz; subst hz; rw [word_zero]; trivial
  | i + 1 => by
    obtain ⟨h1, h2, h3, h4, h5⟩ := cameAt_law ho i
    have hc := cameAt_came ho (i + 1)
    cases hx : (cameAt d i)[i]? with
    | none =>
      have he : cameAt d (i + 1) = cameAt d i := by rw [cameAt, hx]
      rw [he]
      have hl : (cameAt d i).length ≤ i := by simpa using hx
      refine ⟨h1, h2, h3, fun x hx' => ?_, fun j x hj hjx => ?_⟩
      · rw [List.getElem?_eq_none (by omega)] at hx'; cases hx'
      · have := (List.getElem?_eq_some_iff.1 hjx).1
        exact h5 j x (by omega) hjx
    | some x =>
      have he := cameAt_next hx
      have hk : x.1 ∈ (cameAt d i).keys := List.mem_map.2 ⟨x, List.mem_of_getElem? hx, rfl⟩
      have hs0 := ho.sym0
      have hsm : ((d.sym.toNat : Nat) : Int) = d.sym := by omega
      obtain ⟨r1, r2, r3, r4⟩ := row_law ho h1 h2 h3 hk (h4 x hx) d.sym.toNat (by omega)
      have hpre := cameRow_prefix d x.1 (cameAt d i) d.sym.toNat
      rw [he] at hc ⊢
      refine ⟨hc, r1, r2, fun y hy z hz => ?_, fun j y hj hjy w hw => ?_⟩
      · have hlt := (List.getElem?_eq_some_iff.1 hx).1
        have hxe : (cameRow d x.1 (cameAt d i) d.sym.toNat)[i]? = some x := by
          obtain ⟨t, ht⟩ := hpre
          rw [← ht, List.getElem?_append_left hlt]; exact hx
        have hup := r2 i (i + 1) x y hxe hy (by omega)
        rw [word_keep h1 hc hpre hk] at hup
        have hz' := r3 z hz
        obtain ⟨jz, hjz⟩ := List.mem_iff_getElem?.1 hz
        have hin := (word_runs hc r1 jz z hjz).2
        cases hwz : word (cameRow d x.1 (cameAt d i) d.sym.toNat) z.1 with
        | nil => trivial
        | cons a v =>
          rw [hwz] at hz' hin
          have ha := hin a (by simp)
          rw [rl_cons] at hz' ⊢
          rcases hz' with hz' | ⟨rfl, _⟩
          · exact .inl (rl_trans hz' hup)
          · exact .inl hup
      · rcases Nat.lt_succ_iff_lt_or_eq.1 hj with hj | rfl
        · have hlt : j < (cameAt d i).length := by have := (List.getElem?_eq_some_iff.1 hx).1; omega
          have hjy' : (cameAt d i)[j]? = some y := by
            obtain ⟨t, ht⟩ := hpre
            rw [← ht, List.getElem?_append_left hlt] at hjy; exact hjy
          obtain ⟨k1, k2⟩ := h5 j y hj hjy' w hw
          have hyk : y.1 ∈ (cameAt d i).keys := List.mem_map.2 ⟨y, List.mem_of_getElem? hjy', rfl⟩
          exact ⟨keys_sub hpre k1, by rw [word_keep h1 hc hpre k1, word_keep h1 hc hpre hyk]; exact k2⟩
        · have hlt := (List.getElem?_eq_some_iff.1 hx).1
          have hxe : (cameRow d x.1 (cameAt d j) d.sym.toNat)[j]? = some x := by
            obtain ⟨t, ht⟩ := hpre
            rw [← ht, List.getElem?_append_left hlt]; exact hx
          obtain rfl : x = y := by rw [hxe] at hjy; exact Option.some.inj hjy
          rw [word_keep h1 hc hpre hk]
          exact r4 w (by omega)
theorem cameAt_prefix (d : Dfa) : ∀ {i j : Nat}, i ≤ j → cameAt d i <+: cameAt d j := by
  intro i j hij
  induction hij with
  | refl => exact List.prefix_refl _
  | step _ ih =>
    refine ih.trans ?_
    rw [cameAt]
    split
    · exact cameRow_prefix _ _ _ _
    · exact List.prefix_refl _
theorem cameAt_stays {n : Nat} (h : (cameAt d n).length ≤ n) : ∀ k, cameAt d (n + k) = cameAt d n
  | 0 => rfl
  | k + 1 => by
    have ih := cameAt_stays h k
    rw [show n + (k + 1) = (n + k) + 1 by omega, cameAt, ih, List.getElem?_eq_none (by omega)]
/-- All states are met by their least words. -/
theorem met_least (ho : d.Ok) : ∀ u, d.inB u → d.runB u ∈ (cameAt d d.n).keys ∧ re (word (cameAt d d.n) (d.runB u)) u
  | [], _ => by
    have h := cameAt_came ho d.n
    exact ⟨h.zero, by rw [show d.runB [] = 0 from rfl, word_zero]; exact .inl rfl⟩
  | y :: u, hu => by
    obtain ⟨h1, h2⟩ := met_least ho u fun z hz => hu z (by simp [hz])
    have hl := cameAt_law ho d.n
    obtain ⟨x, hx, he⟩ := List.mem_map.1 h1
    obtain ⟨j, hj⟩ := List.mem_iff_getElem?.1 hx
    have hjl := (List.getElem?_eq_some_iff.1 hj).1
    have := hl.came.len
    have hy := hu y (by simp)
    obtain ⟨k1, k2⟩ := hl.done j x (by omega) hj y.toNat (by omega)
    rw [he] at k1 k2
    rw [show ((y.toNat : Nat) : Int) = y by omega] at k2
    exact ⟨k1, re_trans k2 (re_cons y h2)⟩
theorem first_scan (d : Dfa) : ∀ f i, (∀ j, j < i → ∃ x, (cameAt d j)[j]? = some x ∧ d.ac x.1 = false) → ∃ n, (∀ j, j < n → ∃ x, (cameAt d j)[j]? = some x ∧ d.ac x.1 = false) ∧ ((n = i + f ∧ d.firstF f i = ([], false)) ∨ ((cameAt d n).length ≤ n ∧ d.firstF f i = ([], false)) ∨ ∃ x, (cameAt d n)[n]? = some x ∧ d.ac x.1 = true ∧ d.firstF f i = ((word (cameAt d n) x.1).reverse, true))
  | 0, i, h => ⟨i, h, .inl ⟨by omega, rfl⟩⟩
  | f + 1, i, h => by
    rw [firstF]
    cases hx : (cameAt d i)[i]? with
    | none => exact ⟨i, h, .inr (.inl ⟨by simpa using hx, rfl⟩)⟩
    | some x =>
      cases ha : d.ac x.1 with
      | true => exact ⟨i, h, .inr (.inr ⟨x, hx, ha, by simp only [ha, ↓reduceIte]⟩)⟩
      | false =>
        obtain ⟨n, h1, h2⟩ := first_scan d f (i + 1) fun j hj => by
          rcases Nat.lt_succ_iff_lt_or_eq.1 hj with hj | rfl
          · exact h j hj
          · exact ⟨x, hx, ha⟩
        refine ⟨n, h1, ?_⟩
        simp only [ha, Bool.false_eq_true, ↓reduceIte]
        rcases h2 with ⟨h2, h3⟩ | h2
        · exact .inl ⟨by omega, h3⟩
        · exact .inr h2
theorem getElem?_prefix {α : Type} {l l' : List α} (h : l <+: l') {j : Nat} {x : α} (hj : l[j]? = some x) : l'[j]? = some x := by
  obtain ⟨t, rfl⟩ := h
  rw [List.getElem?_append_left (List.getElem?_eq_some_iff.1 hj).1]; exact hj
/-- The first word: none is taken; or it is taken, and at most all that are. -/
theorem first_law (ho : d.Ok) : (d.firstR = ([], false) ∧ ∀ u, d.inB u → d.ac (d.runB u) = false) ∨ ∃ w, d.firstR = (w.reverse, true) ∧ d.inB w ∧ d.ac (d.runB w) = true ∧ ∀ u, d.inB u → d.ac (d.runB u) = true → re w u := by
  have hlaw := cameAt_law ho d.n
  have hlen := hlaw.came.len
  obtain ⟨n, h1, h2⟩ := first_scan d (d.n + 1) 0 fun j hj => by omega
  have none : (cameAt d d.n).length ≤ n → ∀ u, d.inB u → d.ac (d.runB u) = false := fun hn u hu => by
    obtain ⟨k1, _⟩ := met_least ho u hu
    obtain ⟨x, hx, he⟩ := List.mem_map.1 k1
    obtain ⟨j, hj⟩ := List.mem_iff_getElem?.1 hx
    have hjl := (List.getElem?_eq_some_iff.1 hj).1
    obtain ⟨y, hy, ha⟩ := h1 j (by omega)
    have := getElem?_prefix (cameAt_prefix d (show j ≤ d.n by omega)) hy
    rw [hj] at this
    obtain rfl := Option.some.inj this
    rw [← he]; exact ha
  rcases h2 with ⟨h2, h3⟩ | ⟨h2, h3⟩ | ⟨x, hx, ha, h3⟩
  · exact .inl ⟨h3, none (by omega)⟩
  · refine .inl ⟨h3, none ?_⟩
    by_cases hnn : n ≤ d.n
    · have : cameAt d d.n = cameAt d n := by
        have := cameAt_stays h2 (d.n - n)
        rwa [show n + (d.n - n) = d.n by omega] at this
      rw [this]; exact h2
    · omega
  · have hnl := (List.getElem?_eq_some_iff.1 hx).1
    have hn1 := (cameAt_came ho n).len
    have hpre := cameAt_prefix d (show n ≤ d.n by omega)
    have hxN := getElem?_prefix hpre hx
    have hw := word_prefix (cameAt_came ho n) hlaw.came hpre n x hx
    have hrun := word_runs (cameAt_came ho n) (cameAt_law ho n).stp n x hx
    refine .inr ⟨word (cameAt d n) x.1, h3, hrun.2, by rw [hrun.1]; exact ha, fun u hu hau => ?_⟩
    obtain ⟨k1, k2⟩ := met_least ho u hu
    obtain ⟨y, hy, he⟩ := List.mem_map.1 k1
    obtain ⟨j, hj⟩ := List.mem_iff_getElem?.1 hy
    have hnj : n ≤ j := by
      rcases Nat.lt_or_ge j n with hjn | hjn
      · obtain ⟨y', hy', ha'⟩ := h1 j hjn
        have := getElem?_prefix (cameAt_prefix d (show j ≤ d.n by omega)) hy'
        rw [hj] at this
        obtain rfl := Option.some.inj this
        have he' : y.1 = d.runB u := he
        rw [he', hau] at ha'; cases ha'
      · exact hjn
    rw [← hw]
    rcases Nat.eq_or_lt_of_le hnj with rfl | hlt
    · rw [hxN] at hj
      obtain rfl := Option.some.inj hj
      have he' : x.1 = d.runB u := he
      rw [he']; exact k2
    · have := hlaw.rise n j x y hxN hj hlt
      have he' : y.1 = d.runB u := he
      rw [he'] at this
      exact .inr (rl_re this k2)
theorem takes_rev (d : Dfa) (u : List Int) : d.takes u.reverse = d.ac (d.runB u) := by rw [takes, run_rev]
theorem inB_rev {d : Dfa} {u : List Int} (h : d.inB u) : d.fitsW u.reverse := fun x hx => h x (by simpa using hx)
/-- Automata that take the same words have the same first one. -/
theorem first_same {a b : Dfa} (ha : a.Ok) (hb : b.Ok) (hs : a.sym = b.sym) (h : ∀ w, a.fitsW w → a.takes w = b.takes w) : a.firstR = b.firstR := by
  have hin : ∀ u, a.inB u ↔ b.inB u := fun u => by simp only [inB, hs]
  have heq : ∀ u, a.inB u → a.ac (a.runB u) = b.ac (b.runB u) := fun u hu => by rw [← takes_rev, ← takes_rev]; exact h _ (inB_rev hu)
  rcases first_law ha with ⟨a1, a2⟩ | ⟨w, a1, a2, a3, a4⟩
  · rcases first_law hb with ⟨b1, b2⟩ | ⟨v, b1, b2, b3, b4⟩
    · rw [a1, b1]
    · have := a2 v ((hin v).2 b2)
      rw [heq v ((hin v).2 b2), b3] at this; cases this
  · rcases first_law hb with ⟨b1, b2⟩ | ⟨v, b1, b2, b3, b4⟩
    · have := b2 w ((hin w).1 a2)
      rw [← heq w a2, a3] at this; cases this
    · rw [a1, b1, re_anti (a4 v ((hin v).2 b2) (by rw [heq v ((hin v).2 b2)]; exact b3)) (b4 w ((hin w).1 a2) (by rw [← heq w a2]; exact a3))]
theorem first_none_iff (ha : d.Ok) : d.firstR.2 = false ↔ ∀ w, d.fitsW w → d.takes w = false := by
  rcases first_law ha with ⟨a1, a2⟩ | ⟨w, a1, a2, a3, a4⟩
  · rw [a1]
    refine ⟨fun _ w hw => ?_, fun _ => rfl⟩
    have := a2 w.reverse fun x hx => hw x (by simpa using hx)
    rw [← takes_rev, List.reverse_reverse] at this; exact this
  · rw [a1]
    refine ⟨fun h => (by cases h), fun h => ?_⟩
    have := h w.reverse (inB_rev a2)
    rw [takes_rev, a3] at this; cases this
end Dfa
end Go.Proofs.Ytdpljpmohpifbaa
