/-
  Plain laws on deterministic automata: the classes of states that take the same words; automata of the states that are met.
-/
import Derived.Test.YtdpljpmohpifbaaZa
set_option linter.unusedSimpArgs false
set_option linter.unusedVariables false
namespace Go.Proofs.Ytdpljpmohpifbaa
structure Dfa where
  sym : Int
  next : List (List Int)
  acc : List Bool
namespace Dfa
def n (d : Dfa) : Nat := d.next.length
def row (d : Dfa) (i : Nat) : List Int := d.next.getD i []
def nx (d : Dfa) (i k : Nat) : Nat := ((d.row i).getD k 0).toNat
def ac (d : Dfa) (i : Nat) : Bool := d.acc.getD i false
def outB (n x : Int) : Bool := decide (x < 0) || decide (n ≤ x)
def headBad (d : Dfa) : Bool := decide (d.sym < 0) || decide (4096 < d.sym) || decide ((d.next.length : Int) < 1) || decide (1024 < (d.next.length : Int)) || decide ((d.acc.length : Int) ≠ d.next.length) || decide (65536 < (d.next.length : Int) * d.sym)
def rowBad (d : Dfa) (r : List Int) : Bool := decide ((r.length : Int) ≠ d.sym) || r.any (outB d.next.length)
def good (d : Dfa) : Bool := !d.headBad && !d.next.any d.rowBad
def err (d : Dfa) : Int := if d.good then 0 else 90
/-- What an automaton that may be has. -/
structure Ok (d : Dfa) : Prop where
  sym0 : 0 ≤ d.sym
  sym1 : d.sym ≤ 4096
  n0 : 1 ≤ d.n
  n1 : d.n ≤ 1024
  acc : d.acc.length = d.n
  rows : ∀ r ∈ d.next, (r.length : Int) = d.sym ∧ ∀ x ∈ r, 0 ≤ x ∧ x < d.n
theorem ok_of {d : Dfa} (h : d.good = true) : d.Ok := by
  simp only [good, headBad, Bool.and_eq_true, Bool.not_eq_true', Bool.or_eq_false_iff, decide_eq_false_iff_not, List.any_eq_false] at h
  obtain ⟨⟨⟨⟨⟨⟨h1, h2⟩, h3⟩, h4⟩, h5⟩, h6⟩, h7⟩ := h
  have hn : d.n = d.next.length := rfl
  refine ⟨by omega, by omega, by omega, by omega, by omega, fun r hr => ?_⟩
  have h8 := h7 r hr
  simp only [rowBad, Bool.not_eq_true, Bool.or_eq_false_iff, decide_eq_false_iff_not, List.any_eq_false] at h8
  refine ⟨by omega, fun x hx => ?_⟩
  have := h8.2 x hx
  simp [outB] at this
  omega
theorem Ok.row_len {d : Dfa} (h : d.Ok) {i : Nat} (hi : i < d.n) : ((d.row i).length : Int) = d.sym := by
  have : d.row i = d.next[i] := by simp [row, List.getD, List.getElem?_eq_getElem hi]
  rw [this]; exact (h.rows _ (List.getElem_mem hi)).1
theorem Ok.row_in {d : Dfa} (h : d.Ok) {i : Nat} (hi : i < d.n) : ∀ x ∈ d.row i, 0 ≤ x ∧ x < d.n := by
  have : d.row i = d.next[i] := by simp [row, List.getD, List.getElem?_eq_getElem hi]
  rw [this]; exact (h.rows _ (List.getElem_mem hi)).2
theorem Ok.nx_lt {d : Dfa} (h : d.Ok) {i k : Nat} (hi : i < d.n) (hk : (k : Int) < d.sym) : d.nx i k < d.n := by
  have hl := h.row_len hi
  have hk' : k < (d.row i).length := by omega
  have := h.row_in hi _ (List.getElem_mem hk')
  simp only [nx, List.getD, List.getElem?_eq_getElem hk', Option.getD_some]
  omega
/-- What a state's class and those behind it are. -/
def sig (d : Dfa) (f : Nat → Nat) (i : Nat) : List Nat := f i :: (d.row i).map fun t => f t.toNat
def ofs (d : Dfa) : Nat → Nat → Nat
  | 0, i => if d.ac i then 1 else 0
  | k + 1, i => rank (d.sig (d.ofs k)) d.n i
def cnt (d : Dfa) : Nat → Nat
  | 0 => 0
  | k + 1 => (firsts (d.sig (d.ofs k)) d.n).length
theorem cnt_le (d : Dfa) : ∀ k, d.cnt k ≤ d.n
  | 0 => Nat.zero_le _
  | k + 1 => firsts_le _ _
theorem sig_finer (d : Dfa) (k : Nat) {i j : Nat} (hi : i < d.n) (hj : j < d.n) (h : d.sig (d.ofs (k + 1)) i = d.sig (d.ofs (k + 1)) j) : d.sig (d.ofs k) i = d.sig (d.ofs k) j := by
  have h1 : d.ofs (k + 1) i = d.ofs (k + 1) j := (List.cons.inj h).1
  exact rank_inj _ hi hj h1
theorem cnt_mono (d : Dfa) : ∀ k, d.cnt k ≤ d.cnt (k + 1)
  | 0 => Nat.zero_le _
  | k + 1 => firsts_mono d.n fun _ _ hi hj h => d.sig_finer k hi hj h
theorem cnt_grows (d : Dfa) : ∀ k, (∀ j, j < k → d.cnt (j + 1) ≠ d.cnt j) → k ≤ d.cnt k
  | 0, _ => Nat.zero_le _
  | k + 1, h => by
    have h1 := cnt_grows d k fun j hj => h j (by omega)
    have h2 := d.cnt_mono k
    have h3 := h k (by omega)
    omega
/-- How often the classes are refined. -/
def stop (d : Dfa) : Nat := ((List.range (d.n + 1)).find? fun k => decide (d.cnt (k + 1) = d.cnt k)).getD 0
theorem stop_is (d : Dfa) {k : Nat} (h : ∀ j, j < k → d.cnt (j + 1) ≠ d.cnt j) (hk : d.cnt (k + 1) = d.cnt k) : d.stop = k := by
  have h1 := d.cnt_grows k h
  have h2 := d.cnt_le k
  have h3 : (List.range (d.n + 1)).find? (fun k => decide (d.cnt (k + 1) = d.cnt k)) = some k := by
    rw [List.find?_range_eq_some]
    exact ⟨by simpa using hk, by simp; omega, fun j hj => by simpa using h j hj⟩
  rw [stop, h3]; rfl
theorem stop_stands (d : Dfa) : d.cnt (d.stop + 1) = d.cnt d.stop := by
  by_cases h : ∃ k, k ≤ d.n ∧ d.cnt (k + 1) = d.cnt k
  · have hs : ((List.range (d.n + 1)).find? fun k => decide (d.cnt (k + 1) = d.cnt k)).isSome := by
      rw [List.find?_isSome]
      obtain ⟨k, h1, h2⟩ := h
      exact ⟨k, by simp; omega, by simpa using h2⟩
    obtain ⟨k, hk⟩ := Option.isSome_iff_exists.1 hs
    have h2 := List.find?_some hk
    rw [stop, hk]; simpa using h2
  · have h1 := d.cnt_grows (d.n + 1) fun j hj e => h ⟨j, by omega, e⟩
    have h2 := d.cnt_le (d.n + 1)
    omega
/-- The class of a state. -/
def cls (d : Dfa) (i : Nat) : Nat := d.ofs (d.stop + 1) i
theorem cls_lt {d : Dfa} {i : Nat} (hi : i < d.n) : d.cls i < d.n := Nat.lt_of_lt_of_le (rank_lt _ hi) (firsts_le _ _)
theorem ofs_ac (d : Dfa) : ∀ k i j, i < d.n → j < d.n → d.ofs k i = d.ofs k j → d.ac i = d.ac j
  | 0, i, j, _, _, h => by
    simp only [ofs] at h
    cases h1 : d.ac i <;> cases h2 : d.ac j <;> simp_all
  | k + 1, i, j, hi, hj, h => by
    have h1 := rank_inj _ hi hj h
    exact ofs_ac d k i j hi hj (List.cons.inj h1).1
theorem cls_ac {d : Dfa} {i j : Nat} (hi : i < d.n) (hj : j < d.n) (h : d.cls i = d.cls j) : d.ac i = d.ac j := ofs_ac d _ i j hi hj h
theorem stop_pos {d : Dfa} (h : 1 ≤ d.n) : ∃ m, d.stop = m + 1 := by
  cases hs : d.stop with
  | succ m => exact ⟨m, rfl⟩
  | zero =>
    have h1 := d.stop_stands
    rw [hs] at h1
    simp only [cnt] at h1
    have h2 : d.sig (d.ofs 0) 0 ∈ firsts (d.sig (d.ofs 0)) d.n := mem_firsts.2 ⟨0, by omega, rfl⟩
    rw [List.eq_nil_of_length_eq_zero h1] at h2
    simp at h2
theorem cls_nx {d : Dfa} (h : d.Ok) {i j k : Nat} (hi : i < d.n) (hj : j < d.n) (hk : (k : Int) < d.sym) (he : d.cls i = d.cls j) : d.cls (d.nx i k) = d.cls (d.nx j k) := by
  obtain ⟨m, hm⟩ := stop_pos h.n0
  have hst := d.stop_stands
  have hf := rank_inj _ hi hj he
  rw [hm] at hst
  simp only [cnt] at hst
  rw [hm] at hf
  have hrow := (List.cons.inj hf).2
  have hil := h.row_len hi
  have hjl := h.row_len hj
  have hg : d.ofs (m + 1) (d.nx i k) = d.ofs (m + 1) (d.nx j k) := by
    have := congrArg (fun l => l.getD k 0) hrow
    have hki : k < (d.row i).length := by omega
    have hkj : k < (d.row j).length := by omega
    simp only [List.getD, List.getElem?_map, List.getElem?_eq_getElem hki, List.getElem?_eq_getElem hkj, Option.map_some, Option.getD_some] at this
    simpa only [nx, List.getD, List.getElem?_eq_getElem hki, List.getElem?_eq_getElem hkj, Option.getD_some] using this
  have h1 := rank_inj _ (h.nx_lt hi hk) (h.nx_lt hj hk) hg
  have h2 := stands (f := d.sig (d.ofs (m + 1))) (g := d.sig (d.ofs m)) (n := d.n) (fun a b ha hb e => d.sig_finer m ha hb e) hst.symm (h.nx_lt hi hk) (h.nx_lt hj hk) h1
  have h3 : d.cls = d.ofs (m + 1 + 1) := by funext x; rw [cls, hm]
  rw [h3]
  exact (rank_eq _ (h.nx_lt hi hk) (h.nx_lt hj hk)).2 h2
end Dfa
section grown
variable {κ κ' : Type} [DecidableEq κ] [DecidableEq κ']
/-- A state's row, and those that are met by it. -/
def rowAt (f : Nat → κ) (mc : List κ) : Nat → List κ × List Int
  | 0 => (mc, [])
  | k + 1 => if f k ∈ (rowAt f mc k).1 then ((rowAt f mc k).1, (rowAt f mc k).2 ++ [(((rowAt f mc k).1.idxOf (f k) : Nat) : Int)]) else ((rowAt f mc k).1 ++ [f k], (rowAt f mc k).2 ++ [((rowAt f mc k).1.length : Int)])
/-- The states that are met, the rows and what is taken, of the first i. -/
def metAt (nxt : κ → Nat → κ) (start : κ) (m : Nat) : Nat → List κ × List (List Int)
  | 0 => ([start], [])
  | i + 1 => match (metAt nxt start m i).1[i]? with
    | none => metAt nxt start m i
    | some s => ((rowAt (nxt s) (metAt nxt start m i).1 m).1, (metAt nxt start m i).2 ++ [(rowAt (nxt s) (metAt nxt start m i).1 m).2])
theorem rowAt_len (f : Nat → κ) (mc : List κ) : ∀ k, (rowAt f mc k).2.length = k
  | 0 => rfl
  | k + 1 => by rw [rowAt]; split <;> simp [rowAt_len f mc k]
theorem rowAt_prefix (f : Nat → κ) (mc : List κ) : ∀ k, mc <+: (rowAt f mc k).1
  | 0 => List.prefix_refl _
  | k + 1 => by
    rw [rowAt]; split
    · exact rowAt_prefix f mc k
    · exact (rowAt_prefix f mc k).trans (List.prefix_append _ _)
theorem rowAt_all {p : κ → Prop} {f : Nat → κ} {mc : List κ} (hm : ∀ s ∈ mc, p s) : ∀ k, (∀ j, j < k → p (f j)) → ∀ s ∈ (rowAt f mc k).1, p s
  | 0, _ => hm
  | k + 1, hf => by
    rw [rowAt]; split
    · exact rowAt_all hm k fun j hj => hf j (by omega)
    · intro s hs
      rcases List.mem_append.1 hs with h | h
      · exact rowAt_all hm k (fun j hj => hf j (by omega)) s h
      · rw [List.mem_singleton.1 h]; exact hf k (by omega)
theorem rowAt_nodup {f : Nat → κ} {mc : List κ} (hm : mc.Nodup) : ∀ k, (rowAt f mc k).1.Nodup
  | 0 => hm
  | k + 1 => by
    rw [rowAt]; split
    · exact rowAt_nodup hm k
    · rename_i h
      rw [List.nodup_append]
      exact ⟨rowAt_nodup hm k, by simp, fun a ha b hb => by simp at hb; subst hb; intro e; subst e; exact h ha⟩
theorem metAt_prefix (nxt : κ → Nat → κ) (start : κ) (m : Nat) {i j : Nat} (h : i ≤ j) : (metAt nxt start m i).1 <+: (metAt nxt start m j).1 := by
  induction j with
  | zero =>
    have h0 : i = 0 := by omega
    subst h0; exact List.prefix_refl _
  | succ j ih =>
    by_cases hi : i = j + 1
    · subst hi; exact List.prefix_refl _
    · refine (ih (by omega)).trans ?_
      rw [metAt]; split
      · exact List.prefix_refl _
      · exact rowAt_prefix _ _ _
theorem metAt_all {p : κ → Prop} {nxt : κ → Nat → κ} {start : κ} {m : Nat} (h0 : p start) (hn : ∀ s k, p s → k < m → p (nxt s k)) : ∀ i, ∀ s ∈ (metAt nxt start m i).1, p s
  | 0, s, hs => by simp [metAt] at hs; subst hs; exact h0
  | i + 1, s, hs => by
    have ih := metAt_all h0 hn i
    rw [metAt] at hs
    split at hs
    · exact ih s hs
    · rename_i s' hs'
      exact rowAt_all ih m (fun j hj => hn _ _ (ih s' (List.mem_of_getElem? hs')) hj) s hs
theorem metAt_nodup (nxt : κ → Nat → κ) (start : κ) (m : Nat) : ∀ i, (metAt nxt start m i).1.Nodup
  | 0 => by simp [metAt]
  | i + 1 => by
    rw [metAt]; split
    · exact metAt_nodup nxt start m i
    · exact rowAt_nodup (metAt_nodup nxt start m i) m
theorem metAt_rows (nxt : κ → Nat → κ) (start : κ) (m : Nat) : ∀ i, (∀ j, j < i → j < (metAt nxt start m j).1.length) → (metAt nxt start m i).2.length = i
  | 0, _ => rfl
  | i + 1, h => by
    have ih := metAt_rows nxt start m i fun j hj => h j (by omega)
    have hi := h i (by omega)
    rw [metAt, List.getElem?_eq_getElem hi]
    simp [ih]
/-- The automaton of all states that are met. -/
def grown (nxt : κ → Nat → κ) (acc : κ → Bool) (start : κ) (m : Nat) (most : Nat) : Dfa :=
  let e := ((List.range (most + 1)).find? fun i => decide ((metAt nxt start m i).1.length ≤ i)).getD 0
  ⟨m, (metAt nxt start m e).2, (metAt nxt start m e).1.map acc⟩
theorem grown_is {nxt : κ → Nat → κ} {acc : κ → Bool} {start : κ} {m most i : Nat} (h : ∀ j, j < i → j < (metAt nxt start m j).1.length) (hi : (metAt nxt start m i).1.length ≤ i) (hm : i ≤ most) : grown nxt acc start m most = ⟨m, (metAt nxt start m i).2, (metAt nxt start m i).1.map acc⟩ := by
  have h3 : (List.range (most + 1)).find? (fun i => decide ((metAt nxt start m i).1.length ≤ i)) = some i := by
    rw [List.find?_range_eq_some]
    exact ⟨by simpa using hi, by simp; omega, fun j hj => by simpa using h j hj⟩
  simp only [grown, h3, Option.getD_some]
/-- Other names for the states make no other automaton. -/
theorem rowAt_map (φ : κ → κ') {f : Nat → κ} {f' : Nat → κ'} {p : κ → Prop} (hφ : ∀ a b, p a → p b → φ a = φ b → a = b) {mc : List κ} (hm : ∀ s ∈ mc, p s) : ∀ k, (∀ j, j < k → p (f j) ∧ f' j = φ (f j)) → rowAt f' (mc.map φ) k = ((rowAt f mc k).1.map φ, (rowAt f mc k).2)
  | 0, _ => rfl
  | k + 1, h => by
    have ih := rowAt_map φ hφ hm k fun j hj => h j (by omega)
    obtain ⟨hp, hf⟩ := h k (by omega)
    have hall := rowAt_all hm k fun j hj => (h j (by omega)).1
    have hmem : φ (f k) ∈ (rowAt f mc k).1.map φ ↔ f k ∈ (rowAt f mc k).1 := by
      rw [List.mem_map]
      constructor
      · rintro ⟨a, ha, he⟩; rw [← hφ a (f k) (hall a ha) hp he]; exact ha
      · exact fun h => ⟨_, h, rfl⟩
    have hidx : f k ∈ (rowAt f mc k).1 → ((rowAt f mc k).1.map φ).idxOf (φ (f k)) = (rowAt f mc k).1.idxOf (f k) := by
      intro hx
      generalize (rowAt f mc k).1 = l at hx hall
      induction l with
      | nil => simp at hx
      | cons a l ihl =>
        rw [List.map_cons, List.idxOf_cons, List.idxOf_cons]
        by_cases ha : a = f k
        · subst ha; simp
        · have ha' : φ a ≠ φ (f k) := fun e => ha (hφ _ _ (hall a (by simp)) hp e)
          have hl : f k ∈ l := by rcases List.mem_cons.1 hx with h | h; exact absurd h.symm ha; exact h
          have e1 : (φ a == φ (f k)) = false := by simpa using ha'
          have e2 : (a == f k) = false := by simpa using ha
          rw [ihl hl fun s hs => hall s (by simp [hs]), e1, e2]
    rw [rowAt, rowAt, ih]
    simp only [hf, hmem]
    split
    · rename_i hx
      simp [hidx hx]
    · simp
theorem metAt_map (φ : κ → κ') {nxt : κ → Nat → κ} {nxt' : κ' → Nat → κ'} {start : κ} {start' : κ'} {m : Nat} {p : κ → Prop} (hφ : ∀ a b, p a → p b → φ a = φ b → a = b) (h0 : p start) (hs : start' = φ start) (hn : ∀ s k, p s → k < m → p (nxt s k) ∧ nxt' (φ s) k = φ (nxt s k)) : ∀ i, metAt nxt' start' m i = ((metAt nxt start m i).1.map φ, (metAt nxt start m i).2)
  | 0 => by simp [metAt, hs]
  | i + 1 => by
    have ih := metAt_map φ hφ h0 hs hn i
    have hall := metAt_all h0 (fun s k hs hk => (hn s k hs hk).1) i
    rw [metAt, metAt, ih]
    simp only [List.getElem?_map]
    cases hg : (metAt nxt start m i).1[i]? with
    | none => simp
    | some s =>
      have hps := hall s (List.mem_of_getElem? hg)
      simp only [Option.map_some]
      rw [rowAt_map φ hφ hall m fun j hj => hn s j hps hj]
theorem grown_map (φ : κ → κ') {nxt : κ → Nat → κ} {nxt' : κ' → Nat → κ'} {acc : κ → Bool} {acc' : κ' → Bool} {start : κ} {start' : κ'} {m most : Nat} {p : κ → Prop} (hφ : ∀ a b, p a → p b → φ a = φ b → a = b) (h0 : p start) (hs : start' = φ start) (hn : ∀ s k, p s → k < m → p (nxt s k) ∧ nxt' (φ s) k = φ (nxt s k)) (ha : ∀ s, p s → acc' (φ s) = acc s) : grown nxt' acc' start' m most = grown nxt acc start m most := by
  have h1 := metAt_map φ hφ h0 hs hn
  have hall := fun i => metAt_all h0 (fun s k hs hk => (hn s k hs hk).1) i
  simp only [grown, h1, List.length_map, List.map_map]
  congr 1
  exact List.map_congr_left fun s hs => ha s (hall _ s hs)
end grown
end Go.Proofs.Ytdpljpmohpifbaa
