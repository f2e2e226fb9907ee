import Derived.Test.YtjdhkopjigijfaaYde
/-
  Tables of bools and expressions, in plain words.
-/
set_option maxHeartbeats 4000000
set_option linter.unusedSimpArgs false
set_option linter.unusedVariables false
namespace Go.Proofs.Ytjdhkopjigijfaa
open Go.RowKit
attribute [local irreducible] Wk Tr
/-- A number from -1 on. -/
def V.toM : V → Nat
  | .int _ n => (n + 1).toNat
  | _ => 0
/-- Is the name at a place one of a node's? -/
def nmB (w : List ByteArray) (x : Rx) (a : Nat) : Bool := decide (x.op = 2) || decide (w[a]? = some x.name)
theorem nm_step {w : List ByteArray} {x : Rx} {i a b : Nat} : (if a = i then (if b = i + 1 then nmB w x i else (decide (b = i + 1) && (decide (i < i) && nmB w x i))) else (decide (b = a + 1) && (decide (a < i) && nmB w x a))) = (decide (b = a + 1) && (decide (a < i + 1) && nmB w x a)) := by
  rw [Bool.eq_iff_iff]
  by_cases e : a = i
  · subst e
    by_cases e2 : b = a + 1 <;> simp [e2]
  · rw [if_neg e]
    simp only [Bool.and_eq_true, decide_eq_true_eq]
    constructor
    · rintro ⟨h1, h2, h3⟩; exact ⟨h1, by omega, h3⟩
    · rintro ⟨h1, h2, h3⟩; exact ⟨h1, by omega, h3⟩
theorem nm_end {w : List ByteArray} {x : Rx} (h : x.op = 1 ∨ x.op = 2) (a b : Nat) : (decide (b = a + 1) && (decide (a < w.length) && nmB w x a)) = spanB w x a b := by
  rw [spanB_eq, nmB]
  rcases h with h | h
  · rw [if_pos h, decide_eq_false (by omega : ¬ x.op = 2), Bool.false_or]
    congr 1
    by_cases h1 : a < w.length
    · rw [decide_eq_true h1, Bool.true_and]
    · rw [List.getElem?_eq_none (by omega)]; simp
  · rw [if_neg (by omega), if_pos h, decide_eq_true h, Bool.true_or, Bool.and_true]
theorem sp_empty {w : List ByteArray} {x : Rx} (h : x.op = 3) (a b : Nat) : decide (b = a) = spanB w x a b := by
  rw [spanB_eq, if_neg (by omega), if_neg (by omega), if_pos h]
theorem sp_none {w : List ByteArray} {x : Rx} (h : x.op ≠ 1 ∧ x.op ≠ 2 ∧ x.op ≠ 3 ∧ x.op ≠ 5 ∧ x.op ≠ 6 ∧ x.op ≠ 7 ∧ x.op ≠ 8) (a b : Nat) : false = spanB w x a b := by
  obtain ⟨h1, h2, h3, h5, h6, h7, h8⟩ := h
  rw [spanB_eq, if_neg h1, if_neg h2, if_neg h3, if_neg h5, if_neg h6, if_neg h7, if_neg h8]
theorem seq_beh {w : List ByteArray} {l : List Rx} {i : Nat} (hi : i < l.length) (a b : Nat) (ha : a < w.length + 1) (hb : b < w.length + 1) : behB (fun a b => seqB w (l.take i) a b) (spanB w l[i]) a b = seqB w (l.take (i + 1)) a b := by
  rw [take_step hi, Bool.eq_iff_iff, seqB_snoc w _ _ (by omega) _ _ (by omega), behB, List.any_eq_true]
  constructor
  · rintro ⟨m, hm, h⟩
    rw [List.mem_range] at hm
    simp only [Bool.and_eq_true, decide_eq_true_eq] at h
    exact ⟨m, by omega, h.1.2, h.2⟩
  · rintro ⟨m, hm, h1, h2⟩
    have h3 := seqB_le _ _ _ (fun k _ i j => spanB_le w k i j) h1
    have h4 := spanB_le w _ _ _ h2
    exact ⟨m, List.mem_range.2 (by omega), by simp [h1, h2, h3]⟩
theorem seq_end {w : List ByteArray} {x : Rx} (h : x.op = 5) (a b : Nat) : seqB w x.kids a b = spanB w x a b := by
  rw [spanB_eq, if_neg (by omega), if_neg (by omega), if_neg (by omega), if_pos h]
/-- What has been put into a table ahead of a place. -/
def OrT (n : Nat) (D S B : Nat → Nat → Bool) (a b : Nat) : Prop := ∀ x y, x < n → y < n → (B x y = true ↔ D x y = true ∨ S x y = true ∧ x ≤ y ∧ (x < a ∨ x = a ∧ y < b))
section
variable {n a b : Nat} {D S B : Nat → Nat → Bool}
theorem or_zero : OrT n D S D 0 0 := fun x y _ _ => ⟨.inl, fun h => h.elim id fun ⟨_, _, h⟩ => by omega⟩
theorem or_to (h : OrT n D S B a b) {a' b' : Nat} (hs : ∀ x y, x < n → y < n → x ≤ y → ((x < a ∨ x = a ∧ y < b) ↔ (x < a' ∨ x = a' ∧ y < b'))) : OrT n D S B a' b' := fun x y hx hy => by
  rw [h x y hx hy]
  constructor
  · rintro (h1 | ⟨h1, h2, h3⟩)
    · exact .inl h1
    · exact .inr ⟨h1, h2, (hs x y hx hy h2).1 h3⟩
  · rintro (h1 | ⟨h1, h2, h3⟩)
    · exact .inl h1
    · exact .inr ⟨h1, h2, (hs x y hx hy h2).2 h3⟩
theorem or_in (h : OrT n D S B a 0) : OrT n D S B a a := or_to h fun x y _ _ hxy => by omega
theorem or_out (h : OrT n D S B a n) : OrT n D S B (a + 1) 0 := or_to h fun x y hx hy hxy => by omega
theorem or_put (h : OrT n D S B a b) (hab : a ≤ b) (ha : a < n) (hb : b < n) : OrT n D S (fun x y => if x = a then (if y = b then (B a b || S a b) else B a y) else B x y) a (b + 1) := fun x y hx hy => by
  dsimp only
  by_cases e : x = a
  · subst e
    by_cases e2 : y = b
    · subst e2
      rw [if_pos rfl, if_pos rfl, Bool.or_eq_true, h x y hx hy]
      constructor
      · rintro ((h1 | ⟨h1, h2, h3⟩) | h1)
        · exact .inl h1
        · exact .inr ⟨h1, h2, by omega⟩
        · exact .inr ⟨h1, hab, by omega⟩
      · rintro (h1 | ⟨h1, h2, h3⟩)
        · exact .inl (.inl h1)
        · exact .inr h1
    · rw [if_pos rfl, if_neg e2, h x y hx hy]
      constructor
      · rintro (h1 | ⟨h1, h2, h3⟩)
        · exact .inl h1
        · exact .inr ⟨h1, h2, by omega⟩
      · rintro (h1 | ⟨h1, h2, h3⟩)
        · exact .inl h1
        · exact .inr ⟨h1, h2, by omega⟩
  · rw [if_neg e, h x y hx hy]
    constructor
    · rintro (h1 | ⟨h1, h2, h3⟩)
      · exact .inl h1
      · exact .inr ⟨h1, h2, by omega⟩
    · rintro (h1 | ⟨h1, h2, h3⟩)
      · exact .inl h1
      · exact .inr ⟨h1, h2, by omega⟩
theorem or_at (h : OrT n D S B a b) (hD : D a b = false) (ha : a < n) (hb : b < n) : (B a b || S a b) = S a b := by
  have : B a b = false := by
    cases hB : B a b with
    | false => rfl
    | true =>
      rcases (h a b ha hb).1 hB with h1 | ⟨_, _, h1⟩
      · rw [hD] at h1; cases h1
      · omega
  rw [this, Bool.false_or]
end
theorem alt_snoc {w : List ByteArray} {l : List Rx} {i : Nat} (hi : i < l.length) (x y : Nat) : altB w (l.take (i + 1)) x y = (altB w (l.take i) x y || spanB w l[i] x y) := by
  rw [take_step hi, altB_any, altB_any, List.any_append]; simp
theorem alt_done {w : List ByteArray} {l : List Rx} {i n : Nat} {B : Nat → Nat → Bool} (hi : i < l.length) (h : OrT n (fun x y => altB w (l.take i) x y) (spanB w l[i]) B n 0) (x y : Nat) (hx : x < n) (hy : y < n) : B x y = altB w (l.take (i + 1)) x y := by
  rw [alt_snoc hi, Bool.eq_iff_iff, h x y hx hy, Bool.or_eq_true]
  exact ⟨fun h => h.imp id fun h => h.1, fun h => h.imp id fun h => ⟨h, spanB_le w _ _ _ h, .inl hx⟩⟩
theorem alt_end {w : List ByteArray} {x : Rx} (h : x.op = 6) (a b : Nat) : altB w x.kids a b = spanB w x a b := by
  rw [spanB_eq, if_neg (by omega), if_neg (by omega), if_neg (by omega), if_neg (by omega), if_pos h]
theorem not_end {w : List ByteArray} {x : Rx} {n : Nat} {B : Nat → Nat → Bool} (h8 : x.op = 8) (hk : 0 < x.kids.length) (h : OrT n (fun _ _ => false) (fun a b => !spanB w x.kids[0] a b) B n 0) (a b : Nat) (ha : a < n) (hb : b < n) : B a b = spanB w x a b := by
  rw [spanB_eq, if_neg (by omega), if_neg (by omega), if_neg (by omega), if_neg (by omega), if_neg (by omega), if_neg (by omega), if_pos h8, hdB_at hk, Bool.eq_iff_iff, h a b ha hb, Bool.and_eq_true, decide_eq_true_eq]
  constructor
  · rintro (h1 | ⟨h1, h2, _⟩)
    · cases h1
    · exact ⟨h2, h1⟩
  · rintro ⟨h1, h2⟩; exact .inr ⟨h2, h1, .inl ha⟩
/-- Any number of parts: enough is enough. -/
theorem starF_fuel {s : Nat → Nat → Bool} {n : Nat} (hs : ∀ a b, s a b = true → a ≤ b) {f g a c : Nat} (hf : n - a ≤ f) (h : starF s n g a c = true) : starF s n f a c = true :=
  starF_mem (S := fun c => starF s n f a c = true) (fun p q hp hq h' => starF_step hs f a p q hp hf hq h') g a c (star_self f) h
theorem star_in {s : Nat → Nat → Bool} {n a b c : Nat} (hs : ∀ a b, s a b = true → a ≤ b) (hb : b ≤ n) (h : s a b = true) (hc : starF s n n b c = true) : starF s n n a c = true :=
  starF_mem (S := fun c => starF s n n a c = true) (fun p q hp hq h' => starF_step hs n a p q hp (by omega) hq h') n b c (starF_step hs n a a b (star_self n) (by omega) hb h) hc
theorem star_un {s : Nat → Nat → Bool} {n a c : Nat} (hs : ∀ a b, s a b = true → a ≤ b) (ha : a ≤ n) : starF s n n a c = true ↔ c = a ∨ ∃ m, a < m ∧ m ≤ n ∧ s a m = true ∧ starF s n n m c = true := by
  constructor
  · intro h
    cases n with
    | zero => rw [starF, decide_eq_true_eq] at h; exact .inl h
    | succ f =>
      rw [starF, Bool.or_eq_true, decide_eq_true_eq, List.any_eq_true] at h
      rcases h with h | ⟨m, hm, h⟩
      · exact .inl h
      · rw [List.mem_range] at hm
        simp only [Bool.and_eq_true, decide_eq_true_eq] at h
        exact .inr ⟨m, h.1.1, by omega, h.1.2, starF_fuel hs (by omega) h.2⟩
  · rintro (rfl | ⟨m, h1, h2, h3, h4⟩)
    · exact star_self _
    · exact star_in hs h2 h3 h4
/-- Rows from q on are done. -/
def StQ (s : Nat → Nat → Bool) (n : Nat) (B : Nat → Nat → Bool) (q : Nat) : Prop := ∀ x y, x < n + 1 → y < n + 1 → (B x y = true ↔ (q ≤ x ∧ starF s n n x y = true ∨ x < q ∧ y = x))
/-- Within row a: what has been looked at ahead of b, c. -/
def StT (s : Nat → Nat → Bool) (n : Nat) (B : Nat → Nat → Bool) (a b c : Nat) : Prop := ∀ x y, x < n + 1 → y < n + 1 → (B x y = true ↔ (a < x ∧ starF s n n x y = true ∨ x < a ∧ y = x ∨ x = a ∧ (y = a ∨ ∃ m, a < m ∧ m ≤ y ∧ s a m = true ∧ starF s n n m y = true ∧ (m < b ∨ m = b ∧ y < c))))
section
variable {s B : Nat → Nat → Bool} {n a b c q : Nat}
theorem st_zero : StQ s n (fun x y => decide (y = x)) (n + 1) := fun x y hx hy => by
  rw [decide_eq_true_eq]; exact ⟨fun h => .inr ⟨hx, h⟩, fun h => h.elim (fun h => by omega) fun h => h.2⟩
theorem st_in (h : StQ s n B (a + 1)) : StT s n B a (a + 1) 0 := fun x y hx hy => by
  rw [h x y hx hy]
  constructor
  · rintro (⟨h1, h2⟩ | ⟨h1, h2⟩)
    · exact .inl ⟨h1, h2⟩
    · by_cases e : x = a
      · exact .inr (.inr ⟨e, .inl (by omega)⟩)
      · exact .inr (.inl ⟨by omega, h2⟩)
  · rintro (⟨h1, h2⟩ | ⟨h1, h2⟩ | ⟨h1, h2 | ⟨m, h2, h3, h4, h5, h6⟩⟩)
    · exact .inl ⟨h1, h2⟩
    · exact .inr ⟨by omega, h2⟩
    · exact .inr ⟨by omega, by omega⟩
    · omega
theorem st_to (h : StT s n B a b c) {b' c' : Nat} (hs : ∀ m y, a < m → m ≤ y → y < n + 1 → s a m = true → ((m < b ∨ m = b ∧ y < c) ↔ (m < b' ∨ m = b' ∧ y < c'))) : StT s n B a b' c' := fun x y hx hy => by
  rw [h x y hx hy]
  constructor
  · rintro (h1 | h1 | ⟨h1, h2 | ⟨m, h2, h3, h4, h5, h6⟩⟩)
    · exact .inl h1
    · exact .inr (.inl h1)
    · exact .inr (.inr ⟨h1, .inl h2⟩)
    · exact .inr (.inr ⟨h1, .inr ⟨m, h2, h3, h4, h5, (hs m y h2 h3 hy h4).1 h6⟩⟩)
  · rintro (h1 | h1 | ⟨h1, h2 | ⟨m, h2, h3, h4, h5, h6⟩⟩)
    · exact .inl h1
    · exact .inr (.inl h1)
    · exact .inr (.inr ⟨h1, .inl h2⟩)
    · exact .inr (.inr ⟨h1, .inr ⟨m, h2, h3, h4, h5, (hs m y h2 h3 hy h4).2 h6⟩⟩)
theorem st_in2 (h : StT s n B a b 0) : StT s n B a b b := st_to h fun m y h1 h2 h3 h4 => by omega
theorem st_skip (h : StT s n B a b c) (hA : s a b = false ∨ n + 1 ≤ c) : StT s n B a (b + 1) 0 := st_to h fun m y h1 h2 h3 h4 => by
  rcases hA with hA | hA
  · have hne : m ≠ b := fun e => by subst e; rw [hA] at h4; cases h4
    omega
  · omega
theorem st_put (h : StT s n B a b c) (hs : s a b = true) (hab : a < b) (hbc : b ≤ c) (hc : c < n + 1) : StT s n (fun x y => if x = a then (if y = c then (B a c || B b c) else B a y) else B x y) a b (c + 1) := fun x y hx hy => by
  dsimp only
  by_cases e : x = a
  · subst e
    by_cases e2 : y = c
    · subst e2
      rw [if_pos rfl, if_pos rfl, Bool.or_eq_true, h x y hx hy, h b y (by omega) hy]
      constructor
      · rintro ((h1 | h1 | ⟨h1, h2 | ⟨m, h2, h3, h4, h5, h6⟩⟩) | h1 | h1 | h1)
        · omega
        · omega
        · exact .inr (.inr ⟨rfl, .inl h2⟩)
        · exact .inr (.inr ⟨rfl, .inr ⟨m, h2, h3, h4, h5, by omega⟩⟩)
        · exact .inr (.inr ⟨rfl, .inr ⟨b, hab, hbc, hs, h1.2, by omega⟩⟩)
        · omega
        · omega
      · rintro (h1 | h1 | ⟨h1, h2 | ⟨m, h2, h3, h4, h5, h6⟩⟩)
        · omega
        · omega
        · exact .inl (.inr (.inr ⟨rfl, .inl h2⟩))
        · by_cases e3 : m = b
          · subst e3; exact .inr (.inl ⟨hab, h5⟩)
          · exact .inl (.inr (.inr ⟨rfl, .inr ⟨m, h2, h3, h4, h5, by omega⟩⟩))
    · rw [if_pos rfl, if_neg e2, h x y hx hy]
      constructor
      · rintro (h1 | h1 | ⟨h1, h2 | ⟨m, h2, h3, h4, h5, h6⟩⟩)
        · exact .inl h1
        · exact .inr (.inl h1)
        · exact .inr (.inr ⟨h1, .inl h2⟩)
        · exact .inr (.inr ⟨h1, .inr ⟨m, h2, h3, h4, h5, by omega⟩⟩)
      · rintro (h1 | h1 | ⟨h1, h2 | ⟨m, h2, h3, h4, h5, h6⟩⟩)
        · exact .inl h1
        · exact .inr (.inl h1)
        · exact .inr (.inr ⟨h1, .inl h2⟩)
        · exact .inr (.inr ⟨h1, .inr ⟨m, h2, h3, h4, h5, by omega⟩⟩)
  · rw [if_neg e, h x y hx hy]
    constructor
    · rintro (h1 | h1 | ⟨h1, _⟩)
      · exact .inl h1
      · exact .inr (.inl h1)
      · exact absurd h1 e
    · rintro (h1 | h1 | ⟨h1, _⟩)
      · exact .inl h1
      · exact .inr (.inl h1)
      · exact absurd h1 e
theorem st_out (hs : ∀ a b, s a b = true → a ≤ b) (h : StT s n B a (n + 1) 0) (ha : a < n + 1) : StQ s n B a := fun x y hx hy => by
  rw [h x y hx hy]
  constructor
  · rintro (⟨h1, h2⟩ | h1 | ⟨rfl, h2⟩)
    · exact .inl ⟨by omega, h2⟩
    · exact .inr h1
    · refine .inl ⟨Nat.le_refl _, (star_un hs (by omega)).2 ?_⟩
      rcases h2 with h2 | ⟨m, h2, h3, h4, h5, _⟩
      · exact .inl h2
      · exact .inr ⟨m, h2, by omega, h4, h5⟩
  · rintro (⟨h1, h2⟩ | h1)
    · by_cases e : x = a
      · subst e
        refine .inr (.inr ⟨rfl, ?_⟩)
        rcases (star_un hs (by omega)).1 h2 with h3 | ⟨m, h3, h4, h5, h6⟩
        · exact .inl h3
        · exact .inr ⟨m, h3, starF_le hs _ _ _ h6, h5, h6, by omega⟩
      · exact .inl ⟨by omega, h2⟩
    · exact .inr (.inl h1)
end
theorem star_end {w : List ByteArray} {x : Rx} {B : Nat → Nat → Bool} (h7 : x.op = 7) (hk : 0 < x.kids.length) (h : StQ (spanB w x.kids[0]) w.length B 0) (a b : Nat) (ha : a < w.length + 1) (hb : b < w.length + 1) : B a b = spanB w x a b := by
  have he : hdB w x.kids = spanB w x.kids[0] := by funext i j; exact hdB_at hk i j
  rw [spanB_eq, if_neg (by omega), if_neg (by omega), if_neg (by omega), if_neg (by omega), if_neg (by omega), if_pos h7, he, Bool.eq_iff_iff, h a b ha hb]
  exact ⟨fun h => h.elim (fun h => h.2) fun h => by omega, fun h => .inl ⟨by omega, h⟩⟩
end Go.Proofs.Ytjdhkopjigijfaa
/-
  Which words are an expression's: the reference's tables, by sorts of nodes.
-/
set_option linter.unusedSimpArgs false
set_option linter.unusedVariables false
set_option maxHeartbeats 8000000
namespace Go.Proofs.Ytjdhkopjigijfaa
open Go.RowKit
attribute [local irreducible] Wk Tr

theorem spans_0 (w : List ByteArray) (hw : w.length ≤ 100) (x : Rx) (hs : x.kids.length ≤ 17592186044416) (h0 : x.op ≠ 1 ∧ x.op ≠ 2 ∧ x.op ≠ 3 ∧ x.op ≠ 5 ∧ x.op ≠ 6 ∧ x.op ≠ 7 ∧ x.op ≠ 8) (hrec : ∀ k ∈ x.kids, FnC Try.prog 36 [rxA k, .sl 9 (w.map V.str)] (fun r => r = .sl 81 (tabS 4 (w.length + 1) (w.length + 1) (spanB w k)))) : FnC Try.prog 36 [rxA x, .sl 9 (w.map V.str)] (fun r => r = .sl 81 (tabS 4 (w.length + 1) (w.length + 1) (spanB w x))) := by
  refine FnC.of (fn := Try.f36) ⟨Try.func36, by kernel_rfl, rfl⟩ Try.ntmps36 (by simp) fun w0 S0 => ?_
  refine p_go fun hf => ?_
  refine p_callX ([(0 + 1, 2)]) (hf := blankR w.length (by omega)) (hg := by simp <;> omega) (hos := by simp <;> omega) (h := fun r o1 h1 hg1 hlw1 hos1 hR1 => ?_)
  obtain ⟨G, γ, hG, hGg, rfl, htb, hT0⟩ := hR1
  simp only [valsO, List.cons.injEq, and_true] at hos1
  have hE := (⟨hos1, htb⟩ : _ ∧ _)
  refine p_go ?_
  refine p_splitC (s := 26) (ht := fun hc26 => ?_) (hf := fun hc26 => ?_)
  · have hF : False := by have h9 := hc26; simp at h9; omega
    exact hF.elim
  · refine p_go ?_
    refine p_splitC (s := 26) (ht := fun hc26x => ?_) (hf := fun hc26x => ?_)
    · have hF : False := by have h9 := hc26x; simp at h9; omega
      exact hF.elim
    · refine p_go ?_
      refine p_splitC (s := 53) (ht := fun hc53 => ?_) (hf := fun hc53 => ?_)
      · have hF : False := by have h9 := hc53; simp at h9; omega
        exact hF.elim
      · refine p_go ?_
        refine p_splitC (s := 57) (ht := fun hc57 => ?_) (hf := fun hc57 => ?_)
        · have hF : False := by have h9 := hc57; simp at h9; omega
          exact hF.elim
        · refine p_go ?_
          refine p_splitC (s := 77) (ht := fun hc77 => ?_) (hf := fun hc77 => ?_)
          · have hF : False := by have h9 := hc77; simp at h9; omega
            exact hF.elim
          · refine p_go ?_
            refine p_splitC (s := 126) (ht := fun hc126 => ?_) (hf := fun hc126 => ?_)
            · have hF : False := by have h9 := hc126; simp at h9; omega
              exact hF.elim
            · refine p_go ?_
              refine p_splitC (s := 185) (ht := fun hc185 => ?_) (hf := fun hc185 => ?_)
              · have hF : False := by have h9 := hc185; simp at h9; omega
                exact hF.elim
              · refine p_condF (h := ?_)
                refine p_skip ?_
                refine p_seq (p_region fun hf => ?_)
                refine p_move (h := ?_)
                refine p_assign (h := ?_)
                refine p_end ?_
                refine TrC.ret ?_
                refine p_frzTab (s := 4) (g1 := G) (te := 4) (t := 81) (n := (w.length + 1)) eV_ oB_ hT0 fun ob2 hob2 => ?_
                refine p_ret1 (hp := by rw [tabS_congr fun a b _ _ => sp_none h0 a b])

theorem spans_1 (w : List ByteArray) (hw : w.length ≤ 100) (x : Rx) (hs : x.kids.length ≤ 17592186044416) (h1 : x.op = 1) (hrec : ∀ k ∈ x.kids, FnC Try.prog 36 [rxA k, .sl 9 (w.map V.str)] (fun r => r = .sl 81 (tabS 4 (w.length + 1) (w.length + 1) (spanB w k)))) : FnC Try.prog 36 [rxA x, .sl 9 (w.map V.str)] (fun r => r = .sl 81 (tabS 4 (w.length + 1) (w.length + 1) (spanB w x))) := by
  refine FnC.of (fn := Try.f36) ⟨Try.func36, by kernel_rfl, rfl⟩ Try.ntmps36 (by simp) fun w0 S0 => ?_
  refine p_go fun hf => ?_
  refine p_callX ([(0 + 1, 2)]) (hf := blankR w.length (by omega)) (hg := by simp <;> omega) (hos := by simp <;> omega) (h := fun r o1 h1 hg1 hlw1 hos1 hR1 => ?_)
  obtain ⟨G, γ, hG, hGg, rfl, htb, hT0⟩ := hR1
  simp only [valsO, List.cons.injEq, and_true] at hos1
  have hE := (⟨hos1, htb⟩ : _ ∧ _)
  refine p_go ?_
  refine p_splitC (s := 26) (ht := fun hc26 => ?_) (hf := fun hc26 => ?_)
  · refine p_go ?_
    refine p_loopK [1, 2, 5, 6] [(G, 900), (0 + 1, 2)] (fun st => ∃ i : Nat, (i ≤ w.length) ∧ (h1 ≤ st.gen) ∧ (Tb 4 (w.length + 1) (fun a b => decide (b = a + 1) && (decide (a < i) && nmB w x a)) γ 0 st.gen st.obj) ∧ st.env 7 = inV i) (fun st => w.length - (st.env 7).toN) ?_ fun e ob g1 hK hO hI => ?_
    · exact ⟨0, by omega, by (try dsimp only); omega, ((hT0.low2 (by omega)).frame (by (try dsimp only); omega) (fun a ha => rfl)).ext (fun a b _ _ => by simp), eV_⟩
    · obtain ⟨i, hi, hgen1, hT, e7⟩ := hI
      dsimp only at e7
      simp only [valsE, List.cons.injEq, and_true] at hK
      simp only [valsO, List.cons.injEq, and_true] at hO
      have hE := (⟨hK, hO, e7⟩ : _ ∧ _ ∧ _)
      dsimp only at hgen1 hT
      refine p_go ?_
      refine p_splitC (s := 31) (ht := fun hc31 => ?_) (hf := fun hc31 => ?_)
      · have hlt : i < w.length := by have := hc31; simp at this; omega
        have hri := hT.row i (by omega)
        have hE := (⟨hK, hO, e7, hri⟩ : _ ∧ _ ∧ _ ∧ _)
        refine p_go fun hf => ?_
        refine p_rvIdx (i) (ht := Try.underlying83) (hi := F.ti81.h) (hlt := (by omega)) (h := ?_)
        refine p_rvLoad (ht := F.leaf81.h) (hv := tabL_at (by omega)) (h := ?_)
        refine p_go fun hf => ?_
        refine p_add (r := ((i + 1 : Nat) : Int)) (hr := (by first | omega | (simp only [decide_eq_true_eq, decide_eq_false_iff_not, Bool.or_eq_false_iff, Bool.and_eq_true, Bool.not_eq_true', Bool.not_eq_false'] at *; omega))) (hb := (by first | omega | (simp only [decide_eq_true_eq, decide_eq_false_iff_not, Bool.or_eq_false_iff, Bool.and_eq_true, Bool.not_eq_true', Bool.not_eq_false'] at *; omega))) (h := ?_)
        refine p_go fun hf => ?_
        refine p_split (s := 43) (ht := fun hb43 => ?_) (hf := fun hb43 => ?_)
        · have h2 : x.op = 2 := by simpa using hb43
          have hv : nmB w x i = true := by rw [nmB, decide_eq_true h2]; rfl
          refine p_go fun hf => ?_
          refine p_idxRowN ((i + 1)) (ht := Try.underlying81) (hi := F.ti4.h) (hij := by omega) (hlt := (by omega)) (h := ?_)
          refine p_storeRowF (f' := fun b => V.bool (if b = i + 1 then nmB w x i else (decide (b = i + 1) && (decide (i < i) && nmB w x i)))) F.ti4.h (TI.cells F.ti4.h) (hlt := (by omega)) (hf := fun b _ => by by_cases e : b = i + 1 <;> simp [e, hv]) (h := ?_)
          refine p_go fun hf => ?_
          refine p_add (r := ((i + 1 : Nat) : Int)) (hr := (by first | omega | (simp only [decide_eq_true_eq, decide_eq_false_iff_not, Bool.or_eq_false_iff, Bool.and_eq_true, Bool.not_eq_true', Bool.not_eq_false'] at *; omega))) (hb := (by first | omega | (simp only [decide_eq_true_eq, decide_eq_false_iff_not, Bool.or_eq_false_iff, Bool.and_eq_true, Bool.not_eq_true', Bool.not_eq_false'] at *; omega))) (h := ?_)
          refine p_go ?_
          refine p_some ?_
          refine ⟨⟨(by simp (decide := true) only [valsE, evE, upd, cv, args0, argsFrom, List.length_map, ↓reduceIte, hE] <;> rfl), (by simp (decide := true) only [valsO, updO, upd, true_and, and_true, false_and, and_false, ↓reduceIte, hE] <;> rfl)⟩, ⟨i + 1, by omega, by (try dsimp only); omega, (hT.put (by omega) (by (try dsimp only); omega) _).ext (fun a b _ _ => nm_step), eV_⟩, ?_⟩
          simp (decide := true) only [upd, e7, V.toN, ↓reduceIte]; omega
        · have h2 : ¬ x.op = 2 := by simpa using hb43
          have hv : nmB w x i = decide (w[i] = x.name) := by rw [nmB, decide_eq_false h2, Bool.false_or, List.getElem?_eq_getElem hlt]; simp
          refine p_go fun hf => ?_
          refine p_idxMap (j := i) (ht := Try.underlying34) (hi := F.ti9.h) (hij := rfl) (hj := hlt) (h := ?_)
          refine p_go fun hf => ?_
          refine p_strOp (h := ?_)
          refine p_go fun hf => ?_
          refine p_idxRowN ((i + 1)) (ht := Try.underlying81) (hi := F.ti4.h) (hij := by omega) (hlt := (by omega)) (h := ?_)
          refine p_storeRowF (f' := fun b => V.bool (if b = i + 1 then nmB w x i else (decide (b = i + 1) && (decide (i < i) && nmB w x i)))) F.ti4.h (TI.cells F.ti4.h) (hlt := (by omega)) (hf := fun b _ => by by_cases e : b = i + 1 <;> simp [e, hv]) (h := ?_)
          refine p_go fun hf => ?_
          refine p_add (r := ((i + 1 : Nat) : Int)) (hr := (by first | omega | (simp only [decide_eq_true_eq, decide_eq_false_iff_not, Bool.or_eq_false_iff, Bool.and_eq_true, Bool.not_eq_true', Bool.not_eq_false'] at *; omega))) (hb := (by first | omega | (simp only [decide_eq_true_eq, decide_eq_false_iff_not, Bool.or_eq_false_iff, Bool.and_eq_true, Bool.not_eq_true', Bool.not_eq_false'] at *; omega))) (h := ?_)
          refine p_go ?_
          refine p_some ?_
          refine ⟨⟨(by simp (decide := true) only [valsE, evE, upd, cv, args0, argsFrom, List.length_map, ↓reduceIte, hE] <;> rfl), (by simp (decide := true) only [valsO, updO, upd, true_and, and_true, false_and, and_false, ↓reduceIte, hE] <;> rfl)⟩, ⟨i + 1, by omega, by (try dsimp only); omega, (hT.put (by omega) (by (try dsimp only); omega) _).ext (fun a b _ _ => nm_step), eV_⟩, ?_⟩
          simp (decide := true) only [upd, e7, V.toN, ↓reduceIte]; omega
      · have hge : w.length ≤ i := by have := hc31; simp at this; omega
        obtain rfl : i = w.length := by omega
        refine p_condF (h := ?_)
        refine p_exit ?_
        refine p_seq (p_region fun hf => ?_)
        refine p_move (h := ?_)
        refine p_assign (h := ?_)
        refine p_end ?_
        refine TrC.ret ?_
        refine p_frzTab (s := 4) (g1 := G) (te := 4) (t := 81) (n := (w.length + 1)) eV_ oB_ hT fun ob2 hob2 => ?_
        refine p_ret1 (hp := by rw [tabS_congr fun a b _ _ => nm_end (by omega) a b])
  · have hF : False := by have h8 := hc26; have h9 := hc26; simp at h8 h9; omega
    exact hF.elim
theorem spans_2 (w : List ByteArray) (hw : w.length ≤ 100) (x : Rx) (hs : x.kids.length ≤ 17592186044416) (h2 : x.op = 2) (hrec : ∀ k ∈ x.kids, FnC Try.prog 36 [rxA k, .sl 9 (w.map V.str)] (fun r => r = .sl 81 (tabS 4 (w.length + 1) (w.length + 1) (spanB w k)))) : FnC Try.prog 36 [rxA x, .sl 9 (w.map V.str)] (fun r => r = .sl 81 (tabS 4 (w.length + 1) (w.length + 1) (spanB w x))) := by
  refine FnC.of (fn := Try.f36) ⟨Try.func36, by kernel_rfl, rfl⟩ Try.ntmps36 (by simp) fun w0 S0 => ?_
  refine p_go fun hf => ?_
  refine p_callX ([(0 + 1, 2)]) (hf := blankR w.length (by omega)) (hg := by simp <;> omega) (hos := by simp <;> omega) (h := fun r o1 h1 hg1 hlw1 hos1 hR1 => ?_)
  obtain ⟨G, γ, hG, hGg, rfl, htb, hT0⟩ := hR1
  simp only [valsO, List.cons.injEq, and_true] at hos1
  have hE := (⟨hos1, htb⟩ : _ ∧ _)
  refine p_go ?_
  refine p_splitC (s := 26) (ht := fun hc26 => ?_) (hf := fun hc26 => ?_)
  · have hF : False := by have h9 := hc26; simp at h9; omega
    exact hF.elim
  · refine p_go ?_
    refine p_splitC (s := 26) (ht := fun hc26x => ?_) (hf := fun hc26x => ?_)
    · skip
      refine p_go ?_
      refine p_loopK [1, 2, 5, 6] [(G, 900), (0 + 1, 2)] (fun st => ∃ i : Nat, (i ≤ w.length) ∧ (h1 ≤ st.gen) ∧ (Tb 4 (w.length + 1) (fun a b => decide (b = a + 1) && (decide (a < i) && nmB w x a)) γ 0 st.gen st.obj) ∧ st.env 7 = inV i) (fun st => w.length - (st.env 7).toN) ?_ fun e ob g1 hK hO hI => ?_
      · exact ⟨0, by omega, by (try dsimp only); omega, ((hT0.low2 (by omega)).frame (by (try dsimp only); omega) (fun a ha => rfl)).ext (fun a b _ _ => by simp), eV_⟩
      · obtain ⟨i, hi, hgen1, hT, e7⟩ := hI
        dsimp only at e7
        simp only [valsE, List.cons.injEq, and_true] at hK
        simp only [valsO, List.cons.injEq, and_true] at hO
        have hE := (⟨hK, hO, e7⟩ : _ ∧ _ ∧ _)
        dsimp only at hgen1 hT
        refine p_go ?_
        refine p_splitC (s := 31) (ht := fun hc31 => ?_) (hf := fun hc31 => ?_)
        · have hlt : i < w.length := by have := hc31; simp at this; omega
          have hri := hT.row i (by omega)
          have hE := (⟨hK, hO, e7, hri⟩ : _ ∧ _ ∧ _ ∧ _)
          refine p_go fun hf => ?_
          refine p_rvIdx (i) (ht := Try.underlying83) (hi := F.ti81.h) (hlt := (by omega)) (h := ?_)
          refine p_rvLoad (ht := F.leaf81.h) (hv := tabL_at (by omega)) (h := ?_)
          refine p_go fun hf => ?_
          refine p_add (r := ((i + 1 : Nat) : Int)) (hr := (by first | omega | (simp only [decide_eq_true_eq, decide_eq_false_iff_not, Bool.or_eq_false_iff, Bool.and_eq_true, Bool.not_eq_true', Bool.not_eq_false'] at *; omega))) (hb := (by first | omega | (simp only [decide_eq_true_eq, decide_eq_false_iff_not, Bool.or_eq_false_iff, Bool.and_eq_true, Bool.not_eq_true', Bool.not_eq_false'] at *; omega))) (h := ?_)
          refine p_go fun hf => ?_
          refine p_split (s := 43) (ht := fun hb43 => ?_) (hf := fun hb43 => ?_)
          · have h2 : x.op = 2 := by simpa using hb43
            have hv : nmB w x i = true := by rw [nmB, decide_eq_true h2]; rfl
            refine p_go fun hf => ?_
            refine p_idxRowN ((i + 1)) (ht := Try.underlying81) (hi := F.ti4.h) (hij := by omega) (hlt := (by omega)) (h := ?_)
            refine p_storeRowF (f' := fun b => V.bool (if b = i + 1 then nmB w x i else (decide (b = i + 1) && (decide (i < i) && nmB w x i)))) F.ti4.h (TI.cells F.ti4.h) (hlt := (by omega)) (hf := fun b _ => by by_cases e : b = i + 1 <;> simp [e, hv]) (h := ?_)
            refine p_go fun hf => ?_
            refine p_add (r := ((i + 1 : Nat) : Int)) (hr := (by first | omega | (simp only [decide_eq_true_eq, decide_eq_false_iff_not, Bool.or_eq_false_iff, Bool.and_eq_true, Bool.not_eq_true', Bool.not_eq_false'] at *; omega))) (hb := (by first | omega | (simp only [decide_eq_true_eq, decide_eq_false_iff_not, Bool.or_eq_false_iff, Bool.and_eq_true, Bool.not_eq_true', Bool.not_eq_false'] at *; omega))) (h := ?_)
            refine p_go ?_
            refine p_some ?_
            refine ⟨⟨(by simp (decide := true) only [valsE, evE, upd, cv, args0, argsFrom, List.length_map, ↓reduceIte, hE] <;> rfl), (by simp (decide := true) only [valsO, updO, upd, true_and, and_true, false_and, and_false, ↓reduceIte, hE] <;> rfl)⟩, ⟨i + 1, by omega, by (try dsimp only); omega, (hT.put (by omega) (by (try dsimp only); omega) _).ext (fun a b _ _ => nm_step), eV_⟩, ?_⟩
            simp (decide := true) only [upd, e7, V.toN, ↓reduceIte]; omega
          · have h2 : ¬ x.op = 2 := by simpa using hb43
            have hv : nmB w x i = decide (w[i] = x.name) := by rw [nmB, decide_eq_false h2, Bool.false_or, List.getElem?_eq_getElem hlt]; simp
            refine p_go fun hf => ?_
            refine p_idxMap (j := i) (ht := Try.underlying34) (hi := F.ti9.h) (hij := rfl) (hj := hlt) (h := ?_)
            refine p_go fun hf => ?_
            refine p_strOp (h := ?_)
            refine p_go fun hf => ?_
            refine p_idxRowN ((i + 1)) (ht := Try.underlying81) (hi := F.ti4.h) (hij := by omega) (hlt := (by omega)) (h := ?_)
            refine p_storeRowF (f' := fun b => V.bool (if b = i + 1 then nmB w x i else (decide (b = i + 1) && (decide (i < i) && nmB w x i)))) F.ti4.h (TI.cells F.ti4.h) (hlt := (by omega)) (hf := fun b _ => by by_cases e : b = i + 1 <;> simp [e, hv]) (h := ?_)
            refine p_go fun hf => ?_
            refine p_add (r := ((i + 1 : Nat) : Int)) (hr := (by first | omega | (simp only [decide_eq_true_eq, decide_eq_false_iff_not, Bool.or_eq_false_iff, Bool.and_eq_true, Bool.not_eq_true', Bool.not_eq_false'] at *; omega))) (hb := (by first | omega | (simp only [decide_eq_true_eq, decide_eq_false_iff_not, Bool.or_eq_false_iff, Bool.and_eq_true, Bool.not_eq_true', Bool.not_eq_false'] at *; omega))) (h := ?_)
            refine p_go ?_
            refine p_some ?_
            refine ⟨⟨(by simp (decide := true) only [valsE, evE, upd, cv, args0, argsFrom, List.length_map, ↓reduceIte, hE] <;> rfl), (by simp (decide := true) only [valsO, updO, upd, true_and, and_true, false_and, and_false, ↓reduceIte, hE] <;> rfl)⟩, ⟨i + 1, by omega, by (try dsimp only); omega, (hT.put (by omega) (by (try dsimp only); omega) _).ext (fun a b _ _ => nm_step), eV_⟩, ?_⟩
            simp (decide := true) only [upd, e7, V.toN, ↓reduceIte]; omega
        · have hge : w.length ≤ i := by have := hc31; simp at this; omega
          obtain rfl : i = w.length := by omega
          refine p_condF (h := ?_)
          refine p_exit ?_
          refine p_seq (p_region fun hf => ?_)
          refine p_move (h := ?_)
          refine p_assign (h := ?_)
          refine p_end ?_
          refine TrC.ret ?_
          refine p_frzTab (s := 4) (g1 := G) (te := 4) (t := 81) (n := (w.length + 1)) eV_ oB_ hT fun ob2 hob2 => ?_
          refine p_ret1 (hp := by rw [tabS_congr fun a b _ _ => nm_end (by omega) a b])
    · have hF : False := by have h8 := hc26; have h9 := hc26x; simp at h8 h9; omega
      exact hF.elim
theorem spans_3 (w : List ByteArray) (hw : w.length ≤ 100) (x : Rx) (hs : x.kids.length ≤ 17592186044416) (h3 : x.op = 3) (hrec : ∀ k ∈ x.kids, FnC Try.prog 36 [rxA k, .sl 9 (w.map V.str)] (fun r => r = .sl 81 (tabS 4 (w.length + 1) (w.length + 1) (spanB w k)))) : FnC Try.prog 36 [rxA x, .sl 9 (w.map V.str)] (fun r => r = .sl 81 (tabS 4 (w.length + 1) (w.length + 1) (spanB w x))) := by
  refine FnC.of (fn := Try.f36) ⟨Try.func36, by kernel_rfl, rfl⟩ Try.ntmps36 (by simp) fun w0 S0 => ?_
  refine p_go fun hf => ?_
  refine p_callX ([(0 + 1, 2)]) (hf := blankR w.length (by omega)) (hg := by simp <;> omega) (hos := by simp <;> omega) (h := fun r o1 h1 hg1 hlw1 hos1 hR1 => ?_)
  obtain ⟨G, γ, hG, hGg, rfl, htb, hT0⟩ := hR1
  simp only [valsO, List.cons.injEq, and_true] at hos1
  have hE := (⟨hos1, htb⟩ : _ ∧ _)
  refine p_go ?_
  refine p_splitC (s := 26) (ht := fun hc26 => ?_) (hf := fun hc26 => ?_)
  · have hF : False := by have h9 := hc26; simp at h9; omega
    exact hF.elim
  · refine p_go ?_
    refine p_splitC (s := 26) (ht := fun hc26x => ?_) (hf := fun hc26x => ?_)
    · have hF : False := by have h9 := hc26x; simp at h9; omega
      exact hF.elim
    · refine p_go ?_
      refine p_splitC (s := 53) (ht := fun hc53 => ?_) (hf := fun hc53 => ?_)
      · refine p_go fun hf => ?_
        refine p_callX ([(0 + 1, 2)]) (hf := emptyR w.length (by omega)) (hg := by simp <;> omega) (hos := by simp <;> omega) (h := fun r o2 h2 hg2 hlw2 hos2 hR2 => ?_)
        obtain ⟨G2, γ2, hG2, hGg2, rfl, htb2, hT2⟩ := hR2
        simp only [valsO, List.cons.injEq, and_true] at hos2
        have hE := (⟨hos2, htb2⟩ : _ ∧ _)
        refine p_assign (h := ?_)
        refine p_end ?_
        refine TrC.ret ?_
        refine p_frzTab (s := 4) (g1 := G2) (te := 4) (t := 81) (n := (w.length + 1)) eV_ oB_ hT2 fun ob2 hob2 => ?_
        refine p_ret1 (hp := by rw [tabS_congr fun a b _ _ => sp_empty h3 a b])
      · have hF : False := by have h8 := hc26; have h9 := hc53; simp at h8 h9; omega
        exact hF.elim
theorem spans_5 (w : List ByteArray) (hw : w.length ≤ 100) (x : Rx) (hs : x.kids.length ≤ 17592186044416) (h5 : x.op = 5) (hrec : ∀ k ∈ x.kids, FnC Try.prog 36 [rxA k, .sl 9 (w.map V.str)] (fun r => r = .sl 81 (tabS 4 (w.length + 1) (w.length + 1) (spanB w k)))) : FnC Try.prog 36 [rxA x, .sl 9 (w.map V.str)] (fun r => r = .sl 81 (tabS 4 (w.length + 1) (w.length + 1) (spanB w x))) := by
  refine FnC.of (fn := Try.f36) ⟨Try.func36, by kernel_rfl, rfl⟩ Try.ntmps36 (by simp) fun w0 S0 => ?_
  refine p_go fun hf => ?_
  refine p_callX ([(0 + 1, 2)]) (hf := blankR w.length (by omega)) (hg := by simp <;> omega) (hos := by simp <;> omega) (h := fun r o1 h1 hg1 hlw1 hos1 hR1 => ?_)
  obtain ⟨G, γ, hG, hGg, rfl, htb, hT0⟩ := hR1
  simp only [valsO, List.cons.injEq, and_true] at hos1
  have hE := (⟨hos1, htb⟩ : _ ∧ _)
  refine p_go ?_
  refine p_splitC (s := 26) (ht := fun hc26 => ?_) (hf := fun hc26 => ?_)
  · have hF : False := by have h9 := hc26; simp at h9; omega
    exact hF.elim
  · refine p_go ?_
    refine p_splitC (s := 26) (ht := fun hc26x => ?_) (hf := fun hc26x => ?_)
    · have hF : False := by have h9 := hc26x; simp at h9; omega
      exact hF.elim
    · refine p_go ?_
      refine p_splitC (s := 53) (ht := fun hc53 => ?_) (hf := fun hc53 => ?_)
      · have hF : False := by have h9 := hc53; simp at h9; omega
        exact hF.elim
      · refine p_go ?_
        refine p_splitC (s := 57) (ht := fun hc57 => ?_) (hf := fun hc57 => ?_)
        · refine p_go fun hf => ?_
          refine p_callX ([(0 + 1, 2)]) (hf := emptyR w.length (by omega)) (hg := by simp <;> omega) (hos := by simp <;> omega) (h := fun r o2 h2 hg2 hlw2 hos2 hR2 => ?_)
          obtain ⟨G2, γ2, hG2, hGg2, rfl, htb2, hT2⟩ := hR2
          simp only [valsO, List.cons.injEq, and_true] at hos2
          have hE := (⟨hos2, htb2⟩ : _ ∧ _)
          refine p_go ?_
          refine p_frzTab (s := 6) (g1 := G2) (te := 4) (t := 81) (n := (w.length + 1)) eV_ oB_ hT2 fun ob2 hob2 => ?_
          have hbx : ob2 (0 + 1) 2 = .cells 25 (rxA x).cells := (hob2 _ _ (by decide)).trans oB_
          have hE := hbx
          refine p_loopK [1, 2] [(0 + 1, 2)] (fun st => ∃ i : Nat, (i ≤ x.kids.length) ∧ st.env 6 = .sl 81 (tabS 4 (w.length + 1) (w.length + 1) (fun a b => seqB w (x.kids.take i) a b)) ∧ st.env 8 = inV i) (fun st => x.kids.length - (st.env 8).toN) ?_ fun e ob g2 hK hO hI => ?_
          · exact ⟨0, by omega, by rw [tabS_congr (B := fun a b => seqB w (x.kids.take 0) a b) (B' := fun a b => decide (b = a)) (fun a b _ _ => by rw [List.take_zero, seqB])]; exact eV_, eV_⟩
          · obtain ⟨i, hi, e6, e8⟩ := hI
            dsimp only at e6 e8
            simp only [valsE, List.cons.injEq, and_true] at hK
            simp only [valsO, List.cons.injEq, and_true] at hO
            have hE := (⟨hK, hO, e6, e8⟩ : _ ∧ _ ∧ _ ∧ _)
            refine p_go ?_
            refine p_splitC (s := 65) (ht := fun hc65 => ?_) (hf := fun hc65 => ?_)
            · have hlt : i < x.kids.length := by simpa using hc65
              refine p_go fun hf => ?_
              refine p_idxMap (j := i) (ht := Try.underlying23) (hi := F.ti25.h) (hij := rfl) (hj := hlt) (h := ?_)
              rw [rxV_cells]
              refine p_go fun hf => ?_
              refine p_call (hx := rfl) (hb := ⟨Try.func36, by kernel_rfl, rfl⟩) (hf := hrec x.kids[i] (List.getElem_mem hlt)) (h := ?_)
              refine p_call (hx := rfl) (hb := ⟨Try.func65, by kernel_rfl, rfl⟩) (hf := behindR w.length (by omega) (fun a b => seqB w (x.kids.take i) a b) (spanB w x.kids[i])) (h := ?_)
              refine p_go fun hf => ?_
              refine p_add (r := ((i + 1 : Nat) : Int)) (hr := (by first | omega | (simp only [decide_eq_true_eq, decide_eq_false_iff_not, Bool.or_eq_false_iff, Bool.and_eq_true, Bool.not_eq_true', Bool.not_eq_false'] at *; omega))) (hb := (by first | omega | (simp only [decide_eq_true_eq, decide_eq_false_iff_not, Bool.or_eq_false_iff, Bool.and_eq_true, Bool.not_eq_true', Bool.not_eq_false'] at *; omega))) (h := ?_)
              refine p_go ?_
              refine p_some ?_
              refine ⟨⟨(by simp (decide := true) only [valsE, evE, upd, cv, args0, argsFrom, List.length_map, ↓reduceIte, hE] <;> rfl), (by simp (decide := true) only [valsO, updO, upd, true_and, and_true, false_and, and_false, ↓reduceIte, hE] <;> rfl)⟩, ⟨i + 1, hlt, by rw [← tabS_congr (seq_beh hlt)]; exact eV_, eV_⟩, ?_⟩
              simp (decide := true) only [upd, e8, V.toN, ↓reduceIte]; omega
            · have hge : ¬ i < x.kids.length := by simpa using hc65
              have htk : x.kids.take i = x.kids := List.take_of_length_le (by omega)
              rw [htk] at e6
              have hE := (⟨hK, hO, e6, e8⟩ : _ ∧ _ ∧ _ ∧ _)
              refine p_go ?_
              refine p_ret1 (hp := by rw [tabS_congr fun a b _ _ => seq_end h5 a b])
        · have hF : False := by have h8 := hc26; have h9 := hc57; simp at h8 h9; omega
          exact hF.elim
theorem spans_6 (w : List ByteArray) (hw : w.length ≤ 100) (x : Rx) (hs : x.kids.length ≤ 17592186044416) (h6 : x.op = 6) (hrec : ∀ k ∈ x.kids, FnC Try.prog 36 [rxA k, .sl 9 (w.map V.str)] (fun r => r = .sl 81 (tabS 4 (w.length + 1) (w.length + 1) (spanB w k)))) : FnC Try.prog 36 [rxA x, .sl 9 (w.map V.str)] (fun r => r = .sl 81 (tabS 4 (w.length + 1) (w.length + 1) (spanB w x))) := by
  refine FnC.of (fn := Try.f36) ⟨Try.func36, by kernel_rfl, rfl⟩ Try.ntmps36 (by simp) fun w0 S0 => ?_
  refine p_go fun hf => ?_
  refine p_callX ([(0 + 1, 2)]) (hf := blankR w.length (by omega)) (hg := by simp <;> omega) (hos := by simp <;> omega) (h := fun r o1 h1 hg1 hlw1 hos1 hR1 => ?_)
  obtain ⟨G, γ, hG, hGg, rfl, htb, hT0⟩ := hR1
  simp only [valsO, List.cons.injEq, and_true] at hos1
  have hE := (⟨hos1, htb⟩ : _ ∧ _)
  refine p_go ?_
  refine p_splitC (s := 26) (ht := fun hc26 => ?_) (hf := fun hc26 => ?_)
  · have hF : False := by have h9 := hc26; simp at h9; omega
    exact hF.elim
  · refine p_go ?_
    refine p_splitC (s := 26) (ht := fun hc26x => ?_) (hf := fun hc26x => ?_)
    · have hF : False := by have h9 := hc26x; simp at h9; omega
      exact hF.elim
    · refine p_go ?_
      refine p_splitC (s := 53) (ht := fun hc53 => ?_) (hf := fun hc53 => ?_)
      · have hF : False := by have h9 := hc53; simp at h9; omega
        exact hF.elim
      · refine p_go ?_
        refine p_splitC (s := 57) (ht := fun hc57 => ?_) (hf := fun hc57 => ?_)
        · have hF : False := by have h9 := hc57; simp at h9; omega
          exact hF.elim
        · refine p_go ?_
          refine p_splitC (s := 77) (ht := fun hc77 => ?_) (hf := fun hc77 => ?_)
          · refine p_go ?_
            refine p_loopK [1, 2, 5, 6] [(G, 900), (0 + 1, 2)] (fun st => ∃ i : Nat, (i ≤ x.kids.length) ∧ (h1 ≤ st.gen) ∧ (Tb 4 (w.length + 1) (fun x_ y_ => altB w (x.kids.take i) x_ y_) γ 0 st.gen st.obj) ∧ st.env 9 = inV i) (fun st => x.kids.length - (st.env 9).toN) ?_ fun e ob g3 hK hO hI => ?_
            · exact ⟨0, by omega, by (try dsimp only); omega, ((hT0.low2 (by omega)).frame (by (try dsimp only); omega) (fun a ha => rfl)).ext (fun a b _ _ => by rw [List.take_zero, altB]), eV_⟩
            · obtain ⟨i, hi, hgen1, hT, e9⟩ := hI
              dsimp only at e9
              simp only [valsE, List.cons.injEq, and_true] at hK
              simp only [valsO, List.cons.injEq, and_true] at hO
              have hE := (⟨hK, hO, e9⟩ : _ ∧ _ ∧ _)
              dsimp only at hgen1 hT
              refine p_go ?_
              refine p_splitC (s := 83) (ht := fun hc83 => ?_) (hf := fun hc83 => ?_)
              · have hlt : i < x.kids.length := by simpa using hc83
                refine p_go fun hf => ?_
                refine p_idxMap (j := i) (ht := Try.underlying23) (hi := F.ti25.h) (hij := rfl) (hj := hlt) (h := ?_)
                rw [rxV_cells]
                refine p_go fun hf => ?_
                refine p_call (hx := rfl) (hb := ⟨Try.func36, by kernel_rfl, rfl⟩) (hf := hrec x.kids[i] (List.getElem_mem hlt)) (h := ?_)
                refine p_go ?_
                refine p_loopK [1, 2, 5, 6, 9, 10] [(G, 900), (0 + 1, 2)] (fun st => ∃ (a : Nat) (B1 : Nat → Nat → Bool), (a ≤ w.length + 1) ∧ (OrT (w.length + 1) (fun x_ y_ => altB w (x.kids.take i) x_ y_) (spanB w x.kids[i]) B1 a 0) ∧ (h1 ≤ st.gen) ∧ (Tb 4 (w.length + 1) B1 γ 0 st.gen st.obj) ∧ st.env 11 = inV a) (fun st => w.length + 1 - (st.env 11).toN) ?_ fun e ob g4 hK hO hI => ?_
                · exact ⟨0, _, by omega, or_zero, by (try dsimp only); omega, hT.frame (by (try dsimp only); omega) (fun a ha => rfl), eV_⟩
                · obtain ⟨a, B1, ha, hS1, hgen2, hT1, e11⟩ := hI
                  dsimp only at e11
                  simp only [valsE, List.cons.injEq, and_true] at hK
                  simp only [valsO, List.cons.injEq, and_true] at hO
                  have hE := (⟨hK, hO, e11⟩ : _ ∧ _ ∧ _)
                  dsimp only at hgen2 hT1
                  refine p_go ?_
                  refine p_splitC (s := 95) (ht := fun hc95 => ?_) (hf := fun hc95 => ?_)
                  · have hla : a < w.length + 1 := by have := hc95; simp at this; omega
                    refine p_go ?_
                    refine p_loopK [1, 2, 5, 6, 9, 10, 11] [(G, 900), (0 + 1, 2)] (fun st => ∃ (b : Nat) (B2 : Nat → Nat → Bool), (a ≤ b ∧ b ≤ w.length + 1) ∧ (OrT (w.length + 1) (fun x_ y_ => altB w (x.kids.take i) x_ y_) (spanB w x.kids[i]) B2 a b) ∧ (h1 ≤ st.gen) ∧ (Tb 4 (w.length + 1) B2 γ 0 st.gen st.obj) ∧ st.env 12 = inV b) (fun st => w.length + 1 - (st.env 12).toN) ?_ fun e ob g5 hK hO hI => ?_
                    · exact ⟨a, B1, by omega, or_in hS1, by (try dsimp only); omega, hT1.frame (by (try dsimp only); omega) (fun a ha => rfl), eV_⟩
                    · obtain ⟨b, B2, hb, hS2, hgen3, hT2, e12⟩ := hI
                      dsimp only at e12
                      simp only [valsE, List.cons.injEq, and_true] at hK
                      simp only [valsO, List.cons.injEq, and_true] at hO
                      have hE := (⟨hK, hO, e12⟩ : _ ∧ _ ∧ _)
                      dsimp only at hgen3 hT2
                      refine p_go ?_
                      refine p_splitC (s := 101) (ht := fun hc101 => ?_) (hf := fun hc101 => ?_)
                      · have hlb : b < w.length + 1 := by have := hc101; simp at this; omega
                        have hri := hT2.row a hla
                        have hE := (⟨hK, hO, e12, hri⟩ : _ ∧ _ ∧ _ ∧ _)
                        refine p_go fun hf => ?_
                        refine p_rvIdx (a) (ht := Try.underlying83) (hi := F.ti81.h) (hlt := hla) (h := ?_)
                        refine p_rvLoad (ht := F.leaf81.h) (hv := tabL_at hla) (h := ?_)
                        refine p_go fun hf => ?_
                        refine p_rvIdx (a) (ht := Try.underlying83) (hi := F.ti81.h) (hlt := hla) (h := ?_)
                        refine p_rvLoad (ht := F.leaf81.h) (hv := tabL_at hla) (h := ?_)
                        refine p_go fun hf => ?_
                        refine p_idxRowN (b) (ht := Try.underlying81) (hi := F.ti4.h) (hij := rfl) (hlt := hlb) (h := ?_)
                        refine p_loadRowF (ht := F.leaf4.h) (hi := hlb) (h := ?_)
                        refine p_go fun hf => ?_
                        refine p_split (s := 116) (ht := fun hb116 => ?_) (hf := fun hb116 => ?_)
                        · -- slot 116 is true
                          refine p_go fun hf => ?_
                          refine p_idxRowN (b) (ht := Try.underlying81) (hi := F.ti4.h) (hij := rfl) (hlt := hlb) (h := ?_)
                          refine p_storeRowF (f' := fun y => V.bool (if y = b then (B2 a b || spanB w x.kids[i] a b) else B2 a y)) F.ti4.h (TI.cells F.ti4.h) (hlt := hlb) (hf := fun y _ => by by_cases e : y = b <;> simp [e, hb116]) (h := ?_)
                          refine p_go fun hf => ?_
                          refine p_add (r := ((b + 1 : Nat) : Int)) (hr := (by first | omega | (simp only [decide_eq_true_eq, decide_eq_false_iff_not, Bool.or_eq_false_iff, Bool.and_eq_true, Bool.not_eq_true', Bool.not_eq_false'] at *; omega))) (hb := (by first | omega | (simp only [decide_eq_true_eq, decide_eq_false_iff_not, Bool.or_eq_false_iff, Bool.and_eq_true, Bool.not_eq_true', Bool.not_eq_false'] at *; omega))) (h := ?_)
                          refine p_go ?_
                          refine p_some ?_
                          refine ⟨⟨(by simp (decide := true) only [valsE, evE, upd, cv, args0, argsFrom, List.length_map, ↓reduceIte, hE] <;> rfl), (by simp (decide := true) only [valsO, updO, upd, true_and, and_true, false_and, and_false, ↓reduceIte, hE] <;> rfl)⟩, ⟨b + 1, _, by omega, or_put hS2 hb.1 hla hlb, by (try dsimp only); omega, hT2.put hla (by (try dsimp only); omega) _, eV_⟩, ?_⟩
                          simp (decide := true) only [upd, e12, V.toN, ↓reduceIte]; omega
                        · -- slot 116 is false
                          refine p_go fun hf => ?_
                          refine p_idxSl (ht := Try.underlying83) (hi := F.ti81.h) (h0 := by omega) (hv := by rw [Int.toNat_natCast]; exact tabS_at hla) (h := ?_)
                          refine p_go fun hf => ?_
                          refine p_idxSl (ht := Try.underlying81) (hi := F.ti4.h) (h0 := by omega) (hv := by rw [Int.toNat_natCast]; exact bRow_at hlb) (h := ?_)
                          refine p_go fun hf => ?_
                          refine p_idxRowN (b) (ht := Try.underlying81) (hi := F.ti4.h) (hij := rfl) (hlt := hlb) (h := ?_)
                          refine p_storeRowF (f' := fun y => V.bool (if y = b then (B2 a b || spanB w x.kids[i] a b) else B2 a y)) F.ti4.h (TI.cells F.ti4.h) (hlt := hlb) (hf := fun y _ => by by_cases e : y = b <;> simp [e, hb116]) (h := ?_)
                          refine p_go fun hf => ?_
                          refine p_add (r := ((b + 1 : Nat) : Int)) (hr := (by first | omega | (simp only [decide_eq_true_eq, decide_eq_false_iff_not, Bool.or_eq_false_iff, Bool.and_eq_true, Bool.not_eq_true', Bool.not_eq_false'] at *; omega))) (hb := (by first | omega | (simp only [decide_eq_true_eq, decide_eq_false_iff_not, Bool.or_eq_false_iff, Bool.and_eq_true, Bool.not_eq_true', Bool.not_eq_false'] at *; omega))) (h := ?_)
                          refine p_go ?_
                          refine p_some ?_
                          refine ⟨⟨(by simp (decide := true) only [valsE, evE, upd, cv, args0, argsFrom, List.length_map, ↓reduceIte, hE] <;> rfl), (by simp (decide := true) only [valsO, updO, upd, true_and, and_true, false_and, and_false, ↓reduceIte, hE] <;> rfl)⟩, ⟨b + 1, _, by omega, or_put hS2 hb.1 hla hlb, by (try dsimp only); omega, hT2.put hla (by (try dsimp only); omega) _, eV_⟩, ?_⟩
                          simp (decide := true) only [upd, e12, V.toN, ↓reduceIte]; omega
                      · have hge : w.length + 1 ≤ b := by have := hc101; simp at this; omega
                        obtain rfl : b = w.length + 1 := by omega
                        refine p_go fun hf => ?_
                        refine p_add (r := ((a + 1 : Nat) : Int)) (hr := (by first | omega | (simp only [decide_eq_true_eq, decide_eq_false_iff_not, Bool.or_eq_false_iff, Bool.and_eq_true, Bool.not_eq_true', Bool.not_eq_false'] at *; omega))) (hb := (by first | omega | (simp only [decide_eq_true_eq, decide_eq_false_iff_not, Bool.or_eq_false_iff, Bool.and_eq_true, Bool.not_eq_true', Bool.not_eq_false'] at *; omega))) (h := ?_)
                        refine p_go ?_
                        refine p_some ?_
                        refine ⟨⟨(by simp (decide := true) only [valsE, evE, upd, cv, args0, argsFrom, List.length_map, ↓reduceIte, hE] <;> rfl), (by simp (decide := true) only [valsO, updO, upd, true_and, and_true, false_and, and_false, ↓reduceIte, hE] <;> rfl)⟩, ⟨a + 1, B2, by omega, or_out hS2, by (try dsimp only); omega, hT2.frame (by (try dsimp only); omega) (fun a ha => rfl), eV_⟩, ?_⟩
                        simp (decide := true) only [upd, e11, V.toN, ↓reduceIte]; omega
                  · have hge : w.length + 1 ≤ a := by have := hc95; simp at this; omega
                    obtain rfl : a = w.length + 1 := by omega
                    refine p_go fun hf => ?_
                    refine p_add (r := ((i + 1 : Nat) : Int)) (hr := (by first | omega | (simp only [decide_eq_true_eq, decide_eq_false_iff_not, Bool.or_eq_false_iff, Bool.and_eq_true, Bool.not_eq_true', Bool.not_eq_false'] at *; omega))) (hb := (by first | omega | (simp only [decide_eq_true_eq, decide_eq_false_iff_not, Bool.or_eq_false_iff, Bool.and_eq_true, Bool.not_eq_true', Bool.not_eq_false'] at *; omega))) (h := ?_)
                    refine p_go ?_
                    refine p_some ?_
                    refine ⟨⟨(by simp (decide := true) only [valsE, evE, upd, cv, args0, argsFrom, List.length_map, ↓reduceIte, hE] <;> rfl), (by simp (decide := true) only [valsO, updO, upd, true_and, and_true, false_and, and_false, ↓reduceIte, hE] <;> rfl)⟩, ⟨i + 1, hlt, by (try dsimp only); omega, (hT1.frame (by (try dsimp only); omega) (fun a ha => rfl)).ext (fun a b ha hb => alt_done hlt hS1 a b ha hb), eV_⟩, ?_⟩
                    simp (decide := true) only [upd, e9, V.toN, ↓reduceIte]; omega
              · have hge : ¬ i < x.kids.length := by simpa using hc83
                have htk : x.kids.take i = x.kids := List.take_of_length_le (by omega)
                rw [htk] at hT
                refine p_condF (h := ?_)
                refine p_exit ?_
                refine p_seq (p_region fun hf => ?_)
                refine p_move (h := ?_)
                refine p_assign (h := ?_)
                refine p_end ?_
                refine TrC.ret ?_
                refine p_frzTab (s := 4) (g1 := G) (te := 4) (t := 81) (n := (w.length + 1)) eV_ oB_ hT fun ob2 hob2 => ?_
                refine p_ret1 (hp := by rw [tabS_congr fun a b _ _ => alt_end h6 a b])
          · have hF : False := by have h8 := hc26; have h9 := hc77; simp at h8 h9; omega
            exact hF.elim
theorem spans_7 (w : List ByteArray) (hw : w.length ≤ 100) (x : Rx) (hs : x.kids.length ≤ 17592186044416) (h7 : x.op = 7) (hk0 : 0 < x.kids.length) (hrec : ∀ k ∈ x.kids, FnC Try.prog 36 [rxA k, .sl 9 (w.map V.str)] (fun r => r = .sl 81 (tabS 4 (w.length + 1) (w.length + 1) (spanB w k)))) : FnC Try.prog 36 [rxA x, .sl 9 (w.map V.str)] (fun r => r = .sl 81 (tabS 4 (w.length + 1) (w.length + 1) (spanB w x))) := by
  refine FnC.of (fn := Try.f36) ⟨Try.func36, by kernel_rfl, rfl⟩ Try.ntmps36 (by simp) fun w0 S0 => ?_
  refine p_go fun hf => ?_
  refine p_callX ([(0 + 1, 2)]) (hf := blankR w.length (by omega)) (hg := by simp <;> omega) (hos := by simp <;> omega) (h := fun r o1 h1 hg1 hlw1 hos1 hR1 => ?_)
  obtain ⟨G, γ, hG, hGg, rfl, htb, hT0⟩ := hR1
  simp only [valsO, List.cons.injEq, and_true] at hos1
  have hE := (⟨hos1, htb⟩ : _ ∧ _)
  refine p_go ?_
  refine p_splitC (s := 26) (ht := fun hc26 => ?_) (hf := fun hc26 => ?_)
  · have hF : False := by have h9 := hc26; simp at h9; omega
    exact hF.elim
  · refine p_go ?_
    refine p_splitC (s := 26) (ht := fun hc26x => ?_) (hf := fun hc26x => ?_)
    · have hF : False := by have h9 := hc26x; simp at h9; omega
      exact hF.elim
    · refine p_go ?_
      refine p_splitC (s := 53) (ht := fun hc53 => ?_) (hf := fun hc53 => ?_)
      · have hF : False := by have h9 := hc53; simp at h9; omega
        exact hF.elim
      · refine p_go ?_
        refine p_splitC (s := 57) (ht := fun hc57 => ?_) (hf := fun hc57 => ?_)
        · have hF : False := by have h9 := hc57; simp at h9; omega
          exact hF.elim
        · refine p_go ?_
          refine p_splitC (s := 77) (ht := fun hc77 => ?_) (hf := fun hc77 => ?_)
          · have hF : False := by have h9 := hc77; simp at h9; omega
            exact hF.elim
          · refine p_go ?_
            refine p_splitC (s := 126) (ht := fun hc126 => ?_) (hf := fun hc126 => ?_)
            · refine p_go fun hf => ?_
              refine p_idxMap (j := 0) (ht := Try.underlying23) (hi := F.ti25.h) (hij := rfl) (hj := hk0) (h := ?_)
              rw [rxV_cells]
              refine p_go fun hf => ?_
              refine p_call (hx := rfl) (hb := ⟨Try.func36, by kernel_rfl, rfl⟩) (hf := hrec x.kids[0] (List.getElem_mem hk0)) (h := ?_)
              refine p_go fun hf => ?_
              refine p_callX ([(0 + 1, 2)]) (hf := emptyR w.length (by omega)) (hg := by simp <;> omega) (hos := by simp <;> omega) (h := fun r o2 h2 hg2 hlw2 hos2 hR2 => ?_)
              obtain ⟨G2, γ2, hG2, hGg2, rfl, htb2, hT2⟩ := hR2
              simp only [valsO, List.cons.injEq, and_true] at hos2
              have hE := (⟨hos2, htb2⟩ : _ ∧ _)
              refine p_go ?_
              refine p_loopK [5, 6, 13] [(G2, 900), (0 + 1, 2)] (fun st => ∃ (q : Nat) (B1 : Nat → Nat → Bool), (q ≤ w.length + 1) ∧ (StQ (spanB w x.kids[0]) w.length B1 q) ∧ (h2 ≤ st.gen) ∧ (Tb 4 (w.length + 1) B1 γ2 0 st.gen st.obj) ∧ st.env 14 = iV ((q : Int) - 1)) (fun st => (st.env 14).toM) ?_ fun e ob g6 hK hO hI => ?_
              · exact ⟨w.length + 1, _, by omega, st_zero, by (try dsimp only); omega, (hT2.low2 (by omega)).frame (by (try dsimp only); omega) (fun a ha => rfl), by rw [show (((w.length + 1 : Nat) : Int) - 1) = (w.length : Int) by omega]; exact eV_⟩
              · obtain ⟨q, B1, hq, hS1, hgen2, hT3, e14⟩ := hI
                dsimp only at e14
                simp only [valsE, List.cons.injEq, and_true] at hK
                simp only [valsO, List.cons.injEq, and_true] at hO
                have hE := (⟨hK, hO, e14⟩ : _ ∧ _ ∧ _)
                dsimp only at hgen2 hT3
                refine p_go ?_
                refine p_splitC (s := 138) (ht := fun hc138 => ?_) (hf := fun hc138 => ?_)
                · obtain ⟨a, rfl⟩ : ∃ a, q = a + 1 := ⟨q - 1, by have := hc138; simp at this; omega⟩
                  have hla : a < w.length + 1 := by omega
                  rw [show (((a + 1 : Nat) : Int) - 1) = (a : Int) by omega] at e14
                  have hE := (⟨hK, hO, e14⟩ : _ ∧ _ ∧ _)
                  refine p_go fun hf => ?_
                  refine p_add (r := ((a + 1 : Nat) : Int)) (hr := (by first | omega | (simp only [decide_eq_true_eq, decide_eq_false_iff_not, Bool.or_eq_false_iff, Bool.and_eq_true, Bool.not_eq_true', Bool.not_eq_false'] at *; omega))) (hb := (by first | omega | (simp only [decide_eq_true_eq, decide_eq_false_iff_not, Bool.or_eq_false_iff, Bool.and_eq_true, Bool.not_eq_true', Bool.not_eq_false'] at *; omega))) (h := ?_)
                  refine p_go ?_
                  refine p_loopK [5, 6, 13, 14] [(G2, 900), (0 + 1, 2)] (fun st => ∃ (b : Nat) (B2 : Nat → Nat → Bool), (a + 1 ≤ b ∧ b ≤ w.length + 1) ∧ (StT (spanB w x.kids[0]) w.length B2 a b 0) ∧ (h2 ≤ st.gen) ∧ (Tb 4 (w.length + 1) B2 γ2 0 st.gen st.obj) ∧ st.env 15 = inV b) (fun st => w.length + 1 - (st.env 15).toN) ?_ fun e ob g7 hK hO hI => ?_
                  · exact ⟨a + 1, B1, by omega, st_in hS1, by (try dsimp only); omega, hT3.frame (by (try dsimp only); omega) (fun a ha => rfl), eV_⟩
                  · obtain ⟨b, B2, hb, hS2, hgen3, hT4, e15⟩ := hI
                    dsimp only at e15
                    simp only [valsE, List.cons.injEq, and_true] at hK
                    simp only [valsO, List.cons.injEq, and_true] at hO
                    have hE := (⟨hK, hO, e15⟩ : _ ∧ _ ∧ _)
                    dsimp only at hgen3 hT4
                    refine p_go ?_
                    refine p_splitC (s := 145) (ht := fun hc145 => ?_) (hf := fun hc145 => ?_)
                    · have hlb : b < w.length + 1 := by have := hc145; simp at this; omega
                      refine p_go ?_
                      refine p_loopK [5, 6, 13, 14, 15] [(G2, 900), (0 + 1, 2)] (fun st => ∃ (c : Nat) (B3 : Nat → Nat → Bool), (b ≤ c ∧ c ≤ w.length + 1) ∧ (StT (spanB w x.kids[0]) w.length B3 a b c) ∧ (h2 ≤ st.gen) ∧ (Tb 4 (w.length + 1) B3 γ2 0 st.gen st.obj) ∧ st.env 16 = inV c) (fun st => w.length + 1 - (st.env 16).toN) ?_ fun e ob g8 hK hO hI => ?_
                      · exact ⟨b, B2, by omega, st_in2 hS2, by (try dsimp only); omega, hT4.frame (by (try dsimp only); omega) (fun a ha => rfl), eV_⟩
                      · obtain ⟨c, B3, hc, hS3, hgen4, hT5, e16⟩ := hI
                        dsimp only at e16
                        simp only [valsE, List.cons.injEq, and_true] at hK
                        simp only [valsO, List.cons.injEq, and_true] at hO
                        have hE := (⟨hK, hO, e16⟩ : _ ∧ _ ∧ _)
                        dsimp only at hgen4 hT5
                        refine p_go fun hf => ?_
                        refine p_split (s := 152) (ht := fun hb152 => ?_) (hf := fun hb152 => ?_)
                        · have hlc : c < w.length + 1 := by have := hb152; simp at this; omega
                          refine p_go fun hf => ?_
                          refine p_idxSl (ht := Try.underlying83) (hi := F.ti81.h) (h0 := by omega) (hv := by rw [Int.toNat_natCast]; exact tabS_at hla) (h := ?_)
                          refine p_go fun hf => ?_
                          refine p_idxSl (ht := Try.underlying81) (hi := F.ti4.h) (h0 := by omega) (hv := by rw [Int.toNat_natCast]; exact bRow_at hlb) (h := ?_)
                          refine p_go ?_
                          refine p_splitC (s := 160) (ht := fun hc160 => ?_) (hf := fun hc160 => ?_)
                          · have hA : spanB w x.kids[0] a b = true := hc160
                            have hra := hT5.row a hla
                            have hrb := hT5.row b hlb
                            have hE := (⟨hK, hO, e16, hra, hrb⟩ : _ ∧ _ ∧ _ ∧ _ ∧ _)
                            refine p_go fun hf => ?_
                            refine p_rvIdx (a) (ht := Try.underlying83) (hi := F.ti81.h) (hlt := hla) (h := ?_)
                            refine p_rvLoad (ht := F.leaf81.h) (hv := tabL_at hla) (h := ?_)
                            refine p_go fun hf => ?_
                            refine p_rvIdx (a) (ht := Try.underlying83) (hi := F.ti81.h) (hlt := hla) (h := ?_)
                            refine p_rvLoad (ht := F.leaf81.h) (hv := tabL_at hla) (h := ?_)
                            refine p_go fun hf => ?_
                            refine p_idxRowN (c) (ht := Try.underlying81) (hi := F.ti4.h) (hij := rfl) (hlt := hlc) (h := ?_)
                            refine p_loadRowF (ht := F.leaf4.h) (hi := hlc) (h := ?_)
                            refine p_go fun hf => ?_
                            refine p_split (s := 175) (ht := fun hb175 => ?_) (hf := fun hb175 => ?_)
                            · -- slot 175 is true
                              refine p_go fun hf => ?_
                              refine p_idxRowN (c) (ht := Try.underlying81) (hi := F.ti4.h) (hij := rfl) (hlt := hlc) (h := ?_)
                              refine p_storeRowF (f' := fun y => V.bool (if y = c then (B3 a c || B3 b c) else B3 a y)) F.ti4.h (TI.cells F.ti4.h) (hlt := hlc) (hf := fun y _ => by by_cases e : y = c <;> simp [e, hb175]) (h := ?_)
                              refine p_go fun hf => ?_
                              refine p_add (r := ((c + 1 : Nat) : Int)) (hr := (by first | omega | (simp only [decide_eq_true_eq, decide_eq_false_iff_not, Bool.or_eq_false_iff, Bool.and_eq_true, Bool.not_eq_true', Bool.not_eq_false'] at *; omega))) (hb := (by first | omega | (simp only [decide_eq_true_eq, decide_eq_false_iff_not, Bool.or_eq_false_iff, Bool.and_eq_true, Bool.not_eq_true', Bool.not_eq_false'] at *; omega))) (h := ?_)
                              refine p_go ?_
                              refine p_some ?_
                              refine ⟨⟨(by simp (decide := true) only [valsE, evE, upd, cv, args0, argsFrom, List.length_map, ↓reduceIte, hE] <;> rfl), (by simp (decide := true) only [valsO, updO, upd, true_and, and_true, false_and, and_false, ↓reduceIte, hE] <;> rfl)⟩, ⟨c + 1, _, by omega, st_put hS3 hA (by omega) hc.1 hlc, by (try dsimp only); omega, hT5.put hla (by (try dsimp only); omega) _, eV_⟩, ?_⟩
                              simp (decide := true) only [upd, e16, V.toN, ↓reduceIte]; omega
                            · -- slot 175 is false
                              refine p_go fun hf => ?_
                              refine p_rvIdx (b) (ht := Try.underlying83) (hi := F.ti81.h) (hlt := hlb) (h := ?_)
                              refine p_go fun hf => ?_
                              refine p_rvLoad (ht := F.leaf81.h) (hv := tabL_at hlb) (h := ?_)
                              refine p_go fun hf => ?_
                              refine p_idxRowN (c) (ht := Try.underlying81) (hi := F.ti4.h) (hij := rfl) (hlt := hlc) (h := ?_)
                              refine p_go fun hf => ?_
                              refine p_loadRowF (ht := F.leaf4.h) (hi := hlc) (h := ?_)
                              refine p_go fun hf => ?_
                              refine p_idxRowN (c) (ht := Try.underlying81) (hi := F.ti4.h) (hij := rfl) (hlt := hlc) (h := ?_)
                              refine p_storeRowF (f' := fun y => V.bool (if y = c then (B3 a c || B3 b c) else B3 a y)) F.ti4.h (TI.cells F.ti4.h) (hlt := hlc) (hf := fun y _ => by by_cases e : y = c <;> simp [e, hb175]) (h := ?_)
                              refine p_go fun hf => ?_
                              refine p_add (r := ((c + 1 : Nat) : Int)) (hr := (by first | omega | (simp only [decide_eq_true_eq, decide_eq_false_iff_not, Bool.or_eq_false_iff, Bool.and_eq_true, Bool.not_eq_true', Bool.not_eq_false'] at *; omega))) (hb := (by first | omega | (simp only [decide_eq_true_eq, decide_eq_false_iff_not, Bool.or_eq_false_iff, Bool.and_eq_true, Bool.not_eq_true', Bool.not_eq_false'] at *; omega))) (h := ?_)
                              refine p_go ?_
                              refine p_some ?_
                              refine ⟨⟨(by simp (decide := true) only [valsE, evE, upd, cv, args0, argsFrom, List.length_map, ↓reduceIte, hE] <;> rfl), (by simp (decide := true) only [valsO, updO, upd, true_and, and_true, false_and, and_false, ↓reduceIte, hE] <;> rfl)⟩, ⟨c + 1, _, by omega, st_put hS3 hA (by omega) hc.1 hlc, by (try dsimp only); omega, hT5.put hla (by (try dsimp only); omega) _, eV_⟩, ?_⟩
                              simp (decide := true) only [upd, e16, V.toN, ↓reduceIte]; omega
                          · have hA : spanB w x.kids[0] a b = false := hc160
                            refine p_go fun hf => ?_
                            refine p_add (r := ((b + 1 : Nat) : Int)) (hr := (by first | omega | (simp only [decide_eq_true_eq, decide_eq_false_iff_not, Bool.or_eq_false_iff, Bool.and_eq_true, Bool.not_eq_true', Bool.not_eq_false'] at *; omega))) (hb := (by first | omega | (simp only [decide_eq_true_eq, decide_eq_false_iff_not, Bool.or_eq_false_iff, Bool.and_eq_true, Bool.not_eq_true', Bool.not_eq_false'] at *; omega))) (h := ?_)
                            refine p_go ?_
                            refine p_some ?_
                            refine ⟨⟨(by simp (decide := true) only [valsE, evE, upd, cv, args0, argsFrom, List.length_map, ↓reduceIte, hE] <;> rfl), (by simp (decide := true) only [valsO, updO, upd, true_and, and_true, false_and, and_false, ↓reduceIte, hE] <;> rfl)⟩, ⟨b + 1, B3, by omega, st_skip hS3 (.inl hA), by (try dsimp only); omega, hT5.frame (by (try dsimp only); omega) (fun a ha => rfl), eV_⟩, ?_⟩
                            simp (decide := true) only [upd, e15, V.toN, ↓reduceIte]; omega
                        · have hge3 : w.length + 1 ≤ c := by have := hb152; simp at this; omega
                          refine p_go fun hf => ?_
                          refine p_add (r := ((b + 1 : Nat) : Int)) (hr := (by first | omega | (simp only [decide_eq_true_eq, decide_eq_false_iff_not, Bool.or_eq_false_iff, Bool.and_eq_true, Bool.not_eq_true', Bool.not_eq_false'] at *; omega))) (hb := (by first | omega | (simp only [decide_eq_true_eq, decide_eq_false_iff_not, Bool.or_eq_false_iff, Bool.and_eq_true, Bool.not_eq_true', Bool.not_eq_false'] at *; omega))) (h := ?_)
                          refine p_go ?_
                          refine p_some ?_
                          refine ⟨⟨(by simp (decide := true) only [valsE, evE, upd, cv, args0, argsFrom, List.length_map, ↓reduceIte, hE] <;> rfl), (by simp (decide := true) only [valsO, updO, upd, true_and, and_true, false_and, and_false, ↓reduceIte, hE] <;> rfl)⟩, ⟨b + 1, B3, by omega, st_skip hS3 (.inr hge3), by (try dsimp only); omega, hT5.frame (by (try dsimp only); omega) (fun a ha => rfl), eV_⟩, ?_⟩
                          simp (decide := true) only [upd, e15, V.toN, ↓reduceIte]; omega
                    · have hge : w.length + 1 ≤ b := by have := hc145; simp at this; omega
                      obtain rfl : b = w.length + 1 := by omega
                      refine p_go fun hf => ?_
                      refine p_sub (hr := rfl) (hb := by omega) (h := ?_)
                      refine p_go ?_
                      refine p_some ?_
                      refine ⟨⟨(by simp (decide := true) only [valsE, evE, upd, cv, args0, argsFrom, List.length_map, ↓reduceIte, hE] <;> rfl), (by simp (decide := true) only [valsO, updO, upd, true_and, and_true, false_and, and_false, ↓reduceIte, hE] <;> rfl)⟩, ⟨a, B2, by omega, st_out (spanB_le w _) hS2 hla, by (try dsimp only); omega, hT4.frame (by (try dsimp only); omega) (fun a ha => rfl), eV_⟩, ?_⟩
                      simp (decide := true) only [upd, e14, V.toN, V.toM, ↓reduceIte]; omega
                · have hq0 : q = 0 := by have := hc138; simp at this; omega
                  subst hq0
                  refine p_condF (h := ?_)
                  refine p_exit ?_
                  refine p_seq (p_region fun hf => ?_)
                  refine p_move (h := ?_)
                  refine p_assign (h := ?_)
                  refine p_end ?_
                  refine TrC.ret ?_
                  refine p_frzTab (s := 4) (g1 := G2) (te := 4) (t := 81) (n := (w.length + 1)) eV_ oB_ hT3 fun ob2 hob2 => ?_
                  refine p_ret1 (hp := by rw [tabS_congr (star_end h7 hk0 hS1)])
            · have hF : False := by have h8 := hc26; have h9 := hc126; simp at h8 h9; omega
              exact hF.elim
theorem spans_8 (w : List ByteArray) (hw : w.length ≤ 100) (x : Rx) (hs : x.kids.length ≤ 17592186044416) (h8 : x.op = 8) (hk0 : 0 < x.kids.length) (hrec : ∀ k ∈ x.kids, FnC Try.prog 36 [rxA k, .sl 9 (w.map V.str)] (fun r => r = .sl 81 (tabS 4 (w.length + 1) (w.length + 1) (spanB w k)))) : FnC Try.prog 36 [rxA x, .sl 9 (w.map V.str)] (fun r => r = .sl 81 (tabS 4 (w.length + 1) (w.length + 1) (spanB w x))) := by
  refine FnC.of (fn := Try.f36) ⟨Try.func36, by kernel_rfl, rfl⟩ Try.ntmps36 (by simp) fun w0 S0 => ?_
  refine p_go fun hf => ?_
  refine p_callX ([(0 + 1, 2)]) (hf := blankR w.length (by omega)) (hg := by simp <;> omega) (hos := by simp <;> omega) (h := fun r o1 h1 hg1 hlw1 hos1 hR1 => ?_)
  obtain ⟨G, γ, hG, hGg, rfl, htb, hT0⟩ := hR1
  simp only [valsO, List.cons.injEq, and_true] at hos1
  have hE := (⟨hos1, htb⟩ : _ ∧ _)
  refine p_go ?_
  refine p_splitC (s := 26) (ht := fun hc26 => ?_) (hf := fun hc26 => ?_)
  · have hF : False := by have h9 := hc26; simp at h9; omega
    exact hF.elim
  · refine p_go ?_
    refine p_splitC (s := 26) (ht := fun hc26x => ?_) (hf := fun hc26x => ?_)
    · have hF : False := by have h9 := hc26x; simp at h9; omega
      exact hF.elim
    · refine p_go ?_
      refine p_splitC (s := 53) (ht := fun hc53 => ?_) (hf := fun hc53 => ?_)
      · have hF : False := by have h9 := hc53; simp at h9; omega
        exact hF.elim
      · refine p_go ?_
        refine p_splitC (s := 57) (ht := fun hc57 => ?_) (hf := fun hc57 => ?_)
        · have hF : False := by have h9 := hc57; simp at h9; omega
          exact hF.elim
        · refine p_go ?_
          refine p_splitC (s := 77) (ht := fun hc77 => ?_) (hf := fun hc77 => ?_)
          · have hF : False := by have h9 := hc77; simp at h9; omega
            exact hF.elim
          · refine p_go ?_
            refine p_splitC (s := 126) (ht := fun hc126 => ?_) (hf := fun hc126 => ?_)
            · have hF : False := by have h9 := hc126; simp at h9; omega
              exact hF.elim
            · refine p_go ?_
              refine p_splitC (s := 185) (ht := fun hc185 => ?_) (hf := fun hc185 => ?_)
              · refine p_go fun hf => ?_
                refine p_idxMap (j := 0) (ht := Try.underlying23) (hi := F.ti25.h) (hij := rfl) (hj := hk0) (h := ?_)
                rw [rxV_cells]
                refine p_go fun hf => ?_
                refine p_call (hx := rfl) (hb := ⟨Try.func36, by kernel_rfl, rfl⟩) (hf := hrec x.kids[0] (List.getElem_mem hk0)) (h := ?_)
                refine p_go ?_
                refine p_loopK [5, 6, 17] [(G, 900), (0 + 1, 2)] (fun st => ∃ (a : Nat) (B1 : Nat → Nat → Bool), (a ≤ w.length + 1) ∧ (OrT (w.length + 1) (fun _ _ => false) (fun a b => !spanB w x.kids[0] a b) B1 a 0) ∧ (h1 ≤ st.gen) ∧ (Tb 4 (w.length + 1) B1 γ 0 st.gen st.obj) ∧ st.env 18 = inV a) (fun st => w.length + 1 - (st.env 18).toN) ?_ fun e ob g9 hK hO hI => ?_
                · exact ⟨0, _, by omega, or_zero, by (try dsimp only); omega, (hT0.low2 (by omega)).frame (by (try dsimp only); omega) (fun a ha => rfl), eV_⟩
                · obtain ⟨a, B1, ha, hS1, hgen2, hT1, e18⟩ := hI
                  dsimp only at e18
                  simp only [valsE, List.cons.injEq, and_true] at hK
                  simp only [valsO, List.cons.injEq, and_true] at hO
                  have hE := (⟨hK, hO, e18⟩ : _ ∧ _ ∧ _)
                  dsimp only at hgen2 hT1
                  refine p_go ?_
                  refine p_splitC (s := 195) (ht := fun hc195 => ?_) (hf := fun hc195 => ?_)
                  · have hla : a < w.length + 1 := by have := hc195; simp at this; omega
                    refine p_go ?_
                    refine p_loopK [5, 6, 17, 18] [(G, 900), (0 + 1, 2)] (fun st => ∃ (b : Nat) (B2 : Nat → Nat → Bool), (a ≤ b ∧ b ≤ w.length + 1) ∧ (OrT (w.length + 1) (fun _ _ => false) (fun a b => !spanB w x.kids[0] a b) B2 a b) ∧ (h1 ≤ st.gen) ∧ (Tb 4 (w.length + 1) B2 γ 0 st.gen st.obj) ∧ st.env 19 = inV b) (fun st => w.length + 1 - (st.env 19).toN) ?_ fun e ob g10 hK hO hI => ?_
                    · exact ⟨a, B1, by omega, or_in hS1, by (try dsimp only); omega, hT1.frame (by (try dsimp only); omega) (fun a ha => rfl), eV_⟩
                    · obtain ⟨b, B2, hb, hS2, hgen3, hT2, e19⟩ := hI
                      dsimp only at e19
                      simp only [valsE, List.cons.injEq, and_true] at hK
                      simp only [valsO, List.cons.injEq, and_true] at hO
                      have hE := (⟨hK, hO, e19⟩ : _ ∧ _ ∧ _)
                      dsimp only at hgen3 hT2
                      refine p_go ?_
                      refine p_splitC (s := 201) (ht := fun hc201 => ?_) (hf := fun hc201 => ?_)
                      · have hlb : b < w.length + 1 := by have := hc201; simp at this; omega
                        have hri := hT2.row a hla
                        have hat := or_at hS2 rfl hla hlb
                        have hE := (⟨hK, hO, e19, hri⟩ : _ ∧ _ ∧ _ ∧ _)
                        refine p_go fun hf => ?_
                        refine p_rvIdx (a) (ht := Try.underlying83) (hi := F.ti81.h) (hlt := hla) (h := ?_)
                        refine p_rvLoad (ht := F.leaf81.h) (hv := tabL_at hla) (h := ?_)
                        refine p_go fun hf => ?_
                        refine p_idxSl (ht := Try.underlying83) (hi := F.ti81.h) (h0 := by omega) (hv := by rw [Int.toNat_natCast]; exact tabS_at hla) (h := ?_)
                        refine p_go fun hf => ?_
                        refine p_idxSl (ht := Try.underlying81) (hi := F.ti4.h) (h0 := by omega) (hv := by rw [Int.toNat_natCast]; exact bRow_at hlb) (h := ?_)
                        refine p_go fun hf => ?_
                        refine p_idxRowN (b) (ht := Try.underlying81) (hi := F.ti4.h) (hij := rfl) (hlt := hlb) (h := ?_)
                        refine p_storeRowF (f' := fun y => V.bool (if y = b then (B2 a b || !spanB w x.kids[0] a b) else B2 a y)) F.ti4.h (TI.cells F.ti4.h) (hlt := hlb) (hf := fun y _ => by by_cases e : y = b <;> simp [e, hat]) (h := ?_)
                        refine p_go fun hf => ?_
                        refine p_add (r := ((b + 1 : Nat) : Int)) (hr := (by first | omega | (simp only [decide_eq_true_eq, decide_eq_false_iff_not, Bool.or_eq_false_iff, Bool.and_eq_true, Bool.not_eq_true', Bool.not_eq_false'] at *; omega))) (hb := (by first | omega | (simp only [decide_eq_true_eq, decide_eq_false_iff_not, Bool.or_eq_false_iff, Bool.and_eq_true, Bool.not_eq_true', Bool.not_eq_false'] at *; omega))) (h := ?_)
                        refine p_go ?_
                        refine p_some ?_
                        refine ⟨⟨(by simp (decide := true) only [valsE, evE, upd, cv, args0, argsFrom, List.length_map, ↓reduceIte, hE] <;> rfl), (by simp (decide := true) only [valsO, updO, upd, true_and, and_true, false_and, and_false, ↓reduceIte, hE] <;> rfl)⟩, ⟨b + 1, _, by omega, or_put hS2 hb.1 hla hlb, by (try dsimp only); omega, hT2.put hla (by (try dsimp only); omega) _, eV_⟩, ?_⟩
                        simp (decide := true) only [upd, e19, V.toN, ↓reduceIte]; omega
                      · have hge : w.length + 1 ≤ b := by have := hc201; simp at this; omega
                        obtain rfl : b = w.length + 1 := by omega
                        refine p_go fun hf => ?_
                        refine p_add (r := ((a + 1 : Nat) : Int)) (hr := (by first | omega | (simp only [decide_eq_true_eq, decide_eq_false_iff_not, Bool.or_eq_false_iff, Bool.and_eq_true, Bool.not_eq_true', Bool.not_eq_false'] at *; omega))) (hb := (by first | omega | (simp only [decide_eq_true_eq, decide_eq_false_iff_not, Bool.or_eq_false_iff, Bool.and_eq_true, Bool.not_eq_true', Bool.not_eq_false'] at *; omega))) (h := ?_)
                        refine p_go ?_
                        refine p_some ?_
                        refine ⟨⟨(by simp (decide := true) only [valsE, evE, upd, cv, args0, argsFrom, List.length_map, ↓reduceIte, hE] <;> rfl), (by simp (decide := true) only [valsO, updO, upd, true_and, and_true, false_and, and_false, ↓reduceIte, hE] <;> rfl)⟩, ⟨a + 1, B2, by omega, or_out hS2, by (try dsimp only); omega, hT2.frame (by (try dsimp only); omega) (fun a ha => rfl), eV_⟩, ?_⟩
                        simp (decide := true) only [upd, e18, V.toN, ↓reduceIte]; omega
                  · have hge : w.length + 1 ≤ a := by have := hc195; simp at this; omega
                    obtain rfl : a = w.length + 1 := by omega
                    refine p_condF (h := ?_)
                    refine p_exit ?_
                    refine p_seq (p_region fun hf => ?_)
                    refine p_move (h := ?_)
                    refine p_assign (h := ?_)
                    refine p_end ?_
                    refine TrC.ret ?_
                    refine p_frzTab (s := 4) (g1 := G) (te := 4) (t := 81) (n := (w.length + 1)) eV_ oB_ hT1 fun ob2 hob2 => ?_
                    refine p_ret1 (hp := by rw [tabS_congr (not_end h8 hk0 hS1)])
              · have hF : False := by have h8 := hc26; have h9 := hc185; simp at h8 h9; omega
                exact hF.elim
end Go.Proofs.Ytjdhkopjigijfaa
