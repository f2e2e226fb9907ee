/-
  What an argument reads as, as a value of the abstract machine; a function's contract as the row of a statement that answers true.
-/
import Derived.Test.YtjjpmbaddpiamaaDoorK
import Derived.Deep.Slices
import Derived.Carry
set_option linter.unusedSimpArgs false
set_option linter.unusedVariables false
namespace Go.Proofs.YtjjpmbaddpiamaaDoor
open Go.RowKit Go.ChangeShapes
section
variable {H : Type} {enc : TypeId × Value → H} {P : Program} {w : World}
abbrev InW (w : World) : Nat → Prop := fun b => b < w.heap.size
/-- Whatever reads as data of type t is one cell, and some value of which p speaks. -/
def RLeaf (H : Type) (enc : TypeId × Value → H) (P : Program) (w : World) (t : TypeId) (p : V → Prop) : Prop := ∀ fuel cs x, DataW.trod enc P w 0 (fun _ => true) true fuel t cs = some x → ∃ v c, p v ∧ cs = [c] ∧ RL P w (InW w) v c
def RAny (H : Type) (enc : TypeId × Value → H) (P : Program) (w : World) (t : TypeId) (p : V → Prop) : Prop := ∀ fuel cs x, DataW.trod enc P w 0 (fun _ => true) true fuel t cs = some x → ∃ v, p v ∧ RX P w (InW w) v cs
theorem RLeaf.any {t : TypeId} {p : V → Prop} (h : RLeaf H enc P w t p) : RAny H enc P w t p := fun fuel cs x hx => by
  obtain ⟨v, c, h1, rfl, h2⟩ := h fuel cs x hx
  refine ⟨v, h1, ?_⟩
  cases v <;> first | exact ⟨c, rfl, h2⟩ | (simp [RL] at h2)
theorem RLeaf.int {t : TypeId} {k : IntKind} (ht : P.underlying t = some (.int k)) : RLeaf H enc P w t fun v => ∃ n : Int, v = .int k n := fun fuel cs x hx => by
  obtain ⟨n, rfl, _, _⟩ := DataW.trod_int ht hx
  exact ⟨_, _, ⟨n, rfl⟩, rfl, by rw [RL]⟩
theorem RLeaf.bool {t : TypeId} (ht : P.underlying t = some .bool) : RLeaf H enc P w t fun v => ∃ b : Bool, v = .bool b := fun fuel cs x hx => by
  obtain ⟨n, rfl, _⟩ := DataW.trod_bool ht hx
  exact ⟨_, _, ⟨n, rfl⟩, rfl, by rw [RL]⟩
theorem RLeaf.str {t : TypeId} (ht : P.underlying t = some .string) : RLeaf H enc P w t fun v => ∃ s : ByteArray, v = .str s := fun fuel cs x hx => by
  obtain ⟨n, rfl, _, _⟩ := DataW.trod_string ht hx
  exact ⟨_, _, ⟨n, rfl⟩, rfl, by rw [RL]⟩
theorem each_choose {α : Type} {n : Nat} {q : Nat → α → Prop} (h : ∀ i, i < n → ∃ a, q i a) : ∃ l : List α, l.length = n ∧ ∀ i a, l[i]? = some a → q i a := by
  induction n with
  | zero => exact ⟨[], rfl, fun i a hi => by simp at hi⟩
  | succ n ih =>
    obtain ⟨l, h1, h2⟩ := ih fun i hi => h i (by omega)
    obtain ⟨a, ha⟩ := h n (by omega)
    refine ⟨l ++ [a], by simp [h1], fun i b hi => ?_⟩
    rcases Nat.lt_or_ge i l.length with hl | hl
    · rw [List.getElem?_append_left hl] at hi; exact h2 i b hi
    · rw [List.getElem?_append_right hl] at hi
      have : i - l.length = 0 := by
        rcases Nat.eq_zero_or_pos (i - l.length) with h | h
        · exact h
        · rw [List.getElem?_eq_none (by simp only [List.length_cons, List.length_nil]; omega)] at hi; cases hi
      rw [this] at hi; simp at hi; subst hi
      rw [show i = n by omega]; exact ha
theorem RLeaf.slice {α : Type} {f : α → V} {t e : TypeId} {z : Value} {size bytes : Nat} (ht : P.underlying t = some (.slice e)) (hi : TI P e z size bytes) (h0 : 0 < size) (he : RAny H enc P w e fun v => ∃ a, v = f a) : RLeaf H enc P w t fun v => ∃ l : List α, v = .sl e (l.map f) := fun fuel cs x hx => by
  rcases Go.Deep.open_slice ht hx with ⟨rfl, _⟩ | ⟨a, len, cap, m, n, D, Pl, rfl, _, hl, _, hm, _, hel⟩
  · exact ⟨_, _, ⟨[], rfl⟩, rfl, by rw [RL]; exact ⟨none, 0, rfl, Nat.le_refl _, .inl rfl⟩⟩
  · have hlm : len ≤ m := by rw [hm]; split <;> omega
    obtain ⟨l, h1, h2⟩ := each_choose (n := len) (q := fun i (b : α) => ∃ cs', w.cells? 0 (a.add (i * P.cellsOf e)) (P.cellsOf e) = some cs' ∧ RX P w (InW w) (f b) cs') fun i hi => by
      obtain ⟨cs', k1, k2⟩ := hel i (by omega)
      obtain ⟨v, ⟨b, rfl⟩, k3⟩ := he n cs' _ k2
      exact ⟨b, cs', k1, k3⟩
    refine ⟨_, _, ⟨l, rfl⟩, rfl, ?_⟩
    rw [RL]
    refine ⟨some a, cap, by simp [h1], by simpa [h1] using hl, ?_⟩
    rcases Nat.eq_zero_or_pos len with hz | hz
    · left; exact List.eq_nil_of_length_eq_zero (by simp [h1, hz])
    · right
      refine ⟨a, rfl, ?_, RLrow.of_get _ 0 fun i x hx => ?_⟩
      · obtain ⟨cs', k1, _⟩ := hel 0 (by omega)
        have := World.cells?_block k1 (by rw [hi.cells]; exact h0)
        rwa [add_block] at this
      · rw [List.getElem?_map, Option.map_eq_some_iff] at hx
        obtain ⟨b, hb, rfl⟩ := hx
        obtain ⟨cs', k1, k2⟩ := h2 i b hb
        obtain ⟨_, k3, k4⟩ := World.cells?_some k1
        refine ⟨cs', k3, fun j u hu => ?_, k2⟩
        have hj : j < P.cellsOf e := by rw [← k3]; exact (List.getElem?_eq_some_iff.1 hu).1
        rw [Nat.zero_add, ← Go.Proofs.YtjjpmbaddpiamaaDoor.add_add]
        exact (k4 j hj).trans hu
/-- A struct's fields, one cell each. -/
def FieldsR (H : Type) (enc : TypeId × Value → H) (P : Program) (w : World) : Nat → List Field → List (V → Prop) → Prop
  | _, [], [] => True
  | off, f :: fs, p :: ps => f.offset = off ∧ P.cellsOf f.type = 1 ∧ RLeaf H enc P w f.type p ∧ FieldsR H enc P w (off + 1) fs ps
  | _, _, _ => False
def AllP : List (V → Prop) → List V → Prop
  | [], [] => True
  | p :: ps, v :: vs => p v ∧ AllP ps vs
  | _, _ => False
theorem fields_read (cs : List Value) (n : Nat) : ∀ (fs : List Field) (off : Nat) (ps : List (V → Prop)), FieldsR H enc P w off fs ps → off + fs.length = cs.length → (∀ f ∈ fs, ∃ x, DataW.trod enc P w 0 (fun _ => true) true n f.type ((cs.drop f.offset).take (P.cellsOf f.type)) = some x) →
    ∃ vs, AllP ps vs ∧ RLs P w (InW w) vs (cs.drop off)
  | [], off, [], _, hl, _ => ⟨[], trivial, by rw [List.drop_of_length_le (by simp at hl; omega)]; simp [RLs]⟩
  | f :: fs, off, p :: ps, ⟨h1, h2, h3, h4⟩, hl, hx => by
    simp only [List.length_cons] at hl
    obtain ⟨x, hx0⟩ := hx f (List.mem_cons_self ..)
    obtain ⟨v, c, k1, k2, k3⟩ := h3 n _ _ hx0
    obtain ⟨vs, k4, k5⟩ := fields_read cs n fs (off + 1) ps h4 (by omega) fun g hg => hx g (List.mem_cons_of_mem _ hg)
    have hlt : off < cs.length := by omega
    rw [h1, h2, List.drop_eq_getElem_cons hlt, List.take_succ_cons, List.take_zero] at k2
    obtain rfl : cs[off] = c := by simpa using k2
    refine ⟨v :: vs, ⟨k1, k4⟩, ?_⟩
    rw [List.drop_eq_getElem_cons hlt, RLs]
    exact ⟨k3, k5⟩
  | [], _, _ :: _, h, _, _ => h.elim
  | _ :: _, _, [], h, _, _ => h.elim
theorem RAny.struct {t : TypeId} {fs : Array Field} {ps : List (V → Prop)} {p : V → Prop} {z : Value} {size bytes : Nat} (ht : P.underlying t = some (.struct fs)) (hi : TI P t z size bytes) (hsz : fs.size = size) (hf : FieldsR H enc P w 0 fs.toList ps) (hp : ∀ vs, AllP ps vs → p (.agg vs)) : RAny H enc P w t p := fun fuel cs x hx => by
  obtain ⟨xs, n, rfl, _, hlen, hxl, hel⟩ := DataW.trod_struct ht hx
  rw [hi.cells] at hlen
  obtain ⟨vs, h1, h2⟩ := fields_read cs n fs.toList 0 ps hf (by simp; omega) fun f hf' => by
    obtain ⟨i, hi', rfl⟩ := List.mem_iff_getElem.1 hf'
    have hi2 : i < fs.size := by simpa using hi'
    have := hel i fs[i] (by simp [hi2])
    refine ⟨xs[i]'(by omega), ?_⟩
    rw [List.getElem?_eq_getElem (by omega)] at this
    simpa using this
  exact ⟨.agg vs, hp vs h1, by simpa [RX] using h2⟩
/-- An argument. -/
theorem RLeaf.arg {t : TypeId} {p : V → Prop} (h : RLeaf H enc P w t p) {v : Value} (hv : v.cells = #[v]) {d : DataW H} {ps : List MemPlace} (hd : DataW.Trod enc P w 0 (fun _ => true) true t v d ps) : ∃ u, p u ∧ VR P w (InW w) (fun _ _ => none) u v := by
  obtain ⟨fuel, hf⟩ := hd
  obtain ⟨u, c, h1, h2, h3⟩ := h fuel _ _ hf
  rw [hv] at h2
  simp at h2; subst h2
  exact ⟨u, h1, VR.of_leaf h3⟩
theorem RAny.arg {t : TypeId} {p : V → Prop} (h : RAny H enc P w t p) (hagg : ∀ u, p u → ∃ l, u = .agg l) {arr : Array Value} {d : DataW H} {ps : List MemPlace} (hd : DataW.Trod enc P w 0 (fun _ => true) true t (.agg arr) d ps) : ∃ u, p u ∧ VR P w (InW w) (fun _ _ => none) u (.agg arr) := by
  obtain ⟨fuel, hf⟩ := hd
  obtain ⟨u, h1, h2⟩ := h fuel _ _ hf
  obtain ⟨l, rfl⟩ := hagg u h1
  refine ⟨_, h1, ?_⟩
  rw [VR]
  exact ⟨arr, rfl, VRs.of_RLs (by simpa [RX, Value.cells] using h2)⟩
end
end Go.Proofs.YtjjpmbaddpiamaaDoor
