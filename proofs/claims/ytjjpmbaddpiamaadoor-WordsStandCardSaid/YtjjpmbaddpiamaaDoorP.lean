/-
  What each of the model's operations does to a state of the abstract machine: places, loads, stores, new memory.
-/
import Derived.Test.YtjjpmbaddpiamaaDoorO
set_option linter.unusedSimpArgs false
set_option linter.unusedVariables false
namespace Go.Proofs.YtjjpmbaddpiamaaDoor
open Go.RowKit

/-- Values that fit in one cell. -/
def V.leaf : V → Bool
  | .top | .agg _ | .tup _ => false
  | _ => true
/-- Values that say of themselves nothing but what is only read. -/
def V.isRL : V → Bool
  | .int _ _ | .bool _ | .str _ | .nil | .sl _ _ | .any _ | .mp _ => true
  | _ => false
def V.ro : V → Bool
  | .agg l => l.all V.isRL
  | v => v.isRL
section
variable {P : Program} {w : World} {S : Nat → Prop} {at_ : At}
theorem VR.leaf_cells {v : V} {c : Value} (h : VR P w S at_ v c) (hl : v.leaf = true) : c.cells = #[c] ∧ c.oneCell' = true := by
  cases v with
  | any x => rw [VR, RL] at h; obtain ⟨rfl, h1⟩ := h; refine ⟨?_, h1⟩; cases c <;> simp_all [Value.cells, Value.oneCell']
  | int k n => rw [VR, RL] at h; subst h; exact ⟨rfl, rfl⟩
  | bool b => rw [VR, RL] at h; subst h; exact ⟨rfl, rfl⟩
  | str s => rw [VR, RL] at h; subst h; exact ⟨rfl, rfl⟩
  | nil => rw [VR, RL] at h; subst h; exact ⟨rfl, rfl⟩
  | sl e xs => rw [VR, RL] at h; obtain ⟨A, cp, rfl, _⟩ := h; exact ⟨rfl, rfl⟩
  | top => simp [V.leaf] at hl
  | agg l => simp [V.leaf] at hl
  | tup l => simp [V.leaf] at hl
  | fn f l => rw [VR] at h; obtain ⟨arr, rfl, _⟩ := h; exact ⟨rfl, rfl⟩
  | ptr g d o => rw [VR] at h; obtain ⟨b, _, rfl⟩ := h; exact ⟨rfl, rfl⟩
  | ref l => rw [VR] at h; obtain ⟨ad, vals, rfl, _⟩ := h; exact ⟨rfl, rfl⟩
  | row g d n => rw [VR] at h; obtain ⟨A, m, cp, _, _, rfl⟩ := h; exact ⟨rfl, rfl⟩
  | rptr e g d i o => rw [VR] at h; obtain ⟨b, m, cp, _, rfl⟩ := h; exact ⟨rfl, rfl⟩
  | map g d => rw [VR] at h; obtain ⟨b, _, rfl⟩ := h; exact ⟨rfl, rfl⟩
  | yld g d => rw [VR] at h; obtain ⟨b, _, rfl⟩ := h; exact ⟨rfl, rfl⟩
  | mp m => rw [VR, RL] at h; obtain ⟨b, arr, clock, rfl, _⟩ := h; exact ⟨rfl, rfl⟩
theorem VR.toRL {v : V} {c : Value} (h : VR P w S at_ v c) (hl : v.isRL = true) : RL P w S v c := by
  cases v <;> first | (rw [VR] at h; exact h) | (simp [V.isRL] at hl)
theorem VRs.toRLs : ∀ {vs : List V} {cs : List Value}, VRs P w S at_ vs cs → vs.all V.isRL = true → RLs P w S vs cs
  | [], [], _, _ => by simp [RLs]
  | [], _ :: _, h, _ => by simp [VRs] at h
  | _ :: _, [], h, _ => by simp [VRs] at h
  | v :: vs, c :: cs, h, hl => by
    rw [VRs] at h
    simp only [List.all_cons, Bool.and_eq_true] at hl
    rw [RLs]
    exact ⟨h.1.toRL hl.1, h.2.toRLs hl.2⟩
/-- A value with its cells. -/
theorem VR.cells {v : V} {c : Value} (h : VR P w S at_ v c) (hl : v.leaf = true ∨ ∃ l, v = .agg l) : VRs P w S at_ v.cells c.cells.toList := by
  rcases hl with hl | ⟨l, rfl⟩
  · rw [(h.leaf_cells hl).1]
    have : v.cells = [v] := by cases v <;> simp_all [V.leaf, V.cells]
    rw [this]
    simp only []
    rw [VRs]
    exact ⟨h, by simp [VRs]⟩
  · rw [VR] at h
    obtain ⟨arr, rfl, h⟩ := h
    exact h
theorem VR.toRX {v : V} {c : Value} (h : VR P w S at_ v c) (hr : v.ro = true) (hl : v.leaf = true ∨ ∃ l, v = .agg l) : RX P w S v c.cells.toList := by
  rcases hl with hl | ⟨l, rfl⟩
  · have hq : v.isRL = true := by cases v <;> simp_all [V.ro, V.leaf, V.isRL]
    rw [(h.leaf_cells hl).1]
    have h2 := h.toRL hq
    cases v <;> first | exact ⟨c, rfl, h2⟩ | simp [V.leaf] at hl
  · rw [VR] at h
    obtain ⟨arr, rfl, h⟩ := h
    exact h.toRLs hr
theorem RX.rls {v : V} {cs : List Value} (h : RX P w S v cs) : RLs P w S v.cells cs := by
  cases v with
  | agg l => exact h
  | _ => obtain ⟨c, rfl, h⟩ := h; simp only [V.cells]; rw [RLs]; exact ⟨h, by simp [RLs]⟩
theorem RLrow.get {e : TypeId} {ad : Addr} : ∀ {k : Nat} {xs : List V} (_ : RLrow P w S e ad k xs) {i : Nat} {x : V}, xs[i]? = some x →
    ∃ cs : List Value, cs.length = P.cellsOf e ∧ (∀ j u, cs[j]? = some u → w.cell? (ad.add ((k + i) * P.cellsOf e + j)) = some u) ∧ RX P w S x cs
  | _, [], _, i, x, hi => by simp at hi
  | k, y :: ys, h, i, x, hi => by
    rw [RLrow_cons] at h
    cases i with
    | zero => simp at hi; subst hi; exact h.1
    | succ i =>
      simp at hi
      obtain ⟨cs, h1, h2, h3⟩ := h.2.get hi
      exact ⟨cs, h1, fun j u hu => by have := h2 j u hu; rwa [show k + (i + 1) = k + 1 + i by omega], h3⟩
theorem Flat.length {e : TypeId} : ∀ {xs : List V} {cs : List Value}, Flat P w S e xs cs → cs.length = xs.length * P.cellsOf e
  | [], _, h => by simp only [Flat] at h; subst h; simp
  | x :: xs, cs, h => by
    obtain ⟨c1, c2, rfl, h2, _, h4⟩ := h
    simp [h4.length, h2, Nat.add_mul]; omega
theorem Flat.get {e : TypeId} : ∀ {xs : List V} {cs : List Value} (_ : Flat P w S e xs cs) {i : Nat} {x : V}, xs[i]? = some x →
    ∃ c1 : List Value, c1.length = P.cellsOf e ∧ (∀ j u, c1[j]? = some u → cs[i * P.cellsOf e + j]? = some u) ∧ RX P w S x c1
  | [], _, _, i, x, hi => by simp at hi
  | y :: ys, cs, h, i, x, hi => by
    obtain ⟨c1, c2, rfl, h2, h3, h4⟩ := h
    cases i with
    | zero =>
      simp at hi; subst hi
      refine ⟨c1, h2, fun j u hu => ?_, h3⟩
      have := (List.getElem?_eq_some_iff.1 hu).1
      rw [Nat.zero_mul, Nat.zero_add, List.getElem?_append_left this]; exact hu
    | succ i =>
      simp at hi
      obtain ⟨c, h5, h6, h7⟩ := h4.get hi
      refine ⟨c, h5, fun j u hu => ?_, h7⟩
      have := h6 j u hu
      rw [List.getElem?_append_right (by rw [h2, Nat.add_mul]; omega), h2]
      rwa [show (i + 1) * P.cellsOf e + j - P.cellsOf e = i * P.cellsOf e + j by rw [Nat.add_mul]; omega]
theorem Flat.snoc {e : TypeId} : ∀ {xs : List V} {cs : List Value} {x : V} {c : List Value}, Flat P w S e xs cs → c.length = P.cellsOf e → RX P w S x c → Flat P w S e (xs ++ [x]) (cs ++ c)
  | [], _, x, c, h, h1, h2 => by simp only [Flat] at h; subst h; exact ⟨c, [], by simp, h1, h2, rfl⟩
  | y :: ys, cs, x, c, h, h1, h2 => by
    obtain ⟨c1, c2, rfl, h3, h4, h5⟩ := h
    exact ⟨c1, c2 ++ c, by simp, h3, h4, h5.snoc h1 h2⟩
theorem Flat.append {e : TypeId} : ∀ {xs ys : List V} {cs ds : List Value}, Flat P w S e xs cs → Flat P w S e ys ds → Flat P w S e (xs ++ ys) (cs ++ ds)
  | [], _, _, _, h, h' => by simp only [Flat] at h; subst h; simpa using h'
  | y :: ys, _, cs, ds, h, h' => by
    obtain ⟨c1, c2, rfl, h3, h4, h5⟩ := h
    exact ⟨c1, c2 ++ ds, by simp, h3, h4, h5.append h'⟩
theorem Flat.set {e : TypeId} : ∀ {xs : List V} {cs : List Value} (_ : Flat P w S e xs cs) {i : Nat} {x : V} {c : List Value}, i < xs.length → c.length = P.cellsOf e → RX P w S x c →
    Flat P w S e (xs.set i x) (cs.take (i * P.cellsOf e) ++ c ++ cs.drop (i * P.cellsOf e + P.cellsOf e))
  | [], _, _, i, x, c, hi, _, _ => by simp at hi
  | y :: ys, cs, h, i, x, c, hi, h1, h2 => by
    obtain ⟨c1, c2, rfl, h3, h4, h5⟩ := h
    cases i with
    | zero =>
      refine ⟨c, c2, ?_, h1, h2, h5⟩
      simp only [Nat.zero_mul, List.take_zero, List.nil_append, Nat.zero_add]
      rw [← h3, List.drop_left]
    | succ i =>
      simp at hi
      refine ⟨c1, c2.take (i * P.cellsOf e) ++ c ++ c2.drop (i * P.cellsOf e + P.cellsOf e), ?_, h3, h4, h5.set hi h1 h2⟩
      rw [List.take_append, List.take_of_length_le (by rw [h3, Nat.add_mul]; omega), List.drop_append, List.drop_of_length_le (by rw [h3, Nat.add_mul]; omega), h3,
        show (i + 1) * P.cellsOf e - P.cellsOf e = i * P.cellsOf e by rw [Nat.add_mul]; omega, show (i + 1) * P.cellsOf e + P.cellsOf e - P.cellsOf e = i * P.cellsOf e + P.cellsOf e by rw [Nat.add_mul]; omega]
      simp [List.append_assoc]
/-- A row read out of its own block. -/
theorem Flat.rows {e : TypeId} {ad : Addr} : ∀ {xs : List V} {cs : List Value} {k : Nat}, Flat P w S e xs cs → (∀ j u, cs[j]? = some u → w.cell? (ad.add (k * P.cellsOf e + j)) = some u) → RLrow P w S e ad k xs
  | [], _, _, _, _ => by simp [RLrow]
  | x :: xs, cs, k, h, hc => by
    obtain ⟨c1, c2, rfl, h2, h3, h4⟩ := h
    rw [RLrow_cons]
    refine ⟨⟨c1, h2, fun j u hu => hc j u ?_, h3⟩, h4.rows fun j u hu => ?_⟩
    · have := (List.getElem?_eq_some_iff.1 hu).1
      rw [List.getElem?_append_left this]; exact hu
    · have := hc (c1.length + j) u (by rw [List.getElem?_append_right (by omega)]; simpa using hu)
      rwa [h2, ← Nat.add_assoc, show k * P.cellsOf e + P.cellsOf e = (k + 1) * P.cellsOf e by rw [Nat.add_mul]; omega] at this
end

theorem dfd_off {f : Nat → Nat → Ob} {g d : Nat} {o : Ob} (hne : f g d ≠ .dfd) : ∀ g' d', f g' d' = .dfd → updO f g d o g' d' = .dfd := fun g' d' h => by
  unfold updO
  split
  · rename_i he; obtain ⟨rfl, rfl⟩ := he; exact absurd h hne
  · exact h
def updA (f : At) (g d : Nat) (v : Value) : At := fun g' d' => if d' = d ∧ g' = g then some v else f g' d'

section rel
variable {c : Ctx} {S : Nat → Prop} {at_ : At} {st : St} {a : Act} {w : World}
theorem blk_lt (h : Rel c S at_ st a w) {g d : Nat} {v : Value} {b : Nat} (h1 : at_ g d = some v) (h2 : (st.obj g d).live = true) (h3 : blkOf v = some b) : b < w.heap.size := (h.own g d v b h1 h2 h3).2.1
/-- One object is written. -/
theorem Rel.write (h : Rel c S at_ st a w) {g d : Nat} {v : Value} {b : Nat} (hat : at_ g d = some v) (hl : (st.obj g d).live = true) (hb : blkOf v = some b) {w' : World} {o' : Ob}
    (hg : w.grownBy w' (some b)) (hsz : w'.heap.size = w.heap.size) (hl' : o'.live = true) (hok : ObOk c.P w' S c.w0.heap.size at_ v o') (hnd : st.obj g d ≠ .dfd) : Rel c S at_ (st.set g d o') a w' := by
  obtain ⟨hb1, hb2, hb3⟩ := h.own g d v b hat hl hb
  have hw : ∀ k, k < w.heap.size → k ≠ b → w'.heap[k]? = w.heap[k]? := fun k hk hne => hg.block k hk (fun e => hne (Option.some.inj e))
  have hbase := h.below.size
  have hsame : ∀ {g' d'}, ¬ (d' = d ∧ g' = g) → (updO st.obj g d o') g' d' = st.obj g' d' := fun hne => by simp [updO, hne]
  have hthis : (updO st.obj g d o') g d = o' := by simp [updO]
  refine h.move (obj' := updO st.obj g d o') (at' := at_) (S' := S) ?_ (by omega) (fun _ h => h) (fun b hs => by rw [hsz]; exact h.slt b hs) h.snew
    (fun b' hs => hw b' (h.slt b' hs) (fun e => hb3 (e ▸ hs))) (fun _ _ _ h => h) (dfd_off hnd) ?_ ?_ ?_ ?_ ?_
  · exact ⟨hg.os.trans h.below.os, hg.tape.trans h.below.tape, hg.output.trans h.below.output, by omega, fun k hk => (hw k (by omega) (by omega)).trans (h.below.block k hk)⟩
  · intro g' d' hg'
    by_cases he : d' = d ∧ g' = g
    · obtain ⟨rfl, rfl⟩ := he
      have := h.gen g' d' hg'
      rw [this] at hl; simp [Ob.live] at hl
    · rw [hsame he]; exact h.gen g' d' hg'
  · intro g' d'
    by_cases he : d' = d ∧ g' = g
    · obtain ⟨rfl, rfl⟩ := he
      rw [hthis, hat]
      constructor
      · intro e; cases e
      · intro e; rw [e] at hl'; simp [Ob.live] at hl'
    · rw [hsame he]; exact h.al g' d'
  · intro g' d' v' hv'
    by_cases he : d' = d ∧ g' = g
    · obtain ⟨rfl, rfl⟩ := he
      rw [hthis]
      rw [hat] at hv'; cases hv'
      exact hok
    · rw [hsame he]
      refine (h.ok g' d' v' hv').mono (fun _ h => h) (fun b' hs => hw b' (h.slt b' hs) (fun e => hb3 (e ▸ hs))) (fun _ _ _ h => h) fun hl2 b' hb' => hw b' (h.own g' d' v' b' hv' hl2 hb').2.1 fun e => ?_
      subst e
      have := h.dis g' d' g d v' v b' hv' hat hl2 hl hb' hb
      exact he ⟨this.2, this.1⟩
  · intro g' d' v' b' h1 h2 h3
    by_cases he : d' = d ∧ g' = g
    · obtain ⟨rfl, rfl⟩ := he
      rw [hat] at h1; cases h1
      rw [hb] at h3; cases h3
      exact ⟨hb1, by omega, hb3⟩
    · rw [hsame he] at h2
      have := h.own g' d' v' b' h1 h2 h3
      exact ⟨this.1, by omega, this.2.2⟩
  · intro g1 d1 g2 d2 v1 v2 b' h1 h2 h3 h4 h5 h6
    refine h.dis g1 d1 g2 d2 v1 v2 b' h1 h2 ?_ ?_ h5 h6
    · by_cases he : d1 = d ∧ g1 = g
      · obtain ⟨rfl, rfl⟩ := he; exact hl
      · rwa [hsame he] at h3
    · by_cases he : d2 = d ∧ g2 = g
      · obtain ⟨rfl, rfl⟩ := he; exact hl
      · rwa [hsame he] at h4
/-- An object is told no more. -/
theorem Rel.kill (h : Rel c S at_ st a w) {g d : Nat} {v : Value} (hat : at_ g d = some v) (hnd : st.obj g d ≠ .dfd) : Rel c S at_ (st.set g d .dead) a w := by
  have hsame : ∀ {g' d'}, ¬ (d' = d ∧ g' = g) → (updO st.obj g d .dead) g' d' = st.obj g' d' := fun hne => by simp [updO, hne]
  have hthis : (updO st.obj g d .dead) g d = .dead := by simp [updO]
  have hlive : ∀ {g' d'}, ((updO st.obj g d .dead) g' d').live = true → (st.obj g' d').live = true := fun {g' d'} hh => by
    by_cases he : d' = d ∧ g' = g
    · obtain ⟨rfl, rfl⟩ := he; rw [hthis] at hh; simp [Ob.live] at hh
    · rwa [hsame he] at hh
  refine h.move (obj' := updO st.obj g d .dead) (at' := at_) (S' := S) h.below (Nat.le_refl _) (fun _ h => h) h.slt h.snew (fun _ _ => rfl) (fun _ _ _ h => h) (dfd_off hnd) ?_ ?_ ?_ (fun g' d' v' b h1 h2 h3 => h.own g' d' v' b h1 (hlive h2) h3)
    (fun g1 d1 g2 d2 v1 v2 b h1 h2 h3 h4 h5 h6 => h.dis g1 d1 g2 d2 v1 v2 b h1 h2 (hlive h3) (hlive h4) h5 h6)
  · intro g' d' hg'
    by_cases he : d' = d ∧ g' = g
    · obtain ⟨rfl, rfl⟩ := he
      have := (h.al g' d').2 (h.gen g' d' hg')
      rw [hat] at this; cases this
    · rw [hsame he]; exact h.gen g' d' hg'
  · intro g' d'
    by_cases he : d' = d ∧ g' = g
    · obtain ⟨rfl, rfl⟩ := he
      rw [hthis, hat]
      exact ⟨(fun e => by cases e), fun e => by cases e⟩
    · rw [hsame he]; exact h.al g' d'
  · intro g' d' v' hv'
    by_cases he : d' = d ∧ g' = g
    · obtain ⟨rfl, rfl⟩ := he; rw [hthis]; trivial
    · rw [hsame he]; exact h.ok g' d' v' hv'
/-- A new object. -/
theorem Rel.newObj (h : Rel c S at_ st a w) {d : Nat} (hn : st.obj st.gen d = .none) {w' : World} {v : Value} {o : Ob} (hos : w'.os = w.os) (htp : w'.tape = w.tape) (hou : w'.output = w.output) (hsz : w.heap.size ≤ w'.heap.size)
    (hw : ∀ k, k < w.heap.size → (k < c.w0.heap.size ∨ S k ∨ ∃ g' d' v', at_ g' d' = some v' ∧ (st.obj g' d').live = true ∧ blkOf v' = some k) → w'.heap[k]? = w.heap[k]?)
    (hv : ∀ b, blkOf v = some b → c.w0.heap.size ≤ b ∧ b < w'.heap.size ∧ ¬ S b ∧ ∀ g' d' v', at_ g' d' = some v' → (st.obj g' d').live = true → blkOf v' ≠ some b)
    (ho : o.live = true) (hok : ObOk c.P w' S c.w0.heap.size (updA at_ st.gen d v) v o) : Rel c S (updA at_ st.gen d v) (st.set st.gen d o) a w' := by
  have hbase := h.below.size
  have hnat : at_ st.gen d = none := (h.al _ _).2 hn
  have hsame : ∀ {g' d'}, ¬ (d' = d ∧ g' = st.gen) → (updO st.obj st.gen d o) g' d' = st.obj g' d' := fun hne => by simp [updO, hne]
  have hthis : (updO st.obj st.gen d o) st.gen d = o := by simp [updO]
  have hsameA : ∀ {g' d'}, ¬ (d' = d ∧ g' = st.gen) → (updA at_ st.gen d v) g' d' = at_ g' d' := fun hne => by simp [updA, hne]
  have hthisA : (updA at_ st.gen d v) st.gen d = some v := by simp [updA]
  have hA : ∀ g' d' v', at_ g' d' = some v' → (updA at_ st.gen d v) g' d' = some v' := fun g' d' v' hv' => by
    by_cases he : d' = d ∧ g' = st.gen
    · obtain ⟨rfl, rfl⟩ := he; rw [hnat] at hv'; cases hv'
    · rw [hsameA he]; exact hv'
  have hwS : ∀ b, S b → w'.heap[b]? = w.heap[b]? := fun b hs => hw b (h.slt b hs) (.inr (.inl hs))
  refine h.move (obj' := updO st.obj st.gen d o) (at' := updA at_ st.gen d v) (S' := S) ?_ hsz (fun _ h => h) (fun b hs => Nat.lt_of_lt_of_le (h.slt b hs) hsz) h.snew hwS hA (dfd_off (by rw [(h.al st.gen d).1 hnat]; simp)) ?_ ?_ ?_ ?_ ?_
  · exact ⟨hos.trans h.below.os, htp.trans h.below.tape, hou.trans h.below.output, by omega, fun k hk => (hw k (by omega) (.inl hk)).trans (h.below.block k hk)⟩
  · intro g' d' hg'
    by_cases he : d' = d ∧ g' = st.gen
    · omega
    · rw [hsame he]; exact h.gen g' d' hg'
  · intro g' d'
    by_cases he : d' = d ∧ g' = st.gen
    · obtain ⟨rfl, rfl⟩ := he
      rw [hthis, hthisA]
      exact ⟨(fun e => by cases e), fun e => by rw [e] at ho; simp [Ob.live] at ho⟩
    · rw [hsame he, hsameA he]; exact h.al g' d'
  · intro g' d' v' hv'
    by_cases he : d' = d ∧ g' = st.gen
    · obtain ⟨rfl, rfl⟩ := he
      rw [hthisA] at hv'; cases hv'
      rw [hthis]; exact hok
    · rw [hsameA he] at hv'
      rw [hsame he]
      exact (h.ok g' d' v' hv').mono (fun _ h => h) hwS hA fun hl2 b' hb' => hw b' (h.own g' d' v' b' hv' hl2 hb').2.1 (.inr (.inr ⟨g', d', v', hv', hl2, hb'⟩))
  · intro g' d' v' b' h1 h2 h3
    by_cases he : d' = d ∧ g' = st.gen
    · obtain ⟨rfl, rfl⟩ := he
      rw [hthisA] at h1; cases h1
      have := hv b' h3
      exact ⟨this.1, this.2.1, this.2.2.1⟩
    · rw [hsameA he] at h1
      rw [hsame he] at h2
      have := h.own g' d' v' b' h1 h2 h3
      exact ⟨this.1, by omega, this.2.2⟩
  · intro g1 d1 g2 d2 v1 v2 b' h1 h2 h3 h4 h5 h6
    by_cases e1 : d1 = d ∧ g1 = st.gen
    · by_cases e2 : d2 = d ∧ g2 = st.gen
      · exact ⟨e1.2.trans e2.2.symm, e1.1.trans e2.1.symm⟩
      · obtain ⟨rfl, rfl⟩ := e1
        rw [hthisA] at h1; cases h1
        rw [hsameA e2] at h2
        rw [hsame e2] at h4
        exact absurd h6 ((hv b' h5).2.2.2 g2 d2 v2 h2 h4)
    · rw [hsameA e1] at h1
      rw [hsame e1] at h3
      by_cases e2 : d2 = d ∧ g2 = st.gen
      · obtain ⟨rfl, rfl⟩ := e2
        rw [hthisA] at h2; cases h2
        exact absurd h5 ((hv b' h6).2.2.2 g1 d1 v1 h1 h3)
      · rw [hsameA e2] at h2
        rw [hsame e2] at h4
        exact h.dis g1 d1 g2 d2 v1 v2 b' h1 h2 h3 h4 h5 h6
/-- A new object in a new block. -/
theorem Rel.alloc (h : Rel c S at_ st a w) {d : Nat} (hn : st.obj st.gen d = .none) {ob : Obj} {v : Value} {o : Ob} (hb : blkOf v = some w.heap.size) (ho : o.live = true) (hok : ObOk c.P (w.alloc ob) S c.w0.heap.size (updA at_ st.gen d v) v o) :
    Rel c S (updA at_ st.gen d v) (st.set st.gen d o) a (w.alloc ob) :=
  h.newObj hn rfl rfl rfl (by simp) (fun k hk _ => (World.grownBy_alloc w ob none).block k hk (by simp)) (fun b e => by
    rw [hb] at e; cases e
    exact ⟨h.below.size, by simp, fun hs => absurd (h.slt _ hs) (by omega), fun g' d' v' h1 h2 h3 => absurd (blk_lt h h1 h2 h3) (by omega)⟩) ho hok
end rel
end Go.Proofs.YtjjpmbaddpiamaaDoor
