/-
  What each of the model's operations does to a state of the abstract machine: indexes, loads, stores, new objects, append.
-/
import Derived.Test.YtjjpmbaddpiamaaDoorP
set_option linter.unusedSimpArgs false
set_option linter.unusedVariables false
namespace Go.Proofs.YtjjpmbaddpiamaaDoor
open Go.RowKit

def IsLeaf (P : Program) (t : TypeId) : Prop := ∃ u, P.underlying t = some u ∧ u.isRow = false
def IsAgg (P : Program) (t : TypeId) : Prop := ∃ u, P.underlying t = some u ∧ u.isRow = true
section runs
variable {P : Program} {w : World} {t : TypeId}
theorem isAgg_leaf (h : IsLeaf P t) : (isAgg t).run P w = .ok false w := by
  obtain ⟨u, h1, h2⟩ := h
  unfold isAgg
  rw [Sem.run_bind, run_underlying h1 w]
  cases u <;> simp_all [TypeDesc.isRow]
theorem isAgg_agg (h : IsAgg P t) : (isAgg t).run P w = .ok true w := by
  obtain ⟨u, h1, h2⟩ := h
  unfold isAgg
  rw [Sem.run_bind, run_underlying h1 w]
  cases u <;> simp_all [TypeDesc.isRow]
theorem load_leaf_run (h : IsLeaf P t) {a : Addr} {v : Value} (hc : w.cell? a = some v) : (Instr.loadAt t (.pointer (some a))).run P w = .ok v w := by
  simp [Instr.loadAt, Instr.sureAddr, loadVar, Sem.run_bind, isAgg_leaf h, load, Sem.run, hc]
theorem load_agg_run (h : IsAgg P t) {z : Value} {size bytes : Nat} (hi : TI P t z size bytes) {a : Addr} {cs : List Value} (hl : cs.length = size) (hc : ∀ j u, cs[j]? = some u → w.cell? (a.add j) = some u) :
    (Instr.loadAt t (.pointer (some a))).run P w = .ok (.agg cs.toArray) w := by
  simp only [Instr.loadAt, Instr.sureAddr, loadVar, Sem.run_bind, Sem.run_pure, Result.andThen_ok, isAgg_agg h, hi.sizeOf, if_true, ← hl, run_loadCells_list w a cs hc]
end runs

section cells
variable {P : Program} {w : World} {S : Nat → Prop} {at_ : At}
theorem RL.one {v : V} {c : Value} (h : RL P w S v c) : c.oneCell' = true := by
  cases v <;> first | (simp only [RL] at h; subst h; rfl) | (simp only [RL] at h; obtain ⟨A, cp, rfl, _⟩ := h; rfl) | (simp only [RL] at h; obtain ⟨b, arr, clock, rfl, _⟩ := h; rfl) | (simp only [RL] at h; obtain ⟨rfl, h⟩ := h; exact h) | (simp [RL] at h)
theorem RLs.one : ∀ {vs : List V} {cs : List Value}, RLs P w S vs cs → ∀ u ∈ cs, u.oneCell' = true
  | [], [], _, u, hu => by simp at hu
  | [], _ :: _, h, _, _ => by simp [RLs] at h
  | _ :: _, [], h, _, _ => by simp [RLs] at h
  | v :: vs, c :: cs, h, u, hu => by
    rw [RLs] at h
    rcases List.mem_cons.1 hu with rfl | hu
    · exact h.1.one
    · exact h.2.one u hu
theorem VRs.one : ∀ {vs : List V} {cs : List Value}, VRs P w S at_ vs cs → vs.all V.leaf = true → ∀ u ∈ cs, u.oneCell' = true
  | [], [], _, _, u, hu => by simp at hu
  | [], _ :: _, h, _, _, _ => by simp [VRs] at h
  | _ :: _, [], h, _, _, _ => by simp [VRs] at h
  | v :: vs, c :: cs, h, hl, u, hu => by
    rw [VRs] at h
    simp only [List.all_cons, Bool.and_eq_true] at hl
    rcases List.mem_cons.1 hu with rfl | hu
    · exact (h.1.leaf_cells hl.1).2
    · exact h.2.one hl.2 u hu
theorem Flat.one {e : TypeId} : ∀ {xs : List V} {cs : List Value}, Flat P w S e xs cs → ∀ u ∈ cs, u.oneCell' = true
  | [], _, h, u, hu => by simp only [Flat] at h; subst h; simp at hu
  | x :: xs, cs, h, u, hu => by
    obtain ⟨c1, c2, rfl, h2, h3, h4⟩ := h
    rcases List.mem_append.1 hu with hu | hu
    · exact h3.rls.one u hu
    · exact h4.one u hu
theorem RLrow.flat {e : TypeId} {ad : Addr} : ∀ {k : Nat} {xs : List V}, RLrow P w S e ad k xs → ∃ cs, Flat P w S e xs cs ∧ ∀ j u, cs[j]? = some u → w.cell? (ad.add (k * P.cellsOf e + j)) = some u
  | _, [], _ => ⟨[], rfl, fun j u hu => by simp at hu⟩
  | k, x :: xs, h => by
    rw [RLrow_cons] at h
    obtain ⟨⟨c1, h1, h2, h3⟩, h4⟩ := h
    obtain ⟨c2, h5, h6⟩ := h4.flat
    refine ⟨c1 ++ c2, ⟨c1, c2, rfl, h1, h3, h5⟩, fun j u hu => ?_⟩
    by_cases hj : j < c1.length
    · rw [List.getElem?_append_left hj] at hu; exact h2 j u hu
    · rw [List.getElem?_append_right (by omega)] at hu
      have := h6 _ u hu
      rwa [show (k + 1) * P.cellsOf e + (j - c1.length) = k * P.cellsOf e + j by rw [Nat.add_mul]; omega] at this
end cells

section index
variable {c : Ctx} {st : St} {o : Oper} {d : Nat}
theorem idx_run {P : Program} {w : World} {t e : TypeId} (ht : P.underlying t = some (.slice e)) {z : Value} {size bytes : Nat} (hi : TI P e z size bytes) (a : Addr) (n cp : Nat) (k : IntKind) {i : Int} (h0 : 0 ≤ i) (h1 : i < n) :
    (Instr.indexAt t (.slice (some a) n cp) (.int k i)).run P w = .ok (.pointer (some (a.add (i.toNat * size)))) w := by
  simp [Instr.indexAt, run_underlying ht, asIntOf, h0, h1, hi.sizeOf]
theorem Stp.idxSl {t e : TypeId} {x y : Operand} {xs : List V} {k : IntKind} {i : Int} {v : V} {z : Value} {size bytes : Nat} (hd : o.dst = some d) (hn : d < c.nt) (hop : o.op = .indexAddr t x y) (ht : c.P.underlying t = some (.slice e)) (hi : TI c.P e z size bytes)
    (hx : st.ev x = .sl e xs) (hy : st.ev y = .int k i) (h0 : 0 ≤ i) (hv : xs[i.toNat]? = some v) : Stp c o st (st.put d (.ref v.cells)) :=
  Stp.val hd hn fun S at_ a w hr => by
    have h1 := hr.ev x
    have h2 := hr.ev y
    rw [hx, VR, RL] at h1
    rw [hy, VR, RL] at h2
    obtain ⟨A, cp, h3, h4, h5⟩ := h1
    have hlt := (List.getElem?_eq_some_iff.1 hv).1
    rcases h5 with h5 | ⟨ad, rfl, hS, hrow⟩
    · subst h5; simp at hv
    · obtain ⟨cs, hl, hc, hR⟩ := hrow.get hv
      refine ⟨.pointer (some (ad.add (i.toNat * size))), by simp only [execOp, hop, h3, h2, idx_run ht hi ad _ _ k h0 (show i < (xs.length : Int) by omega), Sem.run_bind, Sem.run_pure, Result.andThen], ?_⟩
      rw [VR]
      refine ⟨_, cs, rfl, by rw [add_block]; exact hS, hR.rls, fun j u hu => ?_⟩
      have := hc j u hu
      rw [hi.cells, Nat.zero_add] at this
      rw [← this]
      congr 1
      unfold Addr.add
      by_cases e1 : i.toNat * size = 0 <;> by_cases e2 : j = 0 <;> simp [e1, e2, Nat.add_assoc]
theorem Stp.idxRow {t e : TypeId} {x y : Operand} {xs : List V} {k : IntKind} {g g' n : Nat} {i : Int} {z : Value} {size bytes : Nat} (hd : o.dst = some d) (hn : d < c.nt) (hop : o.op = .indexAddr t x y) (ht : c.P.underlying t = some (.slice e)) (hi : TI c.P e z size bytes)
    (hx : st.ev x = .row g g' n) (hobj : st.obj g g' = .row e xs) (hy : st.ev y = .int k i) (h0 : 0 ≤ i) (hlt : i < n) : Stp c o st (st.put d (.rptr e g g' i.toNat 0)) :=
  Stp.val hd hn fun S at_ a w hr => by
    have h1 := hr.ev x
    have h2 := hr.ev y
    rw [hx, VR] at h1
    rw [hy, VR, RL] at h2
    obtain ⟨A, m, cp, h3, h4, h5⟩ := h1
    have h6 := hr.ok g g' _ h3
    rw [hobj] at h6
    obtain ⟨flat, h7, h8⟩ := h6
    rcases h7.2 with ⟨h9, _⟩ | ⟨b, cap, cur, h9, _⟩
    · cases h9; omega
    · cases h9
      refine ⟨_, by simp only [execOp, hop, h5, h2, idx_run ht hi _ _ _ k h0 hlt, Sem.run_bind, Sem.run_pure, Result.andThen]; rfl, ?_⟩
      rw [VR]
      refine ⟨b, _, _, h3, ?_⟩
      rw [add_plain', hi.cells, Nat.zero_add, Nat.add_zero]
theorem Stp.idxArr {t e : TypeId} {n : Nat} {x y : Operand} {k : IntKind} {g g' p : Nat} {i : Int} {z : Value} {size bytes : Nat} (hd : o.dst = some d) (hn : d < c.nt) (hop : o.op = .indexAddr t x y) (ht : c.P.underlying t = some (.array n e)) (hi : TI c.P e z size bytes)
    (hx : st.ev x = .ptr g g' p) (hy : st.ev y = .int k i) (h0 : 0 ≤ i) (hlt : i < n) : Stp c o st (st.put d (.ptr g g' (p + i.toNat * size))) :=
  Stp.val hd hn fun S at_ a w hr => by
    have h1 := hr.ev x
    have h2 := hr.ev y
    rw [hx, VR] at h1
    rw [hy, VR, RL] at h2
    obtain ⟨b, h3, h4⟩ := h1
    refine ⟨.pointer (some ⟨b, p + i.toNat * size, none⟩), ?_, ?_⟩
    · simp [execOp, hop, h4, h2, Instr.indexAt, run_underlying ht, asIntOf, h0, hlt, hi.sizeOf, Instr.sureAddr, add_plain']
    · rw [VR]; exact ⟨b, h3, rfl⟩
/-- A slice's length. -/
def V.len : V → Option Nat
  | .nil => some 0
  | .sl _ xs => some xs.length
  | .row _ _ n => some n
  | .str s => some s.size
  | _ => none
theorem VR.len {P : Program} {w : World} {S : Nat → Prop} {at_ : At} {v : V} {x : Value} {n : Nat} (h : VR P w S at_ v x) (hl : v.len = some n) : (∃ A cp, x = .slice A n cp) ∨ ∃ s : ByteArray, x = .string s ∧ s.size = n := by
  cases v <;> simp only [V.len, reduceCtorEq, Option.some.injEq] at hl
  · subst hl; rw [VR, RL] at h; exact .inr ⟨_, h, rfl⟩
  · subst hl; rw [VR, RL] at h; exact .inl ⟨_, _, h⟩
  · subst hl; rw [VR, RL] at h; obtain ⟨A, cp, h1, _⟩ := h; exact .inl ⟨A, cp, h1⟩
  · subst hl; rw [VR] at h; obtain ⟨A, m, cp, _, _, h1⟩ := h; exact .inl ⟨A, cp, h1⟩
theorem Stp.len {t e : TypeId} {x : Operand} {n : Nat} (hd : o.dst = some d) (hn : d < c.nt) (hop : o.op = .call { callee := .builtin .len, args := #[x], argTypes := #[t] }) (ht : c.P.underlying t = some (.slice e)) (hl : (st.ev x).len = some n) (hs : ∀ s, st.ev x ≠ .str s) : Stp c o st (st.put d (.int .i64 n)) :=
  Stp.val hd hn fun S at_ a w hr => by
    have h0 := hr.ev x
    have h1 := h0.len hl
    refine ⟨.int .i64 n, ?_, by rw [VR, RL]⟩
    rcases h1 with ⟨A, cp, h1⟩ | ⟨s, h1, h2⟩
    · simp [execOp, hop, resolve, invoke, builtin, h1, Builtin.len_, run_underlying ht, goInt]
    · rw [h1] at h0
      generalize hq : st.ev x = q at *
      cases q <;> simp [V.len] at hl <;> first | exact absurd rfl (hs _) | (rw [VR, RL] at h0; first | (obtain ⟨_, _, h3, _⟩ := h0; cases h3) | cases h0) | (rw [VR] at h0; obtain ⟨_, _, _, _, _, h3⟩ := h0; cases h3)
theorem Stp.lenStr {t : TypeId} {x : Operand} {s : ByteArray} (hd : o.dst = some d) (hn : d < c.nt) (hop : o.op = .call { callee := .builtin .len, args := #[x], argTypes := #[t] }) (ht : c.P.underlying t = some .string) (hx : st.ev x = .str s) : Stp c o st (st.put d (.int .i64 s.size)) :=
  Stp.val hd hn fun S at_ a w hr => by
    have h1 := hr.ev x
    rw [hx, VR, RL] at h1
    exact ⟨.int .i64 s.size, by simp [execOp, hop, resolve, invoke, builtin, h1, Builtin.len_, run_underlying ht, goInt], by rw [VR, RL]⟩
end index

section load
variable {c : Ctx} {st : St} {o : Oper} {d : Nat}
theorem blk_cells {w : World} {b : Nat} {arr : Array Value} {t : TypeId} {fr : Nat × Nat} (h : w.heap[b]? = some (.cells arr t fr)) (j : Nat) : w.cell? ⟨b, j, none⟩ = arr[j]? := by simp [World.cell?, h]
theorem Stp.loadPtr {ty t : TypeId} {x : Operand} {g g' p : Nat} {cs : List V} {v : V} (hd : o.dst = some d) (hn : d < c.nt) (hop : o.op = .load ty x) (ht : IsLeaf c.P ty) (hx : st.ev x = .ptr g g' p) (hobj : st.obj g g' = .cells t cs) (hv : cs[p]? = some v) : Stp c o st (st.put d v) :=
  Stp.val hd hn fun S at_ a w hr => by
    have h1 := hr.ev x
    rw [hx, VR] at h1
    obtain ⟨b, h3, h4⟩ := h1
    have h5 := hr.ok g g' _ h3
    rw [hobj] at h5
    obtain ⟨b', arr, e, h6, h7⟩ := h5
    cases e
    obtain ⟨u, hu, h8⟩ := h7.get hv
    have hcell : w.cell? ⟨b, p, none⟩ = some u := by rw [blk_cells h6]; simpa using hu
    exact ⟨u, by simp only [execOp, hop, h4, load_leaf_run ht hcell, Sem.run_bind, Sem.run_pure, Result.andThen], h8⟩
theorem Stp.loadPtrAgg {ty t : TypeId} {x : Operand} {g g' p : Nat} {cs l : List V} {z : Value} {size bytes : Nat} (hd : o.dst = some d) (hn : d < c.nt) (hop : o.op = .load ty x) (ht : IsAgg c.P ty) (hi : TI c.P ty z size bytes) (hx : st.ev x = .ptr g g' p)
    (hobj : st.obj g g' = .cells t cs) (hl : (cs.drop p).take size = l) (hlen : l.length = size) : Stp c o st (st.put d (.agg l)) :=
  Stp.val hd hn fun S at_ a w hr => by
    have h1 := hr.ev x
    rw [hx, VR] at h1
    obtain ⟨b, h3, h4⟩ := h1
    have h5 := hr.ok g g' _ h3
    rw [hobj] at h5
    obtain ⟨b', arr, e, h6, h7⟩ := h5
    cases e
    have h8 := (h7.drop p).take size
    rw [hl] at h8
    refine ⟨.agg ((arr.toList.drop p).take size).toArray, ?_, ?_⟩
    · have := load_agg_run (w := w) ht hi (a := ⟨b, p, none⟩) (cs := (arr.toList.drop p).take size) (by rw [← h8.length, hlen]) (fun j u hu => by
        rw [add_plain', blk_cells h6]
        rw [List.getElem?_take] at hu
        split at hu
        · simpa using hu
        · cases hu)
      simp only [execOp, hop, h4, this, Sem.run_bind, Sem.run_pure, Result.andThen]
    · rw [VR]; exact ⟨_, rfl, by simpa using h8⟩
theorem Stp.loadRow {ty t : TypeId} {x : Operand} {g g' i q : Nat} {xs : List V} {y v : V} (hd : o.dst = some d) (hn : d < c.nt) (hop : o.op = .load ty x) (ht : IsLeaf c.P ty) (hx : st.ev x = .rptr t g g' i q) (hobj : st.obj g g' = .row t xs) (hy : xs[i]? = some y) (hv : y.cells[q]? = some v) :
    Stp c o st (st.put d v) :=
  Stp.val hd hn fun S at_ a w hr => by
    have h1 := hr.ev x
    rw [hx, VR] at h1
    obtain ⟨b, m, cp, h3, h4⟩ := h1
    have h5 := hr.ok g g' _ h3
    rw [hobj] at h5
    obtain ⟨flat, h6, h7⟩ := h5
    obtain ⟨c1, h8, h9, h10⟩ := h7.get hy
    obtain ⟨u, hu, h11⟩ := h10.rls.get hv
    have hcell : w.cell? ⟨b, i * c.P.cellsOf t + q, none⟩ = some u := by
      have hlen : m = xs.length := by
        rcases h6.2 with ⟨e, e'⟩ | ⟨_, _, _, e, _⟩
        · cases e
        · cases e; rfl
      subst hlen
      have := h6.cells (g := b) rfl _ u (h9 q u hu)
      rwa [add_plain', Nat.zero_add] at this
    exact ⟨u, by simp only [execOp, hop, h4, load_leaf_run ht hcell, Sem.run_bind, Sem.run_pure, Result.andThen], VR.of_leaf h11⟩
theorem Stp.loadRowAgg {ty t : TypeId} {x : Operand} {g g' i q : Nat} {xs l : List V} {y : V} {z : Value} {size bytes : Nat} (hd : o.dst = some d) (hn : d < c.nt) (hop : o.op = .load ty x) (ht : IsAgg c.P ty) (hi : TI c.P ty z size bytes) (hx : st.ev x = .rptr t g g' i q)
    (hobj : st.obj g g' = .row t xs) (hy : xs[i]? = some y) (hl : (y.cells.drop q).take size = l) (hlen : l.length = size) : Stp c o st (st.put d (.agg l)) :=
  Stp.val hd hn fun S at_ a w hr => by
    have h1 := hr.ev x
    rw [hx, VR] at h1
    obtain ⟨b, m, cp, h3, h4⟩ := h1
    have h5 := hr.ok g g' _ h3
    rw [hobj] at h5
    obtain ⟨flat, h6, h7⟩ := h5
    obtain ⟨c1, h8, h9, h10⟩ := h7.get hy
    have h11 := (h10.rls.drop q).take size
    rw [hl] at h11
    have hlen' : m = xs.length := by
      rcases h6.2 with ⟨e, e'⟩ | ⟨_, _, _, e, _⟩
      · cases e
      · cases e; rfl
    subst hlen'
    refine ⟨.agg ((c1.drop q).take size).toArray, ?_, ?_⟩
    · have := load_agg_run (w := w) ht hi (a := ⟨b, i * c.P.cellsOf t + q, none⟩) (cs := (c1.drop q).take size) (by rw [← h11.length, hlen]) (fun j u hu => by
        rw [List.getElem?_take] at hu
        split at hu
        · have := h6.cells (g := b) rfl _ u (h9 (q + j) u (by simpa using hu))
          rw [add_plain', Nat.zero_add] at this
          rw [add_plain', ← this, Nat.add_assoc]
        · cases hu)
      simp only [execOp, hop, h4, this, Sem.run_bind, Sem.run_pure, Result.andThen]
    · rw [VR]; exact ⟨_, rfl, VRs.of_RLs h11⟩
theorem Stp.loadRef {ty : TypeId} {x : Operand} {l : List V} {v : V} (hd : o.dst = some d) (hn : d < c.nt) (hop : o.op = .load ty x) (ht : IsLeaf c.P ty) (hx : st.ev x = .ref l) (hv : l[0]? = some v) : Stp c o st (st.put d v) :=
  Stp.val hd hn fun S at_ a w hr => by
    have h1 := hr.ev x
    rw [hx, VR] at h1
    obtain ⟨ad, vals, h3, h4, h5, h6⟩ := h1
    obtain ⟨u, hu, h7⟩ := h5.get hv
    have hcell : w.cell? ad = some u := by have := h6 0 u hu; simpa [Addr.add] using this
    exact ⟨u, by simp only [execOp, hop, h3, load_leaf_run ht hcell, Sem.run_bind, Sem.run_pure, Result.andThen], VR.of_leaf h7⟩
theorem Stp.loadRefAgg {ty : TypeId} {x : Operand} {l l' : List V} {z : Value} {size bytes : Nat} (hd : o.dst = some d) (hn : d < c.nt) (hop : o.op = .load ty x) (ht : IsAgg c.P ty) (hi : TI c.P ty z size bytes) (hx : st.ev x = .ref l) (hl : l.take size = l') (hlen : l'.length = size) : Stp c o st (st.put d (.agg l')) :=
  Stp.val hd hn fun S at_ a w hr => by
    have h1 := hr.ev x
    rw [hx, VR] at h1
    obtain ⟨ad, vals, h3, h4, h5, h6⟩ := h1
    have h7 := h5.take size
    rw [hl] at h7
    refine ⟨.agg (vals.take size).toArray, ?_, ?_⟩
    · have := load_agg_run (w := w) ht hi (a := ad) (cs := vals.take size) (by rw [← h7.length, hlen]) (fun j u hu => by
        rw [List.getElem?_take] at hu
        split at hu
        · exact h6 j u hu
        · cases hu)
      simp only [execOp, hop, h3, this, Sem.run_bind, Sem.run_pure, Result.andThen]
    · rw [VR]; exact ⟨_, rfl, VRs.of_RLs h7⟩
end load

/-! ### stores -/
def splice {α : Type} (cs : List α) (p : Nat) (l : List α) : List α := cs.take p ++ l ++ cs.drop (p + l.length)
theorem splice_one {α : Type} (cs : List α) (p : Nat) (v : α) (hp : p < cs.length) : splice cs p [v] = cs.set p v := by
  unfold splice
  rw [List.set_eq_take_append_cons_drop, if_pos hp]
  simp
theorem run_storeCells_blk {P : Program} (g o : Nat) (t : TypeId) : ∀ (vs : List Value) (i : Nat) (w : World) (arr : Array Value), w.heap[g]? = some (.cells arr t (0, 0)) → o + i + vs.length ≤ arr.size → (∀ u ∈ vs, u.oneCell' = true) →
    ∃ w' arr', (storeCells ⟨g, o, none⟩ vs i).run P w = .ok () w' ∧ w'.heap[g]? = some (.cells arr' t (0, 0)) ∧ arr'.toList = splice arr.toList (o + i) vs ∧ w.grownBy w' (some g) ∧ w'.heap.size = w.heap.size
  | [], i, w, arr, h, hb, _ => ⟨w, arr, by simp [storeCells], h, by simp [splice], World.grownBy.refl w _, rfl⟩
  | v :: vs, i, w, arr, h, hb, h1 => by
    simp only [List.length_cons] at hb
    have hc : w.cell? ⟨g, o + i, none⟩ = some arr[o + i] := by rw [blk_cells h]; simp
    have hf : w.frozen? ⟨g, o + i, none⟩ = false := by simp [World.frozen?, h]
    have hlt : g < w.heap.size := (Array.getElem?_eq_some_iff.1 h).1
    have hh : (w.setCell ⟨g, o + i, none⟩ v).heap[g]? = some (.cells (arr.setIfInBounds (o + i) v) t (0, 0)) := by
      simp [World.setCell, Array.getElem?_modify, h]
    obtain ⟨w', arr', r1, r2, r3, r4, r5⟩ := run_storeCells_blk (P := P) g o t vs (i + 1) (w.setCell ⟨g, o + i, none⟩ v) (arr.setIfInBounds (o + i) v) hh (by simp; omega) (fun u hu => h1 u (List.mem_cons_of_mem _ hu))
    have hg : w.grownBy (w.setCell ⟨g, o + i, none⟩ v) (some g) := ⟨rfl, rfl, rfl, by simp [World.setCell], fun k hk hne => Below.heap_setCell w ⟨g, o + i, none⟩ v k (fun e => hne (by rw [e]))⟩
    refine ⟨w', arr', ?_, r2, ?_, hg.trans r4, by rw [r5]; simp [World.setCell]⟩
    · have hone := h1 v List.mem_cons_self
      have hst : (store ⟨g, o + i, none⟩ v).run P w = .ok () (w.setCell ⟨g, o + i, none⟩ v) := by rw [run_store P w _ v _ hone]; simp [hc, hf]
      simp only [storeCells, Sem.run_bind, add_plain', hst, Result.andThen_ok, r1]
    · rw [r3]
      have hlen : o + i < arr.toList.length := by simp; omega
      simp only [Array.toList_setIfInBounds, splice, List.length_cons]
      rw [show o + (i + 1) = o + i + 1 by omega, List.take_succ_eq_append_getElem (by simpa using hlen), List.getElem_set_self, List.take_set_of_le (by omega), List.drop_set_of_lt (by omega)]
      simp [Nat.add_assoc, Nat.add_comm 1]
end Go.Proofs.YtjjpmbaddpiamaaDoor
