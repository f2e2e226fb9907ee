/-
  What each of the model's operations does to a state of the abstract machine: stores, new objects, append.
-/
import Derived.Test.YtfjciangbmjlmaaQ
set_option linter.unusedSimpArgs false
set_option linter.unusedVariables false
namespace Go.Proofs.Ytfjciangbmjlmaa
open Go.RowKit

section store
variable {c : Ctx} {st : St} {o : Oper} {d : Nat}
theorem VRs.splice {P : Program} {w : World} {S : Nat → Prop} {at_ : At} {cs l : List V} {xs ys : List Value} (h : VRs P w S at_ cs xs) (h' : VRs P w S at_ l ys) (p : Nat) : VRs P w S at_ (splice cs p l) (splice xs p ys) := by
  unfold Go.Proofs.Ytfjciangbmjlmaa.splice
  rw [← h'.length]
  exact ((h.take p).append h').append (h.drop _)
theorem storeAt_run {P : Program} {w w' : World} {t : TypeId} {z : Value} {size bytes : Nat} (hi : TI P t z size bytes) {a : Addr} {v : Value} (hs : v.cells.size = size) (h : (storeCells a v.cells.toList 0).run P w = .ok () w') : (Instr.storeAt t (.pointer (some a)) v).run P w = .ok () w' := by
  simp [Instr.storeAt, Instr.sureAddr, storeVar, hi.sizeOf, hs, h]
theorem Stp.mem (hd : o.dst = none) {st' : St} (h : ∀ S at_ a w, Rel c S at_ st a w → ∃ S' at' w', (execOp a.eval o).run c.P w = .ok .skip w' ∧ Rel c S' at' st' a w') : Stp c o st st' := by
  intro S at_ a w hr next Q hk
  obtain ⟨S', at', w', h1, h2⟩ := h S at_ a w hr
  unfold Oper.wp
  rw [h1, Oper.upon_skip, hd]
  exact hk S' at' _ w' h2
theorem Stp.storePtr {ty t : TypeId} {x y : Operand} {g g' p : Nat} {cs cs' : List V} {v : V} {z : Value} {size bytes : Nat} (hd : o.dst = none) (hop : o.op = .store ty x y) (hi : TI c.P ty z size bytes) (hx : st.ev x = .ptr g g' p) (hobj : st.obj g g' = .cells t cs)
    (hy : st.ev y = v) (hl : v.leaf = true ∨ ∃ l, v = .agg l) (hlf : v.cells.all V.leaf = true) (hsz : v.cells.length = size) (hp : p + size ≤ cs.length) (hcs : splice cs p v.cells = cs') : Stp c o st (st.set g g' (.cells t cs')) :=
  Stp.mem hd fun S at_ a w hr => by
    have h1 := hr.ev x
    have h2 := hr.ev y
    rw [hx, VR] at h1
    rw [hy] at h2
    obtain ⟨b, h3, h4⟩ := h1
    have h5 := hr.ok g g' _ h3
    rw [hobj] at h5
    obtain ⟨b', arr, e, h6, h7⟩ := h5
    cases e
    have h8 := h2.cells hl
    have h9 := h8.length
    have h10 := h7.length
    obtain ⟨w', arr', r1, r2, r3, r4, r5⟩ := run_storeCells_blk (P := c.P) b p t (a.eval y).cells.toList 0 w arr h6 (by simp only [Array.length_toList] at h9 h10 ⊢; omega) (h8.one hlf)
    refine ⟨S, at_, w', ?_, hr.write h3 (by rw [hobj]; rfl) rfl r4 r5 rfl ⟨b, arr', rfl, r2, ?_⟩⟩
    · simp only [execOp, hop, h4, storeAt_run hi (by simp only [Array.length_toList] at h9; omega) r1, Sem.run_bind, Sem.run_pure, Result.andThen]
    · rw [r3, ← hcs]
      have hw : ∀ k, S k → w'.heap[k]? = w.heap[k]? := fun k hk => r4.block k (hr.slt k hk) (fun e => by cases e; exact (hr.own g g' _ b h3 (by rw [hobj]; rfl) rfl).2.2 hk)
      exact VRs.mono (fun _ h => h) hw (fun _ _ _ h => h) _ _ (by simpa using h7.splice h8 p)
theorem splice_mid {α : Type} (p1 c1 p3 l : List α) (q : Nat) (hq : q + l.length ≤ c1.length) : splice (p1 ++ c1 ++ p3) (p1.length + q) l = p1 ++ splice c1 q l ++ p3 := by
  unfold splice
  rw [List.append_assoc p1 c1 p3, List.take_append, List.take_of_length_le (by omega), List.drop_append, List.drop_of_length_le (by omega),
    show p1.length + q - p1.length = q by omega, show p1.length + q + l.length - p1.length = q + l.length by omega, List.take_append_of_le_length (by omega), List.drop_append_of_le_length (by omega)]
  simp [List.append_assoc]
theorem splice_app {α : Type} (p1 R l : List α) : splice (p1 ++ R) p1.length l = p1 ++ l ++ R.drop l.length := by
  unfold splice
  rw [List.take_left, List.drop_append, List.drop_of_length_le (by omega)]
  simp
theorem splice_splice {α : Type} (L a b : List α) (p : Nat) (h : p + a.length ≤ L.length) : splice (splice L p a) (p + a.length) b = splice L p (a ++ b) := by
  obtain ⟨p1, R, rfl, rfl⟩ : ∃ p1 R : List α, L = p1 ++ R ∧ p1.length = p := ⟨L.take p, L.drop p, (List.take_append_drop _ _).symm, by simp; omega⟩
  rw [splice_app, splice_app]
  have := splice_app (p1 ++ a) (R.drop a.length) b
  rw [List.length_append] at this
  rw [this]
  simp [List.append_assoc]
theorem length_splice {α : Type} (c1 l : List α) (q : Nat) (hq : q + l.length ≤ c1.length) : (splice c1 q l).length = c1.length := by
  unfold splice
  simp only [List.length_append, List.length_take, List.length_drop]
  omega
theorem Flat.split {P : Program} {w : World} {S : Nat → Prop} {e : TypeId} : ∀ {xs : List V} {cs : List Value} (_ : Flat P w S e xs cs) {i : Nat} {u : V}, xs[i]? = some u →
    ∃ f1 c1 f3, cs = f1 ++ c1 ++ f3 ∧ f1.length = i * P.cellsOf e ∧ c1.length = P.cellsOf e ∧ RX P w S u c1 ∧ ∀ u' c', RX P w S u' c' → c'.length = P.cellsOf e → Flat P w S e (xs.set i u') (f1 ++ c' ++ f3)
  | [], _, _, i, u, hi => by simp at hi
  | y :: ys, cs, h, i, u, hi => by
    obtain ⟨c1, c2, rfl, h2, h3, h4⟩ := h
    cases i with
    | zero =>
      simp at hi; subst hi
      exact ⟨[], c1, c2, by simp, by simp, h2, h3, fun u' c' g1 g2 => ⟨c', c2, by simp, g2, g1, h4⟩⟩
    | succ i =>
      simp at hi
      obtain ⟨f1, d1, f3, rfl, g2, g3, g4, g5⟩ := h4.split hi
      exact ⟨c1 ++ f1, d1, f3, by simp, by rw [List.length_append, h2, g2, Nat.add_mul]; omega, g3, g4, fun u' c' k1 k2 => ⟨c1, f1 ++ c' ++ f3, by simp, h2, h3, g5 u' c' k1 k2⟩⟩
theorem RLs.append {P : Program} {w : World} {S : Nat → Prop} : ∀ {a1 a2 : List V} {b1 b2 : List Value}, RLs P w S a1 b1 → RLs P w S a2 b2 → RLs P w S (a1 ++ a2) (b1 ++ b2)
  | [], _, [], _, _, q2 => q2
  | [], _, _ :: _, _, q1, _ => by simp [RLs] at q1
  | _ :: _, _, [], _, q1, _ => by simp [RLs] at q1
  | y :: a1, _, z :: b1, _, q1, q2 => by rw [RLs] at q1; simp only [List.cons_append]; rw [RLs]; exact ⟨q1.1, q1.2.append q2⟩
theorem RLs.splice {P : Program} {w : World} {S : Nat → Prop} {l1 l2 : List V} {x1 x2 : List Value} (p : Nat) (g1 : RLs P w S l1 x1) (g2 : RLs P w S l2 x2) : RLs P w S (splice l1 p l2) (splice x1 p x2) := by
  unfold Go.Proofs.Ytfjciangbmjlmaa.splice
  rw [← g2.length]
  exact ((g1.take p).append g2).append (g1.drop _)
theorem V.ro_cells {v : V} (hl : v.leaf = true ∨ ∃ l, v = .agg l) (hro : v.ro = true) : v.cells.all V.leaf = true := by
  rcases hl with hl | ⟨l, rfl⟩
  · have : v.cells = [v] := by cases v <;> simp_all [V.leaf, V.cells]
    rw [this]; simpa using hl
  · simp only [V.cells, V.ro] at hro ⊢
    rw [List.all_eq_true] at hro ⊢
    intro y hy
    have := hro y hy
    cases y <;> simp_all [V.isRL, V.leaf]
theorem storeRow_aux {S : Nat → Prop} {at_ : At} {a : Act} {w : World} (hr : Rel c S at_ st a w) {ty t : TypeId} {g g' i q : Nat} {xs : List V} {u u' v : V} {x : Value} {z : Value} {size bytes : Nat} (hi : TI c.P ty z size bytes) {p : Value} (hx : VR c.P w S at_ (.rptr t g g' i q) p) (hobj : st.obj g g' = .row t xs)
    (hu : xs[i]? = some u) (h2 : VR c.P w S at_ v x) (hl : v.leaf = true ∨ ∃ l, v = .agg l) (hro : v.ro = true) (hsz : v.cells.length = size) (hp : q + size ≤ u.cells.length)
    (hu' : ∀ c1, RX c.P w S u c1 → c1.length = c.P.cellsOf t → RX c.P w S u' (splice c1 q x.cells.toList)) :
    ∃ w', (Instr.storeAt ty p x).run c.P w = .ok () w' ∧ Rel c S at_ (st.set g g' (.row t (xs.set i u'))) a w' := by
  rw [VR] at hx
  obtain ⟨b, m, cp, h3, rfl⟩ := hx
  have h5 := hr.ok g g' _ h3
  rw [hobj] at h5
  obtain ⟨flat, h6, h7⟩ := h5
  have h8 := h2.cells hl
  have h9 := h8.length
  obtain ⟨f1, c1, f3, rfl, k1, k2, k3, k4⟩ := h7.split hu
  have hul : u.cells.length = c.P.cellsOf t := by rw [k3.rls.length, k2]
  rcases h6.2 with ⟨e, _⟩ | ⟨b', cap, cur, e, hb, hh, hcap, hmax, hcur, htake⟩
  · cases e
  · cases e
    obtain ⟨tail, htail⟩ : ∃ tail, cur.toList = f1 ++ c1 ++ f3 ++ tail := ⟨_, by rw [← htake]; exact (List.take_append_drop _ _).symm⟩
    have hlen : cur.size = f1.length + c1.length + f3.length + tail.length := by rw [← Array.length_toList, htail]; simp [Nat.add_assoc]
    obtain ⟨w', arr', r1, r2, r3, r4, r5⟩ := run_storeCells_blk (P := c.P) b (i * c.P.cellsOf t + q) t x.cells.toList 0 w cur hh (by omega) (h8.one (V.ro_cells hl hro))
    have hw : ∀ k, S k → w'.heap[k]? = w.heap[k]? := fun k hk => r4.block k (hr.slt k hk) (fun e => by cases e; exact (hr.own g g' _ b h3 (by rw [hobj]; rfl) rfl).2.2 hk)
    have hlx : x.cells.toList.length = size := by rw [← h9, hsz]
    have r3' : arr'.toList = f1 ++ splice c1 q x.cells.toList ++ f3 ++ tail := by
      rw [r3, Nat.add_zero, htail, ← k1, List.append_assoc (f1 ++ c1), splice_mid f1 c1 (f3 ++ tail) _ q (by omega)]
      simp [List.append_assoc]
    have hsl : (splice c1 q x.cells.toList).length = c1.length := length_splice _ _ _ (by omega)
    have hfl := h7.length
    refine ⟨w', storeAt_run hi (by simpa using hlx) r1, hr.write h3 (by rw [hobj]; rfl) rfl r4 r5 rfl ?_⟩
    refine ⟨f1 ++ splice c1 q x.cells.toList ++ f3, ⟨?_, .inr ⟨b, cp, arr', by simp, hb, r2, by simpa using hcap, hmax, ?_, ?_⟩⟩, ?_⟩
    · simp only [List.length_append, List.length_set] at hfl ⊢; omega
    · rw [← Array.length_toList, r3', ← hcur, hlen]; simp only [List.length_append]; omega
    · rw [r3', List.length_set]
      refine List.take_append_of_le_length ?_ |>.trans (List.take_of_length_le ?_) <;> (simp only [List.length_append] at hfl ⊢; omega)
    · exact Flat.mono (fun _ h => h) hw t _ _ (k4 _ _ (hu' c1 k3 k2) (by rw [hsl, k2]))
/-- A row's element is written whole. -/
theorem Stp.storeRow {ty t : TypeId} {x y : Operand} {g g' i : Nat} {xs : List V} {v : V} {z : Value} {size bytes : Nat} (hd : o.dst = none) (hop : o.op = .store ty x y) (hi : TI c.P ty z size bytes) (ht : c.P.cellsOf t = size) (hx : st.ev x = .rptr t g g' i 0) (hobj : st.obj g g' = .row t xs)
    (hlt : i < xs.length) (hy : st.ev y = v) (hl : v.leaf = true ∨ ∃ l, v = .agg l) (hro : v.ro = true) (hsz : v.cells.length = size) : Stp c o st (st.set g g' (.row t (xs.set i v))) :=
  Stp.mem hd fun S at_ a w hr => by
    have h1 := hr.ev x
    have h2 := hr.ev y
    rw [hx] at h1
    rw [hy] at h2
    have hul : xs[i].cells.length = size := by
      rw [VR] at h1
      obtain ⟨b, m, cp, h3, _⟩ := h1
      have h5 := hr.ok g g' _ h3
      rw [hobj] at h5
      obtain ⟨flat, h6, h7⟩ := h5
      obtain ⟨c1, k1, _, k3⟩ := h7.get (List.getElem?_eq_getElem hlt)
      rw [k3.rls.length, k1, ht]
    obtain ⟨w', r1, r2⟩ := storeRow_aux hr hi h1 hobj (List.getElem?_eq_getElem hlt) h2 hl hro hsz (by omega) (u' := v) fun c1 g1 g2 => by
      have h8 := (h2.cells hl).length
      have : splice c1 0 (a.eval y).cells.toList = (a.eval y).cells.toList := by
        unfold splice
        rw [List.drop_of_length_le (by omega)]
        simp
      rw [this]
      exact h2.toRX hro hl
    exact ⟨S, at_, w', by simp only [execOp, hop, r1, Sem.run_bind, Sem.run_pure, Result.andThen], r2⟩
/-- A part of a row's element is written. -/
theorem Stp.storeRowPart {ty t : TypeId} {x y : Operand} {g g' i q : Nat} {xs : List V} {l : List V} {v : V} {z : Value} {size bytes : Nat} (hd : o.dst = none) (hop : o.op = .store ty x y) (hi : TI c.P ty z size bytes) (hx : st.ev x = .rptr t g g' i q) (hobj : st.obj g g' = .row t xs)
    (hu : xs[i]? = some (.agg l)) (hy : st.ev y = v) (hl : v.leaf = true ∨ ∃ l, v = .agg l) (hro : v.ro = true) (hsz : v.cells.length = size) (hq : q + size ≤ l.length) : Stp c o st (st.set g g' (.row t (xs.set i (.agg (splice l q v.cells))))) :=
  Stp.mem hd fun S at_ a w hr => by
    have h1 := hr.ev x
    have h2 := hr.ev y
    rw [hx] at h1
    rw [hy] at h2
    obtain ⟨w', r1, r2⟩ := storeRow_aux hr hi h1 hobj hu h2 hl hro hsz hq (u' := .agg (splice l q v.cells)) fun c1 g1 g2 => by
      simp only [RX] at g1 ⊢
      exact RLs.splice q g1 (h2.toRX hro hl).rls
    exact ⟨S, at_, w', by simp only [execOp, hop, r1, Sem.run_bind, Sem.run_pure, Result.andThen], r2⟩
end store
end Go.Proofs.Ytfjciangbmjlmaa
