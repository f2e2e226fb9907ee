import Derived.Test.YtjjpmbaddpiamaaDoorQ
/-
  What each of the model's operations does to a state of the abstract machine: stores, new objects, append.
-/
set_option linter.unusedSimpArgs false
set_option linter.unusedVariables false
namespace Go.Proofs.YtjjpmbaddpiamaaDoor
open Go.RowKit

section store
variable {c : Ctx} {st : St} {o : Oper} {d : Nat}
theorem VRs.splice {P : Program} {w : World} {S : Nat → Prop} {at_ : At} {cs l : List V} {xs ys : List Value} (h : VRs P w S at_ cs xs) (h' : VRs P w S at_ l ys) (p : Nat) : VRs P w S at_ (splice cs p l) (splice xs p ys) := by
  unfold Go.Proofs.YtjjpmbaddpiamaaDoor.splice
  rw [← h'.length]
  exact ((h.take p).append h').append (h.drop _)
theorem storeAt_run {P : Program} {w w' : World} {t : TypeId} {z : Value} {size bytes : Nat} (hi : TI P t z size bytes) {a : Addr} {v : Value} (hs : v.cells.size = size) (h : (storeCells a v.cells.toList 0).run P w = .ok () w') : (Instr.storeAt t (.pointer (some a)) v).run P w = .ok () w' := by
  simp [Instr.storeAt, Instr.sureAddr, storeVar, hi.sizeOf, hs, h]
theorem Stp.mem (hd : o.dst = none) {st' : St} (h : ∀ S at_ a w, Rel c S at_ st a w → ∃ S' at' w', (execOp a.eval o).run c.P w = .ok .skip w' ∧ Rel c S' at' st' a w') : Stp c o st st' := by
  intro S at_ a w hr next Q hk
  obtain ⟨S', at', w', h1, h2⟩ := h S at_ a w hr
  refine wpIn_of_run (not_defer_of_skip h1) h1 ?_
  rw [Oper.uponIn_skip, hd]
  exact hk S' at' _ w' h2
theorem Stp.storePtr {ty t : TypeId} {x y : Operand} {g g' p : Nat} {cs cs' : List V} {v : V} {z : Value} {size bytes : Nat} (hd : o.dst = none) (hop : o.op = .store ty x y) (hi : TI c.P ty z size bytes) (hx : st.ev x = .ptr g g' p) (hobj : st.obj g g' = .cells t cs)
    (hy : st.ev y = v) (hl : v.leaf = true ∨ ∃ l, v = .agg l) (hlf : v.cells.all V.leaf = true) (hsz : v.cells.length = size) (hp : p + size ≤ cs.length) (hcs : splice cs p v.cells = cs') : Stp c o st (st.set g g' (.cells t cs')) :=
  Stp.mem hd fun S at_ a w hr => by
    have h1 := hr.ev x
    have h2 := hr.ev y
    rw [hx, VR] at h1
    rw [hy] at h2
    obtain ⟨b, h3, h4⟩ := h1
    have h5 := hr.ok g g' _ h3
    rw [hobj] at h5
    obtain ⟨b', arr, e, h6, h7⟩ := h5
    cases e
    have h8 := h2.cells hl
    have h9 := h8.length
    have h10 := h7.length
    obtain ⟨w', arr', r1, r2, r3, r4, r5⟩ := run_storeCells_blk (P := c.P) b p t (a.eval y).cells.toList 0 w arr h6 (by simp only [Array.length_toList] at h9 h10 ⊢; omega) (h8.one hlf)
    refine ⟨S, at_, w', ?_, hr.write h3 (by rw [hobj]; rfl) rfl r4 r5 rfl ⟨b, arr', rfl, r2, ?_⟩ (by rw [hobj]; simp)⟩
    · simp only [execOp, hop, h4, storeAt_run hi (by simp only [Array.length_toList] at h9; omega) r1, Sem.run_bind, Sem.run_pure, Result.andThen]
    · rw [r3, ← hcs]
      have hw : ∀ k, S k → w'.heap[k]? = w.heap[k]? := fun k hk => r4.block k (hr.slt k hk) (fun e => by cases e; exact (hr.own g g' _ b h3 (by rw [hobj]; rfl) rfl).2.2 hk)
      exact VRs.mono (fun _ h => h) hw (fun _ _ _ h => h) _ _ (by simpa using h7.splice h8 p)
theorem splice_mid {α : Type} (p1 c1 p3 l : List α) (q : Nat) (hq : q + l.length ≤ c1.length) : splice (p1 ++ c1 ++ p3) (p1.length + q) l = p1 ++ splice c1 q l ++ p3 := by
  unfold splice
  rw [List.append_assoc p1 c1 p3, List.take_append, List.take_of_length_le (by omega), List.drop_append, List.drop_of_length_le (by omega),
    show p1.length + q - p1.length = q by omega, show p1.length + q + l.length - p1.length = q + l.length by omega, List.take_append_of_le_length (by omega), List.drop_append_of_le_length (by omega)]
  simp [List.append_assoc]
theorem splice_app {α : Type} (p1 R l : List α) : splice (p1 ++ R) p1.length l = p1 ++ l ++ R.drop l.length := by
  unfold splice
  rw [List.take_left, List.drop_append, List.drop_of_length_le (by omega)]
  simp
theorem splice_splice {α : Type} (L a b : List α) (p : Nat) (h : p + a.length ≤ L.length) : splice (splice L p a) (p + a.length) b = splice L p (a ++ b) := by
  obtain ⟨p1, R, rfl, rfl⟩ : ∃ p1 R : List α, L = p1 ++ R ∧ p1.length = p := ⟨L.take p, L.drop p, (List.take_append_drop _ _).symm, by simp; omega⟩
  rw [splice_app, splice_app]
  have := splice_app (p1 ++ a) (R.drop a.length) b
  rw [List.length_append] at this
  rw [this]
  simp [List.append_assoc]
theorem length_splice {α : Type} (c1 l : List α) (q : Nat) (hq : q + l.length ≤ c1.length) : (splice c1 q l).length = c1.length := by
  unfold splice
  simp only [List.length_append, List.length_take, List.length_drop]
  omega
theorem Flat.split {P : Program} {w : World} {S : Nat → Prop} {e : TypeId} : ∀ {xs : List V} {cs : List Value} (_ : Flat P w S e xs cs) {i : Nat} {u : V}, xs[i]? = some u →
    ∃ f1 c1 f3, cs = f1 ++ c1 ++ f3 ∧ f1.length = i * P.cellsOf e ∧ c1.length = P.cellsOf e ∧ RX P w S u c1 ∧ ∀ u' c', RX P w S u' c' → c'.length = P.cellsOf e → Flat P w S e (xs.set i u') (f1 ++ c' ++ f3)
  | [], _, _, i, u, hi => by simp at hi
  | y :: ys, cs, h, i, u, hi => by
    obtain ⟨c1, c2, rfl, h2, h3, h4⟩ := h
    cases i with
    | zero =>
      simp at hi; subst hi
      exact ⟨[], c1, c2, by simp, by simp, h2, h3, fun u' c' g1 g2 => ⟨c', c2, by simp, g2, g1, h4⟩⟩
    | succ i =>
      simp at hi
      obtain ⟨f1, d1, f3, rfl, g2, g3, g4, g5⟩ := h4.split hi
      exact ⟨c1 ++ f1, d1, f3, by simp, by rw [List.length_append, h2, g2, Nat.add_mul]; omega, g3, g4, fun u' c' k1 k2 => ⟨c1, f1 ++ c' ++ f3, by simp, h2, h3, g5 u' c' k1 k2⟩⟩
theorem RLs.append {P : Program} {w : World} {S : Nat → Prop} : ∀ {a1 a2 : List V} {b1 b2 : List Value}, RLs P w S a1 b1 → RLs P w S a2 b2 → RLs P w S (a1 ++ a2) (b1 ++ b2)
  | [], _, [], _, _, q2 => q2
  | [], _, _ :: _, _, q1, _ => by simp [RLs] at q1
  | _ :: _, _, [], _, q1, _ => by simp [RLs] at q1
  | y :: a1, _, z :: b1, _, q1, q2 => by rw [RLs] at q1; simp only [List.cons_append]; rw [RLs]; exact ⟨q1.1, q1.2.append q2⟩
theorem RLs.splice {P : Program} {w : World} {S : Nat → Prop} {l1 l2 : List V} {x1 x2 : List Value} (p : Nat) (g1 : RLs P w S l1 x1) (g2 : RLs P w S l2 x2) : RLs P w S (splice l1 p l2) (splice x1 p x2) := by
  unfold Go.Proofs.YtjjpmbaddpiamaaDoor.splice
  rw [← g2.length]
  exact ((g1.take p).append g2).append (g1.drop _)
theorem V.ro_cells {v : V} (hl : v.leaf = true ∨ ∃ l, v = .agg l) (hro : v.ro = true) : v.cells.all V.leaf = true := by
  rcases hl with hl | ⟨l, rfl⟩
  · have : v.cells = [v] := by cases v <;> simp_all [V.leaf, V.cells]
    rw [this]; simpa using hl
  · simp only [V.cells, V.ro] at hro ⊢
    rw [List.all_eq_true] at hro ⊢
    intro y hy
    have := hro y hy
    cases y <;> simp_all [V.isRL, V.leaf]
theorem storeRow_aux {S : Nat → Prop} {at_ : At} {a : Act} {w : World} (hr : Rel c S at_ st a w) {ty t : TypeId} {g g' i q : Nat} {xs : List V} {u u' v : V} {x : Value} {z : Value} {size bytes : Nat} (hi : TI c.P ty z size bytes) {p : Value} (hx : VR c.P w S at_ (.rptr t g g' i q) p) (hobj : st.obj g g' = .row t xs)
    (hu : xs[i]? = some u) (h2 : VR c.P w S at_ v x) (hl : v.leaf = true ∨ ∃ l, v = .agg l) (hro : v.ro = true) (hsz : v.cells.length = size) (hp : q + size ≤ u.cells.length)
    (hu' : ∀ c1, RX c.P w S u c1 → c1.length = c.P.cellsOf t → RX c.P w S u' (splice c1 q x.cells.toList)) :
    ∃ w', (Instr.storeAt ty p x).run c.P w = .ok () w' ∧ Rel c S at_ (st.set g g' (.row t (xs.set i u'))) a w' := by
  rw [VR] at hx
  obtain ⟨b, m, cp, h3, rfl⟩ := hx
  have h5 := hr.ok g g' _ h3
  rw [hobj] at h5
  obtain ⟨flat, h6, h7⟩ := h5
  have h8 := h2.cells hl
  have h9 := h8.length
  obtain ⟨f1, c1, f3, rfl, k1, k2, k3, k4⟩ := h7.split hu
  have hul : u.cells.length = c.P.cellsOf t := by rw [k3.rls.length, k2]
  rcases h6.2 with ⟨e, _⟩ | ⟨b', cap, cur, e, hb, hh, hcap, hmax, hcur, htake⟩
  · cases e
  · cases e
    obtain ⟨tail, htail⟩ : ∃ tail, cur.toList = f1 ++ c1 ++ f3 ++ tail := ⟨_, by rw [← htake]; exact (List.take_append_drop _ _).symm⟩
    have hlen : cur.size = f1.length + c1.length + f3.length + tail.length := by rw [← Array.length_toList, htail]; simp [Nat.add_assoc]
    obtain ⟨w', arr', r1, r2, r3, r4, r5⟩ := run_storeCells_blk (P := c.P) b (i * c.P.cellsOf t + q) t x.cells.toList 0 w cur hh (by omega) (h8.one (V.ro_cells hl hro))
    have hw : ∀ k, S k → w'.heap[k]? = w.heap[k]? := fun k hk => r4.block k (hr.slt k hk) (fun e => by cases e; exact (hr.own g g' _ b h3 (by rw [hobj]; rfl) rfl).2.2 hk)
    have hlx : x.cells.toList.length = size := by rw [← h9, hsz]
    have r3' : arr'.toList = f1 ++ splice c1 q x.cells.toList ++ f3 ++ tail := by
      rw [r3, Nat.add_zero, htail, ← k1, List.append_assoc (f1 ++ c1), splice_mid f1 c1 (f3 ++ tail) _ q (by omega)]
      simp [List.append_assoc]
    have hsl : (splice c1 q x.cells.toList).length = c1.length := length_splice _ _ _ (by omega)
    have hfl := h7.length
    refine ⟨w', storeAt_run hi (by simpa using hlx) r1, hr.write h3 (by rw [hobj]; rfl) rfl r4 r5 rfl ?_ (by rw [hobj]; simp)⟩
    refine ⟨f1 ++ splice c1 q x.cells.toList ++ f3, ⟨?_, .inr ⟨b, cp, arr', by simp, hb, r2, by simpa using hcap, hmax, ?_, ?_⟩⟩, ?_⟩
    · simp only [List.length_append, List.length_set] at hfl ⊢; omega
    · rw [← Array.length_toList, r3', ← hcur, hlen]; simp only [List.length_append]; omega
    · rw [r3', List.length_set]
      refine List.take_append_of_le_length ?_ |>.trans (List.take_of_length_le ?_) <;> (simp only [List.length_append] at hfl ⊢; omega)
    · exact Flat.mono (fun _ h => h) hw t _ _ (k4 _ _ (hu' c1 k3 k2) (by rw [hsl, k2]))
/-- A row's element is written whole. -/
theorem Stp.storeRow {ty t : TypeId} {x y : Operand} {g g' i : Nat} {xs : List V} {v : V} {z : Value} {size bytes : Nat} (hd : o.dst = none) (hop : o.op = .store ty x y) (hi : TI c.P ty z size bytes) (ht : c.P.cellsOf t = size) (hx : st.ev x = .rptr t g g' i 0) (hobj : st.obj g g' = .row t xs)
    (hlt : i < xs.length) (hy : st.ev y = v) (hl : v.leaf = true ∨ ∃ l, v = .agg l) (hro : v.ro = true) (hsz : v.cells.length = size) : Stp c o st (st.set g g' (.row t (xs.set i v))) :=
  Stp.mem hd fun S at_ a w hr => by
    have h1 := hr.ev x
    have h2 := hr.ev y
    rw [hx] at h1
    rw [hy] at h2
    have hul : xs[i].cells.length = size := by
      rw [VR] at h1
      obtain ⟨b, m, cp, h3, _⟩ := h1
      have h5 := hr.ok g g' _ h3
      rw [hobj] at h5
      obtain ⟨flat, h6, h7⟩ := h5
      obtain ⟨c1, k1, _, k3⟩ := h7.get (List.getElem?_eq_getElem hlt)
      rw [k3.rls.length, k1, ht]
    obtain ⟨w', r1, r2⟩ := storeRow_aux hr hi h1 hobj (List.getElem?_eq_getElem hlt) h2 hl hro hsz (by omega) (u' := v) fun c1 g1 g2 => by
      have h8 := (h2.cells hl).length
      have : splice c1 0 (a.eval y).cells.toList = (a.eval y).cells.toList := by
        unfold splice
        rw [List.drop_of_length_le (by omega)]
        simp
      rw [this]
      exact h2.toRX hro hl
    exact ⟨S, at_, w', by simp only [execOp, hop, r1, Sem.run_bind, Sem.run_pure, Result.andThen], r2⟩
/-- A part of a row's element is written. -/
theorem Stp.storeRowPart {ty t : TypeId} {x y : Operand} {g g' i q : Nat} {xs : List V} {l : List V} {v : V} {z : Value} {size bytes : Nat} (hd : o.dst = none) (hop : o.op = .store ty x y) (hi : TI c.P ty z size bytes) (hx : st.ev x = .rptr t g g' i q) (hobj : st.obj g g' = .row t xs)
    (hu : xs[i]? = some (.agg l)) (hy : st.ev y = v) (hl : v.leaf = true ∨ ∃ l, v = .agg l) (hro : v.ro = true) (hsz : v.cells.length = size) (hq : q + size ≤ l.length) : Stp c o st (st.set g g' (.row t (xs.set i (.agg (splice l q v.cells))))) :=
  Stp.mem hd fun S at_ a w hr => by
    have h1 := hr.ev x
    have h2 := hr.ev y
    rw [hx] at h1
    rw [hy] at h2
    obtain ⟨w', r1, r2⟩ := storeRow_aux hr hi h1 hobj hu h2 hl hro hsz hq (u' := .agg (splice l q v.cells)) fun c1 g1 g2 => by
      simp only [RX] at g1 ⊢
      exact RLs.splice q g1 (h2.toRX hro hl).rls
    exact ⟨S, at_, w', by simp only [execOp, hop, r1, Sem.run_bind, Sem.run_pure, Result.andThen], r2⟩
end store
end Go.Proofs.YtjjpmbaddpiamaaDoor
/-
  What each of the model's operations does to a state of the abstract machine: new objects, literals, append, what is written no more.
-/
set_option linter.unusedSimpArgs false
set_option linter.unusedVariables false
namespace Go.Proofs.YtjjpmbaddpiamaaDoor
open Go.RowKit

section new
variable {c : Ctx} {st : St} {o : Oper} {d : Nat}
/-- An operation that makes an object in a new block and puts a value for it into its slot. -/
theorem Stp.fresh {ob : Ob} {x : V} (hd : o.dst = some d) (hn : d < c.nt) (hnone : st.obj st.gen d = .none) (hlive : ob.live = true)
    (h : ∀ S at_ a w, Rel c S at_ st a w → ∃ (oj : Obj) (v u : Value), (execOp a.eval o).run c.P w = .ok (.value u) (w.alloc oj) ∧ blkOf v = some w.heap.size ∧ ObOk c.P (w.alloc oj) S c.w0.heap.size (updA at_ st.gen d v) v ob ∧ VR c.P (w.alloc oj) S (updA at_ st.gen d v) x u) :
    Stp c o st ((st.set st.gen d ob).put d x) := by
  intro S at_ a w hr next Q hk
  obtain ⟨oj, v, u, h1, h2, h3, h4⟩ := h S at_ a w hr
  refine wpIn_of_run (not_defer_of_value h1) h1 ?_
  rw [Oper.uponIn_value, hd]
  exact hk S _ _ _ ((hr.alloc hnone h2 hlive h3).put hn h4)
theorem heap_new (w : World) (oj : Obj) : (w.alloc oj).heap[w.heap.size]? = some oj := heap_alloc_new w oj
theorem VRs.later {P : Program} {w : World} {S : Nat → Prop} {at_ : At} {vs : List V} {cs : List Value} (h : VRs P w S at_ vs cs) {c : Ctx} {st : St} {a : Act} (hr : Rel c S at_ st a w) {d : Nat} (hnone : st.obj st.gen d = .none) (oj : Obj) (v : Value) :
    VRs P (w.alloc oj) S (updA at_ st.gen d v) vs cs := by
  refine VRs.mono (fun _ h => h) (fun b hb => (World.grownBy_alloc w oj none).block b (hr.slt b hb) (by simp)) (fun g' d' v' hv' => ?_) _ _ h
  by_cases he : d' = d ∧ g' = st.gen
  · obtain ⟨rfl, rfl⟩ := he; rw [(hr.al _ _).2 hnone] at hv'; cases hv'
  · simp [updA, he, hv']
theorem VRs_cv {P : Program} {w : World} {S : Nat → Prop} {at_ : At} : ∀ cs : List Value, VRs P w S at_ (cs.map cv) cs
  | [] => by simp [VRs]
  | x :: cs => by rw [List.map_cons, VRs]; exact ⟨VR_cv x, VRs_cv cs⟩
theorem Stp.alloc {t : TypeId} {z : Value} {size bytes : Nat} {zs : List V} (hd : o.dst = some d) (hn : d < c.nt) (hop : o.op = .alloc t) (hi : TI c.P t z size bytes) (hnone : st.obj st.gen d = .none) (hz : z.cells.toList.map cv = zs) : Stp c o st ((st.set st.gen d (.cells t zs)).put d (.ptr st.gen d 0)) :=
  Stp.fresh hd hn hnone rfl fun S at_ a w hr => by
    refine ⟨.cells z.cells t, .pointer (some ⟨w.heap.size, 0, none⟩), .pointer (some ⟨w.heap.size, 0, none⟩), ?_, rfl, ⟨_, _, rfl, heap_new w _, ?_⟩, ?_⟩
    · simp [execOp, hop, Instr.alloc, hi.zero, newVar, newRow]
    · subst hz; exact VRs_cv _
    · rw [VR]; exact ⟨_, by simp [updA], rfl⟩
theorem Stp.box {t : TypeId} {x : Operand} {v : V} {cs : List V} (hd : o.dst = some d) (hn : d < c.nt) (hop : o.op = .box t x) (hnone : st.obj st.gen d = .none) (hx : st.ev x = v) (hl : v.leaf = true ∨ ∃ l, v = .agg l) (hcs : v.cells = cs) : Stp c o st ((st.set st.gen d (.cells t cs)).put d (.ptr st.gen d 0)) :=
  Stp.fresh hd hn hnone rfl fun S at_ a w hr => by
    have h1 := hr.ev x
    rw [hx] at h1
    have h2 := h1.cells hl
    rw [hcs] at h2
    refine ⟨.cells (a.eval x).cells t, .pointer (some ⟨w.heap.size, 0, none⟩), .pointer (some ⟨w.heap.size, 0, none⟩), ?_, rfl, ⟨_, _, rfl, heap_new w _, h2.later hr hnone _ _⟩, ?_⟩
    · simp [execOp, hop, Instr.box, newVar, newRow]
    · rw [VR]; exact ⟨_, by simp [updA], rfl⟩

/-! ### literals -/
/-- Where the parts of a literal lie, and what it holds then. -/
def fillV (place : Nat → Option (Nat × Nat)) (cs : List V) : List (Nat × V) → Option (List V)
  | [] => some cs
  | (i, v) :: rest =>
    match place i with
    | none => none
    | some (off, size) => if v.cells.length ≠ size ∨ off + v.cells.length > cs.length then none else fillV place (splice cs off v.cells) rest
theorem foldl_set (cs : Array Value) (off : Nat) : ∀ (l : List Value) (k : Nat), (l.zipIdx k).foldl (fun cs (x : Value × Nat) => cs.setIfInBounds (off + x.2) x.1) cs = (l.zipIdx k).foldl (fun cs (x : Value × Nat) => cs.setIfInBounds (off + x.2) x.1) cs := fun _ _ => rfl
theorem toList_foldl_set (off : Nat) : ∀ (l : List Value) (k : Nat) (cs : Array Value), off + k + l.length ≤ cs.size → ((l.zipIdx k).foldl (fun cs (x : Value × Nat) => cs.setIfInBounds (off + x.2) x.1) cs).toList = splice cs.toList (off + k) l
  | [], k, cs, _ => by simp [splice]
  | v :: l, k, cs, h => by
    simp only [List.length_cons] at h
    rw [List.zipIdx_cons, List.foldl_cons, toList_foldl_set off l (k + 1) _ (by simp; omega)]
    have hlen : off + k < cs.toList.length := by simp; omega
    simp only [Array.toList_setIfInBounds, splice, List.length_cons]
    rw [show off + (k + 1) = off + k + 1 by omega, List.take_succ_eq_append_getElem (by simpa using hlen), List.getElem_set_self, List.take_set_of_le (by omega), List.drop_set_of_lt (by omega)]
    simp [Nat.add_assoc, Nat.add_comm 1]
theorem fill_run {P : Program} {w : World} {S : Nat → Prop} {at_ : At} (place : Nat → Option (Nat × Nat)) : ∀ (ps : List (Nat × V)) (vs : List (Nat × Value)) (cs : List V) (xs : Array Value) (r : List V),
    VRs P w S at_ cs xs.toList → ps.map (·.1) = vs.map (·.1) → (∀ (j : Nat) (p : Nat × V) (v : Nat × Value), ps[j]? = some p → vs[j]? = some v → VRs P w S at_ p.2.cells v.2.cells.toList) → fillV place cs ps = some r →
    ∃ arr, Instr.fill place xs vs = some arr ∧ VRs P w S at_ r arr.toList
  | [], [], cs, xs, r, h, _, _, hr => by simp only [fillV, Option.some.injEq] at hr; subst hr; exact ⟨xs, rfl, h⟩
  | [], _ :: _, _, _, _, _, he, _, _ => by simp at he
  | _ :: _, [], _, _, _, _, he, _, _ => by simp at he
  | (i, v) :: ps, (i', u) :: vs, cs, xs, r, h, he, hv, hr => by
    simp only [List.map_cons, List.cons.injEq] at he
    obtain ⟨rfl, he⟩ := he
    have h0 := hv 0 _ _ rfl rfl
    simp only [fillV] at hr
    simp only [Instr.fill]
    cases hp : place i with
    | none => simp [hp] at hr
    | some q =>
      obtain ⟨off, size⟩ := q
      simp only [hp] at hr
      split at hr
      · cases hr
      · rename_i hc
        rw [not_or] at hc
        obtain ⟨hc1, hc2⟩ := hc
        have h1 := h0.length
        have h2 := h.length
        simp only [Array.length_toList] at h1 h2 hc1 hc2
        have hcond : (decide (u.cells.size ≠ size) || decide (off + u.cells.size > xs.size)) = false := by simp; omega
        simp only [hcond, Bool.false_eq_true, if_false]
        have hlist : (u.cells.zipIdx.foldl (fun cs (x : Value × Nat) => cs.setIfInBounds (off + x.2) x.1) xs).toList = splice xs.toList off u.cells.toList := by
          have := toList_foldl_set off u.cells.toList 0 xs (by simp; omega)
          rw [Nat.add_zero] at this
          rw [← this, ← Array.toList_zipIdx, Array.foldl_toList]
        refine fill_run place ps vs _ _ r ?_ he (fun j p v h3 h4 => hv (j + 1) p v h3 h4) hr
        have := h.splice h0 off
        rw [← hlist] at this
        exact this
/-- A struct's or an array's places. -/
def Places (P : Program) (t : TypeId) (place : Nat → Option (Nat × Nat)) : Prop :=
  (∃ fs pl, P.underlying t = some (.struct fs) ∧ (∀ w : World, (fs.mapM fun f => do pure (f.offset, ← sizeOf f.type) : Sem (Array (Nat × Nat))).run P w = .ok pl w) ∧ place = (pl[·]?)) ∨
  ∃ n e z size bytes, P.underlying t = some (.array n e) ∧ TI P e z size bytes ∧ place = fun i => some (i * size, size)
theorem Stp.build {t : TypeId} {parts : Array (Nat × Operand)} {z : Value} {size bytes : Nat} {place : Nat → Option (Nat × Nat)} {ps : List (Nat × V)} {r : List V} (hd : o.dst = some d) (hn : d < c.nt) (hop : o.op = .build t parts) (hi : TI c.P t z size bytes) (hpl : Places c.P t place)
    (hps : parts.toList.map (fun p => (p.1, st.ev p.2)) = ps) (hl : ∀ p ∈ ps, p.2.leaf = true ∨ ∃ l, p.2 = .agg l) (hr : fillV place (z.cells.toList.map cv) ps = some r) : Stp c o st (st.put d (.agg r)) :=
  Stp.val hd hn fun S at_ a w hrel => by
    obtain ⟨arr, h1, h2⟩ := fill_run (P := c.P) (w := w) (S := S) (at_ := at_) place ps (parts.toList.map fun p => (p.1, a.eval p.2)) _ z.cells r (VRs_cv _) (by subst hps; simp [Function.comp_def]) (fun j p v h3 h4 => by
      subst hps
      simp only [List.getElem?_map, Option.map_eq_some_iff] at h3 h4
      obtain ⟨q, hq, rfl⟩ := h3
      obtain ⟨q', hq', rfl⟩ := h4
      rw [hq] at hq'; cases hq'
      exact (hrel.ev q.2).cells (hl _ (List.mem_map.2 ⟨q, List.mem_of_getElem? hq, rfl⟩))) hr
    refine ⟨.agg arr, ?_, by rw [VR]; exact ⟨arr, rfl, h2⟩⟩
    have h1' : Instr.fill place z.cells (parts.map fun (i, x) => (i, a.eval x)).toList = some arr := by rw [← h1]; simp [Array.toList_map]
    rcases hpl with ⟨fs, pl, h3, h4, rfl⟩ | ⟨n, e, z', size', bytes', h3, h4, rfl⟩
    · simp only [execOp, hop, Instr.build, Sem.run_bind, Sem.run_pure, hi.zero, Result.andThen_ok, run_underlying h3, h4, h1']
    · simp only [execOp, hop, Instr.build, Sem.run_bind, Sem.run_pure, hi.zero, Result.andThen_ok, run_underlying h3, h4.sizeOf, h1']
/-- All parts of a slice's literal, in order. -/
theorem Stp.buildSliceF {t e : TypeId} {n : Nat} {parts : Array (Nat × Operand)} {z : Value} {size bytes : Nat} {vs : List V} (evF : Operand → V) (hev : ∀ S at_ a w, Rel c S at_ st a w → ∀ x, VR c.P w S at_ (evF x) (a.eval x)) (hd : o.dst = some d) (hn : d < c.nt) (hop : o.op = .buildSlice t n parts) (ht : c.P.underlying t = some (.slice e)) (hi : TI c.P e z size bytes) (h0 : 0 < size) (hzs : z.cells.size = size) (hsmall : n * size ≤ 16777216)
    (hnone : st.obj st.gen d = .none) (hidx : parts.toList.map (·.1) = List.range n) (hvs : parts.toList.map (fun p => evF p.2) = vs) (hl : ∀ v ∈ vs, (v.leaf = true ∨ ∃ l, v = .agg l) ∧ v.ro = true ∧ v.cells.length = size) :
    Stp c o st ((st.set st.gen d (.row e vs)).put d (.row st.gen d n)) :=
  Stp.fresh hd hn hnone rfl fun S at_ a w hr => by
    have hcz := hi.cells
    have hlen : vs.length = n := by have := congrArg List.length hidx; simp at this; subst hvs; simpa using this
    -- the parts, one after the other
    have key : ∀ (ps : List (Nat × Operand)) (k : Nat) (xs : Array Value), ps.map (·.1) = List.range' k ps.length → (∀ p ∈ ps, ((evF p.2).leaf = true ∨ ∃ l, evF p.2 = .agg l) ∧ (evF p.2).ro = true ∧ (evF p.2).cells.length = size) → (k + ps.length) * size ≤ xs.size →
        ∃ arr : Array Value, Instr.fill (fun i => some (i * size, size)) xs (ps.map fun p => (p.1, a.eval p.2)) = some arr ∧ arr.toList = splice xs.toList (k * size) (ps.flatMap fun p => (a.eval p.2).cells.toList) ∧ Flat c.P w S e (ps.map fun p => evF p.2) (ps.flatMap fun p => (a.eval p.2).cells.toList) := by
      intro ps
      induction ps with
      | nil => intro k xs _ _ _; exact ⟨xs, rfl, by simp [splice], rfl⟩
      | cons p ps ih =>
        intro k xs h1 h2 h3
        simp only [List.map_cons, List.length_cons, List.range'_succ, List.cons.injEq] at h1
        obtain ⟨h1, h1'⟩ := h1
        obtain ⟨g1, g2, g3⟩ := h2 p List.mem_cons_self
        have hv := hev S at_ a w hr p.2
        have hc := (hv.cells g1).length
        rw [g3] at hc
        simp only [Array.length_toList] at hc
        simp only [List.length_cons] at h3
        have hk : k * size + size ≤ xs.size := by
          have : (k + 1) * size ≤ (k + (ps.length + 1)) * size := Nat.mul_le_mul_right _ (by omega)
          rw [Nat.add_mul, Nat.one_mul] at this
          omega
        have hcond : (decide ((a.eval p.2).cells.size ≠ size) || decide (k * size + (a.eval p.2).cells.size > xs.size)) = false := by simp; omega
        have hlist : ((a.eval p.2).cells.zipIdx.foldl (fun cs (x : Value × Nat) => cs.setIfInBounds (k * size + x.2) x.1) xs).toList = splice xs.toList (k * size) (a.eval p.2).cells.toList := by
          have := toList_foldl_set (k * size) (a.eval p.2).cells.toList 0 xs (by simp; omega)
          rw [Nat.add_zero] at this
          rw [← this, ← Array.toList_zipIdx, Array.foldl_toList]
        obtain ⟨arr, r1, r2, r3⟩ := ih (k + 1) ((a.eval p.2).cells.zipIdx.foldl (fun cs (x : Value × Nat) => cs.setIfInBounds (k * size + x.2) x.1) xs) h1' (fun q hq => h2 q (List.mem_cons_of_mem _ hq)) (by
          have : ((a.eval p.2).cells.zipIdx.foldl (fun cs (x : Value × Nat) => cs.setIfInBounds (k * size + x.2) x.1) xs).size = xs.size := by
            rw [← Array.length_toList, hlist, length_splice _ _ _ (by simp; omega), Array.length_toList]
          rw [this, show k + 1 + ps.length = k + (ps.length + 1) by omega]; exact h3)
        refine ⟨arr, ?_, ?_, ?_⟩
        · simp only [List.map_cons, Instr.fill, h1, hcond, Bool.false_eq_true, if_false]
          exact r1
        · rw [r2, hlist, List.flatMap_cons, ← splice_splice _ _ _ _ (by simp; omega)]
          simp only [Array.length_toList, ← hc]
          rw [Nat.add_mul, Nat.one_mul]
        · exact ⟨_, _, rfl, by rw [hcz]; simpa using hc.symm, hv.toRX g2 g1, r3⟩
    have hsz : ((Array.range (n * size)).map (z.cells[· % z.cells.size]!)).size = n * size := by simp
    have hpl : parts.toList.length = n := by have := congrArg List.length hidx; simpa using this
    obtain ⟨arr, r1, r2, r3⟩ := key parts.toList 0 ((Array.range (n * size)).map (z.cells[· % z.cells.size]!)) (by rw [hidx, hpl, List.range_eq_range']) (fun p hp => hl _ (by subst hvs; exact List.mem_map.2 ⟨p, hp, rfl⟩)) (by rw [hsz, hpl]; simp)
    rw [hvs] at r3
    have hfl := r3.length
    rw [hlen, hcz] at hfl
    have r2' : arr.toList = parts.toList.flatMap fun p => (a.eval p.2).cells.toList := by
      rw [r2]
      unfold splice
      rw [List.drop_of_length_le (by rw [hfl]; simp)]
      simp
    have hasz : arr.size = n * size := by rw [← Array.length_toList, r2', hfl]
    obtain ⟨ie, hie, hz, hs1, _⟩ := hi.get
    have hrun : (Instr.buildSlice t n (parts.map fun (i, x) => (i, a.eval x))).run c.P w = .ok (.slice (some ⟨w.heap.size, 0, none⟩) n n) (w.alloc (.cells arr e)) := by
      by_cases hn0 : n = 0
      · subst hn0
        have hp0 : parts = #[] := by
          have : parts.toList = [] := List.eq_nil_of_length_eq_zero hpl
          simpa using this
        subst hp0
        have ha : arr = #[] := by
          have : arr.toList = [] := by rw [r2']; rfl
          simpa using this
        subst ha
        have hr0 : Array.range 0 = #[] := by simp
        simp [Instr.buildSlice, run_underlying ht, hi.sizeOf, Instr.fill, newRow, hr0]
      · have hpos : ¬ n * ie.size = 0 := by rw [hs1]; exact fun e => by rcases Nat.mul_eq_zero.1 e with e | e <;> omega
        refine run_buildSlice w t e n _ arr ie z ht hie hz (by rw [hs1]; omega) hpos ?_
        rw [hs1, ← r1]
        simp [Array.toList_map]
    refine ⟨.cells arr e, .slice (some ⟨w.heap.size, 0, none⟩) n n, .slice (some ⟨w.heap.size, 0, none⟩) n n, ?_, rfl, ?_, ?_⟩
    · simp only [execOp, hop, hrun, Sem.run_bind, Sem.run_pure, Result.andThen]
    · refine ⟨arr.toList, ?_, ?_⟩
      · have hb : n ≤ maxLen := by have : n * 1 ≤ n * size := Nat.mul_le_mul_left _ h0; simp only [maxLen]; omega
        have := World.ownsRow_lit (base := c.w0.heap.size) (e := e) (size := size) w arr n hr.below.size hb hasz
        rw [hcz, hlen]; exact this
      · rw [r2']
        exact Flat.mono (fun _ h => h) (fun b hb => (World.grownBy_alloc w _ none).block b (hr.slt b hb) (by simp)) e _ _ r3
    · rw [VR]; exact ⟨_, n, n, by simp [updA], Nat.le_refl _, rfl⟩
theorem Stp.buildSlice {t e : TypeId} {n : Nat} {parts : Array (Nat × Operand)} {z : Value} {size bytes : Nat} {vs : List V} (hd : o.dst = some d) (hn : d < c.nt) (hop : o.op = .buildSlice t n parts) (ht : c.P.underlying t = some (.slice e)) (hi : TI c.P e z size bytes) (h0 : 0 < size) (hzs : z.cells.size = size) (hsmall : n * size ≤ 16777216)
    (hnone : st.obj st.gen d = .none) (hidx : parts.toList.map (·.1) = List.range n) (hvs : parts.toList.map (fun p => st.ev p.2) = vs) (hl : ∀ v ∈ vs, (v.leaf = true ∨ ∃ l, v = .agg l) ∧ v.ro = true ∧ v.cells.length = size) :
    Stp c o st ((st.set st.gen d (.row e vs)).put d (.row st.gen d n)) :=
  Stp.buildSliceF st.ev (fun S at_ a w hr x => hr.ev x) hd hn hop ht hi h0 hzs hsmall hnone hidx hvs hl
end new
end Go.Proofs.YtjjpmbaddpiamaaDoor
