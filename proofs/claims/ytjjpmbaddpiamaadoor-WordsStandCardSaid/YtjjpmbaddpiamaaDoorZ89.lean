import Derived.Test.YtjjpmbaddpiamaaDoorZ67
import Derived.Sort.Grow
import Derived.Sort.EncStr
/-
  The abstract machine: rows whose elements are slices of the call's own; calls told with the objects that they make; calls of the library told by contracts of the library's; deferred calls with arguments.
-/
set_option linter.unusedSimpArgs false
set_option linter.unusedVariables false
namespace Go.Proofs.YtjjpmbaddpiamaaDoor
open Go.RowKit
section
variable {c : Ctx} {S : Nat → Prop} {at_ : At} {st : St} {a : Act} {w : World}
/-- One object is told otherwise. -/
theorem Rel.retell (h : Rel c S at_ st a w) {g d : Nat} {v : Value} {o' : Ob} (hat : at_ g d = some v) (hl : (st.obj g d).live = true) (hl' : o'.live = true) (hnd : st.obj g d ≠ .dfd) (hok : ObOk c.P w S c.w0.heap.size at_ v o') : Rel c S at_ (st.set g d o') a w := by
  have hsame : ∀ {g' d'}, ¬ (d' = d ∧ g' = g) → (updO st.obj g d o') g' d' = st.obj g' d' := fun hne => by simp [updO, hne]
  have hthis : (updO st.obj g d o') g d = o' := by simp [updO]
  have hlive : ∀ {g' d'}, ((updO st.obj g d o') g' d').live = true → (st.obj g' d').live = true := fun {g' d'} hh => by
    by_cases he : d' = d ∧ g' = g
    · obtain ⟨rfl, rfl⟩ := he; exact hl
    · rwa [hsame he] at hh
  refine h.move (obj' := updO st.obj g d o') (at' := at_) (S' := S) h.below (Nat.le_refl _) (fun _ h => h) h.slt h.snew (fun _ _ => rfl) (fun _ _ _ h => h) (dfd_off hnd) ?_ ?_ ?_ (fun g' d' v' b h1 h2 h3 => h.own g' d' v' b h1 (hlive h2) h3)
    (fun g1 d1 g2 d2 v1 v2 b h1 h2 h3 h4 h5 h6 => h.dis g1 d1 g2 d2 v1 v2 b h1 h2 (hlive h3) (hlive h4) h5 h6)
  · intro g' d' hg'
    by_cases he : d' = d ∧ g' = g
    · obtain ⟨rfl, rfl⟩ := he
      have := (h.al g' d').2 (h.gen g' d' hg')
      rw [hat] at this; cases this
    · rw [hsame he]; exact h.gen g' d' hg'
  · intro g' d'
    by_cases he : d' = d ∧ g' = g
    · obtain ⟨rfl, rfl⟩ := he
      rw [hthis, hat]
      exact ⟨(fun e => by cases e), fun e => by rw [e] at hl'; simp [Ob.live] at hl'⟩
    · rw [hsame he]; exact h.al g' d'
  · intro g' d' v' hv'
    by_cases he : d' = d ∧ g' = g
    · obtain ⟨rfl, rfl⟩ := he
      rw [hthis]
      rw [hat] at hv'; cases hv'
      exact hok
    · rw [hsame he]; exact h.ok g' d' v' hv'
theorem Flat.toVRs {P : Program} {w : World} {S : Nat → Prop} {at_ : At} {e : TypeId} : ∀ {xs : List V} {cs : List Value}, Flat P w S e xs cs → xs.all V.isRL = true → VRs P w S at_ xs cs
  | [], _, h, _ => by rw [Flat] at h; subst h; simp [VRs]
  | x :: xs, cs, h, hl => by
    obtain ⟨c1, c2, rfl, _, h2, h3⟩ := h
    simp only [List.all_cons, Bool.and_eq_true] at hl
    have : ∃ u, c1 = [u] ∧ RL P w S x u := by
      cases x <;> first | exact h2 | simp [V.isRL] at hl
    obtain ⟨u, rfl, h4⟩ := this
    rw [List.singleton_append, VRs]
    exact ⟨VR.of_leaf h4, Flat.toVRs h3 hl.2⟩
theorem Flat.ofVRs {P : Program} {w : World} {S : Nat → Prop} {at_ : At} {e : TypeId} (he : P.cellsOf e = 1) : ∀ {xs : List V} {cs : List Value}, VRs P w S at_ xs cs → xs.all V.isRL = true → Flat P w S e xs cs
  | [], [], _, _ => rfl
  | [], _ :: _, h, _ => by simp [VRs] at h
  | _ :: _, [], h, _ => by simp [VRs] at h
  | x :: xs, u :: cs, h, hl => by
    rw [VRs] at h
    simp only [List.all_cons, Bool.and_eq_true] at hl
    refine ⟨[u], cs, rfl, by rw [he]; rfl, ?_, Flat.ofVRs he h.2 hl.2⟩
    have h1 := h.1.toRL hl.1
    cases x <;> first | exact ⟨u, rfl, h1⟩ | simp [V.isRL] at hl
theorem Rel.toRv (h : Rel c S at_ st a w) {g d : Nat} {e : TypeId} {xs : List V} (hobj : st.obj g d = .row e xs) (he : c.P.cellsOf e = 1) (hl : xs.all V.isRL = true) : Rel c S at_ (st.set g d (.rv e xs)) a w := by
  obtain ⟨v, hat⟩ := h.at_of (g := g) (d := d) (by rw [hobj]; intro e; cases e)
  have hok := h.ok g d v hat
  rw [hobj] at hok
  obtain ⟨flat, h1, h2⟩ := hok
  rw [he] at h1
  exact h.retell hat (by rw [hobj]; rfl) rfl (by rw [hobj]; simp) ⟨flat, he, h1, h2.toVRs hl⟩
theorem Rel.ofRv (h : Rel c S at_ st a w) {g d : Nat} {e : TypeId} {xs : List V} (hobj : st.obj g d = .rv e xs) (hl : xs.all V.isRL = true) : Rel c S at_ (st.set g d (.row e xs)) a w := by
  obtain ⟨v, hat⟩ := h.at_of (g := g) (d := d) (by rw [hobj]; intro e; cases e)
  have hok := h.ok g d v hat
  rw [hobj] at hok
  obtain ⟨flat, he, h1, h2⟩ := hok
  exact h.retell hat (by rw [hobj]; rfl) rfl (by rw [hobj]; simp) ⟨flat, by rw [he]; exact h1, Flat.ofVRs he h2 hl⟩
/-- An element is told otherwise. -/
theorem Rel.rvV (h : Rel c S at_ st a w) {g d i : Nat} {e : TypeId} {xs : List V} {v v' : V} (hobj : st.obj g d = .rv e xs) (hi : xs[i]? = some v) (hv : ∀ x, VR c.P w S at_ v x → VR c.P w S at_ v' x) : Rel c S at_ (st.set g d (.rv e (xs.set i v'))) a w := by
  obtain ⟨u, hat⟩ := h.at_of (g := g) (d := d) (by rw [hobj]; intro e; cases e)
  have hok := h.ok g d u hat
  rw [hobj] at hok
  obtain ⟨flat, he, h1, h2⟩ := hok
  exact h.retell hat (by rw [hobj]; rfl) rfl (by rw [hobj]; simp) ⟨flat, he, by rw [List.length_set]; exact h1, h2.set hv hi⟩
/-- An object gets another name. -/
theorem Rel.renameO (h : Rel c S at_ st a w) {g1 d1 d : Nat} {o : Ob} (hobj : st.obj g1 d1 = o) (hlv : o.live = true) (hnd : o ≠ .dfd) (hn : st.obj st.gen d = .none) :
    ∃ v, at_ g1 d1 = some v ∧ (updA at_ st.gen d v) g1 d1 = some v ∧ (∀ g' d' u, at_ g' d' = some u → (updA at_ st.gen d v) g' d' = some u) ∧ Rel c S (updA at_ st.gen d v) ((st.set g1 d1 .dead).set st.gen d o) a w := by
  subst hobj
  obtain ⟨v, hat⟩ := h.at_of (g := g1) (d := d1) (by intro e; rw [e] at hlv; simp [Ob.live] at hlv)
  have hne : ¬ (d = d1 ∧ st.gen = g1) := fun hh => by rw [← hh.1, ← hh.2, hn] at hlv; simp [Ob.live] at hlv
  have hne' : ¬ (d1 = d ∧ g1 = st.gen) := fun hh => hne ⟨hh.1.symm, hh.2.symm⟩
  have hok := h.ok g1 d1 v hat
  have hk := h.kill hat hnd
  have hnat : at_ st.gen d = none := (h.al _ _).2 hn
  have hext : ∀ g' d' u, at_ g' d' = some u → (updA at_ st.gen d v) g' d' = some u := fun g' d' u hu => by
    by_cases he : d' = d ∧ g' = st.gen
    · obtain ⟨rfl, rfl⟩ := he; rw [hnat] at hu; cases hu
    · simp [updA, he, hu]
  refine ⟨v, hat, by simp [updA, hne', hat], hext, hk.newObj (d := d) (v := v) (o := st.obj g1 d1) (by simp only [St.set, updO, if_neg hne]; exact hn) rfl rfl rfl (Nat.le_refl _) (fun _ _ _ => rfl) (fun b hb => ?_) hlv (hok.mono (fun _ h => h) (fun _ _ => rfl) hext (fun _ _ _ => rfl))⟩
  obtain ⟨k1, k2, k3⟩ := h.own g1 d1 v b hat hlv hb
  refine ⟨k1, k2, k3, fun g' d' v' hv' hl hb' => ?_⟩
  by_cases he : d' = d1 ∧ g' = g1
  · obtain ⟨rfl, rfl⟩ := he
    simp [St.set, updO, Ob.live] at hl
  · have hl' : (st.obj g' d').live = true := by simpa [St.set, updO, he] using hl
    have := h.dis g1 d1 g' d' v v' b hat hv' hlv hl' hb hb'
    exact he ⟨this.2.symm, this.1.symm⟩
/-- A value that names an object, with another name for it. -/
def V.reKey (g1 d1 g d : Nat) : V → V
  | .row g2 d2 n => if g2 = g1 ∧ d2 = d1 then .row g d n else .row g2 d2 n
  | .ptr g2 d2 n => if g2 = g1 ∧ d2 = d1 then .ptr g d n else .ptr g2 d2 n
  | .map g2 d2 => if g2 = g1 ∧ d2 = d1 then .map g d else .map g2 d2
  | v => v
theorem VR.reKey {P : Program} {w : World} {S : Nat → Prop} {at' : At} {g1 d1 g d : Nat} {u : Value} (h1 : at' g1 d1 = some u) (h2 : at' g d = some u) {v : V} {x : Value} (h : VR P w S at' v x) : VR P w S at' (v.reKey g1 d1 g d) x := by
  cases v <;> simp only [V.reKey] <;> try exact h
  · split
    · rename_i g2 d2 n hh; obtain ⟨rfl, rfl⟩ := hh
      rw [VR] at h ⊢; rw [h1] at h; rw [h2]; exact h
    · exact h
  · split
    · rename_i g2 d2 n hh; obtain ⟨rfl, rfl⟩ := hh
      rw [VR] at h ⊢; rw [h1] at h; rw [h2]; exact h
    · exact h
  · split
    · rename_i g2 d2 hh; obtain ⟨rfl, rfl⟩ := hh
      rw [VR] at h ⊢; rw [h1] at h; rw [h2]; exact h
    · exact h
end
section
variable {c : Ctx} {st : St} {o : Oper} {d : Nat}
theorem VRs.getV {P : Program} {w : World} {S : Nat → Prop} {at_ : At} {vs : List V} {cs : List Value} (h : VRs P w S at_ vs cs) {i : Nat} {x : V} (hi : vs[i]? = some x) : ∃ u, cs[i]? = some u ∧ VR P w S at_ x u := VRs.get h hi
theorem Stp.rvIdx {t e : TypeId} {x y : Operand} {xs : List V} {k : IntKind} {g g' n : Nat} {i : Int} {z : Value} {size bytes : Nat} (hd : o.dst = some d) (hn : d < c.nt) (hop : o.op = .indexAddr t x y) (ht : c.P.underlying t = some (.slice e)) (hi : TI c.P e z size bytes)
    (hx : st.ev x = .row g g' n) (hobj : st.obj g g' = .rv e xs) (hy : st.ev y = .int k i) (h0 : 0 ≤ i) (hlt : i < n) : Stp c o st (st.put d (.rptr e g g' i.toNat 0)) :=
  Stp.val hd hn fun S at_ a w hr => by
    have h1 := hr.ev x
    have h2 := hr.ev y
    rw [hx, VR] at h1
    rw [hy, VR, RL] at h2
    obtain ⟨A, m, cp, h3, h4, h5⟩ := h1
    have h6 := hr.ok g g' _ h3
    rw [hobj] at h6
    obtain ⟨flat, _, h7, h8⟩ := h6
    rcases h7.2 with ⟨h9, _⟩ | ⟨b, cap, cur, h9, _⟩
    · cases h9; omega
    · cases h9
      refine ⟨_, by simp only [execOp, hop, h5, h2, idx_run ht hi _ _ _ k h0 hlt, Sem.run_bind, Sem.run_pure, Result.andThen]; rfl, ?_⟩
      rw [VR]
      refine ⟨b, _, _, h3, ?_⟩
      rw [add_plain', hi.cells, Nat.zero_add, Nat.add_zero]
theorem Stp.rvLoad {ty t : TypeId} {x : Operand} {g g' i : Nat} {xs : List V} {v : V} (hd : o.dst = some d) (hn : d < c.nt) (hop : o.op = .load ty x) (ht : IsLeaf c.P ty) (hx : st.ev x = .rptr t g g' i 0) (hobj : st.obj g g' = .rv t xs) (hv : xs[i]? = some v) : Stp c o st (st.put d v) :=
  Stp.val hd hn fun S at_ a w hr => by
    have h1 := hr.ev x
    rw [hx, VR] at h1
    obtain ⟨b, m, cp, h3, h4⟩ := h1
    have h5 := hr.ok g g' _ h3
    rw [hobj] at h5
    obtain ⟨flat, he, h6, h7⟩ := h5
    obtain ⟨u, hu, h8⟩ := h7.getV hv
    have hcell : w.cell? ⟨b, i * c.P.cellsOf t + 0, none⟩ = some u := by
      have hlen : m = xs.length := by
        rcases h6.2 with ⟨e, e'⟩ | ⟨_, _, _, e, _⟩
        · cases e
        · cases e; rfl
      subst hlen
      have := h6.cells (g := b) rfl _ u hu
      rw [add_plain', Nat.zero_add] at this
      rw [he, Nat.mul_one, Nat.add_zero]; exact this
    exact ⟨u, by simp only [execOp, hop, h4, load_leaf_run ht hcell, Sem.run_bind, Sem.run_pure, Result.andThen], h8⟩
theorem Stp.rvStore {ty t : TypeId} {x y : Operand} {g g' i : Nat} {xs : List V} {v : V} {z : Value} {bytes : Nat} (hd : o.dst = none) (hop : o.op = .store ty x y) (hi : TI c.P ty z 1 bytes) (hx : st.ev x = .rptr t g g' i 0) (hobj : st.obj g g' = .rv t xs)
    (hlt : i < xs.length) (hy : st.ev y = v) (hl : v.leaf = true) : Stp c o st (st.set g g' (.rv t (xs.set i v))) :=
  Stp.mem hd fun S at_ a w hr => by
    have h1 := hr.ev x
    have h2 := hr.ev y
    rw [hx, VR] at h1
    rw [hy] at h2
    obtain ⟨b, m, cp, h3, h4⟩ := h1
    have h5 := hr.ok g g' _ h3
    rw [hobj] at h5
    obtain ⟨flat, he, h6, h7⟩ := h5
    have hlf := h2.leaf_cells hl
    have hfl : flat.length = xs.length := h7.length.symm
    rcases h6.2 with ⟨e, _⟩ | ⟨b', cap, cur, e, hb, hh, hcap, hmax, hcur, htake⟩
    · cases e
    · cases e
      have hlen : xs.length ≤ cur.size := by omega
      obtain ⟨w', arr', r1, r2, r3, r4, r5⟩ := run_storeCells_blk (P := c.P) b (i * c.P.cellsOf t + 0) t [a.eval y] 0 w cur hh (by simp [he]; omega) (by intro u hu; simp at hu; subst hu; exact hlf.2)
      rw [he, Nat.mul_one, Nat.add_zero] at r3
      have hw : ∀ k, S k → w'.heap[k]? = w.heap[k]? := fun k hk => r4.block k (hr.slt k hk) (fun e => by cases e; exact (hr.own g g' _ b h3 (by rw [hobj]; rfl) rfl).2.2 hk)
      have hst : (Instr.storeAt ty (a.eval x) (a.eval y)).run c.P w = .ok () w' := by
        rw [h4]
        exact storeAt_run hi (by rw [hlf.1]; rfl) (by rw [hlf.1]; exact r1)
      have r3' : arr'.toList = cur.toList.set i (a.eval y) := by
        rw [r3]
        unfold splice
        rw [List.set_eq_take_append_cons_drop, if_pos (by simp; omega)]
        simp
      refine ⟨S, at_, w', by simp only [execOp, hop, hst, Sem.run_bind, Sem.run_pure, Result.andThen], hr.write h3 (by rw [hobj]; rfl) rfl r4 r5 rfl ?_ (by rw [hobj]; simp)⟩
      refine ⟨flat.set i (a.eval y), he, ⟨by simp [hfl], .inr ⟨b, cp, arr', by simp, hb, r2, by simpa using hcap, hmax, ?_, ?_⟩⟩, ?_⟩
      · rw [← Array.length_toList, r3', List.length_set, Array.length_toList]; exact hcur
      · rw [r3', List.length_set, List.take_set, htake]
      · have hm := VRs.mono (fun _ h => h) hw (fun _ _ _ h => h) _ _ h7
        have hu := VR.mono (S' := S) (w' := w') (at' := at_) (fun _ h => h) hw (fun _ _ _ h => h) _ _ h2
        have : ∀ (l : List V) (k : List Value) (i : Nat), VRs c.P w' S at_ l k → VRs c.P w' S at_ (l.set i v) (k.set i (a.eval y)) := by
          intro l
          induction l with
          | nil => intro k i h; cases k with | nil => simp [VRs] | cons => simp [VRs] at h
          | cons q l ih =>
            intro k i h
            cases k with
            | nil => simp [VRs] at h
            | cons r k =>
              rw [VRs] at h
              cases i with
              | zero => rw [List.set_cons_zero, List.set_cons_zero, VRs]; exact ⟨hu, h.2⟩
              | succ i => rw [List.set_cons_succ, List.set_cons_succ, VRs]; exact ⟨h.1, ih k i h.2⟩
        exact this xs flat i hm
/-- What a slice holds, elements that are told as frames' values are. -/
def St.rdV (st : St) (e : TypeId) (y : V) (ys : List V) : Prop := (∃ g d, y = .row g d ys.length ∧ st.obj g d = .rv e ys) ∨ (st.rd e y ys ∧ ys.all V.isRL = true)
theorem St.rdV_get {S : Nat → Prop} {at_ : At} {a : Act} {w : World} (h : Rel c S at_ st a w) {e : TypeId} (he : c.P.cellsOf e = 1) {x : V} {v : Value} {ys : List V} (hv : VR c.P w S at_ x v) (hr : st.rdV e x ys) :
    ∃ A cp, v = .slice A ys.length cp ∧ ∃ news, VRs c.P w S at_ ys news ∧ ((A = none ∧ ys = []) ∨ ∃ ad, A = some ad ∧ ∀ j u, news[j]? = some u → w.cell? (ad.add j) = some u) := by
  rcases hr with ⟨g, d, rfl, hobj⟩ | ⟨hr, hl⟩
  · rw [VR] at hv
    obtain ⟨A, m, cp, h1, h2, rfl⟩ := hv
    have hok := h.ok g d _ h1
    rw [hobj] at hok
    obtain ⟨flat, _, h3, h4⟩ := hok
    refine ⟨A, cp, rfl, flat, h4, ?_⟩
    rcases h3.2 with ⟨h5, h6⟩ | ⟨b, cap, cur, h5, _⟩
    · cases h5
      exact .inl ⟨rfl, List.eq_nil_of_length_eq_zero h6⟩
    · cases h5
      refine .inr ⟨_, rfl, fun j u hu => h3.cells (g := b) rfl j u hu⟩
  · obtain ⟨A, cp, h1, news, h2, h3⟩ := St.rd_get h hv hr
    exact ⟨A, cp, h1, news, h2.toVRs hl, h3⟩
theorem ownsRow_base' {w : World} {base : Nat} {e : TypeId} {size n : Nat} {v : Value} {xs : List Value} (h : w.ownsRow base e size v n xs) (k : Nat) (hk : v.ownBlock = some k) : base ≤ k := (h.lt k hk).1
theorem append_auxV {S : Nat → Prop} {at_ : At} {a : Act} {w : World} (h : Rel c S at_ st a w) {t e : TypeId} {z : Value} {bytes : Nat} (ty : TypeId) (ht : c.P.underlying t = some (.slice e)) (hi : TI c.P e z 1 bytes) (hzs : z.cells.size = 1) (hby : 0 < bytes)
    {v : Value} {xs ys : List V} {y : V} {x : Value} (hy : VR c.P w S at_ y x) (hr : st.rdV e y ys) (hys : ys.all V.leaf = true) {flat : List Value} (hown : w.ownsRow c.w0.heap.size e 1 v xs.length flat) (hflat : VRs c.P w S at_ xs flat)
    (hnl : ∀ b, blkOf v = some b → ¬ S b ∧ ∀ g' d' v', at_ g' d' = some v' → (st.obj g' d').live = true → blkOf v' ≠ some b) (hbytes : (xs.length + ys.length) * bytes ≤ 140737488355328) (hnone : st.obj st.gen d = .none) :
    ∃ v' w', (Builtin.append_ #[t, t] ty #[v, x]).run c.P w = .ok v' w' ∧ Rel c S (updA at_ st.gen d v') (st.set st.gen d (.rv e (xs ++ ys))) a w' ∧ VR c.P w' S (updA at_ st.gen d v') (.row st.gen d (xs.length + ys.length)) v' := by
  have hcz := hi.cells
  obtain ⟨A, cp, rfl, news, hn, hA⟩ := St.rdV_get h hcz hy hr
  have hnl' : news.length = ys.length * 1 := by rw [Nat.mul_one]; exact hn.length.symm
  obtain ⟨v', w', r1, r2, r3, r4⟩ := append_run ty ht hi hzs Nat.one_pos hby (cp := cp) hown hnl' (by
    rcases hA with ⟨h1, h2⟩ | h1
    · exact .inl ⟨h1, by rw [h2]; rfl⟩
    · exact .inr h1) (hn.one hys) hbytes h.below.size
  have hb1 := ownBlock_blk hown
  have hb2 := ownBlock_blk r2
  rw [hb1] at r3 r4
  rw [hb2] at r4
  have hwS : ∀ k, S k → w'.heap[k]? = w.heap[k]? := fun k hk => r3.block k (h.slt k hk) (fun e => (hnl k e.symm).1 hk)
  have hnat : at_ st.gen d = none := (h.al _ _).2 hnone
  have hext : ∀ g' d' u, at_ g' d' = some u → (updA at_ st.gen d v') g' d' = some u := fun g' d' u hu => by
    by_cases he : d' = d ∧ g' = st.gen
    · obtain ⟨rfl, rfl⟩ := he; rw [hnat] at hu; cases hu
    · simp [updA, he, hu]
  refine ⟨v', w', r1, h.newObj hnone r3.os r3.tape r3.output r3.size ?_ ?_ rfl ⟨flat ++ news, hcz, ?_, ?_⟩, ?_⟩
  · rintro k hk (h1 | h1 | ⟨g', d', v2, h1, h2, h3⟩)
    · refine r3.block k hk fun e => ?_
      have := ownsRow_base' (h := hown) k (by rw [hb1]; exact e.symm)
      omega
    · exact hwS k h1
    · exact r3.block k hk fun e => (hnl k e.symm).2 g' d' v2 h1 h2 h3
  · intro b hb
    have hbase : c.w0.heap.size ≤ b := ownsRow_base' (h := r2) b (by rw [hb2]; exact hb)
    have hlt : b < w'.heap.size := by
      rcases r2.2 with ⟨rfl, _⟩ | ⟨g, cap, cur, rfl, _, hh, _⟩
      · simp [blkOf] at hb
      · simp only [blkOf, Option.some.injEq] at hb
        subst hb
        exact (Array.getElem?_eq_some_iff.1 hh).1
    rcases r4 with r4 | r4
    · rw [r4] at hb
      exact ⟨hbase, hlt, (hnl b hb).1, (hnl b hb).2⟩
    · rw [r4] at hb
      cases hb
      exact ⟨hbase, hlt, fun hs => absurd (h.slt _ hs) (by omega), fun g' d' v2 h1 h2 h3 => absurd (h.own g' d' v2 _ h1 h2 h3).2.1 (by omega)⟩
  · rw [List.length_append]; exact r2
  · exact VRs.mono (fun _ h => h) hwS hext _ _ (hflat.append hn)
  · rw [VR]
    rcases r2.2 with ⟨rfl, h5⟩ | ⟨g, cap, cur, rfl, _⟩
    · exact ⟨none, 0, 0, by simp [updA], by omega, by rw [h5]⟩
    · exact ⟨_, _, _, by simp [updA], Nat.le_refl _, rfl⟩
theorem Stp.rvAppendNil {t e : TypeId} {x y : Operand} {ys : List V} {z : Value} {bytes : Nat} (hd : o.dst = some d) (hn : d < c.nt) (hop : o.op = .call { callee := .builtin .append, args := #[x, y], argTypes := #[t, t] }) (ht : c.P.underlying t = some (.slice e)) (hi : TI c.P e z 1 bytes) (hzs : z.cells.size = 1) (hby : 0 < bytes)
    (hx : st.ev x = .nil) (hy : st.rdV e (st.ev y) ys) (hys : ys.all V.leaf = true) (hlim : ys.length * bytes ≤ 140737488355328) (hnone : st.obj st.gen d = .none) : Stp c o st ((st.set st.gen d (.rv e ys)).put d (.row st.gen d ys.length)) := by
  intro S at_ a w hr next Q hk
  have h1 := hr.ev x
  rw [hx, VR, RL] at h1
  obtain ⟨v', w', r1, r2, r3⟩ := append_auxV (xs := []) hr o.type ht hi hzs hby (v := .slice none 0 0) (hr.ev y) hy hys (flat := []) ⟨by simp, .inl ⟨rfl, rfl⟩⟩ (by simp [VRs]) (fun b hb => by simp [blkOf] at hb) (by simpa using hlim) hnone
  have : (execOp a.eval o).run c.P w = .ok (.value v') w' := by
    simp only [execOp, hop, resolve, invoke, builtin, Sem.run_bind, Sem.run_pure, Result.andThen_ok, List.map_toArray, List.map_cons, List.map_nil, h1, r1]
  refine wpIn_of_run (not_defer_of_value this) this ?_
  rw [Oper.uponIn_value, hd]
  simp only [List.length_nil, Nat.zero_add, List.nil_append] at r2 r3
  exact hk S _ _ _ (r2.put hn r3)
theorem Stp.rvAppend {t e : TypeId} {x y : Operand} {g g' : Nat} {xs ys : List V} {z : Value} {bytes : Nat} (hd : o.dst = some d) (hn : d < c.nt) (hop : o.op = .call { callee := .builtin .append, args := #[x, y], argTypes := #[t, t] }) (ht : c.P.underlying t = some (.slice e)) (hi : TI c.P e z 1 bytes) (hzs : z.cells.size = 1) (hby : 0 < bytes)
    (hx : st.ev x = .row g g' xs.length) (hobj : st.obj g g' = .rv e xs) (hy : (st.set g g' .dead).rdV e (st.ev y) ys) (hys : ys.all V.leaf = true) (hlim : (xs.length + ys.length) * bytes ≤ 140737488355328) (hnone : st.obj st.gen d = .none) :
    Stp c o st (((st.set g g' .dead).set st.gen d (.rv e (xs ++ ys))).put d (.row st.gen d (xs.length + ys.length))) := by
  intro S at_ a w hr next Q hk
  have h1 := hr.ev x
  rw [hx, VR] at h1
  obtain ⟨A, m, cp, h3, h4, h5⟩ := h1
  have h6 := hr.ok g g' _ h3
  rw [hobj] at h6
  obtain ⟨flat, he, h7, h8⟩ := h6
  have hm : m = xs.length := by
    rcases h7.2 with ⟨e1, e2⟩ | ⟨_, _, _, e1, _⟩
    · cases e1; exact e2.symm
    · cases e1; rfl
  subst hm
  have hr' := hr.kill h3 (by rw [hobj]; simp)
  have hne : ¬ (d = g' ∧ st.gen = g) := by
    rintro ⟨rfl, rfl⟩
    rw [hobj] at hnone; cases hnone
  obtain ⟨v', w', r1, r2, r3⟩ := append_auxV hr' o.type ht hi hzs hby (v := .slice A xs.length cp) (hr.ev y) hy hys h7 h8 (fun b hb => by
    have hown := hr.own g g' _ b h3 (by rw [hobj]; rfl) hb
    refine ⟨hown.2.2, fun g2 d2 v2 k1 k2 k3 => ?_⟩
    by_cases he : d2 = g' ∧ g2 = g
    · obtain ⟨rfl, rfl⟩ := he
      simp [St.set, updO, Ob.live] at k2
    · have k2' : (st.obj g2 d2).live = true := by simpa [St.set, updO, he] using k2
      have := hr.dis g2 d2 g g' v2 _ b k1 h3 k2' (by rw [hobj]; rfl) k3 hb
      exact he ⟨this.2, this.1⟩) hlim (show (st.set g g' .dead).obj st.gen d = .none by simp only [St.set, updO, if_neg hne]; exact hnone)
  have : (execOp a.eval o).run c.P w = .ok (.value v') w' := by
    simp only [execOp, hop, resolve, invoke, builtin, Sem.run_bind, Sem.run_pure, Result.andThen_ok, List.map_toArray, List.map_cons, List.map_nil, h5, r1]
  refine wpIn_of_run (not_defer_of_value this) this ?_
  rw [Oper.uponIn_value, hd]
  exact hk S _ _ _ (r2.put hn r3)
end
theorem rdV_alike {e e' : Nat → V} {ob ob' : Nat → Nat → Ob} {g g' : Nat} {t : TypeId} {u : V} {ys : List V} (h : ∀ k ∈ u.keys, ob' k.1 k.2 = ob k.1 k.2) (hr : (⟨e, ob, g⟩ : St).rdV t u ys) : (⟨e', ob', g'⟩ : St).rdV t u ys := by
  rcases hr with ⟨g1, d1, rfl, ho⟩ | ⟨hr, hl⟩
  · exact .inl ⟨g1, d1, rfl, (h (g1, d1) (by simp [V.keys])).trans ho⟩
  · exact .inr ⟨rd_alike h hr, hl⟩
section
variable {P : Program} {w0 : World} {S0 : Nat → Prop} {nt : Nat} {frs : Frs} {e : Nat → V} {ob : Nat → Nat → Ob} {g : Nat} {Q : Exit → Act → World → Prop} {ops : Array Oper} {rest : List Oper} {d : Nat} {ty : TypeId} {pos : String} {aft : Array Edge} {m : Md} {K : Act → World → Prop}
theorem p_toRv {g1 d1 : Nat} {t : TypeId} {xs : List V} (ho : ob g1 d1 = .row t xs := by simp (decide := true) only [updO, upd, true_and, and_true, false_and, and_false, ↓reduceIte, hE] <;> first | rfl | assumption) (he : P.cellsOf t = 1) (hl : xs.all V.isRL = true) (h : Tr ⟨P, w0, S0, nt, frs⟩ ⟨e, updO ob g1 d1 (.rv t xs), g⟩ K) : Tr ⟨P, w0, S0, nt, frs⟩ ⟨e, ob, g⟩ K := fun S at_ a w hr => h S at_ a w (hr.toRv ho he hl)
theorem p_ofRv {g1 d1 : Nat} {t : TypeId} {xs : List V} (ho : ob g1 d1 = .rv t xs := by simp (decide := true) only [updO, upd, true_and, and_true, false_and, and_false, ↓reduceIte, hE] <;> first | rfl | assumption) (hl : xs.all V.isRL = true) (h : Tr ⟨P, w0, S0, nt, frs⟩ ⟨e, updO ob g1 d1 (.row t xs), g⟩ K) : Tr ⟨P, w0, S0, nt, frs⟩ ⟨e, ob, g⟩ K := fun S at_ a w hr => h S at_ a w (hr.ofRv ho hl)
/-- nil in a row, as an empty slice of the call's own with a name of its own. -/
theorem p_nilRv {g1 d1 i el : Nat} (d : Nat) {t : TypeId} {xs : List V} (ho : ob g1 d1 = .rv t xs := by simp (decide := true) only [updO, upd, true_and, and_true, false_and, and_false, ↓reduceIte, hE] <;> first | rfl | assumption) (hi : xs[i]? = some .nil) (hn : ob g d = .none := by repeat (first | exact hf _ | with_reducible rfl | rw [updO_off (by decide)])) (h : Tr ⟨P, w0, S0, nt, frs⟩ ⟨e, updO (updO ob g d (.row el [])) g1 d1 (.rv t (xs.set i (.row g d 0))), g⟩ K) : Tr ⟨P, w0, S0, nt, frs⟩ ⟨e, ob, g⟩ K := by
  intro S at_ a w hr
  have h1 := hr.newNil (e := el) (d := d) hn
  have hne : ¬ (d1 = d ∧ g1 = g) := fun hh => by rw [hh.1, hh.2] at ho; rw [ho] at hn; cases hn
  refine h S _ a w (h1.rvV (g := g1) (d := d1) (e := t) (xs := xs) (i := i) (v := .nil) (by simp only [St.set, updO, if_neg hne]; exact ho) hi fun x hx => ?_)
  rw [VR, RL] at hx
  rw [VR]
  exact ⟨none, 0, 0, by simp [updA], Nat.le_refl _, hx⟩
theorem p_renRv {g1 d1 i g2 d2 n : Nat} (d : Nat) {t : TypeId} {xs : List V} {o : Ob} (ho : ob g1 d1 = .rv t xs := by simp (decide := true) only [updO, upd, true_and, and_true, false_and, and_false, ↓reduceIte, hE] <;> first | rfl | assumption) (hi : xs[i]? = some (.row g2 d2 n)) (ho2 : ob g2 d2 = o := by simp (decide := true) only [updO, upd, true_and, and_true, false_and, and_false, ↓reduceIte, hE] <;> first | rfl | assumption) (hne2 : ¬ (d1 = d2 ∧ g1 = g2)) (hlv : o.live = true := by exact rfl) (hnd : o ≠ .dfd := by intro h; cases h) (hn : ob g d = .none := by repeat (first | exact hf _ | with_reducible rfl | rw [updO_off (by decide)]))
    (h : Tr ⟨P, w0, S0, nt, frs⟩ ⟨e, updO (updO (updO ob g2 d2 .dead) g d o) g1 d1 (.rv t (xs.set i (.row g d n))), g⟩ K) : Tr ⟨P, w0, S0, nt, frs⟩ ⟨e, ob, g⟩ K := by
  intro S at_ a w hr
  obtain ⟨v, hat, hat', hext, h1⟩ := hr.renameO (d := d) ho2 hlv hnd hn
  have hne : ¬ (d1 = d ∧ g1 = g) := fun hh => by rw [hh.1, hh.2] at ho; rw [ho] at hn; cases hn
  refine h S _ a w (h1.rvV (g := g1) (d := d1) (e := t) (xs := xs) (i := i) (v := .row g2 d2 n) (by simp only [St.set, updO, if_neg hne, if_neg hne2]; exact ho) hi fun x hx => ?_)
  rw [VR] at hx ⊢
  obtain ⟨A, m, cp, k1, k2, k3⟩ := hx
  rw [hat'] at k1; cases k1
  exact ⟨A, m, cp, by simp [updA], k2, k3⟩
/-- A frozen slice in a row is one that is only read. -/
theorem p_rvSl {g1 d1 i g2 d2 n el : Nat} {t : TypeId} {xs ys : List V} (ho : ob g1 d1 = .rv t xs := by simp (decide := true) only [updO, upd, true_and, and_true, false_and, and_false, ↓reduceIte, hE] <;> first | rfl | assumption) (hi : xs[i]? = some (.row g2 d2 n)) (ho2 : ob g2 d2 = .froz el ys := by simp (decide := true) only [updO, upd, true_and, and_true, false_and, and_false, ↓reduceIte, hE] <;> first | rfl | assumption) (hn : n = ys.length)
    (h : Tr ⟨P, w0, S0, nt, frs⟩ ⟨e, updO ob g1 d1 (.rv t (xs.set i (.sl el ys))), g⟩ K) : Tr ⟨P, w0, S0, nt, frs⟩ ⟨e, ob, g⟩ K := by
  intro S at_ a w hr
  refine h S _ a w (hr.rvV (g := g1) (d := d1) (e := t) (xs := xs) (i := i) (v := .row g2 d2 n) ho hi fun x hx => ?_)
  rw [VR] at hx
  obtain ⟨A, m, cp, h1, h2, rfl⟩ := hx
  have := hr.ok g2 d2 _ h1
  rw [show (⟨e, ob, g⟩ : St).obj g2 d2 = .froz el ys from ho2] at this
  simp only [ObOk, RL] at this
  obtain ⟨A', cp', h3, h4, h5⟩ := this
  cases h3
  rw [VR, RL]
  exact ⟨A, cp, by rw [hn], h4, h5⟩
theorem p_rvNil {g1 d1 i el : Nat} {t : TypeId} {xs : List V} (ho : ob g1 d1 = .rv t xs := by simp (decide := true) only [updO, upd, true_and, and_true, false_and, and_false, ↓reduceIte, hE] <;> first | rfl | assumption) (hi : xs[i]? = some .nil) (h : Tr ⟨P, w0, S0, nt, frs⟩ ⟨e, updO ob g1 d1 (.rv t (xs.set i (.sl el []))), g⟩ K) : Tr ⟨P, w0, S0, nt, frs⟩ ⟨e, ob, g⟩ K := by
  intro S at_ a w hr
  refine h S _ a w (hr.rvV (g := g1) (d := d1) (e := t) (xs := xs) (i := i) (v := .nil) ho hi fun x hx => ?_)
  rw [VR, RL] at hx
  rw [VR, RL]
  exact ⟨none, 0, hx, Nat.le_refl _, .inl rfl⟩
/-- A slot's object gets another name. -/
theorem p_renS {s g2 d2 : Nat} (d : Nat) {o : Ob} {v : V} (hs : evE e (.tmp s) = v := by simp (decide := true) only [evE, upd, cv, args0, argsFrom, List.length_map, ↓reduceIte, hE] <;> rfl) (ho2 : ob g2 d2 = o := by simp (decide := true) only [updO, upd, true_and, and_true, false_and, and_false, ↓reduceIte, hE] <;> first | rfl | assumption) (hlv : o.live = true := by exact rfl) (hnd : o ≠ .dfd := by intro h; cases h) (hn : ob g d = .none := by repeat (first | exact hf _ | with_reducible rfl | rw [updO_off (by decide)]))
    (h : Tr ⟨P, w0, S0, nt, frs⟩ ⟨upd e s (v.reKey g2 d2 g d), updO (updO ob g2 d2 .dead) g d o, g⟩ K) : Tr ⟨P, w0, S0, nt, frs⟩ ⟨e, ob, g⟩ K := by
  intro S at_ a w hr
  obtain ⟨u, hat, hat', hext, h1⟩ := hr.renameO (d := d) ho2 hlv hnd hn
  refine h S _ a w (h1.slotV (s := s) fun x hx => ?_)
  rw [show (((⟨e, ob, g⟩ : St).set g2 d2 .dead).set g d o).env s = v from hs] at hx
  exact hx.reKey hat' (by simp [updA])
theorem p_renC {g1 d1 t i g2 d2 : Nat} (d : Nat) {cs : List V} {o : Ob} {v : V} (ho : ob g1 d1 = .cells t cs := by simp (decide := true) only [updO, upd, true_and, and_true, false_and, and_false, ↓reduceIte, hE] <;> first | rfl | assumption) (hi : cs[i]? = some v := by exact rfl) (ho2 : ob g2 d2 = o := by simp (decide := true) only [updO, upd, true_and, and_true, false_and, and_false, ↓reduceIte, hE] <;> first | rfl | assumption) (hne2 : ¬ (d1 = d2 ∧ g1 = g2)) (hlv : o.live = true := by exact rfl) (hnd : o ≠ .dfd := by intro h; cases h) (hn : ob g d = .none := by repeat (first | exact hf _ | with_reducible rfl | rw [updO_off (by decide)]))
    (h : Tr ⟨P, w0, S0, nt, frs⟩ ⟨e, updO (updO (updO ob g2 d2 .dead) g d o) g1 d1 (.cells t (cs.set i (v.reKey g2 d2 g d))), g⟩ K) : Tr ⟨P, w0, S0, nt, frs⟩ ⟨e, ob, g⟩ K := by
  intro S at_ a w hr
  obtain ⟨u, hat, hat', hext, h1⟩ := hr.renameO (d := d) ho2 hlv hnd hn
  have hne : ¬ (d1 = d ∧ g1 = g) := fun hh => by rw [hh.1, hh.2] at ho; rw [ho] at hn; cases hn
  exact h S _ a w (h1.cellV (g := g1) (d := d1) (t := t) (cs := cs) (i := i) (v := v) (by simp only [St.set, updO, if_neg hne, if_neg hne2]; exact ho) hi fun x hx => hx.reKey hat' (by simp [updA]))
/-- A state is told by what counts of it. -/
theorem p_abs (os : List (Nat × Nat)) (F : (Nat → Nat → Ob) → Prop) {us : List Ob} (hF : F ob) (hv : valsO ob os = us := by simp (decide := true) only [valsO, updO, upd, true_and, and_true, false_and, and_false, ↓reduceIte, hE] <;> rfl) (h : ∀ o, valsO o os = us → F o → Tr ⟨P, w0, S0, nt, frs⟩ ⟨e, o, g⟩ K) : Tr ⟨P, w0, S0, nt, frs⟩ ⟨e, ob, g⟩ K := h ob hv hF
theorem p_rvIdx {t t' g1 d1 n : Nat} {x y : Operand} {xs : List V} {k : IntKind} {i : Int} {z : Value} {size bytes : Nat} (j : Nat) (hn : d < nt := by decide) (ht : P.underlying t = some (.slice t')) (hi : TI P t' z size bytes) (hx : evE e x = .row g1 d1 n := by exact eV_) (ho : ob g1 d1 = .rv t' xs := by exact oB_) (hy : evE e y = .int k i := by exact eV_) (hij : i = (j : Int) := by first | exact rfl | omega) (hlt : j < n)
    (h : Wk (m.log ⟨some (d, (.rptr t' g1 d1 j 0)), [], [(g1, d1)]⟩) ⟨P, w0, S0, nt, frs⟩ ops Q ⟨upd e d (.rptr t' g1 d1 j 0), ob, g⟩ rest) : Wk m ⟨P, w0, S0, nt, frs⟩ ops Q ⟨e, ob, g⟩ (⟨some d, .indexAddr t x y, ty, pos, aft, none⟩ :: rest) := by
  subst hij
  exact Wk.op (Loc.plain rfl rfl fun st' hv' ho' hg => Stp.rvIdx (st := st') (i := (j : Int)) rfl hn rfl ht hi ((hv' x (by simp [Op.operands, Call.operands])).trans ((evE_eq e ob g x).trans hx)) ((ho' (g1, d1) (by simp)).trans ho) ((hv' y (by simp [Op.operands, Call.operands])).trans ((evE_eq e ob g y).trans hy)) (by omega) (by omega)) h
theorem p_rvLoad {t t' i g1 d1 : Nat} {x : Operand} {xs : List V} {v : V} (hn : d < nt := by decide) (ht : IsLeaf P t) (hx : evE e x = .rptr t' g1 d1 i 0 := by exact eV_) (ho : ob g1 d1 = .rv t' xs := by exact oB_) (hv : xs[i]? = some v) (h : Wk (m.log ⟨some (d, v), [], [(g1, d1)]⟩) ⟨P, w0, S0, nt, frs⟩ ops Q ⟨upd e d v, ob, g⟩ rest) :
    Wk m ⟨P, w0, S0, nt, frs⟩ ops Q ⟨e, ob, g⟩ (⟨some d, .load t x, ty, pos, aft, none⟩ :: rest) :=
  Wk.op (Loc.plain rfl rfl fun st' hv' ho' hg => Stp.rvLoad (st := st') rfl hn rfl ht ((hv' x (by simp [Op.operands, Call.operands])).trans ((evE_eq e ob g x).trans hx)) ((ho' (g1, d1) (by simp)).trans ho) hv) h
theorem p_rvStore {t t' i g1 d1 : Nat} {x y : Operand} {xs : List V} {v : V} {z : Value} {bytes : Nat} (hi : TI P t z 1 bytes) (hx : evE e x = .rptr t' g1 d1 i 0 := by exact eV_) (ho : ob g1 d1 = .rv t' xs := by exact oB_) (hlt : i < xs.length) (hy : evE e y = v := by exact eV_) (hl : v.leaf = true := by exact rfl)
    (h : Wk (m.log ⟨none, [(g1, d1, (.rv t' (xs.set i v)))], [(g1, d1)]⟩) ⟨P, w0, S0, nt, frs⟩ ops Q ⟨e, updO ob g1 d1 (.rv t' (xs.set i v)), g⟩ rest) : Wk m ⟨P, w0, S0, nt, frs⟩ ops Q ⟨e, ob, g⟩ (⟨none, .store t x y, ty, pos, aft, none⟩ :: rest) :=
  Wk.op (Loc.plain rfl rfl fun st' hv' ho' hg => Stp.rvStore (st := st') rfl rfl hi ((hv' x (by simp [Op.operands, Call.operands])).trans ((evE_eq e ob g x).trans hx)) ((ho' (g1, d1) (by simp)).trans ho) hlt ((hv' y (by simp [Op.operands, Call.operands])).trans ((evE_eq e ob g y).trans hy)) hl) h
theorem p_rvAppendNil {t t' : TypeId} {x y : Operand} {u : V} (ys : List V) {z : Value} {bytes : Nat} (hn : d < nt := by decide) (hf : ob g d = .none := by repeat (first | exact hf _ | with_reducible rfl | rw [updO_off (by decide)])) (ht : P.underlying t = some (.slice t')) (hi : TI P t' z 1 bytes) (hzs : z.cells.size = 1 := by exact rfl) (hby : 0 < bytes := by decide) (hx : evE e x = .nil := by exact eV_) (hu : evE e y = u := by exact eV_) (hy : (⟨e, ob, g⟩ : St).rdV t' u ys) (hys : ys.all V.leaf = true := by exact rfl) (hlim : ys.length * bytes ≤ 140737488355328)
    (h : Wk (m.log ⟨some (d, .row g d ys.length), [(g, d, .rv t' ys)], (g, d) :: u.keys⟩) ⟨P, w0, S0, nt, frs⟩ ops Q ⟨upd e d (.row g d ys.length), updO ob g d (.rv t' ys), g⟩ rest) : Wk m ⟨P, w0, S0, nt, frs⟩ ops Q ⟨e, ob, g⟩ (⟨some d, .call { callee := .builtin .append, args := #[x, y], argTypes := #[t, t] }, ty, pos, aft, none⟩ :: rest) :=
  Wk.op (Loc.plain rfl rfl fun st' hv ho' hg => by
    obtain ⟨e', ob', g'⟩ := st'
    obtain rfl : g = g' := hg.symm
    exact Stp.rvAppendNil (st := ⟨e', ob', g⟩) rfl hn rfl ht hi hzs hby ((hv x (by simp [Op.operands, Call.operands])).trans ((evE_eq e ob g x).trans hx)) (by rw [hv y (by simp [Op.operands, Call.operands]), evE_eq, hu]; exact rdV_alike (fun k hk => ho' k (List.mem_cons_of_mem _ hk)) hy) hys hlim ((ho' (g, d) (by simp)).trans hf)) h
theorem p_rvAppend {t t' g1 d1 n k : Nat} {x y : Operand} {u : V} {xs : List V} (ys : List V) {z : Value} {bytes : Nat} (hn : d < nt := by decide) (hf : ob g d = .none := by repeat (first | exact hf _ | with_reducible rfl | rw [updO_off (by decide)])) (ht : P.underlying t = some (.slice t')) (hi : TI P t' z 1 bytes) (hzs : z.cells.size = 1 := by exact rfl) (hby : 0 < bytes := by decide) (hx : evE e x = .row g1 d1 n := by exact eV_) (ho : ob g1 d1 = .rv t' xs := by exact oB_) (hnl : n = xs.length)
    (hu : evE e y = u := by exact eV_) (hy : (⟨e, updO ob g1 d1 .dead, g⟩ : St).rdV t' u ys) (hys : ys.all V.leaf = true := by exact rfl) (hm : xs.length + ys.length = k) (hlim : k * bytes ≤ 140737488355328) (h : Wk (m.log ⟨some (d, .row g d k), [(g1, d1, .dead), (g, d, .rv t' (xs ++ ys))], (g1, d1) :: (g, d) :: u.keys⟩) ⟨P, w0, S0, nt, frs⟩ ops Q ⟨upd e d (.row g d k), updO (updO ob g1 d1 .dead) g d (.rv t' (xs ++ ys)), g⟩ rest) :
    Wk m ⟨P, w0, S0, nt, frs⟩ ops Q ⟨e, ob, g⟩ (⟨some d, .call { callee := .builtin .append, args := #[x, y], argTypes := #[t, t] }, ty, pos, aft, none⟩ :: rest) := by
  subst hnl hm
  refine Wk.op (Loc.plain rfl rfl fun st' hv ho' hg => ?_) h
  obtain ⟨e', ob', g'⟩ := st'
  obtain rfl : g = g' := hg.symm
  refine Stp.rvAppend (st := ⟨e', ob', g⟩) rfl hn rfl ht hi hzs hby ((hv x (by simp [Op.operands, Call.operands])).trans ((evE_eq e ob g x).trans hx)) ((ho' (g1, d1) (by simp)).trans ho) ?_ hys hlim ((ho' (g, d) (by simp)).trans hf)
  rw [hv y (by simp [Op.operands, Call.operands]), evE_eq, hu]
  refine rdV_alike (fun k hk => ?_) hy
  have := ho' k (List.mem_cons_of_mem _ (List.mem_cons_of_mem _ hk))
  by_cases h1 : k.2 = d1 ∧ k.1 = g1
  · simp [St.set, updO, h1]
  · simp [St.set, updO, h1]; exact this
end
end Go.Proofs.YtjjpmbaddpiamaaDoor
/-
  The abstract machine: calls told with the objects that they make; deferred calls with arguments; calls of the library told by its own contracts.
-/
set_option linter.unusedSimpArgs false
set_option linter.unusedVariables false
namespace Go.Proofs.YtjjpmbaddpiamaaDoor
open Go.RowKit
theorem LowQ.or_ {g g2 d2 : Nat} {ks : List (Nat × Nat)} {ob o : Nat → Nat → Ob} {v : Ob} (h : LowQ g ks ob o) (hm : (g2, d2) ∈ ks ∨ g < g2) : LowQ g ks ob (updO o g2 d2 v) := by
  rcases hm with hm | hm
  · exact h.at_ hm
  · exact h.up hm
/-- Calls that work in place on some objects and may make others; told by a relation on all objects. -/
def FnX (P : Program) (f : FuncId) (args : List V) (ks : List (Nat × Nat)) (us : List Ob) (R : Nat → V → (Nat → Nat → Ob) → Nat → Prop) : Prop :=
  ∃ fn code nt, HasBody P f fn code ∧ fn.ntmps = nt ∧ args.length ≤ nt ∧ ∀ w0 S0 l ob g K, valsO ob ks = us → (∀ k ∈ ks, k.1 ≤ g) → (∀ r o g', g ≤ g' → LowQ g ks ob o → R g r o g' → K r o g') → TrC ⟨P, w0, S0, nt, ⟨l, [], none⟩⟩ ⟨args0 args, ob, g⟩ code (RetE ⟨P, w0, S0, nt, ⟨l, [], none⟩⟩ fn K)
theorem FnX.of {P : Program} {f : FuncId} {fn : Func} {code : Code} {nt : Nat} {args : List V} {ks : List (Nat × Nat)} {us : List Ob} {R : Nat → V → (Nat → Nat → Ob) → Nat → Prop} (hb : HasBody P f fn code) (hnt : fn.ntmps = nt) (hle : args.length ≤ nt)
    (h : ∀ w0 S0 l ob g K, valsO ob ks = us → (∀ k ∈ ks, k.1 ≤ g) → (∀ r o g', g ≤ g' → LowQ g ks ob o → R g r o g' → K r o g') → TrC ⟨P, w0, S0, nt, ⟨l, [], none⟩⟩ ⟨args0 args, ob, g⟩ code (RetE ⟨P, w0, S0, nt, ⟨l, [], none⟩⟩ fn K)) : FnX P f args ks us R := ⟨fn, code, nt, hb, hnt, hle, h⟩
theorem FnX.mono {P : Program} {f : FuncId} {args : List V} {ks : List (Nat × Nat)} {us : List Ob} {R R' : Nat → V → (Nat → Nat → Ob) → Nat → Prop} (h : FnX P f args ks us R) (hR : ∀ g r o g', R g r o g' → R' g r o g') : FnX P f args ks us R' := by
  obtain ⟨fn, code, nt, h1, h2, h3, h4⟩ := h
  exact ⟨fn, code, nt, h1, h2, h3, fun w0 S0 l ob g K hv hk hK => h4 w0 S0 l ob g K hv hk fun r o g' hg hl hr => hK r o g' hg hl (hR g r _ _ hr)⟩
/-- The same of functions that put no call off. -/
def FnS (P : Program) (f : FuncId) (args : List V) (ks : List (Nat × Nat)) (us : List Ob) (R : Nat → V → (Nat → Nat → Ob) → Nat → Prop) : Prop :=
  ∃ fn code nt, HasBody P f fn code ∧ fn.ntmps = nt ∧ args.length ≤ nt ∧ ∀ w0 S0 l ob g K, valsO ob ks = us → (∀ k ∈ ks, k.1 ≤ g) → (∀ r o g', g ≤ g' → LowQ g ks ob o → R g r o g' → K r o g') → TrC ⟨P, w0, S0, nt, ⟨l, [], none⟩⟩ ⟨args0 args, ob, g⟩ code (RetS ⟨P, w0, S0, nt, ⟨l, [], none⟩⟩ fn K)
theorem FnS.of {P : Program} {f : FuncId} {fn : Func} {code : Code} {nt : Nat} {args : List V} {ks : List (Nat × Nat)} {us : List Ob} {R : Nat → V → (Nat → Nat → Ob) → Nat → Prop} (hb : HasBody P f fn code) (hnt : fn.ntmps = nt) (hle : args.length ≤ nt)
    (h : ∀ w0 S0 l ob g K, valsO ob ks = us → (∀ k ∈ ks, k.1 ≤ g) → (∀ r o g', g ≤ g' → LowQ g ks ob o → R g r o g' → K r o g') → TrC ⟨P, w0, S0, nt, ⟨l, [], none⟩⟩ ⟨args0 args, ob, g⟩ code (RetS ⟨P, w0, S0, nt, ⟨l, [], none⟩⟩ fn K)) : FnS P f args ks us R := ⟨fn, code, nt, hb, hnt, hle, h⟩
theorem FnS.x {P : Program} {f : FuncId} {args : List V} {ks : List (Nat × Nat)} {us : List Ob} {R : Nat → V → (Nat → Nat → Ob) → Nat → Prop} (h : FnS P f args ks us R) : FnX P f args ks us R := by
  obtain ⟨fn, code, nt, h1, h2, h3, h4⟩ := h
  exact ⟨fn, code, nt, h1, h2, h3, fun w0 S0 l ob g K hv hk hK S at_ a w hr => wpIn_mono (h4 w0 S0 l ob g K hv hk hK S at_ a w hr) fun _ _ _ hq => hq.2⟩
theorem FnS.mono {P : Program} {f : FuncId} {args : List V} {ks : List (Nat × Nat)} {us : List Ob} {R R' : Nat → V → (Nat → Nat → Ob) → Nat → Prop} (h : FnS P f args ks us R) (hR : ∀ g r o g', R g r o g' → R' g r o g') : FnS P f args ks us R' := by
  obtain ⟨fn, code, nt, h1, h2, h3, h4⟩ := h
  exact ⟨fn, code, nt, h1, h2, h3, fun w0 S0 l ob g K hv hk hK => h4 w0 S0 l ob g K hv hk fun r o g' hg hl hr => hK r o g' hg hl (hR g r _ _ hr)⟩
theorem FnX.of_q {P : Program} {f : FuncId} {args : List V} {ks : List (Nat × Nat)} {us : List Ob} {R : V → List Ob → Prop} (h : FnQ P f args ks us R) : FnX P f args ks us (fun _ r o _ => R r (valsO o ks)) := h
theorem FnX.of_c {P : Program} {f : FuncId} {args : List V} {R : V → Prop} (h : FnX P f args [] [] fun _ r _ _ => R r) : FnQ P f args [] [] fun r _ => R r := h
/-- The way behind meets again, whatever calls are put off. -/
def SomeD (P : Program) (w0 : World) (S0 : Nat → Prop) (nt : Nat) (l : List ((Nat → V) × Act × List Dfr)) (I : List Dfr → St → Prop) (a : Act) (w : World) : Prop := ∃ S at_ st dfs, Rel ⟨P, w0, S0, nt, ⟨l, dfs, none⟩⟩ S at_ st a w ∧ I dfs st
section
variable {P : Program} {w0 : World} {S0 : Nat → Prop} {nt : Nat} {frs : Frs} {e : Nat → V} {ob : Nat → Nat → Ob} {g : Nat} {Q : Exit → Act → World → Prop} {ops : Array Oper} {rest : List Oper} {d : Nat} {ty : TypeId} {pos : String} {aft : Array Edge} {m : Md} {K : Act → World → Prop}
theorem p_callX (os : List (Nat × Nat)) {x : Operand} {f : FuncId} {xs : List Operand} {ts : Array TypeId} {args : List V} {ks : List (Nat × Nat)} {us us' : List Ob} {R : Nat → V → (Nat → Nat → Ob) → Nat → Prop} (hm : m = .lex := by exact rfl) (hn : d < nt := by decide) (hx : evE e x = .fn f [] := by simp (decide := true) only [evE, upd, cv, args0, argsFrom, List.length_map, ↓reduceIte, hE] <;> rfl) (hus : xs.map (evE e) = args := by simp (decide := true) only [List.map_cons, List.map_nil, List.cons_append, List.nil_append, List.append_nil, evE, upd, updO, cv, args0, List.getElem?_cons_zero, List.getElem?_cons_succ, Option.getD_some, List.length_map, ↓reduceIte, hE] <;> rfl)
    (hf : FnX P f args ks us R) (hrow : valsO ob ks = us := by simp (decide := true) only [valsO, updO, upd, true_and, and_true, false_and, and_false, ↓reduceIte, hE] <;> rfl) (hg : ∀ k ∈ ks, k.1 ≤ g) (hos : ∀ k ∈ os, k.1 ≤ g ∧ k ∉ ks) (hv : valsO ob os = us' := by simp (decide := true) only [valsO, updO, upd, true_and, and_true, false_and, and_false, ↓reduceIte, hE] <;> rfl)
    (h : ∀ r o g', g ≤ g' → LowQ g ks ob o → valsO o os = us' → R g r o g' → Wk .lex ⟨P, w0, S0, nt, frs⟩ ops Q ⟨upd e d r, o, g'⟩ rest) : Wk m ⟨P, w0, S0, nt, frs⟩ ops Q ⟨e, ob, g⟩ (⟨some d, .call { callee := .value x, args := xs.toArray, argTypes := ts }, ty, pos, aft, none⟩ :: rest) := by
  obtain ⟨fn, code, nt', hb, hnt, hle, hbody⟩ := hf
  refine p_enter (cap := []) (args := args) hb hnt hm hn hx (by rw [List.append_nil]; exact hus) hle fun a0 => ?_
  exact hbody w0 S0 _ ob g _ hrow hg fun r o g' hg' hlow hR => h r o g' hg' hlow (hlow.vals hos hv) hR
theorem cal_keys (l : List ((Nat → V) × Act × List Dfr)) (f : FuncId) (args : List V) (ds : List Dfr) : (⟨l, .cal f args :: ds, none⟩ : Frs).keys = (⟨l, ds, none⟩ : Frs).keys := by
  show List.filterMap Dfr.key (.cal f args :: (ds ++ _)) = List.filterMap Dfr.key (ds ++ _)
  rw [List.filterMap_cons]; rfl
/-- A call that is put off. -/
theorem p_deferA {dst : Option Nat} {x : Operand} {f : FuncId} {xs : List Operand} {ts : Array TypeId} {args : List V} {l : List ((Nat → V) × Act × List Dfr)} {dfs : List Dfr} (hdst : dst = none := by exact rfl) (hm : m = .lex := by exact rfl) (hx : evE e x = .fn f [] := by simp (decide := true) only [evE, upd, cv, args0, argsFrom, List.length_map, ↓reduceIte, hE] <;> rfl) (hus : xs.map (evE e) = args := by simp (decide := true) only [List.map_cons, List.map_nil, List.cons_append, List.nil_append, List.append_nil, evE, upd, updO, cv, args0, List.getElem?_cons_zero, List.getElem?_cons_succ, Option.getD_some, List.length_map, ↓reduceIte, hE] <;> rfl) (h : Wk .lex ⟨P, w0, S0, nt, ⟨l, .cal f args :: dfs, none⟩⟩ ops Q ⟨e, ob, g⟩ rest) : Wk m ⟨P, w0, S0, nt, ⟨l, dfs, none⟩⟩ ops Q ⟨e, ob, g⟩ (⟨dst, .defer { callee := .value x, args := xs.toArray, argTypes := ts }, ty, pos, aft, none⟩ :: rest) := by
  subst hm; subst hdst
  intro S at_ a w hr
  refine wpListIn_plain rfl fun K' hK' => ?_
  have h1 := hr.ev x
  rw [(evE_eq e ob g x).trans hx, VR] at h1
  obtain ⟨arr, h2, h3⟩ := h1
  have hkeys := cal_keys l f args dfs
  have harr : arr = #[] := by
    cases hc : arr.toList with
    | nil => simpa using hc
    | cons y l => rw [hc] at h3; simp [VRs] at h3
  subst harr
  have hvals : VRs P w S at_ args (xs.map a.eval) := by
    subst hus
    generalize xs = l
    induction l with
    | nil => simp [VRs]
    | cons y l ih => simp only [List.map_cons]; rw [VRs]; exact ⟨(evE_eq e ob g y) ▸ hr.ev y, ih⟩
  have hr' : Rel ⟨P, w0, S0, nt, ⟨l, .cal f args :: dfs, none⟩⟩ S at_ ⟨e, ob, g⟩ { a with defers := { target := .fn (.func f) #[], args := (xs.map a.eval).toArray } :: a.defers } w :=
    { hr with defers := ⟨⟨#[], _, rfl, by simpa using hvals⟩, hr.defers⟩, frs := hr.frs, stk := fun k hk => hr.stk k (hkeys ▸ hk), nod := by rw [hkeys]; exact hr.nod, size := hr.size, env := hr.env }
  refine ⟨fun _ _ => trivial, ?_⟩
  have hrun : (execOp a.eval (⟨none, .defer { callee := .value x, args := xs.toArray, argTypes := ts }, ty, pos, aft, none⟩ : Oper)).run P w = .ok (.defer { target := .fn (.func f) #[], args := (xs.map a.eval).toArray }) w := by
    simp [execOp, resolve, h2, Deferred.ofValue, Result.andThen]
  rw [show Oper.semAt (Fn none).round a.eval (⟨none, .defer { callee := .value x, args := xs.toArray, argTypes := ts }, ty, pos, aft, none⟩ : Oper) = execOp a.eval (⟨none, .defer { callee := .value x, args := xs.toArray, argTypes := ts }, ty, pos, aft, none⟩ : Oper) from rfl, hrun, Oper.uponIn_defer]
  exact hK' _ _ (h S at_ _ w hr')
variable {l : List ((Nat → V) × Act × List Dfr)} {dfs : List Dfr}
theorem p_joinD {x y : Code} (J : List Dfr → St → Prop) (h1 : TrC ⟨P, w0, S0, nt, ⟨l, dfs, none⟩⟩ ⟨e, ob, g⟩ x (Exit.then (SomeD P w0 S0 nt l J) Q)) (h2 : ∀ dfs e' ob' g', J dfs ⟨e', ob', g'⟩ → TrC ⟨P, w0, S0, nt, ⟨l, dfs, none⟩⟩ ⟨e', ob', g'⟩ y Q) : TrC ⟨P, w0, S0, nt, ⟨l, dfs, none⟩⟩ ⟨e, ob, g⟩ (.seq x y) Q :=
  TrC.seq fun S at_ a w hr => wpIn_mono (h1 S at_ a w hr) fun ex a' w' hq => by
    cases ex <;> first | exact hq | skip
    obtain ⟨S', at', st', ds, hr', hJ⟩ := hq
    exact h2 ds st'.env st'.obj st'.gen hJ S' at' a' w' hr'
theorem p_someD {I : List Dfr → St → Prop} (h : I dfs ⟨e, ob, g⟩) : Tr ⟨P, w0, S0, nt, ⟨l, dfs, none⟩⟩ ⟨e, ob, g⟩ (SomeD P w0 S0 nt l I) := fun S at_ a w hr => ⟨S, at_, _, dfs, hr, h⟩
/-- On the way out: a call that was put off. -/
theorem p_leave (os : List (Nat × Nat)) {R : Ending → World → Prop} {fn : Func} {f : FuncId} {args : List V} {ks : List (Nat × Nat)} {us us' : List Ob} {R' : Nat → V → (Nat → Nat → Ob) → Nat → Prop} (hf : FnS P f args ks us R') (hrow : valsO ob ks = us := by simp (decide := true) only [valsO, updO, upd, true_and, and_true, false_and, and_false, ↓reduceIte, hE] <;> rfl) (hg : ∀ k ∈ ks, k.1 ≤ g) (hos : ∀ k ∈ os, k.1 ≤ g ∧ k ∉ ks) (hv : valsO ob os = us' := by simp (decide := true) only [valsO, updO, upd, true_and, and_true, false_and, and_false, ↓reduceIte, hE] <;> rfl)
    (h : ∀ r o g', g ≤ g' → LowQ g ks ob o → valsO o os = us' → R' g r o g' → Tr ⟨P, w0, S0, nt, ⟨l, dfs, none⟩⟩ ⟨e, o, g'⟩ (Leave P fn R .returning)) : Tr ⟨P, w0, S0, nt, ⟨l, .cal f args :: dfs, none⟩⟩ ⟨e, ob, g⟩ (Leave P fn R .returning) := fun S at_ a w hr => by
  obtain ⟨fn', code, nt', hb, hnt, hle, hbody⟩ := hf
  have hd := hr.defers
  cases hda : a.defers with
  | nil => rw [hda] at hd; exact hd.elim
  | cons y m =>
    rw [hda] at hd
    obtain ⟨⟨arr, as9, rfl, h2⟩, h3⟩ := hd
    have hkeys := cal_keys l f args dfs
    have hlen := VRs.length h2
    have hr' : Rel ⟨P, w0, S0, nt', ⟨(e, { a with defers := m }, dfs) :: l, [], none⟩⟩ S at_ ⟨args0 args, ob, g⟩ { tmps := (as9 ++ arr) ++ Array.replicate (fn'.ntmps - (as9 ++ arr).size) undef, defers := [] } w :=
      { defers := trivial
        stk := fun k hk => hr.stk k (hkeys ▸ (frs_keys e { a with defers := m } ⟨l, dfs, none⟩) ▸ hk)
        nod := by have := frs_keys e { a with defers := m } ⟨l, dfs, none⟩; simp only at this; rw [this]; have h4 := hr.nod; rwa [hkeys] at h4
        size := by simp; simp at hlen; omega
        env := fun s => by
          simp only [args0_eq]
          cases hs : args[s]? with
          | none => rw [Option.getD_none, VR]; trivial
          | some v =>
            obtain ⟨x, hx, hv⟩ := VRs.get h2 hs
            have hlt := (List.getElem?_eq_some_iff.1 hx).1
            have : ((as9 ++ arr) ++ Array.replicate (fn'.ntmps - (as9 ++ arr).size) undef).getD s undef = x := by
              rw [← Array.toList_append, Array.getElem?_toList] at hx
              rw [Array.getD_eq_getD_getElem?, Array.getElem?_append_left (by simpa using hlt), hx]; rfl
            rw [this]
            exact hv
        frs := fun p hp => by
          rcases List.mem_cons.1 hp with rfl | hp
          · exact ⟨hr.env, h3⟩
          · exact hr.frs p hp
        gen := hr.gen, al := hr.al, ok := hr.ok, own := hr.own, dis := hr.dis, slt := hr.slt, snew := hr.snew, sold := hr.sold, below := hr.below, glob := hr.glob }
    have hcode := hbody w0 S0 _ ob g (fun r o g' => Tr ⟨P, w0, S0, nt, ⟨l, dfs, none⟩⟩ ⟨e, o, g'⟩ (Leave P fn R .returning)) hrow hg (fun r o g' hg' hlow hR => h r o g' hg' hlow (hlow.vals hos hv) hR) S at_ _ w hr'
    show LeavesInM Fence.wide 0 P fn a.tmps R a.defers .returning w
    rw [hda]
    refine ⟨by simp, .inr ⟨by simp [Fence.wide], .func f, arr, f, as9 ++ arr, rfl, ?_, fun _ _ => trivial, ?_⟩⟩
    · have := hb.call
      simp [invoke, this]
    refine (callsDIn_of_wp (R := fun e' w' => ∃ v, e' = .returned v ∧ LeavesInM Fence.wide 0 P fn a.tmps R m .returning w') hb.1 hb.2.2 trivial (wpIn_mono hcode fun ex a' w' hq => ?_)).mono ?_
    · have key : ∀ {a' : Act} {w' : World}, RetS ⟨P, w0, S0, nt', ⟨(e, { a with defers := m }, dfs) :: l, [], none⟩⟩ fn' (fun r o g' => Tr ⟨P, w0, S0, nt, ⟨l, dfs, none⟩⟩ ⟨e, o, g'⟩ (Leave P fn R .returning)) .ret a' w' → a'.defers = [] ∧ ∃ v, (results fn' a'.tmps).run P w' = .ok v w' ∧ ∃ v', Ending.returned v = .returned v' ∧ LeavesInM Fence.wide 0 P fn a.tmps R m .returning w' := by
        rintro a' w' ⟨hd, hq⟩
        simp only [RetE, Out, hd, LeavesInM, LeavesIn] at hq
        obtain ⟨v, h2, v', S', at', st', a2, r, e1, k1, k2, k3⟩ := hq
        refine ⟨hd, v, h2, v, rfl, ?_⟩
        have hm2 := k1.frs (e, { a with defers := m }, dfs) (List.mem_cons_self ..)
        refine k3 S' at' { a with defers := m } w' ?_
        exact { defers := hm2.2, size := hr.size, env := hm2.1, frs := fun p hp => k1.frs p (List.mem_cons_of_mem _ hp), stk := fun k hk => k1.stk k ((frs_keys e { a with defers := m } ⟨l, dfs, none⟩).symm ▸ hk), nod := by have h4 := hr.nod; rwa [hkeys] at h4
                gen := k1.gen, al := k1.al, ok := k1.ok, own := k1.own, dis := k1.dis, slt := k1.slt, snew := k1.snew, sold := k1.sold, below := k1.below, glob := k1.glob }
      cases ex with
      | normal => exact key hq
      | ret => exact key hq
      | panic _ => exact hq.2.elim
      | exit _ => exact hq.2.elim
      | goto _ => exact hq.2.elim
      | outgrown => exact hq.2.elim
    · rintro e' u' w' ⟨rfl, v, rfl, hq⟩
      exact hq
/-- At the end of a function that puts calls off. -/
theorem p_retD {fn : Func} {KE : V → (Nat → Nat → Ob) → Nat → Prop} {c : Ctx} {st : St} {c' : Ctx} (h : Tr c' st (Leave c.P fn (fun e w => ∃ v S at_ st a r, e = .returned v ∧ Rel ⟨c.P, c.w0, c.S0, c.nt, ⟨c.frs.l, [], none⟩⟩ S at_ st a w ∧ VR c.P w S at_ r v ∧ KE r st.obj st.gen) .returning)) : Tr c' st (RetE c fn KE .ret) := h
theorem p_retDn {fn : Func} {KE : V → (Nat → Nat → Ob) → Nat → Prop} {c : Ctx} {st : St} {c' : Ctx} (h : Tr c' st (RetE c fn KE .ret)) : Tr c' st (RetE c fn KE .normal) := h
theorem p_left {fn : Func} {KE : V → (Nat → Nat → Ob) → Nat → Prop} {c : Ctx} {st : St} {c' : Ctx} (h : Tr c' st (RetE c fn KE .ret)) : Tr c' st (Leave c.P fn (fun e w => ∃ v S at_ st a r, e = .returned v ∧ Rel ⟨c.P, c.w0, c.S0, c.nt, ⟨c.frs.l, [], none⟩⟩ S at_ st a w ∧ VR c.P w S at_ r v ∧ KE r st.obj st.gen) .returning) := h
end
/-! ### The library's own contracts: sorting and the like -/
section
variable {P : Program} {w : World} {S : Nat → Prop}
theorem Flat_enc {α : Type} {fV : α → V} {enc : α → Value} {e : TypeId} (he : P.cellsOf e = 1) (hf : ∀ z cs, RX P w S (fV z) cs ↔ cs = [enc z]) : ∀ (zs : List α) (flat : List Value), Flat P w S e (zs.map fV) flat ↔ flat = zs.map enc
  | [], flat => Iff.rfl
  | z :: zs, flat => by
    rw [List.map_cons, Flat, List.map_cons]
    constructor
    · rintro ⟨c1, c2, rfl, h1, h2, h3⟩
      rw [(hf z c1).1 h2, (Flat_enc he hf zs c2).1 h3]; rfl
    · rintro rfl
      exact ⟨[enc z], zs.map enc, rfl, by rw [he]; rfl, (hf z _).2 rfl, (Flat_enc he hf zs _).2 rfl⟩
end
open Go.Sort in
section
variable {c : Ctx} {S : Nat → Prop} {at_ : At} {st : St} {a : Act} {w : World}
theorem holds_row {α : Type} [Inhabited α] {enc : α → Value} {b : Nat} {cur : Array Value} {e : TypeId} {zs : List α} (hb : w.heap[b]? = some (.cells cur e (0, 0))) (ht : cur.toList.take zs.length = zs.map enc) : Holds enc w b 0 zs.toArray := by
  intro j hj
  have hj' : j < zs.length := by simpa using hj
  refine ⟨?_, by simp [World.frozen?, hb]⟩
  have h1 : (cur.toList.take zs.length)[j]? = (zs.map enc)[j]? := by rw [ht]
  rw [List.getElem?_take_of_lt hj'] at h1
  simp only [World.cell?, hb, Nat.zero_add]
  simp only [Option.isSome_none, Bool.false_eq_true, if_false]
  rw [← Array.getElem?_toList, h1]
  simp [hj']
theorem take_put {α : Type} [Inhabited α] {enc : α → Value} (cur : Array Value) (ts : List α) (h : ts.length ≤ cur.size) : (putCells enc 0 ts.toArray cur).toList.take ts.length = ts.map enc := by
  apply List.ext_getElem?
  intro j
  by_cases hj : j < ts.length
  · rw [List.getElem?_take_of_lt hj, Array.getElem?_toList]
    simp [putCells, hj, show j < cur.size by omega]
  · rw [List.getElem?_take_eq_none (by omega), List.getElem?_eq_none (by simp; omega)]
theorem Rel.putRow (h : Rel c S at_ st a w) {α : Type} [Inhabited α] {fV : α → V} {enc : α → Value} {e : TypeId} {g d b : Nat} {zs ts : List α} {m cp q : Nat} {os : Array Obj} (he : c.P.cellsOf e = 1) (hf : ∀ w S z cs, RX c.P w S (fV z) cs ↔ cs = [enc z]) (hobj : st.obj g d = .row e (zs.map fV)) (hat : at_ g d = some (.slice (some ⟨b, 0, none⟩) m cp)) (hl : ts.length = zs.length) :
    Rel c S at_ (st.set g d (.row e (ts.map fV))) a (Go.Sort.grow (Go.Sort.putRow enc (Sort.ahead w q) b 0 ts.toArray) os) := by
  have hok := h.ok g d _ hat
  rw [hobj] at hok
  obtain ⟨flat, h1, h2⟩ := hok
  rw [he] at h1
  rcases h1.2 with ⟨h0, _⟩ | ⟨b', cap, cur, h0, hb, hh, hcap, hmax, hcur, htake⟩
  · cases h0
  · cases h0
    have hlt : b < w.heap.size := (Array.getElem?_eq_some_iff.1 hh).1
    have hg : w.grownBy (Go.Sort.putRow enc (Sort.ahead w q) b 0 ts.toArray) (some b) := ⟨rfl, rfl, rfl, by simp, fun k hk hne => by
      have : b ≠ k := fun e => hne (by rw [e])
      simp [Go.Sort.putRow, mapBlock, Sort.ahead, Array.getElem?_modify, this]⟩
    have hh' : (Go.Sort.putRow enc (Sort.ahead w q) b 0 ts.toArray).heap[b]? = some (.cells (putCells enc 0 ts.toArray cur) e (0, 0)) := by
      simp [Go.Sort.putRow, mapBlock, Sort.ahead, Array.getElem?_modify, hh, onCells]
    have hflat := (Flat_enc he (hf w S) zs flat).1 h2
    have hlen : zs.length ≤ cur.size := by simp only [List.length_map] at hcap; omega
    have h3 := h.write hat (by rw [hobj]; rfl) (b := b) rfl hg (by simp) (o' := .row e (ts.map fV)) rfl ⟨ts.map enc, by
      rw [he]
      refine ⟨by simp, .inr ⟨b, cp, _, by simp [hl], hb, hh', by simpa [hl] using hcap, hmax, by simp [putCells, hcur], ?_⟩⟩
      rw [Nat.mul_one, List.length_map]
      exact take_put cur ts (by omega), (Flat_enc he (hf _ S) ts _).2 rfl⟩ (by rw [hobj]; simp)
    exact h3.grow ⟨rfl, rfl, rfl, by simp, fun k hk => heap_grow_old _ _ hk⟩ (fun _ h => h) (fun b hb => .inl hb)
end
open Go.Sort in
section
variable {P : Program} {w0 : World} {S0 : Nat → Prop} {nt : Nat} {frs : Frs} {e : Nat → V} {ob : Nat → Nat → Ob} {g : Nat} {Q : Exit → Act → World → Prop} {ops : Array Oper} {rest : List Oper} {d : Nat} {ty : TypeId} {pos : String} {aft : Array Edge} {m : Md}
/-- A call of the library's on one row, told by a contract of the library's. -/
theorem p_callLib {α : Type} [Inhabited α] {fV : α → V} {enc : α → Value} {t : TypeId} {g1 d1 : Nat} (zs ts : List α) (r : V) {x y : Operand} {f : FuncId} {fn : Func} {code : Code} {tys : Array TypeId} (hm : m = .lex := by exact rfl) (hn : d < nt := by decide) (hx : evE e x = .fn f [] := by exact eV_) (hy : evE e y = .row g1 d1 zs.length := by exact eV_) (ho : ob g1 d1 = .row t (zs.map fV) := by exact oB_) (hb : HasBody P f fn code) (he : P.cellsOf t = 1) (hf : ∀ w S z cs, RX P w S (fV z) cs ↔ cs = [enc z]) (hl : ts.length = zs.length)
    (hc : ∀ (b cap : Nat) (w : World), Holds enc w b 0 zs.toArray → b < w.heap.size → zs.length ≤ cap → Calls P f #[.slice (some ⟨b, 0, none⟩) zs.length cap] w fun e w' => (∃ v, e = .returned v ∧ ∀ S at_, at_ g1 d1 = some (.slice (some ⟨b, 0, none⟩) zs.length cap) → VR P w' S at_ r v) ∧ ∃ q os, w' = grow (putRow enc (Sort.ahead w q) b 0 ts.toArray) os)
    (hnil : zs = [] → ∀ w : World, Calls P f #[.slice none 0 0] w fun e w' => (∃ v, e = .returned v ∧ ∀ S at_, at_ g1 d1 = some (.slice none 0 0) → VR P w' S at_ r v) ∧ ∃ q os, w' = grow (Sort.ahead w q) os)
    (h : Wk .lex ⟨P, w0, S0, nt, frs⟩ ops Q ⟨upd e d r, updO ob g1 d1 (.row t (ts.map fV)), g⟩ rest) : Wk m ⟨P, w0, S0, nt, frs⟩ ops Q ⟨e, ob, g⟩ (⟨some d, .call { callee := .value x, args := #[y], argTypes := tys }, ty, pos, aft, none⟩ :: rest) := by
  subst hm
  intro S at_ a w hr
  refine wpListIn_plain rfl fun K' hK => ?_
  obtain ⟨arr, h1, hrun⟩ := call_run (o := ⟨some d, .call { callee := .value x, args := #[y], argTypes := tys }, ty, pos, aft, none⟩) hr rfl ((evE_eq e ob g x).trans hx) hb
  obtain rfl : arr = [] := by cases arr with | nil => rfl | cons => simp [VRs] at h1
  have h2 := hr.ev y
  rw [(evE_eq e ob g y).trans hy, VR] at h2
  obtain ⟨A, M, cp, h3, h4, h5⟩ := h2
  have hok := hr.ok g1 d1 _ h3
  rw [show (⟨e, ob, g⟩ : St).obj g1 d1 = .row t (zs.map fV) from ho] at hok
  obtain ⟨flat, h6, h7⟩ := hok
  have hflat := (Flat_enc he (hf w S) zs flat).1 h7
  refine wpIn_enter rfl hrun ?_
  simp only [List.map_cons, List.map_nil, List.append_nil, h5]
  rcases h6.2 with ⟨h0, h8⟩ | ⟨b, cap, cur, h0, hbb, hh, hcap, hmax, hcur, htake⟩
  · cases h0
    have hz : zs = [] := List.eq_nil_of_length_eq_zero (by simpa using h8)
    subst hz
    obtain rfl : ts = [] := List.eq_nil_of_length_eq_zero (by simpa using hl)
    refine (hnil rfl w).mono ?_
    rintro e' w' ⟨⟨v, rfl, hv⟩, q, os, rfl⟩
    have hr1 : Rel ⟨P, w0, S0, nt, frs⟩ S at_ ⟨e, ob, g⟩ a (grow (Sort.ahead w q) os) := Rel.grow hr ⟨rfl, rfl, rfl, by simp, fun k hk => heap_grow_old _ _ hk⟩ (fun _ h => h) (fun b hb => .inl hb)
    have hsame : updO ob g1 d1 (.row t (([] : List α).map fV)) = ob := by
      funext g' d'
      unfold updO
      split
      · rename_i hh; rw [hh.1, hh.2]; exact ho.symm
      · rfl
    rw [hsame] at h
    exact hK _ _ (h S at_ _ _ (hr1.put (d := d) hn (hv S at_ h3)))
  · cases h0
    rw [he] at hcur htake
    simp only [List.length_map] at h3 hcap
    have hH : Holds enc w b 0 zs.toArray := holds_row hh (by rw [← hflat]; simpa using htake)
    refine (hc b cp w hH (Array.getElem?_eq_some_iff.1 hh).1 (by simpa using hcap)).mono ?_
    rintro e' w' ⟨⟨v, rfl, hv⟩, q, os, rfl⟩
    have hr1 := hr.putRow (q := q) (os := os) he hf (show (⟨e, ob, g⟩ : St).obj g1 d1 = .row t (zs.map fV) from ho) h3 hl
    exact hK _ _ (h S at_ _ _ (hr1.put (d := d) hn (hv S at_ h3)))
end
end Go.Proofs.YtjjpmbaddpiamaaDoor
