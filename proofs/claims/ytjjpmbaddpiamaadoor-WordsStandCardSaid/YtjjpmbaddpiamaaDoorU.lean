/-
  What each of the model's operations does to a state of the abstract machine: make, append, slices of slices; objects that are written no more.
-/
import Derived.Test.YtjjpmbaddpiamaaDoorST
import Derived.Laws.MakeOwn
import Derived.Deep.OwnRows
set_option linter.unusedSimpArgs false
set_option linter.unusedVariables false
namespace Go.Proofs.YtjjpmbaddpiamaaDoor
open Go.RowKit

section own
variable {c : Ctx} {st : St} {o : Oper} {d : Nat}
theorem Flat.replicate {P : Program} {w : World} {S : Nat → Prop} {e : TypeId} {x : V} {cs : List Value} (h1 : cs.length = P.cellsOf e) (h2 : RX P w S x cs) : ∀ n, Flat P w S e (List.replicate n x) (List.replicate n cs).flatten
  | 0 => rfl
  | n + 1 => ⟨cs, (List.replicate n cs).flatten, by simp [List.replicate_succ], h1, h2, Flat.replicate h1 h2 n⟩
theorem flat_rep (z : Value) : ∀ n, (List.replicate n [z]).flatten = List.replicate n z
  | 0 => rfl
  | n + 1 => by simp [List.replicate_succ, flat_rep z n]
/-- make([]T, n): elements of one cell. -/
theorem Stp.make {t e : TypeId} {x : Operand} {n : Nat} {k : IntKind} {z : Value} {bytes : Nat} {v : V} (hd : o.dst = some d) (hn : d < c.nt) (hop : o.op = .makeSlice t x x) (ht : c.P.underlying t = some (.slice e)) (hi : TI c.P e z 1 bytes) (hz : z.cells = #[z])
    (hzv : cv z = v) (hro : v.isRL = true) (hx : st.ev x = .int k n) (hnone : st.obj st.gen d = .none) (hb : bytes * n ≤ 281474976710656) (h63 : n ≤ 9223372036854775807) : Stp c o st ((st.set st.gen d (.row e (List.replicate n v))).put d (.row st.gen d n)) :=
  Stp.fresh hd hn hnone rfl fun S at_ a w hr => by
    have h1 := hr.ev x
    rw [hx, VR, RL] at h1
    have hcz := hi.cells
    have hrun := run_make_row' t e z bytes ht hi hz k k n hb h63 w
    refine ⟨.cells (madeCells #[z] n) e, .slice (some ⟨w.heap.size, 0, none⟩) n n, .slice (some ⟨w.heap.size, 0, none⟩) n n, ?_, rfl, ⟨(madeCells #[z] n).toList, ?_, ?_⟩, ?_⟩
    · simp only [execOp, hop, h1, hrun, Sem.run_bind, Sem.run_pure, Result.andThen]
    · have := World.ownsRow_lit (base := c.w0.heap.size) (e := e) (size := 1) w (madeCells #[z] n) n hr.below.size (by simpa [maxLen] using h63) (by simp [size_madeCells])
      rw [hcz, List.length_replicate]; exact this
    · have hl : (madeCells #[z] n).toList = (List.replicate n [z]).flatten := by
        rw [flat_rep]
        apply List.ext_getElem
        · simp [madeCells]
        · intro i h1 h2
          simp [madeCells, Nat.mod_one]
      rw [hl]
      have hRL : RL c.P w S v z := by subst hzv; exact (VR_cv (P := c.P) (w := w) (S := S) (at_ := at_) z).toRL hro
      exact Flat.replicate (by rw [hcz]; rfl) (by
        have h2 : RL c.P (w.alloc (.cells (madeCells #[z] n) e)) S v z := RL.mono (fun _ h => h) (fun b hb => (World.grownBy_alloc w _ none).block b (hr.slt b hb) (by simp)) _ _ hRL
        cases v <;> first | exact ⟨z, rfl, h2⟩ | simp [V.isRL] at hro) n
    · rw [VR]; exact ⟨_, n, n, by simp [updA], Nat.le_refl _, rfl⟩

/-- What a slice holds that is read: one of the call's own, one that is only read, or nil. -/
def St.rd (st : St) (e : TypeId) : V → List V → Prop
  | .nil, ys => ys = []
  | .sl e' xs, ys => (e' = e ∧ ys = xs) ∨ (xs = [] ∧ ys = [])
  | .row g d n, ys => (st.obj g d = .row e ys ∨ st.obj g d = .froz e ys) ∧ n = ys.length
  | _, _ => False
theorem St.rd_get {S : Nat → Prop} {at_ : At} {a : Act} {w : World} (h : Rel c S at_ st a w) {e : TypeId} {x : V} {v : Value} {ys : List V} (hv : VR c.P w S at_ x v) (hr : st.rd e x ys) :
    ∃ A cp, v = .slice A ys.length cp ∧ ∃ news, Flat c.P w S e ys news ∧ ((A = none ∧ ys = []) ∨ ∃ ad, A = some ad ∧ ∀ j u, news[j]? = some u → w.cell? (ad.add j) = some u) := by
  cases x <;> simp only [St.rd] at hr
  · subst hr; rw [VR, RL] at hv; exact ⟨none, 0, hv, [], rfl, .inl ⟨rfl, rfl⟩⟩
  · rename_i e' xs
    rw [VR, RL] at hv
    obtain ⟨A, cp, h1, h2, h3⟩ := hv
    have hnil : xs = [] → ys = [] → ∃ A cp, v = .slice A ys.length cp ∧ ∃ news, Flat c.P w S e ys news ∧ ((A = none ∧ ys = []) ∨ ∃ ad, A = some ad ∧ ∀ j u, news[j]? = some u → w.cell? (ad.add j) = some u) := by
      rintro rfl rfl
      refine ⟨A, cp, h1, [], rfl, ?_⟩
      cases A with
      | none => exact .inl ⟨rfl, rfl⟩
      | some ad => exact .inr ⟨ad, rfl, fun j u hu => by simp at hu⟩
    rcases hr with ⟨rfl, rfl⟩ | ⟨h4, h5⟩
    · rcases h3 with h3 | ⟨ad, rfl, _, hrow⟩
      · exact hnil h3 h3
      · obtain ⟨cs, h6, h7⟩ := hrow.flat
        exact ⟨some ad, cp, h1, cs, h6, .inr ⟨ad, rfl, fun j u hu => by have := h7 j u hu; rwa [Nat.zero_mul, Nat.zero_add] at this⟩⟩
    · exact hnil h4 h5
  · rename_i g d n
    rw [VR] at hv
    obtain ⟨A, m, cp, h1, h2, rfl⟩ := hv
    have hok := h.ok g d _ h1
    obtain ⟨hr, rfl⟩ := hr
    rcases hr with hr | hr
    · rw [hr] at hok
      obtain ⟨flat, h3, h4⟩ := hok
      refine ⟨A, cp, rfl, flat, h4, ?_⟩
      rcases h3.2 with ⟨h5, h6⟩ | ⟨b, cap, cur, h5, _⟩
      · cases h5
        exact .inl ⟨rfl, List.eq_nil_of_length_eq_zero h6⟩
      · cases h5
        refine .inr ⟨_, rfl, fun j u hu => h3.cells (g := b) rfl j u hu⟩
    · rw [hr] at hok
      simp only [ObOk, RL] at hok
      obtain ⟨A', cp', h5, h6, h7⟩ := hok
      cases h5
      rcases h7 with h7 | ⟨ad, rfl, _, hrow⟩
      · subst h7
        refine ⟨A, cp, rfl, [], rfl, ?_⟩
        cases A with
        | none => exact .inl ⟨rfl, rfl⟩
        | some ad => exact .inr ⟨ad, rfl, fun j u hu => by simp at hu⟩
      · obtain ⟨cs, h8, h9⟩ := hrow.flat
        exact ⟨some ad, cp, rfl, cs, h8, .inr ⟨ad, rfl, fun j u hu => by have := h9 j u hu; rwa [Nat.zero_mul, Nat.zero_add] at this⟩⟩
theorem append_run {P : Program} {w : World} {base : Nat} {t e : TypeId} {z : Value} {size bytes : Nat} (ty : TypeId) (ht : P.underlying t = some (.slice e)) (hi : TI P e z size bytes) (hzs : z.cells.size = size) (h0 : 0 < size) (hby : 0 < bytes) {v : Value} {n m cp : Nat} {xs news : List Value} (hown : w.ownsRow base e size v n xs)
    {A : Option Addr} (hl : news.length = m * size) (hA : (A = none ∧ m = 0) ∨ ∃ ad, A = some ad ∧ ∀ j u, news[j]? = some u → w.cell? (ad.add j) = some u) (h1 : ∀ u ∈ news, u.oneCell' = true) (hbytes : (n + m) * bytes ≤ 140737488355328) (hbase : base ≤ w.heap.size) :
    ∃ v' w', (Builtin.append_ #[t, t] ty #[v, .slice A m cp]).run P w = .ok v' w' ∧ w'.ownsRow base e size v' (n + m) (xs ++ news) ∧ w.grownBy w' v.ownBlock ∧ (v'.ownBlock = v.ownBlock ∨ v'.ownBlock = some w.heap.size) := by
  obtain ⟨i, hi1, hi2, hi3, hi4⟩ := hi.get
  have h63 : n + m ≤ maxLen := by
    have : n + m ≤ (n + m) * bytes := Nat.le_mul_of_pos_right _ hby
    simp only [maxLen]; omega
  rcases hA with ⟨rfl, rfl⟩ | ⟨ad, rfl, hc⟩
  · obtain rfl : news = [] := List.eq_nil_of_length_eq_zero (by simpa using hl)
    refine ⟨v, w, ?_, by simpa using hown, World.grownBy.refl w _, .inl rfl⟩
    rcases hown.2 with ⟨rfl, hn⟩ | ⟨g, cap, cur, rfl, _, _, hnc, _⟩
    · simp [Builtin.append_, run_underlying ht, sizeOf, typeInfo, hi1, Builtin.lenOf, Builtin.firstCells]
    · simp [Builtin.append_, run_underlying ht, sizeOf, typeInfo, hi1, Builtin.lenOf, Builtin.firstCells, hnc, storeCells]
  · obtain ⟨v', w', r1, r2, r3, _, r5⟩ := run_append_own_at (P := P) w base t ty e i z size bytes ht hi1 hi2 hi3 hi4 hzs h0 v n xs hown ad m cp news hl hc h1 h63 hbytes hbase
    exact ⟨v', w', r1, r2, r3, r5⟩
theorem ownBlock_blk {v : Value} {w : World} {base n size : Nat} {e : TypeId} {xs : List Value} (h : w.ownsRow base e size v n xs) : v.ownBlock = blkOf v := by
  rcases h.2 with ⟨rfl, _⟩ | ⟨g, cap, cur, rfl, _⟩ <;> rfl
theorem append_aux {S : Nat → Prop} {at_ : At} {a : Act} {w : World} (h : Rel c S at_ st a w) {t e : TypeId} {z : Value} {size bytes : Nat} (ty : TypeId) (ht : c.P.underlying t = some (.slice e)) (hi : TI c.P e z size bytes) (hzs : z.cells.size = size) (h0 : 0 < size) (hby : 0 < bytes)
    {v : Value} {xs ys : List V} {y : V} {x : Value} (hy : VR c.P w S at_ y x) (hr : st.rd e y ys) {flat : List Value} (hown : w.ownsRow c.w0.heap.size e size v xs.length flat) (hflat : Flat c.P w S e xs flat)
    (hnl : ∀ b, blkOf v = some b → ¬ S b ∧ ∀ g' d' v', at_ g' d' = some v' → (st.obj g' d').live = true → blkOf v' ≠ some b) (hbytes : (xs.length + ys.length) * bytes ≤ 140737488355328) (hnone : st.obj st.gen d = .none) :
    ∃ v' w', (Builtin.append_ #[t, t] ty #[v, x]).run c.P w = .ok v' w' ∧ Rel c S (updA at_ st.gen d v') (st.set st.gen d (.row e (xs ++ ys))) a w' ∧ VR c.P w' S (updA at_ st.gen d v') (.row st.gen d (xs.length + ys.length)) v' := by
  obtain ⟨A, cp, rfl, news, hn, hA⟩ := St.rd_get h hy hr
  have hcz := hi.cells
  have hnl' := hn.length
  rw [hcz] at hnl'
  obtain ⟨v', w', r1, r2, r3, r4⟩ := append_run ty ht hi hzs h0 hby (cp := cp) hown hnl' (by
    rcases hA with ⟨h1, h2⟩ | h1
    · exact .inl ⟨h1, by rw [h2]; rfl⟩
    · exact .inr h1) hn.one hbytes h.below.size
  have hb1 := ownBlock_blk hown
  have hb2 := ownBlock_blk r2
  rw [hb1] at r3 r4
  rw [hb2] at r4
  have hwS : ∀ k, S k → w'.heap[k]? = w.heap[k]? := fun k hk => r3.block k (h.slt k hk) (fun e => (hnl k e.symm).1 hk)
  refine ⟨v', w', r1, h.newObj hnone r3.os r3.tape r3.output r3.size ?_ ?_ rfl ⟨flat ++ news, ?_, ?_⟩, ?_⟩
  · rintro k hk (h1 | h1 | ⟨g', d', v2, h1, h2, h3⟩)
    · refine r3.block k hk fun e => ?_
      have := own_base (h := hown) k (by rw [hb1]; exact e.symm)
      omega
    · exact hwS k h1
    · exact r3.block k hk fun e => (hnl k e.symm).2 g' d' v2 h1 h2 h3
  · intro b hb
    have hbase : c.w0.heap.size ≤ b := own_base (h := r2) b (by rw [hb2]; exact hb)
    have hlt : b < w'.heap.size := by
      rcases r2.2 with ⟨rfl, _⟩ | ⟨g, cap, cur, rfl, _, hh, _⟩
      · simp [blkOf] at hb
      · simp only [blkOf, Option.some.injEq] at hb
        subst hb
        exact (Array.getElem?_eq_some_iff.1 hh).1
    rcases r4 with r4 | r4
    · rw [r4] at hb
      exact ⟨hbase, hlt, (hnl b hb).1, (hnl b hb).2⟩
    · rw [r4] at hb
      cases hb
      exact ⟨hbase, hlt, fun hs => absurd (h.slt _ hs) (by omega), fun g' d' v2 h1 h2 h3 => absurd (h.own g' d' v2 _ h1 h2 h3).2.1 (by omega)⟩
  · rw [hcz, List.length_append]; exact r2
  · exact Flat.mono (fun _ h => h) hwS e _ _ (hflat.append hn)
  · rw [VR]
    rcases r2.2 with ⟨rfl, h5⟩ | ⟨g, cap, cur, rfl, _⟩
    · exact ⟨none, 0, 0, by simp [updA], by omega, by rw [h5]⟩
    · exact ⟨_, _, _, by simp [updA], Nat.le_refl _, rfl⟩
where
  own_base {w : World} {base : Nat} {e : TypeId} {size n : Nat} {v : Value} {xs : List Value} (h : w.ownsRow base e size v n xs) (k : Nat) (hk : v.ownBlock = some k) : base ≤ k := by
    rcases h.2 with ⟨rfl, _⟩ | ⟨g, cap, cur, rfl, hb, _⟩
    · simp [Value.ownBlock] at hk
    · have : g = k := by simpa [Value.ownBlock] using hk
      omega
/-- append(s, y...), s nil. -/
theorem Stp.appendNil {t e : TypeId} {x y : Operand} {ys : List V} {z : Value} {size bytes : Nat} (hd : o.dst = some d) (hn : d < c.nt) (hop : o.op = .call { callee := .builtin .append, args := #[x, y], argTypes := #[t, t] }) (ht : c.P.underlying t = some (.slice e)) (hi : TI c.P e z size bytes) (hzs : z.cells.size = size) (h0 : 0 < size) (hby : 0 < bytes)
    (hx : st.ev x = .nil) (hy : st.rd e (st.ev y) ys) (hlim : ys.length * bytes ≤ 140737488355328) (hnone : st.obj st.gen d = .none) : Stp c o st ((st.set st.gen d (.row e ys)).put d (.row st.gen d ys.length)) := by
  intro S at_ a w hr next Q hk
  have h1 := hr.ev x
  rw [hx, VR, RL] at h1
  obtain ⟨v', w', r1, r2, r3⟩ := append_aux (xs := []) hr o.type ht hi hzs h0 hby (v := .slice none 0 0) (hr.ev y) hy (flat := []) ⟨by simp, .inl ⟨rfl, rfl⟩⟩ rfl (fun b hb => by simp [blkOf] at hb) (by simpa using hlim) hnone
  have : (execOp a.eval o).run c.P w = .ok (.value v') w' := by
    simp only [execOp, hop, resolve, invoke, builtin, Sem.run_bind, Sem.run_pure, Result.andThen_ok, List.map_toArray, List.map_cons, List.map_nil, h1, r1]
  refine wpIn_of_run (not_defer_of_value this) this ?_
  rw [Oper.uponIn_value, hd]
  simp only [List.length_nil, Nat.zero_add, List.nil_append] at r2 r3
  exact hk S _ _ _ (r2.put hn r3)
/-- append(s, y...), s a slice of the call's own. -/
theorem Stp.append {t e : TypeId} {x y : Operand} {g g' : Nat} {xs ys : List V} {z : Value} {size bytes : Nat} (hd : o.dst = some d) (hn : d < c.nt) (hop : o.op = .call { callee := .builtin .append, args := #[x, y], argTypes := #[t, t] }) (ht : c.P.underlying t = some (.slice e)) (hi : TI c.P e z size bytes) (hzs : z.cells.size = size) (h0 : 0 < size) (hby : 0 < bytes)
    (hx : st.ev x = .row g g' xs.length) (hobj : st.obj g g' = .row e xs) (hy : (st.set g g' .dead).rd e (st.ev y) ys) (hlim : (xs.length + ys.length) * bytes ≤ 140737488355328) (hnone : st.obj st.gen d = .none) :
    Stp c o st (((st.set g g' .dead).set st.gen d (.row e (xs ++ ys))).put d (.row st.gen d (xs.length + ys.length))) := by
  intro S at_ a w hr next Q hk
  have h1 := hr.ev x
  rw [hx, VR] at h1
  obtain ⟨A, m, cp, h3, h4, h5⟩ := h1
  have h6 := hr.ok g g' _ h3
  rw [hobj] at h6
  obtain ⟨flat, h7, h8⟩ := h6
  have hm : m = xs.length := by
    rcases h7.2 with ⟨e1, e2⟩ | ⟨_, _, _, e1, _⟩
    · cases e1; exact e2.symm
    · cases e1; rfl
  subst hm
  have hr' := hr.kill h3 (by rw [hobj]; simp)
  have hcz := hi.cells
  rw [hcz] at h7
  have hne : ¬ (d = g' ∧ st.gen = g) := by
    rintro ⟨rfl, rfl⟩
    rw [hobj] at hnone; cases hnone
  obtain ⟨v', w', r1, r2, r3⟩ := append_aux hr' o.type ht hi hzs h0 hby (v := .slice A xs.length cp) (hr.ev y) hy h7 h8 (fun b hb => by
    have hown := hr.own g g' _ b h3 (by rw [hobj]; rfl) hb
    refine ⟨hown.2.2, fun g2 d2 v2 k1 k2 k3 => ?_⟩
    by_cases he : d2 = g' ∧ g2 = g
    · obtain ⟨rfl, rfl⟩ := he
      simp [St.set, updO, Ob.live] at k2
    · have k2' : (st.obj g2 d2).live = true := by simpa [St.set, updO, he] using k2
      have := hr.dis g2 d2 g g' v2 _ b k1 h3 k2' (by rw [hobj]; rfl) k3 hb
      exact he ⟨this.2, this.1⟩) hlim (show (st.set g g' .dead).obj st.gen d = .none by simp only [St.set, updO, if_neg hne]; exact hnone)
  have : (execOp a.eval o).run c.P w = .ok (.value v') w' := by
    simp only [execOp, hop, resolve, invoke, builtin, Sem.run_bind, Sem.run_pure, Result.andThen_ok, List.map_toArray, List.map_cons, List.map_nil, h5, r1]
  refine wpIn_of_run (not_defer_of_value this) this ?_
  rw [Oper.uponIn_value, hd]
  exact hk S _ _ _ (r2.put hn r3)

/-- A slice of the call's own is written no more: it is only read from here on. -/
theorem Rel.freezeR {S : Nat → Prop} {at_ : At} {a : Act} {w : World} {g g' : Nat} {e : TypeId} {xs : List V} (hr : Rel c S at_ st a w) (hobj : st.obj g g' = .row e xs) : ∃ S', (∀ b, S b → S' b) ∧ Rel c S' at_ (st.set g g' (.froz e xs)) a w := by
  have hat : ∃ v, at_ g g' = some v := by
    cases hv : at_ g g' with
    | none => have := (hr.al _ _).1 hv; rw [hobj] at this; cases this
    | some v => exact ⟨v, rfl⟩
  obtain ⟨v, hat⟩ := hat
  have hok := hr.ok g g' v hat
  rw [hobj] at hok
  obtain ⟨flat, h1, h2⟩ := hok
  let S' : Nat → Prop := fun b => S b ∨ blkOf v = some b
  have hlive : (st.obj g g').live = true := by rw [hobj]; rfl
  have hsame : ∀ {g2 d2}, ¬ (d2 = g' ∧ g2 = g) → (updO st.obj g g' (.froz e xs)) g2 d2 = st.obj g2 d2 := fun hne => by simp [updO, hne]
  have hthis : (updO st.obj g g' (.froz e xs)) g g' = .froz e xs := by simp [updO]
  have hl2 : ∀ {g2 d2}, ((updO st.obj g g' (.froz e xs)) g2 d2).live = true → ¬ (d2 = g' ∧ g2 = g) ∧ (st.obj g2 d2).live = true := fun {g2 d2} hh => by
    by_cases he : d2 = g' ∧ g2 = g
    · obtain ⟨rfl, rfl⟩ := he; rw [hthis] at hh; simp [Ob.live] at hh
    · exact ⟨he, by rwa [hsame he] at hh⟩
  refine ⟨S', fun _ h => .inl h, hr.move (obj' := updO st.obj g g' (.froz e xs)) (at' := at_) (S' := S') hr.below (Nat.le_refl _) (fun _ h => .inl h) ?_ ?_ (fun _ _ => rfl) (fun _ _ _ h => h) (dfd_off (by rw [hobj]; simp)) ?_ ?_ ?_ ?_ ?_⟩
  · rintro b (hb | hb)
    · exact hr.slt b hb
    · exact (hr.own g g' v b hat hlive hb).2.1
  · rintro b (hb | hb)
    · exact hr.snew b hb
    · exact .inr (hr.own g g' v b hat hlive hb).1
  · intro g2 d2 hg2
    by_cases he : d2 = g' ∧ g2 = g
    · obtain ⟨rfl, rfl⟩ := he
      have := hr.gen g2 d2 hg2
      rw [hobj] at this; cases this
    · rw [hsame he]; exact hr.gen g2 d2 hg2
  · intro g2 d2
    by_cases he : d2 = g' ∧ g2 = g
    · obtain ⟨rfl, rfl⟩ := he
      rw [hthis, hat]
      exact ⟨(fun e => by cases e), fun e => by cases e⟩
    · rw [hsame he]; exact hr.al g2 d2
  · intro g2 d2 v2 hv2
    by_cases he : d2 = g' ∧ g2 = g
    · obtain ⟨rfl, rfl⟩ := he
      rw [hthis]
      rw [hat] at hv2; cases hv2
      simp only [ObOk, RL]
      rcases h1.2 with ⟨rfl, h3⟩ | ⟨b, cap, cur, rfl, hb, hh, hnc, _⟩
      · exact ⟨none, 0, by rw [h3], by omega, .inl (List.eq_nil_of_length_eq_zero h3)⟩
      · refine ⟨_, cap, rfl, hnc, .inr ⟨_, rfl, .inr rfl, ?_⟩⟩
        refine (Flat.mono (S' := S') (fun _ h => .inl h) (fun _ _ => rfl) e _ _ h2).rows fun j u hu => ?_
        rw [Nat.zero_mul, Nat.zero_add]
        exact h1.cells (g := b) rfl j u hu
    · rw [hsame he]
      exact (hr.ok g2 d2 v2 hv2).mono (fun _ h => .inl h) (fun _ _ => rfl) (fun _ _ _ h => h) (fun _ _ _ => rfl)
  · intro g2 d2 v2 b k1 k2 k3
    obtain ⟨he, k2'⟩ := hl2 k2
    have := hr.own g2 d2 v2 b k1 k2' k3
    refine ⟨this.1, this.2.1, ?_⟩
    rintro (hb | hb)
    · exact this.2.2 hb
    · have := hr.dis g2 d2 g g' v2 v b k1 hat k2' hlive k3 hb
      exact he ⟨this.2, this.1⟩
  · intro g1 d1 g2 d2 v1 v2 b k1 k2 k3 k4 k5 k6
    exact hr.dis g1 d1 g2 d2 v1 v2 b k1 k2 (hl2 k3).2 (hl2 k4).2 k5 k6
theorem Tr.freeze {K : Act → World → Prop} {g g' : Nat} {e : TypeId} {xs : List V} (hobj : st.obj g g' = .row e xs) (h : Tr c (st.set g g' (.froz e xs)) K) : Tr c st K := fun S at_ a w hr => by
  obtain ⟨S', _, hr'⟩ := hr.freezeR hobj
  exact h S' at_ a w hr'
theorem VRs.RLs_of {P : Program} {w : World} {S : Nat → Prop} {at_ : At} : ∀ {vs : List V} {cs : List Value}, vs.all V.isRL = true → VRs P w S at_ vs cs → RLs P w S vs cs
  | [], [], _, _ => by simp [RLs]
  | [], _ :: _, _, h => by simp [VRs] at h
  | _ :: _, [], _, h => by simp [VRs] at h
  | v :: vs, c :: cs, hr, h => by
    simp only [List.all_cons, Bool.and_eq_true] at hr
    rw [VRs] at h
    rw [RLs]
    refine ⟨?_, VRs.RLs_of hr.2 h.2⟩
    have := h.1
    cases v <;> simp only [V.isRL, Bool.false_eq_true, false_and] at hr <;> rw [VR] at this <;> exact this
/-- A variable of the call's own is written no more: its cells are only read from here on. -/
theorem Rel.freezeC {S : Nat → Prop} {at_ : At} {a : Act} {w : World} {g g' : Nat} {t : TypeId} {cs : List V} (hr : Rel c S at_ st a w) (hobj : st.obj g g' = .cells t cs) (hcs : cs.all V.isRL = true) :
    ∃ S', (∀ b, S b → S' b) ∧ Rel c S' at_ (st.set g g' .dead) a w ∧ ∀ x, VR c.P w S at_ (.ptr g g' 0) x → VR c.P w S' at_ (.ref cs) x := by
  have hat : ∃ v, at_ g g' = some v := by
    cases hv : at_ g g' with
    | none => have := (hr.al _ _).1 hv; rw [hobj] at this; cases this
    | some v => exact ⟨v, rfl⟩
  obtain ⟨v, hat⟩ := hat
  have hok := hr.ok g g' v hat
  rw [hobj] at hok
  obtain ⟨b0, arr, rfl, hb0, hvs⟩ := hok
  let S' : Nat → Prop := fun b => S b ∨ b = b0
  have hlive : (st.obj g g').live = true := by rw [hobj]; rfl
  have hown0 := hr.own g g' _ b0 hat hlive rfl
  have hsame : ∀ {g2 d2}, ¬ (d2 = g' ∧ g2 = g) → (updO st.obj g g' .dead) g2 d2 = st.obj g2 d2 := fun hne => by simp [updO, hne]
  have hthis : (updO st.obj g g' .dead) g g' = .dead := by simp [updO]
  have hl2 : ∀ {g2 d2}, ((updO st.obj g g' .dead) g2 d2).live = true → ¬ (d2 = g' ∧ g2 = g) ∧ (st.obj g2 d2).live = true := fun {g2 d2} hh => by
    by_cases he : d2 = g' ∧ g2 = g
    · obtain ⟨rfl, rfl⟩ := he; rw [hthis] at hh; simp [Ob.live] at hh
    · exact ⟨he, by rwa [hsame he] at hh⟩
  refine ⟨S', fun _ h => .inl h, hr.move (obj' := updO st.obj g g' .dead) (at' := at_) (S' := S') hr.below (Nat.le_refl _) (fun _ h => .inl h) ?_ ?_ (fun _ _ => rfl) (fun _ _ _ h => h) (dfd_off (by rw [hobj]; simp)) ?_ ?_ ?_ ?_ ?_, ?_⟩
  · rintro b (hb | rfl)
    · exact hr.slt b hb
    · exact hown0.2.1
  · rintro b (hb | rfl)
    · exact hr.snew b hb
    · exact .inr hown0.1
  · intro g2 d2 hg2
    by_cases he : d2 = g' ∧ g2 = g
    · obtain ⟨rfl, rfl⟩ := he
      have := hr.gen g2 d2 hg2
      rw [hobj] at this; cases this
    · rw [hsame he]; exact hr.gen g2 d2 hg2
  · intro g2 d2
    by_cases he : d2 = g' ∧ g2 = g
    · obtain ⟨rfl, rfl⟩ := he
      rw [hthis, hat]
      exact ⟨(fun e => by cases e), fun e => by cases e⟩
    · rw [hsame he]; exact hr.al g2 d2
  · intro g2 d2 v2 hv2
    by_cases he : d2 = g' ∧ g2 = g
    · obtain ⟨rfl, rfl⟩ := he
      rw [hthis]; trivial
    · rw [hsame he]
      exact (hr.ok g2 d2 v2 hv2).mono (fun _ h => .inl h) (fun _ _ => rfl) (fun _ _ _ h => h) (fun _ _ _ => rfl)
  · intro g2 d2 v2 b k1 k2 k3
    obtain ⟨he, k2'⟩ := hl2 k2
    have := hr.own g2 d2 v2 b k1 k2' k3
    refine ⟨this.1, this.2.1, ?_⟩
    rintro (hb | rfl)
    · exact this.2.2 hb
    · have := hr.dis g2 d2 g g' v2 _ b k1 hat k2' hlive k3 rfl
      exact he ⟨this.2, this.1⟩
  · intro g1 d1 g2 d2 v1 v2 b k1 k2 k3 k4 k5 k6
    exact hr.dis g1 d1 g2 d2 v1 v2 b k1 k2 (hl2 k3).2 (hl2 k4).2 k5 k6
  · intro x hx
    rw [VR] at hx
    obtain ⟨b, h1, rfl⟩ := hx
    rw [hat] at h1; cases h1
    rw [VR]
    refine ⟨⟨b0, 0, none⟩, arr.toList, rfl, .inr rfl, ?_, fun j u hu => ?_⟩
    · exact RLs.mono (fun _ h => .inl h) (fun _ _ => rfl) _ _ (VRs.RLs_of hcs hvs)
    · have hj : arr[j]? = some u := by simpa using hu
      have hlt : j < arr.size := (Array.getElem?_eq_some_iff.1 hj).1
      have e1 : (⟨b0, 0, none⟩ : Addr).add j = ⟨b0, j, none⟩ := by unfold Addr.add; split <;> simp_all
      rw [e1, blk_cells hb0]
      exact hj
/-- What is told of a slot may be turned into what follows of it. -/
theorem Tr.slot {K : Act → World → Prop} {s : Nat} {v : V} (hv : ∀ S at_ a w, Rel c S at_ st a w → ∀ x, VR c.P w S at_ (st.env s) x → VR c.P w S at_ v x) (h : Tr c (st.put s v) K) : Tr c st K := fun S at_ a w hr =>
  h S at_ a w { hr with
    env := fun s' => by
      by_cases hs : s' = s
      · subst hs; simp only [St.put, upd, if_true]; exact hv S at_ a w hr _ (hr.env s')
      · simp only [St.put, upd, if_neg hs]; exact hr.env s'
    gen := hr.gen, al := hr.al, ok := hr.ok, own := hr.own, dis := hr.dis }
/-- A frozen slice is one that is only read. -/
theorem Tr.toSl {K : Act → World → Prop} {s g g' n : Nat} {e : TypeId} {xs : List V} (hs : st.env s = .row g g' n) (hobj : st.obj g g' = .froz e xs) (hn : n = xs.length) (h : Tr c (st.put s (.sl e xs)) K) : Tr c st K :=
  Tr.slot (s := s) (v := .sl e xs) (fun S at_ a w hr x hx => by
    rw [hs, VR] at hx
    obtain ⟨A, m, cp, h1, h2, rfl⟩ := hx
    have := hr.ok g g' _ h1
    rw [hobj] at this
    simp only [ObOk, RL] at this
    obtain ⟨A', cp', h3, h4, h5⟩ := this
    cases h3
    rw [VR, RL]
    exact ⟨A, cp, by rw [hn], h4, h5⟩) h
end own
end Go.Proofs.YtjjpmbaddpiamaaDoor
