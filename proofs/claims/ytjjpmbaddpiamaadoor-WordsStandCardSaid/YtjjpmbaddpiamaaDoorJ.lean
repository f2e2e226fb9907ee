/-
  The abstract machine: maps of the call's own, and maps that are only read.
-/
import Derived.Test.YtjjpmbaddpiamaaDoorHI
import Derived.ChangeKeysEq
set_option linter.unusedSimpArgs false
set_option linter.unusedVariables false
namespace Go.Proofs.YtjjpmbaddpiamaaDoor
open Go.RowKit
/-- Two whole numbers as a key. -/
def PairT (P : Program) (kt : TypeId) : Prop := ∃ e z bytes, P.underlying kt = some (.array 2 e) ∧ P.underlying e = some (.int .i64) ∧ TI P e z 1 bytes
theorem pair_part {P : Program} {w : World} {e : TypeId} (he : P.underlying e = some (.int .i64)) {xs : Array Value} {i : Nat} {v : Value} (h : xs[i]? = some v) : (part e xs i).run P w = .ok v w := by
  have hlf : IsLeaf P e := ⟨_, he, rfl⟩
  simp [part, isAgg_leaf hlf, h]
theorem pair_eq {P : Program} {w : World} {kt : TypeId} (h : PairT P kt) (p q : Int × Int) : (Op.equal kt (pairVal p) (pairVal q)).run P w = .ok (decide (p = q)) w := by
  obtain ⟨e, z, bytes, h1, h2, h3⟩ := h
  obtain ⟨i, hi, _⟩ := TI.get h3
  show (Op.equalIn 10000 kt (.agg _) (.agg _)).run P w = _
  rw [run_equalIn_array (P := P) (w := w) 9999 _ _ h1 hi, TI.cells h3]
  have e0 : ∀ a b : Int, (Op.equalIn 9999 e (.int .i64 a) (.int .i64 b)).run P w = .ok (a == b) w := fun a b => run_equalIn_int w 9998 e .i64 .i64 a b h2
  have a0 := pair_part (P := P) (w := w) h2 (xs := #[.int .i64 p.1, .int .i64 p.2]) (i := 0 * 1) (v := .int .i64 p.1) rfl
  have a1 := pair_part (P := P) (w := w) h2 (xs := #[.int .i64 p.1, .int .i64 p.2]) (i := 1) (v := .int .i64 p.2) rfl
  have b0 := pair_part (P := P) (w := w) h2 (xs := #[.int .i64 q.1, .int .i64 q.2]) (i := 0 * 1) (v := .int .i64 q.1) rfl
  have b1 := pair_part (P := P) (w := w) h2 (xs := #[.int .i64 q.1, .int .i64 q.2]) (i := 1) (v := .int .i64 q.2) rfl
  rw [show List.range 2 = [0, 1] from rfl]
  simp only [Op.eqItems, Sem.run_bind, a0, a1, b0, b1, e0, Result.andThen_ok]
  by_cases h4 : p.1 = q.1
  · by_cases h5 : p.2 = q.2
    · have h6 : p = q := Prod.ext h4 h5
      subst h6; simp [a1, e0]
    · have h6 : p ≠ q := fun e => h5 (by rw [e])
      simp [h4] at a1 b1 ⊢
      simp [a1, b1, e0, h5, h6]
  · have h6 : p ≠ q := fun e => h4 (by rw [e])
    simp [h4, h6]
theorem pair_find {P : Program} {w : World} {kt : TypeId} (h : PairT P kt) {β : Type} (ev : β → Value) (k : Int × Int) : ∀ (es : List MapEntry) (l : List ((Int × Int) × β)) (n : Nat), es.map (fun e => (e.key, e.val)) = l.map (fun p => (pairVal p.1, ev p.2)) →
    ((Instr.findAsking kt (pairVal k) es n).run P w = .ok none w ∧ mget k l = none) ∨ ∃ i v, (Instr.findAsking kt (pairVal k) es n).run P w = .ok (some (n + i, ev v)) w ∧ l[i]? = some (k, v) ∧ mget k l = some v ∧ ∀ u, mput k u l = l.set i (k, u)
  | [], [], n, _ => .inl ⟨by simp [Instr.findAsking], rfl⟩
  | [], _ :: _, n, h => by simp at h
  | _ :: _, [], n, h => by simp at h
  | e :: es, (q, u) :: l, n, hl => by
    simp only [List.map_cons, List.cons.injEq, Prod.mk.injEq] at hl
    obtain ⟨⟨hk, hv⟩, ht⟩ := hl
    have hd := pair_eq (w := w) h k q
    by_cases e1 : k = q
    · right
      refine ⟨0, u, ?_, ?_, ?_, ?_⟩
      · subst e1
        rw [Instr.findAsking, hk]
        simp only [decide_true] at hd
        simp [hd, hv]
      · simp [e1]
      · simp [mget, e1]
      · intro v; simp [mput, e1]
    · have hf : (Instr.findAsking kt (pairVal k) (e :: es) n).run P w = (Instr.findAsking kt (pairVal k) es (n + 1)).run P w := by
        rw [Instr.findAsking, hk]; simp [hd, e1]
      rcases pair_find h ev k es l (n + 1) ht with ⟨h1, h2⟩ | ⟨i, v, h1, h2, h3, h4⟩
      · left
        exact ⟨by rw [hf]; exact h1, by simp [mget, e1, h2]⟩
      · right
        refine ⟨i + 1, v, by rw [hf, h1]; simp [Nat.add_assoc, Nat.add_comm 1 i], by simpa using h2, by simp [mget, e1, h3], fun v => by simp [mput, e1, h4 v]⟩
def pairKey {P : Program} {kt : TypeId} (h : PairT P kt) : KeyT P kt (Int × Int) where
  enc := pairVal
  ok := fun _ => True
  check := fun em k w _ => by
    obtain ⟨e, z, bytes, h1, h2, h3⟩ := h
    obtain ⟨i, hi, _⟩ := TI.get h3
    have c0 : ∀ a : Int, (Instr.checkKey em 9999 e (.int .i64 a)).run P w = .ok () w := fun a => MapKept.run_checkKey (k := .int .i64 a) h2 (by simp [MapKept.IsKey]) em 9998
    have a0 := pair_part (P := P) (w := w) h2 (xs := #[.int .i64 k.1, .int .i64 k.2]) (i := 0) (v := .int .i64 k.1) rfl
    have a1 := pair_part (P := P) (w := w) h2 (xs := #[.int .i64 k.1, .int .i64 k.2]) (i := 1) (v := .int .i64 k.2) rfl
    have hs := TI.sizeOf h3 w
    unfold pairVal
    rw [Instr.checkKey]
    simp only [Sem.run_bind, run_underlying h1, Result.andThen_ok]
    simp only [Std.Legacy.Range.forIn_eq_forIn_range', Std.Legacy.Range.size, Nat.sub_zero, Nat.add_one_sub_one, Nat.div_one]
    rw [show List.range' 0 2 = [0, 1] from rfl]
    simp [List.forIn_cons, hs, a0, a1, c0]
  find := by
    intro β ev k es l w _ _ hl
    cases es with
    | nil =>
      cases l with
      | nil => exact .inl ⟨by obtain ⟨e, z, bytes, h1, h2, h3⟩ := h; simp [Instr.findKey, run_underlying h1, Instr.findNow], rfl⟩
      | cons _ _ => simp at hl
    | cons e es =>
      have hf : (Instr.findKey kt (pairVal k) (e :: es)).run P w = (Instr.findAsking kt (pairVal k) (e :: es) 0).run P w := by
        obtain ⟨e', z, bytes, h1, h2, h3⟩ := h
        cases l with
        | nil => simp at hl
        | cons p l =>
          simp only [List.map_cons, List.cons.injEq, Prod.mk.injEq] at hl
          simp only [Instr.findKey, Sem.run_bind, run_underlying h1, Result.andThen_ok, Instr.findNow]
          rw [hl.1.1]
          rfl
      rcases pair_find (w := w) h ev k (e :: es) l 0 hl with ⟨h1, h2⟩ | ⟨i, v, h1, h2, h3, h4⟩
      · exact .inl ⟨by rw [hf]; exact h1, h2⟩
      · rw [Nat.zero_add] at h1
        exact .inr ⟨i, v, by rw [hf]; exact h1, h2, h3, h4⟩
  same := fun k => by simp [pairVal, Instr.sameBits]
def MP.get : MP → MK → Option Value
  | .ints l, .int k => mget k l
  | .strs l, .str k => mget k l
  | .pairs l, .pair k => mget k l
  | _, _ => none
def MP.put : MP → MK → Value → MP
  | .ints l, .int k, v => .ints (mput k v l)
  | .strs l, .str k, v => .strs (mput k v l)
  | .pairs l, .pair k, v => .pairs (mput k v l)
  | m, _, _ => m
def MP.len : MP → Nat
  | .ints l => l.length
  | .strs l => l.length
  | .pairs l => l.length
/-- A map's key type is the key's. -/
def MK.fits (P : Program) (kt : TypeId) : MK → MP → Prop
  | .int _, .ints _ => P.underlying kt = some (.int .i64)
  | .str _, .strs _ => P.underlying kt = some .string
  | .pair _, .pairs _ => PairT P kt
  | _, _ => False
section
variable {P : Program} {w : World}
theorem mapOf_look {kt t e : TypeId} {m : MP} {k : MK} (hf : k.fits P kt m) {b : Nat} {arr : Array MapEntry} {clock : Nat} (hb : w.heap[b]? = some (.map arr clock)) (hm : m.holds arr) (ht : P.underlying t = some (.map kt e)) {z : Value} (hz : (zeroValue e).run P w = .ok z w) (c : Bool) :
    (Instr.lookup t (.map (some b)) k.val c).run P w = .ok (if c then .tuple #[(m.get k).getD z, .bool (m.get k).isSome] else (m.get k).getD z) w := by
  cases k <;> cases m <;> simp only [MK.fits] at hf
  · have h : MapOf (intKey hf) (id : Value → Value) w b _ := ⟨arr, clock, hb, hm, fun _ _ => trivial⟩
    rename_i k0 l0
    have := h.look ht hz k0 trivial c
    simpa [MP.get, MK.val, intKey] using this
  · have h : MapOf (strKey hf) (id : Value → Value) w b _ := ⟨arr, clock, hb, hm, fun _ _ => trivial⟩
    rename_i k0 l0
    have := h.look ht hz k0 trivial c
    simpa [MP.get, MK.val, strKey] using this
  · have h : MapOf (pairKey hf) (id : Value → Value) w b _ := ⟨arr, clock, hb, hm, fun _ _ => trivial⟩
    rename_i k0 l0
    have := h.look ht hz k0 trivial c
    simpa [MP.get, MK.val, pairKey] using this
theorem mapOf_put {kt t e : TypeId} {m : MP} {k : MK} (hf : k.fits P kt m) {b : Nat} {arr : Array MapEntry} {clock : Nat} (hb : w.heap[b]? = some (.map arr clock)) (hm : m.holds arr) (ht : P.underlying t = some (.map kt e)) (v : Value) :
    ∃ w' arr' clock', (Instr.mapUpdate t (.map (some b)) k.val v).run P w = .ok () w' ∧ w'.heap[b]? = some (.map arr' clock') ∧ (m.put k v).holds arr' ∧ w.grownBy w' (some b) ∧ w'.heap.size = w.heap.size := by
  cases k <;> cases m <;> simp only [MK.fits] at hf
  · have h : MapOf (intKey hf) (id : Value → Value) w b _ := ⟨arr, clock, hb, hm, fun _ _ => trivial⟩
    rename_i k0 l0
    obtain ⟨w', h1, ⟨arr', clock', h2, h3, _⟩, h4, h5⟩ := h.update ht k0 trivial v
    exact ⟨w', arr', clock', h1, h2, h3, h4, h5⟩
  · have h : MapOf (strKey hf) (id : Value → Value) w b _ := ⟨arr, clock, hb, hm, fun _ _ => trivial⟩
    rename_i k0 l0
    obtain ⟨w', h1, ⟨arr', clock', h2, h3, _⟩, h4, h5⟩ := h.update ht k0 trivial v
    exact ⟨w', arr', clock', h1, h2, h3, h4, h5⟩
  · have h : MapOf (pairKey hf) (id : Value → Value) w b _ := ⟨arr, clock, hb, hm, fun _ _ => trivial⟩
    rename_i k0 l0
    obtain ⟨w', h1, ⟨arr', clock', h2, h3, _⟩, h4, h5⟩ := h.update ht k0 trivial v
    exact ⟨w', arr', clock', h1, h2, h3, h4, h5⟩
end
/-- A slot's value that is a key. -/
def V.key : V → Option MK
  | .int .i64 k => some (.int k)
  | .str s => some (.str s)
  | .agg [.int .i64 a, .int .i64 b] => some (.pair (a, b))
  | _ => none
theorem V.key_val {P : Program} {w : World} {S : Nat → Prop} {at_ : At} {v : V} {k : MK} (h : v.key = some k) {x : Value} (hv : VR P w S at_ v x) : x = k.val := by
  unfold V.key at h
  split at h
  · cases h; rw [VR, RL] at hv; exact hv
  · cases h; rw [VR, RL] at hv; exact hv
  · cases h
    rw [VR] at hv
    obtain ⟨arr, rfl, h2⟩ := hv
    obtain ⟨l⟩ := arr
    obtain _ | ⟨x, _ | ⟨y, _ | ⟨z, l⟩⟩⟩ := l <;> simp [VRs] at h2
    simp only [VR, RL] at h2
    rw [h2.1, h2.2]; rfl
  · cases h
section
variable {c : Ctx} {st : St} {o : Oper} {d : Nat}
theorem VR_cv' {P : Program} {w : World} {S : Nat → Prop} {at_ : At} (v : Value) : VR P w S at_ (cv v) v := VR_cv v
theorem Stp.makeMap {t : TypeId} {m : MP} (hd : o.dst = some d) (hn : d < c.nt) (hop : o.op = .makeMap t none) (hnone : st.obj st.gen d = .none) (hm : m.ent = []) : Stp c o st ((st.set st.gen d (.map m)).put d (.map st.gen d)) :=
  Stp.fresh hd hn hnone rfl fun S at_ a w hr => by
    refine ⟨.map #[] 0, .map (some w.heap.size), .map (some w.heap.size), ?_, rfl, ⟨w.heap.size, #[], 0, rfl, heap_new w _, by simp [MP.holds, hm]⟩, ?_⟩
    · simp [execOp, hop, Instr.makeMap]
    · rw [VR]; exact ⟨_, by simp [updA], rfl⟩
theorem Stp.lookOwn {t kt el : TypeId} {x y : Operand} {ok : Bool} {g d1 : Nat} {m : MP} {k : MK} {u v : V} {z : Value} {size bytes : Nat} (hd : o.dst = some d) (hn : d < c.nt) (hop : o.op = .lookup t x y ok) (ht : c.P.underlying t = some (.map kt el)) (hi : TI c.P el z size bytes) (hx : st.ev x = .map g d1) (ho : st.obj g d1 = .map m) (hy : st.ev y = u) (hk : u.key = some k) (hf : k.fits c.P kt m)
    (hv : (if ok then .tup [cv ((m.get k).getD z), .bool (m.get k).isSome] else cv ((m.get k).getD z)) = v) : Stp c o st (st.put d v) :=
  Stp.val hd hn fun S at_ a w hr => by
    have h1 := hr.ev x
    have h2 := hr.ev y
    rw [hx, VR] at h1
    rw [hy] at h2
    obtain ⟨b, h3, h4⟩ := h1
    have h5 := hr.ok g d1 _ h3
    rw [ho] at h5
    obtain ⟨b', arr, clock, e, h6, h7⟩ := h5
    cases e
    have hrun := mapOf_look (P := c.P) (w := w) hf h6 h7 ht (hi.zero w) ok
    rw [← V.key_val hk h2] at hrun
    refine ⟨_, by simp only [execOp, hop, h4, hrun, Sem.run_bind, Sem.run_pure, Result.andThen]; rfl, ?_⟩
    subst hv
    cases ok
    · exact VR_cv _
    · simp only [if_true]
      rw [VR]
      refine ⟨_, rfl, ?_⟩
      simp only [VRs]
      exact ⟨VR_cv _, by rw [VR, RL], trivial⟩
theorem Stp.lookRead {t kt el : TypeId} {x y : Operand} {ok : Bool} {m : MP} {k : MK} {u v : V} {z : Value} {size bytes : Nat} (hd : o.dst = some d) (hn : d < c.nt) (hop : o.op = .lookup t x y ok) (ht : c.P.underlying t = some (.map kt el)) (hi : TI c.P el z size bytes) (hx : st.ev x = .mp m) (hy : st.ev y = u) (hk : u.key = some k) (hf : k.fits c.P kt m)
    (hv : (if ok then .tup [cv ((m.get k).getD z), .bool (m.get k).isSome] else cv ((m.get k).getD z)) = v) : Stp c o st (st.put d v) :=
  Stp.val hd hn fun S at_ a w hr => by
    have h1 := hr.ev x
    have h2 := hr.ev y
    rw [hx, VR, RL] at h1
    rw [hy] at h2
    obtain ⟨b, arr, clock, h4, _, h6, h7⟩ := h1
    have hrun := mapOf_look (P := c.P) (w := w) hf h6 h7 ht (hi.zero w) ok
    rw [← V.key_val hk h2] at hrun
    refine ⟨_, by simp only [execOp, hop, h4, hrun, Sem.run_bind, Sem.run_pure, Result.andThen]; rfl, ?_⟩
    subst hv
    cases ok
    · exact VR_cv _
    · simp only [if_true]
      rw [VR]
      refine ⟨_, rfl, ?_⟩
      simp only [VRs]
      exact ⟨VR_cv _, by rw [VR, RL], trivial⟩
theorem cv_val {P : Program} {w : World} {S : Nat → Prop} {at_ : At} {v x : Value} (h : VR P w S at_ (cv v) x) (hs : (cv v).flatL = true) : x = v := by
  have hc := VR_cv (P := P) (w := w) (S := S) (at_ := at_) v
  generalize cv v = u at *
  cases u <;> simp [V.flatL] at hs <;> rw [VR, RL] at h hc <;> rw [h, hc]
theorem Stp.mapPut {t kt el : TypeId} {x y z : Operand} {g d1 : Nat} {m : MP} {k : MK} {u : V} {v : Value} (hd : o.dst = none) (hop : o.op = .mapUpdate t x y z ∨ o.op = .insert t x y z) (ht : c.P.underlying t = some (.map kt el)) (hx : st.ev x = .map g d1) (ho : st.obj g d1 = .map m) (hy : st.ev y = u) (hk : u.key = some k) (hf : k.fits c.P kt m) (hz : st.ev z = cv v) (hvf : (cv v).flatL = true) : Stp c o st (st.set g d1 (.map (m.put k v))) :=
  Stp.mem hd fun S at_ a w hr => by
    have h1 := hr.ev x
    have h2 := hr.ev y
    have h0 := hr.ev z
    rw [hx, VR] at h1
    rw [hy] at h2
    rw [hz] at h0
    obtain ⟨b, h3, h4⟩ := h1
    have h5 := hr.ok g d1 _ h3
    rw [ho] at h5
    obtain ⟨b', arr, clock, e, h6, h7⟩ := h5
    cases e
    obtain ⟨w', arr', clock', k1, k2, k3, k4, k5⟩ := mapOf_put (P := c.P) (w := w) hf h6 h7 ht v
    rw [← V.key_val hk h2, ← cv_val h0 hvf] at k1
    refine ⟨S, at_, w', ?_, hr.write h3 (by rw [ho]; rfl) (b := b) rfl k4 k5 rfl ⟨b, arr', clock', rfl, k2, k3⟩ (by rw [ho]; simp)⟩
    rcases hop with hop | hop <;> simp [execOp, hop, h4, k1, Result.andThen]
end
end Go.Proofs.YtjjpmbaddpiamaaDoor
