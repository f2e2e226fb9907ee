/-
  The abstract machine: maps of the call's own, and maps that are only read.
-/
import Derived.Test.YtfjciangbmjlmaaI
set_option linter.unusedSimpArgs false
set_option linter.unusedVariables false
namespace Go.Proofs.Ytfjciangbmjlmaa
open Go.RowKit
/-- Keys. -/
inductive MK where
  | int (k : Int)
  | str (k : ByteArray)
def MK.val : MK → Value
  | .int k => .int .i64 k
  | .str k => .string k
def MP.get : MP → MK → Option Value
  | .ints l, .int k => mget k l
  | .strs l, .str k => mget k l
  | _, _ => none
def MP.put : MP → MK → Value → MP
  | .ints l, .int k, v => .ints (mput k v l)
  | .strs l, .str k, v => .strs (mput k v l)
  | m, _, _ => m
def MP.len : MP → Nat
  | .ints l => l.length
  | .strs l => l.length
  | .pairs l => l.length
/-- A map's key type is the key's. -/
def MK.fits (P : Program) (kt : TypeId) : MK → MP → Prop
  | .int _, .ints _ => P.underlying kt = some (.int .i64)
  | .str _, .strs _ => P.underlying kt = some .string
  | _, _ => False
section
variable {P : Program} {w : World}
theorem mapOf_look {kt t e : TypeId} {m : MP} {k : MK} (hf : k.fits P kt m) {b : Nat} {arr : Array MapEntry} {clock : Nat} (hb : w.heap[b]? = some (.map arr clock)) (hm : m.holds arr) (ht : P.underlying t = some (.map kt e)) {z : Value} (hz : (zeroValue e).run P w = .ok z w) (c : Bool) :
    (Instr.lookup t (.map (some b)) k.val c).run P w = .ok (if c then .tuple #[(m.get k).getD z, .bool (m.get k).isSome] else (m.get k).getD z) w := by
  cases k <;> cases m <;> simp only [MK.fits] at hf
  · have h : MapOf (intKey hf) (id : Value → Value) w b _ := ⟨arr, clock, hb, hm, fun _ _ => trivial⟩
    rename_i k0 l0
    have := h.look ht hz k0 trivial c
    simpa [MP.get, MK.val, intKey] using this
  · have h : MapOf (strKey hf) (id : Value → Value) w b _ := ⟨arr, clock, hb, hm, fun _ _ => trivial⟩
    rename_i k0 l0
    have := h.look ht hz k0 trivial c
    simpa [MP.get, MK.val, strKey] using this
theorem mapOf_put {kt t e : TypeId} {m : MP} {k : MK} (hf : k.fits P kt m) {b : Nat} {arr : Array MapEntry} {clock : Nat} (hb : w.heap[b]? = some (.map arr clock)) (hm : m.holds arr) (ht : P.underlying t = some (.map kt e)) (v : Value) :
    ∃ w' arr' clock', (Instr.mapUpdate t (.map (some b)) k.val v).run P w = .ok () w' ∧ w'.heap[b]? = some (.map arr' clock') ∧ (m.put k v).holds arr' ∧ w.grownBy w' (some b) ∧ w'.heap.size = w.heap.size := by
  cases k <;> cases m <;> simp only [MK.fits] at hf
  · have h : MapOf (intKey hf) (id : Value → Value) w b _ := ⟨arr, clock, hb, hm, fun _ _ => trivial⟩
    rename_i k0 l0
    obtain ⟨w', h1, ⟨arr', clock', h2, h3, _⟩, h4, h5⟩ := h.update ht k0 trivial v
    exact ⟨w', arr', clock', h1, h2, h3, h4, h5⟩
  · have h : MapOf (strKey hf) (id : Value → Value) w b _ := ⟨arr, clock, hb, hm, fun _ _ => trivial⟩
    rename_i k0 l0
    obtain ⟨w', h1, ⟨arr', clock', h2, h3, _⟩, h4, h5⟩ := h.update ht k0 trivial v
    exact ⟨w', arr', clock', h1, h2, h3, h4, h5⟩
end
/-- A slot's value that is a key. -/
def V.key : V → Option MK
  | .int .i64 k => some (.int k)
  | .str s => some (.str s)
  | _ => none
theorem V.key_val {P : Program} {w : World} {S : Nat → Prop} {at_ : At} {v : V} {k : MK} (h : v.key = some k) {x : Value} (hv : VR P w S at_ v x) : x = k.val := by
  unfold V.key at h
  split at h
  · cases h; rw [VR, RL] at hv; exact hv
  · cases h; rw [VR, RL] at hv; exact hv
  · cases h
section
variable {c : Ctx} {st : St} {o : Oper} {d : Nat}
theorem VR_cv' {P : Program} {w : World} {S : Nat → Prop} {at_ : At} (v : Value) : VR P w S at_ (cv v) v := VR_cv v
theorem Stp.makeMap {t : TypeId} {m : MP} (hd : o.dst = some d) (hn : d < c.nt) (hop : o.op = .makeMap t none) (hnone : st.obj st.gen d = .none) (hm : m.ent = []) : Stp c o st ((st.set st.gen d (.map m)).put d (.map st.gen d)) :=
  Stp.fresh hd hn hnone rfl fun S at_ a w hr => by
    refine ⟨.map #[] 0, .map (some w.heap.size), .map (some w.heap.size), ?_, rfl, ⟨w.heap.size, #[], 0, rfl, heap_new w _, by simp [MP.holds, hm]⟩, ?_⟩
    · simp [execOp, hop, Instr.makeMap]
    · rw [VR]; exact ⟨_, by simp [updA], rfl⟩
theorem Stp.lookOwn {t kt el : TypeId} {x y : Operand} {ok : Bool} {g d1 : Nat} {m : MP} {k : MK} {u v : V} {z : Value} {size bytes : Nat} (hd : o.dst = some d) (hn : d < c.nt) (hop : o.op = .lookup t x y ok) (ht : c.P.underlying t = some (.map kt el)) (hi : TI c.P el z size bytes) (hx : st.ev x = .map g d1) (ho : st.obj g d1 = .map m) (hy : st.ev y = u) (hk : u.key = some k) (hf : k.fits c.P kt m)
    (hv : (if ok then .tup [cv ((m.get k).getD z), .bool (m.get k).isSome] else cv ((m.get k).getD z)) = v) : Stp c o st (st.put d v) :=
  Stp.val hd hn fun S at_ a w hr => by
    have h1 := hr.ev x
    have h2 := hr.ev y
    rw [hx, VR] at h1
    rw [hy] at h2
    obtain ⟨b, h3, h4⟩ := h1
    have h5 := hr.ok g d1 _ h3
    rw [ho] at h5
    obtain ⟨b', arr, clock, e, h6, h7⟩ := h5
    cases e
    have hrun := mapOf_look (P := c.P) (w := w) hf h6 h7 ht (hi.zero w) ok
    rw [← V.key_val hk h2] at hrun
    refine ⟨_, by simp only [execOp, hop, h4, hrun, Sem.run_bind, Sem.run_pure, Result.andThen]; rfl, ?_⟩
    subst hv
    cases ok
    · exact VR_cv _
    · simp only [if_true]
      rw [VR]
      refine ⟨_, rfl, ?_⟩
      simp only [VRs]
      exact ⟨VR_cv _, by rw [VR, RL], trivial⟩
theorem Stp.lookRead {t kt el : TypeId} {x y : Operand} {ok : Bool} {m : MP} {k : MK} {u v : V} {z : Value} {size bytes : Nat} (hd : o.dst = some d) (hn : d < c.nt) (hop : o.op = .lookup t x y ok) (ht : c.P.underlying t = some (.map kt el)) (hi : TI c.P el z size bytes) (hx : st.ev x = .mp m) (hy : st.ev y = u) (hk : u.key = some k) (hf : k.fits c.P kt m)
    (hv : (if ok then .tup [cv ((m.get k).getD z), .bool (m.get k).isSome] else cv ((m.get k).getD z)) = v) : Stp c o st (st.put d v) :=
  Stp.val hd hn fun S at_ a w hr => by
    have h1 := hr.ev x
    have h2 := hr.ev y
    rw [hx, VR, RL] at h1
    rw [hy] at h2
    obtain ⟨b, arr, clock, h4, _, h6, h7⟩ := h1
    have hrun := mapOf_look (P := c.P) (w := w) hf h6 h7 ht (hi.zero w) ok
    rw [← V.key_val hk h2] at hrun
    refine ⟨_, by simp only [execOp, hop, h4, hrun, Sem.run_bind, Sem.run_pure, Result.andThen]; rfl, ?_⟩
    subst hv
    cases ok
    · exact VR_cv _
    · simp only [if_true]
      rw [VR]
      refine ⟨_, rfl, ?_⟩
      simp only [VRs]
      exact ⟨VR_cv _, by rw [VR, RL], trivial⟩
theorem cv_val {P : Program} {w : World} {S : Nat → Prop} {at_ : At} {v x : Value} (h : VR P w S at_ (cv v) x) (hs : (cv v).flatL = true) : x = v := by
  have hc := VR_cv (P := P) (w := w) (S := S) (at_ := at_) v
  generalize cv v = u at *
  cases u <;> simp [V.flatL] at hs <;> rw [VR, RL] at h hc <;> rw [h, hc]
theorem Stp.mapPut {t kt el : TypeId} {x y z : Operand} {g d1 : Nat} {m : MP} {k : MK} {u : V} {v : Value} (hd : o.dst = none) (hop : o.op = .mapUpdate t x y z ∨ o.op = .insert t x y z) (ht : c.P.underlying t = some (.map kt el)) (hx : st.ev x = .map g d1) (ho : st.obj g d1 = .map m) (hy : st.ev y = u) (hk : u.key = some k) (hf : k.fits c.P kt m) (hz : st.ev z = cv v) (hvf : (cv v).flatL = true) : Stp c o st (st.set g d1 (.map (m.put k v))) :=
  Stp.mem hd fun S at_ a w hr => by
    have h1 := hr.ev x
    have h2 := hr.ev y
    have h0 := hr.ev z
    rw [hx, VR] at h1
    rw [hy] at h2
    rw [hz] at h0
    obtain ⟨b, h3, h4⟩ := h1
    have h5 := hr.ok g d1 _ h3
    rw [ho] at h5
    obtain ⟨b', arr, clock, e, h6, h7⟩ := h5
    cases e
    obtain ⟨w', arr', clock', k1, k2, k3, k4, k5⟩ := mapOf_put (P := c.P) (w := w) hf h6 h7 ht v
    rw [← V.key_val hk h2, ← cv_val h0 hvf] at k1
    refine ⟨S, at_, w', ?_, hr.write h3 (by rw [ho]; rfl) (b := b) rfl k4 k5 rfl ⟨b, arr', clock', rfl, k2, k3⟩⟩
    rcases hop with hop | hop <;> simp [execOp, hop, h4, k1, Result.andThen]
end
end Go.Proofs.Ytfjciangbmjlmaa
