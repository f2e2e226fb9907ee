/-
  What each of the model's operations does to a state of the abstract machine: operations that compute, read, and make memory.
-/
import Derived.Test.YtjjpmbaddpiamaaDoorR
import Derived.Deep.MidRow
import Derived.Great.BuildSlice
set_option linter.unusedSimpArgs false
set_option linter.unusedVariables false
namespace Go.Proofs.YtjjpmbaddpiamaaDoor
open Go.RowKit

/-- A type's size, bytes and zero value. -/
def TI (P : Program) (t : TypeId) (z : Value) (size bytes : Nat) : Prop := (P.info? t).map (fun i => (i.zero, i.size, i.bytes)) = some (some z, size, bytes)
section ti
variable {P : Program} {t : TypeId} {z : Value} {size bytes : Nat}
theorem TI.get (h : TI P t z size bytes) : ∃ i, P.info? t = some i ∧ i.zero = some z ∧ i.size = size ∧ i.bytes = bytes := by
  obtain ⟨i, hi, hz⟩ := Option.map_eq_some_iff.1 h
  simp only [Prod.mk.injEq] at hz
  exact ⟨i, hi, hz.1, hz.2.1, hz.2.2⟩
theorem TI.cells (h : TI P t z size bytes) : P.cellsOf t = size := by
  obtain ⟨i, hi, _, h2, _⟩ := h.get
  simp [Program.cellsOf, hi, h2]
theorem TI.map (h : TI P t z size bytes) : (P.info? t).map (·.size) = some size := by
  obtain ⟨i, hi, _, h2, _⟩ := h.get
  simp [hi, h2]
theorem TI.zero (h : TI P t z size bytes) (w : World) : (zeroValue t).run P w = .ok z w := by
  obtain ⟨i, hi, h1, _⟩ := h.get
  simp [zeroValue, typeInfo, hi, h1]
theorem TI.sizeOf (h : TI P t z size bytes) (w : World) : (sizeOf t).run P w = .ok size w := by
  obtain ⟨i, hi, _, h2, _⟩ := h.get
  simp [Go.sizeOf, typeInfo, hi, h2]
end ti

theorem VRs.length {P : Program} {w : World} {S : Nat → Prop} {at_ : At} : ∀ {vs : List V} {cs : List Value}, VRs P w S at_ vs cs → vs.length = cs.length
  | [], [], _ => rfl
  | [], _ :: _, h => by simp [VRs] at h
  | _ :: _, [], h => by simp [VRs] at h
  | v :: vs, c :: cs, h => by rw [VRs] at h; simp [h.2.length]
theorem VRs.get {P : Program} {w : World} {S : Nat → Prop} {at_ : At} : ∀ {vs : List V} {cs : List Value} (_ : VRs P w S at_ vs cs) {j : Nat} {v : V}, vs[j]? = some v → ∃ u, cs[j]? = some u ∧ VR P w S at_ v u
  | [], _, _, j, v, hj => by simp at hj
  | _ :: _, [], h, _, _, _ => by simp [VRs] at h
  | v :: vs, c :: cs, h, j, x, hj => by
    rw [VRs] at h
    cases j with
    | zero => simp at hj; subst hj; exact ⟨c, rfl, h.1⟩
    | succ j => simp at hj ⊢; exact h.2.get hj
theorem VRs.drop {P : Program} {w : World} {S : Nat → Prop} {at_ : At} : ∀ (n : Nat) {vs : List V} {cs : List Value}, VRs P w S at_ vs cs → VRs P w S at_ (vs.drop n) (cs.drop n)
  | 0, _, _, h => by simpa using h
  | _ + 1, [], [], h => by simp [VRs]
  | _ + 1, [], _ :: _, h => by simp [VRs] at h
  | _ + 1, _ :: _, [], h => by simp [VRs] at h
  | n + 1, v :: vs, c :: cs, h => by rw [VRs] at h; simpa using h.2.drop n
theorem VRs.take {P : Program} {w : World} {S : Nat → Prop} {at_ : At} : ∀ (n : Nat) {vs : List V} {cs : List Value}, VRs P w S at_ vs cs → VRs P w S at_ (vs.take n) (cs.take n)
  | 0, _, _, h => by simp [VRs]
  | _ + 1, [], [], h => by simp [VRs]
  | _ + 1, [], _ :: _, h => by simp [VRs] at h
  | _ + 1, _ :: _, [], h => by simp [VRs] at h
  | n + 1, v :: vs, c :: cs, h => by rw [VRs] at h; simp only [List.take_succ_cons]; rw [VRs]; exact ⟨h.1, h.2.take n⟩
theorem VRs.append {P : Program} {w : World} {S : Nat → Prop} {at_ : At} : ∀ {vs vs' : List V} {cs cs' : List Value}, VRs P w S at_ vs cs → VRs P w S at_ vs' cs' → VRs P w S at_ (vs ++ vs') (cs ++ cs')
  | [], _, [], _, _, h' => h'
  | [], _, _ :: _, _, h, _ => by simp [VRs] at h
  | _ :: _, _, [], _, h, _ => by simp [VRs] at h
  | v :: vs, _, c :: cs, _, h, h' => by rw [VRs] at h; simp only [List.cons_append]; rw [VRs]; exact ⟨h.1, h.2.append h'⟩
theorem VRs.of_RLs {P : Program} {w : World} {S : Nat → Prop} {at_ : At} : ∀ {vs : List V} {cs : List Value}, RLs P w S vs cs → VRs P w S at_ vs cs
  | [], [], _ => by simp [VRs]
  | [], _ :: _, h => by simp [RLs] at h
  | _ :: _, [], h => by simp [RLs] at h
  | v :: vs, c :: cs, h => by rw [RLs] at h; rw [VRs]; exact ⟨VR.of_leaf h.1, VRs.of_RLs h.2⟩
theorem RLs.length {P : Program} {w : World} {S : Nat → Prop} : ∀ {vs : List V} {cs : List Value}, RLs P w S vs cs → vs.length = cs.length
  | [], [], _ => rfl
  | [], _ :: _, h => by simp [RLs] at h
  | _ :: _, [], h => by simp [RLs] at h
  | v :: vs, c :: cs, h => by rw [RLs] at h; simp [h.2.length]
theorem RLs.drop {P : Program} {w : World} {S : Nat → Prop} : ∀ (n : Nat) {vs : List V} {cs : List Value}, RLs P w S vs cs → RLs P w S (vs.drop n) (cs.drop n)
  | 0, _, _, h => by simpa using h
  | _ + 1, [], [], h => by simp [RLs]
  | _ + 1, [], _ :: _, h => by simp [RLs] at h
  | _ + 1, _ :: _, [], h => by simp [RLs] at h
  | n + 1, v :: vs, c :: cs, h => by rw [RLs] at h; simpa using h.2.drop n
theorem RLs.take {P : Program} {w : World} {S : Nat → Prop} : ∀ (n : Nat) {vs : List V} {cs : List Value}, RLs P w S vs cs → RLs P w S (vs.take n) (cs.take n)
  | 0, _, _, h => by simp [RLs]
  | _ + 1, [], [], h => by simp [RLs]
  | _ + 1, [], _ :: _, h => by simp [RLs] at h
  | _ + 1, _ :: _, [], h => by simp [RLs] at h
  | n + 1, v :: vs, c :: cs, h => by rw [RLs] at h; simp only [List.take_succ_cons]; rw [RLs]; exact ⟨h.1, h.2.take n⟩
theorem RLs.get {P : Program} {w : World} {S : Nat → Prop} : ∀ {vs : List V} {cs : List Value} (_ : RLs P w S vs cs) {j : Nat} {v : V}, vs[j]? = some v → ∃ u, cs[j]? = some u ∧ RL P w S v u
  | [], _, _, j, v, hj => by simp at hj
  | _ :: _, [], h, _, _, _ => by simp [RLs] at h
  | v :: vs, c :: cs, h, j, x, hj => by
    rw [RLs] at h
    cases j with
    | zero => simp at hj; subst hj; exact ⟨c, rfl, h.1⟩
    | succ j => simp at hj ⊢; exact h.2.get hj

section pure
variable {c : Ctx} {st : St} {o : Oper} {d : Nat}
theorem Stp.move {x : Operand} {v : V} (hd : o.dst = some d) (hn : d < c.nt) (hop : o.op = .move x ∨ o.op = .assign x) (hx : st.ev x = v) : Stp c o st (st.put d v) :=
  Stp.val hd hn fun S at_ a w hr => by
    refine ⟨a.eval x, ?_, hx ▸ hr.ev x⟩
    rcases hop with hop | hop <;> simp [execOp, hop]
theorem Stp.pick {x y z : Operand} {b : Bool} {v : V} (hd : o.dst = some d) (hn : d < c.nt) (hop : o.op = .pick x y z) (hx : st.ev x = .bool b) (hv : (if b then st.ev y else st.ev z) = v) : Stp c o st (st.put d v) :=
  Stp.val hd hn fun S at_ a w hr => by
    have h1 := hr.ev x
    rw [hx, VR, RL] at h1
    refine ⟨if b then a.eval y else a.eval z, ?_, ?_⟩
    · simp [execOp, hop, h1, asBool]
    · subst hv; cases b
      · exact hr.ev z
      · exact hr.ev y

/-- Numbers: what an operator makes of two. -/
def numOp (op : BinOp) (k : IntKind) (a b : Int) : Option V :=
  match op with
  | .add => some (.int k (k.wrap (a + b)))
  | .sub => some (.int k (k.wrap (a - b)))
  | .mul => some (.int k (k.wrap (a * b)))
  | .eql => some (.bool (decide (a = b)))
  | .neq => some (.bool (decide (a ≠ b)))
  | .lss => some (.bool (decide (a < b)))
  | .leq => some (.bool (decide (a ≤ b)))
  | .gtr => some (.bool (decide (b < a)))
  | .geq => some (.bool (decide (b ≤ a)))
  | .and => some (.int k (k.wrap ((BitVec.ofInt k.bits a &&& BitVec.ofInt k.bits b).toNat)))
  | .or => some (.int k (k.wrap ((BitVec.ofInt k.bits a ||| BitVec.ofInt k.bits b).toNat)))
  | .xor => some (.int k (k.wrap ((BitVec.ofInt k.bits a ^^^ BitVec.ofInt k.bits b).toNat)))
  | .andNot => some (.int k (k.wrap ((BitVec.ofInt k.bits a &&& ~~~(BitVec.ofInt k.bits b)).toNat)))
  | _ => none
theorem Stp.num {op : BinOp} {t t' : TypeId} {x y : Operand} {k : IntKind} {p q : Int} {v : V} (hd : o.dst = some d) (hn : d < c.nt) (hop : o.op = .binOp op t x y t') (hx : st.ev x = .int k p) (hy : st.ev y = .int k q) (hv : numOp op k p q = some v) :
    Stp c o st (st.put d v) :=
  Stp.val hd hn fun S at_ a w hr => by
    have h1 := hr.ev x
    have h2 := hr.ev y
    rw [hx, VR, RL] at h1
    rw [hy, VR, RL] at h2
    cases op <;> simp only [numOp, Option.some.injEq, reduceCtorEq] at hv <;> subst hv <;>
      refine ⟨_, by simp [execOp, hop, h1, h2, eqGuard, binOp, Op.intArith, Op.intCmp, Op.intBits]; rfl, ?_⟩ <;> rw [VR, RL] <;> first | rfl | (congr 1) | skip
    all_goals (first | rfl | (rw [Bool.eq_iff_iff]; simp; done) | (simp; done))
theorem Stp.shift {op : BinOp} {t t' : TypeId} {x y : Operand} {k k' : IntKind} {p q : Int} {v : V} (hd : o.dst = some d) (hn : d < c.nt) (hop : o.op = .binOp op t x y t') (hx : st.ev x = .int k p) (hy : st.ev y = .int k' q) (h0 : 0 ≤ q)
    (hv : (op = .shl ∧ v = .int k (k.wrap (p * 2 ^ min q.toNat k.bits))) ∨ (op = .shr ∧ v = .int k (p.fdiv (2 ^ min q.toNat k.bits)))) : Stp c o st (st.put d v) :=
  Stp.val hd hn fun S at_ a w hr => by
    have h1 := hr.ev x
    have h2 := hr.ev y
    rw [hx, VR, RL] at h1
    rw [hy, VR, RL] at h2
    have h0' : ¬ q < 0 := by omega
    rcases hv with ⟨rfl, rfl⟩ | ⟨rfl, rfl⟩
    · exact ⟨_, by simp [execOp, hop, h1, h2, eqGuard, binOp, Op.shift, h0']; rfl, by rw [VR, RL]⟩
    · exact ⟨_, by simp [execOp, hop, h1, h2, eqGuard, binOp, Op.shift, h0']; rfl, by rw [VR, RL]⟩
theorem Stp.not {t : TypeId} {x : Operand} {b : Bool} (hd : o.dst = some d) (hn : d < c.nt) (hop : o.op = .unOp .not t x) (hx : st.ev x = .bool b) : Stp c o st (st.put d (.bool (!b))) :=
  Stp.val hd hn fun S at_ a w hr => by
    have h1 := hr.ev x
    rw [hx, VR, RL] at h1
    exact ⟨.bool (!b), by simp [execOp, hop, h1, Op.unary], by rw [VR, RL]⟩
theorem Stp.convInt {t t' : TypeId} {x : Operand} {k k' : IntKind} {p : Int} {u : TypeDesc} (hd : o.dst = some d) (hn : d < c.nt) (hop : o.op = .convert t t' x) (hs : c.P.underlying t = some u) (ht : c.P.underlying t' = some (.int k')) (hx : st.ev x = .int k p) :
    Stp c o st (st.put d (.int k' (k'.wrap p))) :=
  Stp.val hd hn fun S at_ a w hr => by
    have h1 := hr.ev x
    rw [hx, VR, RL] at h1
    exact ⟨.int k' (k'.wrap p), by simp [execOp, hop, h1, convert, run_underlying hs, run_underlying ht, Conv.intToInt], by rw [VR, RL]⟩
theorem Stp.func {f : FuncId} {caps : Array Operand} {l : List V} (hd : o.dst = some d) (hn : d < c.nt) (hop : o.op = .makeFunc (.func f) #[] caps) (hl : caps.toList.map st.ev = l) : Stp c o st (st.put d (.fn f l)) :=
  Stp.val hd hn fun S at_ a w hr => by
    refine ⟨.func (.func f) #[] (caps.map a.eval), by simp [execOp, hop, Instr.makeFunc], ?_⟩
    rw [VR]
    refine ⟨_, rfl, ?_⟩
    subst hl
    rw [Array.toList_map]
    generalize caps.toList = q
    induction q with
    | nil => simp [VRs]
    | cons x q ih => simp only [List.map_cons]; rw [VRs]; exact ⟨hr.ev x, ih⟩
theorem Stp.extract {x : Operand} {i : Nat} {l : List V} {v : V} (hd : o.dst = some d) (hn : d < c.nt) (hop : o.op = .extract x i) (hx : st.ev x = .tup l) (hv : l[i]? = some v) : Stp c o st (st.put d v) :=
  Stp.val hd hn fun S at_ a w hr => by
    have h1 := hr.ev x
    rw [hx, VR] at h1
    obtain ⟨arr, h2, h3⟩ := h1
    obtain ⟨u, hu, h4⟩ := h3.get hv
    exact ⟨u, by simp [execOp, hop, h2, Instr.extract, show arr[i]? = some u by simpa using hu], h4⟩

/-! ### places -/
theorem fieldPlace_run {P : Program} (w : World) (a : Addr) (f : Field) {z : Value} {size bytes : Nat} (ht : TI P f.type z size bytes) (h0 : 0 < size) : (fieldPlace a f).run P w = .ok (a.add f.offset) w := by
  simp [fieldPlace, ht.sizeOf, show size ≠ 0 by omega]
theorem fieldAt_run {P : Program} (w : World) (a : Addr) (s : TypeId) {fs : Array Field} {f : Field} {i : Nat} (hs : P.underlying s = some (.struct fs)) (hf : fs[i]? = some f) {z : Value} {size bytes : Nat} (ht : TI P f.type z size bytes) (h0 : 0 < size) :
    (Instr.fieldAt s (.pointer (some a)) i).run P w = .ok (.pointer (some (a.add f.offset))) w := by
  simp [Instr.fieldAt, run_underlying hs, hf, Instr.sureAddr, fieldPlace_run w a f ht h0]
/-- A field's offset in a type, where the field has cells. -/
def FieldAt (P : Program) (s : TypeId) (i off : Nat) : Prop := ∃ fs f z size bytes, P.underlying s = some (.struct fs) ∧ fs[i]? = some f ∧ f.offset = off ∧ TI P f.type z size bytes ∧ 0 < size
theorem FieldAt.run {P : Program} {s i off : Nat} (h : FieldAt P s i off) (w : World) (a : Addr) : (Instr.fieldAt s (.pointer (some a)) i).run P w = .ok (.pointer (some (a.add off))) w := by
  obtain ⟨fs, f, z, size, bytes, h1, h2, rfl, h4, h5⟩ := h
  exact fieldAt_run w a s h1 h2 h4 h5
theorem add_plain' (b o n : Nat) : (⟨b, o, none⟩ : Addr).add n = ⟨b, o + n, none⟩ := Addr.add_mid b o n
theorem Stp.fieldPtr {s i off : Nat} {x : Operand} {g e p : Nat} (hd : o.dst = some d) (hn : d < c.nt) (hop : o.op = .fieldAddr s x i) (hf : FieldAt c.P s i off) (hx : st.ev x = .ptr g e p) : Stp c o st (st.put d (.ptr g e (p + off))) :=
  Stp.val hd hn fun S at_ a w hr => by
    have h1 := hr.ev x
    rw [hx, VR] at h1
    obtain ⟨b, h2, h3⟩ := h1
    refine ⟨_, by simp only [execOp, hop, h3, hf.run, Sem.run_bind, Sem.run_pure, Result.andThen]; rfl, ?_⟩
    rw [VR]
    exact ⟨b, h2, by rw [add_plain']⟩
theorem Stp.fieldRow {s i off : Nat} {x : Operand} {g e p q t : Nat} (hd : o.dst = some d) (hn : d < c.nt) (hop : o.op = .fieldAddr s x i) (hf : FieldAt c.P s i off) (hx : st.ev x = .rptr t g e p q) : Stp c o st (st.put d (.rptr t g e p (q + off))) :=
  Stp.val hd hn fun S at_ a w hr => by
    have h1 := hr.ev x
    rw [hx, VR] at h1
    obtain ⟨b, m, cp, h2, h3⟩ := h1
    refine ⟨_, by simp only [execOp, hop, h3, hf.run, Sem.run_bind, Sem.run_pure, Result.andThen]; rfl, ?_⟩
    rw [VR]
    exact ⟨b, m, cp, h2, by rw [add_plain', Nat.add_assoc]⟩
theorem Stp.fieldRef {s i off : Nat} {x : Operand} {l l' : List V} (hd : o.dst = some d) (hn : d < c.nt) (hop : o.op = .fieldAddr s x i) (hf : FieldAt c.P s i off) (hx : st.ev x = .ref l) (hl : l.drop off = l') : Stp c o st (st.put d (.ref l')) :=
  Stp.val hd hn fun S at_ a w hr => by
    have h1 := hr.ev x
    rw [hx, VR] at h1
    obtain ⟨ad, vals, h2, h3, h4, h5⟩ := h1
    refine ⟨_, by simp only [execOp, hop, h2, hf.run, Sem.run_bind, Sem.run_pure, Result.andThen]; rfl, ?_⟩
    subst hl
    rw [VR]
    refine ⟨_, vals.drop off, rfl, by rw [add_block]; exact h3, h4.drop off, fun j u hu => ?_⟩
    have : (ad.add off).add j = ad.add (off + j) := by
      unfold Addr.add
      by_cases h1 : off = 0 <;> by_cases h2 : j = 0 <;> simp [h1, h2, Nat.add_assoc]
    rw [this]
    exact h5 _ _ (by simpa using hu)
end pure
end Go.Proofs.YtjjpmbaddpiamaaDoor
