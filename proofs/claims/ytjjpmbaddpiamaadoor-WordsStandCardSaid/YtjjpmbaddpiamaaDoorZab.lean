import Derived.Test.YtjjpmbaddpiamaaDoorZ
import Derived.Test.YtjjpmbaddpiamaaDoorX
import Derived.WalkSpells
/-
  The abstract machine: 'xs == nil', the greater of two, negation, package-level tables.
-/
set_option linter.unusedSimpArgs false
set_option linter.unusedVariables false
namespace Go.Proofs.YtjjpmbaddpiamaaDoor
open Go.RowKit
section
variable {c : Ctx} {st : St} {o : Oper} {d : Nat}
theorem Stp.neg {t : TypeId} {x : Operand} {k : IntKind} {p : Int} (hd : o.dst = some d) (hn : d < c.nt) (hop : o.op = .unOp .neg t x) (hx : st.ev x = .int k p) : Stp c o st (st.put d (.int k (k.wrap (0 - p)))) :=
  Stp.val hd hn fun S at_ a w hr => by
    have h1 := hr.ev x
    rw [hx, VR, RL] at h1
    exact ⟨.int k (k.wrap (0 - p)), by simp [execOp, hop, h1, Op.unary, Op.intArith], by rw [VR, RL]⟩
theorem Stp.quoB {t t' : TypeId} {x y : Operand} {b1 b2 : BitVec 64} (hd : o.dst = some d) (hn : d < c.nt) (hop : o.op = .binOp .quo t x y t') (hx : st.ev x = .int .u64 (b1.toNat : Int)) (hy : st.ev y = .int .u64 (b2.toNat : Int)) (h : b2 ≠ 0) : Stp c o st (st.put d (.int .u64 ((b1 / b2).toNat : Nat))) :=
  Stp.val hd hn fun S at_ a w hr => by
    have h1 := hr.ev x
    have h2 := hr.ev y
    rw [hx, VR, RL] at h1
    rw [hy, VR, RL] at h2
    have h0 : ¬ (b2.toNat : Int) = 0 := fun h3 => h (BitVec.eq_of_toNat_eq (by simpa using h3))
    have h3 : IntKind.u64.wrap ((b1.toNat : Int).tdiv (b2.toNat : Int)) = ((b1 / b2).toNat : Int) := by
      rw [show ((b1.toNat : Int).tdiv (b2.toNat : Int)) = ((b1 / b2).toNat : Int) from by rw [BitVec.toNat_udiv, Int.tdiv_eq_ediv_of_nonneg (by omega), Int.natCast_ediv]]
      exact wrapN _
    have h0' : ¬ b2.toNat = 0 := by omega
    exact ⟨.int .u64 (IntKind.u64.wrap ((b1.toNat : Int).tdiv (b2.toNat : Int))), by simp only [execOp, hop, h1, h2, eqGuard, binOp, Op.intDiv]; simp [h0, h0'], by rw [VR, RL, h3]⟩
theorem Stp.remB {t t' : TypeId} {x y : Operand} {b1 b2 : BitVec 64} (hd : o.dst = some d) (hn : d < c.nt) (hop : o.op = .binOp .rem t x y t') (hx : st.ev x = .int .u64 (b1.toNat : Int)) (hy : st.ev y = .int .u64 (b2.toNat : Int)) (h : b2 ≠ 0) : Stp c o st (st.put d (.int .u64 ((b1 % b2).toNat : Nat))) :=
  Stp.val hd hn fun S at_ a w hr => by
    have h1 := hr.ev x
    have h2 := hr.ev y
    rw [hx, VR, RL] at h1
    rw [hy, VR, RL] at h2
    have h0 : ¬ (b2.toNat : Int) = 0 := fun h3 => h (BitVec.eq_of_toNat_eq (by simpa using h3))
    have h3 : ((b1.toNat : Int).tmod (b2.toNat : Int)) = ((b1 % b2).toNat : Int) := by rw [BitVec.toNat_umod, Int.tmod_eq_emod_of_nonneg (by omega), Int.natCast_emod]
    have h0' : ¬ b2.toNat = 0 := by omega
    exact ⟨.int .u64 ((b1.toNat : Int).tmod (b2.toNat : Int)), by simp only [execOp, hop, h1, h2, eqGuard, binOp, Op.intDiv]; simp [h0, h0'], by rw [VR, RL, h3]⟩
theorem Stp.maxI {t u : TypeId} {x y : Operand} {k : IntKind} {p q : Int} (hd : o.dst = some d) (hn : d < c.nt) (hop : o.op = .call { callee := .builtin .max, args := #[x, y], argTypes := #[t, u] }) (hx : st.ev x = .int k p) (hy : st.ev y = .int k q) : Stp c o st (st.put d (.int k (if p < q then q else p))) :=
  Stp.val hd hn fun S at_ a w hr => by
    have h1 := hr.ev x
    have h2 := hr.ev y
    rw [hx, VR, RL] at h1
    rw [hy, VR, RL] at h2
    exact ⟨.int k (if p < q then q else p), by simp [execOp, hop, resolve, invoke, builtin, h1, h2, Builtin.max_, Builtin.max2], by rw [VR, RL]⟩
/-- A slice held against nil: of an empty one nothing is told. -/
theorem Tr.eqNil {ops : Array Oper} {rest : List Oper} {Q : Exit → Act → World → Prop} {t t' e : TypeId} {x : Operand} {xs : List V} (hg : o.guard = none) (hd : o.dst = some d) (hn : d < c.nt) (hop : o.op = .binOp .eql t x (.const (.slice none 0 0)) t') (ht : c.P.underlying t = some (.slice e)) (hx : st.ev x = .sl e xs)
    (h : ∀ b, (b = true → xs = []) → Tr c ⟨upd st.env d (.bool b), st.obj, st.gen⟩ (wpListIn (Fn c.frs.rd) 0 c.P ops Q rest)) : Tr c st (wpListIn (Fn c.frs.rd) 0 c.P ops Q (o :: rest)) :=
  fun S at_ a w hr => wpListIn_plain hg fun K hK => by
    have h1 := hr.ev x
    rw [hx, VR, RL] at h1
    obtain ⟨A, cp, h2, h3, h4⟩ := h1
    have hrun : (execOp a.eval o).run c.P w = .ok (.value (.bool A.isNone)) w := by
      have h5 : (Op.equal t (.slice A xs.length cp) (.slice none 0 0)).run c.P w = .ok A.isNone w := by
        simp [Op.equal, Op.maxDepth, Lib.run_equalIn_slice_nil w 9999 t e A xs.length cp 0 0 ht]
      have h6 : a.eval (.const (.slice none 0 0)) = .slice none 0 0 := rfl
      simp [execOp, hop, h2, h6, eqGuard, binOp, h5, Result.andThen]
    refine wpIn_of_run (not_defer_of_value hrun) hrun ?_
    rw [Oper.uponIn_value, hd]
    refine hK _ _ (h A.isNone (fun hb => ?_) S at_ _ w (hr.put hn (by rw [VR, RL])))
    rcases h4 with h4 | ⟨ad, rfl, _⟩
    · exact h4
    · simp at hb
/-- A table's cell. -/
theorem Stp.idxGlob {t e gl n : Nat} {y : Operand} {k : IntKind} {i : Int} {z : Value} {bytes : Nat} (hd : o.dst = some d) (hn : d < c.nt) (hop : o.op = .indexAddr t (.global gl) y) (ht : c.P.underlying t = some (.array n e)) (hi : TI c.P e z 1 bytes)
    (hy : st.ev y = .int k i) (h0 : 0 ≤ i) (hlt : i < n) : Stp c o st (st.put d (.any (.pointer (some ⟨gl, i.toNat, none⟩)))) :=
  Stp.val hd hn fun S at_ a w hr => by
    have h2 := hr.ev y
    rw [hy, VR, RL] at h2
    have h1 : a.eval (.global gl) = .pointer (some ⟨gl, 0, none⟩) := rfl
    refine ⟨.pointer (some ⟨gl, i.toNat, none⟩), ?_, ?_⟩
    · simp [execOp, hop, h1, h2, Instr.indexAt, run_underlying ht, asIntOf, h0, hlt, hi.sizeOf, Instr.sureAddr, add_plain']
    · rw [VR, RL]; exact ⟨rfl, rfl⟩
theorem Stp.loadGlob {ty : TypeId} {x : Operand} {ad : Addr} {v : Value} {u : V} (hd : o.dst = some d) (hn : d < c.nt) (hop : o.op = .load ty x) (ht : IsLeaf c.P ty) (hx : st.ev x = .any (.pointer (some ad))) (hv : (ad, v) ∈ globTab) (hu : cv v = u) : Stp c o st (st.put d u) :=
  Stp.val hd hn fun S at_ a w hr => by
    have h1 := hr.ev x
    rw [hx, VR, RL] at h1
    have hcell := hr.globs.1 (ad, v) hv
    exact ⟨v, by simp only [execOp, hop, h1.1, load_leaf_run ht hcell, Sem.run_bind, Sem.run_pure, Result.andThen], by rw [← hu]; exact VR_cv v⟩
end
section
variable {P : Program} {w0 : World} {S0 : Nat → Prop} {nt : Nat} {frs : Frs} {e : Nat → V} {ob : Nat → Nat → Ob} {g : Nat} {Q : Exit → Act → World → Prop} {ops : Array Oper} {rest : List Oper} {d : Nat} {ty : TypeId} {pos : String} {aft : Array Edge} {m : Md}
theorem p_eqNil {t t' el : TypeId} {x : Operand} {xs : List V} (hm : m = .lex := by exact rfl) (hn : d < nt := by decide) [ht : SlC P t el] (hx : evE e x = .sl el xs := by simp (decide := true) only [evE, upd, cv, args0, argsFrom, List.length_map, ↓reduceIte, hE] <;> rfl) (h : ∀ b, (b = true → xs = []) → Wk .lex ⟨P, w0, S0, nt, frs⟩ ops Q ⟨upd e d (.bool b), ob, g⟩ rest) : Wk m ⟨P, w0, S0, nt, frs⟩ ops Q ⟨e, ob, g⟩ (⟨some d, .binOp .eql t x (.const (.slice none 0 0)) t', ty, pos, aft, none⟩ :: rest) := by
  subst hm
  exact Tr.eqNil (st := ⟨e, ob, g⟩) rfl rfl hn rfl ht.h ((evE_eq e ob g x).trans hx) h
theorem p_neg {t : TypeId} {x : Operand} {k : IntKind} {p : Int} (hn : d < nt := by decide) (hx : evE e x = .int k p := by simp (decide := true) only [evE, upd, cv, args0, argsFrom, List.length_map, ↓reduceIte, hE] <;> rfl) (h : Wk (m.log ⟨some (d, .int k (k.wrap (0 - p))), [], []⟩) ⟨P, w0, S0, nt, frs⟩ ops Q ⟨upd e d (.int k (k.wrap (0 - p))), ob, g⟩ rest) : Wk m ⟨P, w0, S0, nt, frs⟩ ops Q ⟨e, ob, g⟩ (⟨some d, .unOp .neg t x, ty, pos, aft, none⟩ :: rest) :=
  Wk.op (Loc.plain rfl rfl fun st' hv' _ _ => Stp.neg (st := st') rfl hn rfl ((hv' x (by simp [Op.operands, Call.operands])).trans ((evE_eq e ob g x).trans hx))) h
theorem p_shrB {t t' : TypeId} {x y : Operand} {k' : IntKind} {p q : Int} {b1 : BitVec 64} (hn : d < nt := by decide) (hx : evE e x = .int .u64 p := by simp (decide := true) only [evE, upd, cv, args0, argsFrom, List.length_map, ↓reduceIte, hE] <;> rfl) (hy : evE e y = .int k' q := by simp (decide := true) only [evE, upd, cv, args0, argsFrom, List.length_map, ↓reduceIte, hE] <;> rfl) (hp : p = (b1.toNat : Int) := by first | exact rfl | exact bvLit (by decide) (by decide)) (n : Nat) (hq : q = (n : Int) := by exact rfl) (h : Wk (m.log ⟨some (d, .int .u64 ((b1 >>> n).toNat : Nat)), [], []⟩) ⟨P, w0, S0, nt, frs⟩ ops Q ⟨upd e d (.int .u64 ((b1 >>> n).toNat : Nat)), ob, g⟩ rest) : Wk m ⟨P, w0, S0, nt, frs⟩ ops Q ⟨e, ob, g⟩ (⟨some d, .binOp .shr t x y t', ty, pos, aft, none⟩ :: rest) := by
  subst hp; subst hq
  refine p_shr hn hx hy (by omega) ?_ h
  congr 1
  have hb := b1.isLt
  rw [BitVec.toNat_ushiftRight, Nat.shiftRight_eq_div_pow, Int.fdiv_eq_ediv_of_nonneg _ (Int.le_of_lt (Int.pow_pos (by decide))), Int.toNat_natCast]
  have h2 : ((2 : Int) ^ min n IntKind.u64.bits) = ((2 ^ min n 64 : Nat) : Int) := by rw [Int.natCast_pow]; rfl
  rw [h2, ← Int.natCast_ediv]
  congr 1
  by_cases h3 : n ≤ 64
  · rw [Nat.min_eq_left h3]
  · rw [Nat.min_eq_right (by omega), Nat.div_eq_of_lt hb, Nat.div_eq_of_lt (Nat.lt_of_lt_of_le hb (Nat.pow_le_pow_right (by decide) (by omega)))]
theorem p_shlB {t t' : TypeId} {x y : Operand} {k' : IntKind} {p q : Int} {b1 : BitVec 64} (hn : d < nt := by decide) (hx : evE e x = .int .u64 p := by simp (decide := true) only [evE, upd, cv, args0, argsFrom, List.length_map, ↓reduceIte, hE] <;> rfl) (hy : evE e y = .int k' q := by simp (decide := true) only [evE, upd, cv, args0, argsFrom, List.length_map, ↓reduceIte, hE] <;> rfl) (hp : p = (b1.toNat : Int) := by first | exact rfl | exact bvLit (by decide) (by decide)) (n : Nat) (hq : q = (n : Int) := by exact rfl) (h : Wk (m.log ⟨some (d, .int .u64 ((b1 <<< n).toNat : Nat)), [], []⟩) ⟨P, w0, S0, nt, frs⟩ ops Q ⟨upd e d (.int .u64 ((b1 <<< n).toNat : Nat)), ob, g⟩ rest) : Wk m ⟨P, w0, S0, nt, frs⟩ ops Q ⟨e, ob, g⟩ (⟨some d, .binOp .shl t x y t', ty, pos, aft, none⟩ :: rest) := by
  subst hp; subst hq
  refine p_shl hn hx hy (by omega) ?_ h
  congr 1
  have hb := b1.isLt
  have h2 : ((2 : Int) ^ min n IntKind.u64.bits) = ((2 ^ min n 64 : Nat) : Int) := by rw [Int.natCast_pow]; rfl
  rw [Int.toNat_natCast, h2, ← Int.natCast_mul, BitVec.toNat_shiftLeft, Nat.shiftLeft_eq]
  simp only [IntKind.wrap, IntKind.signed, IntKind.bits, Bool.false_and, Bool.false_eq_true, ↓reduceIte]
  by_cases h3 : n ≤ 64
  · rw [Nat.min_eq_left h3]; omega
  · rw [Nat.min_eq_right (by omega)]
    have h4 : (2 : Nat) ^ n = 2 ^ 64 * 2 ^ (n - 64) := by rw [← Nat.pow_add]; congr 1; omega
    have h5 : b1.toNat * 2 ^ n % 2 ^ 64 = 0 := by rw [h4, ← Nat.mul_assoc, Nat.mul_comm b1.toNat, Nat.mul_assoc, Nat.mul_mod_right]
    rw [h5]; omega
theorem p_negB {t : TypeId} {x : Operand} {p : Int} {b1 : BitVec 64} (hn : d < nt := by decide) (hx : evE e x = .int .u64 p := by simp (decide := true) only [evE, upd, cv, args0, argsFrom, List.length_map, ↓reduceIte, hE] <;> rfl) (hp : p = (b1.toNat : Int) := by first | exact rfl | exact bvLit (by decide) (by decide)) (h : Wk (m.log ⟨some (d, .int .u64 ((-b1).toNat : Nat)), [], []⟩) ⟨P, w0, S0, nt, frs⟩ ops Q ⟨upd e d (.int .u64 ((-b1).toNat : Nat)), ob, g⟩ rest) : Wk m ⟨P, w0, S0, nt, frs⟩ ops Q ⟨e, ob, g⟩ (⟨some d, .unOp .neg t x, ty, pos, aft, none⟩ :: rest) := by
  subst hp
  have h1 : IntKind.u64.wrap (0 - (b1.toNat : Int)) = (((-b1).toNat : Nat) : Int) := by
    have hb := b1.isLt
    simp only [IntKind.wrap, IntKind.signed, IntKind.bits, Bool.false_and, Bool.false_eq_true, ↓reduceIte, BitVec.toNat_neg]
    omega
  refine p_neg hn hx ?_
  rw [h1]; exact h
theorem p_quoB {t t' : TypeId} {x y : Operand} {p q : Int} {b1 b2 : BitVec 64} (hn : d < nt := by decide) (hx : evE e x = .int .u64 p := by simp (decide := true) only [evE, upd, cv, args0, argsFrom, List.length_map, ↓reduceIte, hE] <;> rfl) (hy : evE e y = .int .u64 q := by simp (decide := true) only [evE, upd, cv, args0, argsFrom, List.length_map, ↓reduceIte, hE] <;> rfl) (hp : p = (b1.toNat : Int) := by first | exact rfl | exact bvLit (by decide) (by decide)) (hq : q = (b2.toNat : Int) := by first | exact rfl | exact bvLit (by decide) (by decide)) (h0 : b2 ≠ 0) (h : Wk (m.log ⟨some (d, .int .u64 ((b1 / b2).toNat : Nat)), [], []⟩) ⟨P, w0, S0, nt, frs⟩ ops Q ⟨upd e d (.int .u64 ((b1 / b2).toNat : Nat)), ob, g⟩ rest) : Wk m ⟨P, w0, S0, nt, frs⟩ ops Q ⟨e, ob, g⟩ (⟨some d, .binOp .quo t x y t', ty, pos, aft, none⟩ :: rest) := by
  subst hp; subst hq
  exact Wk.op (Loc.plain rfl rfl fun st' hv' _ _ => Stp.quoB (st := st') rfl hn rfl ((hv' x (by simp [Op.operands])).trans ((evE_eq e ob g x).trans hx)) ((hv' y (by simp [Op.operands])).trans ((evE_eq e ob g y).trans hy)) h0) h
theorem p_remB {t t' : TypeId} {x y : Operand} {p q : Int} {b1 b2 : BitVec 64} (hn : d < nt := by decide) (hx : evE e x = .int .u64 p := by simp (decide := true) only [evE, upd, cv, args0, argsFrom, List.length_map, ↓reduceIte, hE] <;> rfl) (hy : evE e y = .int .u64 q := by simp (decide := true) only [evE, upd, cv, args0, argsFrom, List.length_map, ↓reduceIte, hE] <;> rfl) (hp : p = (b1.toNat : Int) := by first | exact rfl | exact bvLit (by decide) (by decide)) (hq : q = (b2.toNat : Int) := by first | exact rfl | exact bvLit (by decide) (by decide)) (h0 : b2 ≠ 0) (h : Wk (m.log ⟨some (d, .int .u64 ((b1 % b2).toNat : Nat)), [], []⟩) ⟨P, w0, S0, nt, frs⟩ ops Q ⟨upd e d (.int .u64 ((b1 % b2).toNat : Nat)), ob, g⟩ rest) : Wk m ⟨P, w0, S0, nt, frs⟩ ops Q ⟨e, ob, g⟩ (⟨some d, .binOp .rem t x y t', ty, pos, aft, none⟩ :: rest) := by
  subst hp; subst hq
  exact Wk.op (Loc.plain rfl rfl fun st' hv' _ _ => Stp.remB (st := st') rfl hn rfl ((hv' x (by simp [Op.operands])).trans ((evE_eq e ob g x).trans hx)) ((hv' y (by simp [Op.operands])).trans ((evE_eq e ob g y).trans hy)) h0) h
theorem p_max {t u : TypeId} {x y : Operand} {k : IntKind} {p q : Int} (hn : d < nt := by decide) (hx : evE e x = .int k p := by simp (decide := true) only [evE, upd, cv, args0, argsFrom, List.length_map, ↓reduceIte, hE] <;> rfl) (hy : evE e y = .int k q := by simp (decide := true) only [evE, upd, cv, args0, argsFrom, List.length_map, ↓reduceIte, hE] <;> rfl) (h : Wk (m.log ⟨some (d, .int k (if p < q then q else p)), [], []⟩) ⟨P, w0, S0, nt, frs⟩ ops Q ⟨upd e d (.int k (if p < q then q else p)), ob, g⟩ rest) : Wk m ⟨P, w0, S0, nt, frs⟩ ops Q ⟨e, ob, g⟩ (⟨some d, .call { callee := .builtin .max, args := #[x, y], argTypes := #[t, u] }, ty, pos, aft, none⟩ :: rest) :=
  Wk.op (Loc.plain rfl rfl fun st' hv' _ _ => Stp.maxI (st := st') rfl hn rfl ((hv' x (by simp [Op.operands, Call.operands])).trans ((evE_eq e ob g x).trans hx)) ((hv' y (by simp [Op.operands, Call.operands])).trans ((evE_eq e ob g y).trans hy))) h
theorem p_idxGlob {t el gl n : Nat} {y : Operand} {k : IntKind} {i : Int} {z : Value} {bytes : Nat} (ht : P.underlying t = some (.array n el)) (hn : d < nt := by decide) [hi : TIC P el z 1 bytes] (hy : evE e y = .int k i := by simp (decide := true) only [evE, upd, cv, args0, argsFrom, List.length_map, ↓reduceIte, hE] <;> rfl) (h0 : 0 ≤ i) (hlt : i < n) (h : Wk (m.log ⟨some (d, .any (.pointer (some ⟨gl, i.toNat, none⟩))), [], []⟩) ⟨P, w0, S0, nt, frs⟩ ops Q ⟨upd e d (.any (.pointer (some ⟨gl, i.toNat, none⟩))), ob, g⟩ rest) : Wk m ⟨P, w0, S0, nt, frs⟩ ops Q ⟨e, ob, g⟩ (⟨some d, .indexAddr t (.global gl) y, ty, pos, aft, none⟩ :: rest) :=
  Wk.op (Loc.plain rfl rfl fun st' hv' _ _ => Stp.idxGlob (st := st') rfl hn rfl ht hi.h ((hv' y (by simp [Op.operands, Call.operands])).trans ((evE_eq e ob g y).trans hy)) h0 hlt) h
theorem p_loadGlob {t : TypeId} {x : Operand} {ad : Addr} {v : Value} {u : V} (hn : d < nt := by decide) [ht : LeafC P t] (hx : evE e x = .any (.pointer (some ad)) := by simp (decide := true) only [evE, upd, cv, args0, argsFrom, List.length_map, ↓reduceIte, hE] <;> rfl) (hv : (ad, v) ∈ globTab) (hu : cv v = u := by exact rfl) (h : Wk (m.log ⟨some (d, u), [], []⟩) ⟨P, w0, S0, nt, frs⟩ ops Q ⟨upd e d u, ob, g⟩ rest) : Wk m ⟨P, w0, S0, nt, frs⟩ ops Q ⟨e, ob, g⟩ (⟨some d, .load t x, ty, pos, aft, none⟩ :: rest) :=
  Wk.op (Loc.plain rfl rfl fun st' hv' _ _ => Stp.loadGlob (st := st') rfl hn rfl ht.h ((hv' x (by simp [Op.operands, Call.operands])).trans ((evE_eq e ob g x).trans hx)) hv hu) h
theorem res_cA {s ty g1 d1 t size bytes : Nat} {cs : List V} {z : Value} [ha : AggC P ty] [hi : TIC P ty z size bytes] (h1 : e s = .ptr g1 d1 0 := by exact eV_) (h2 : ob g1 d1 = .cells t cs := by exact oB_) (hl : cs.length = size := by exact rfl) (hr : cs.all V.isRL = true := by exact rfl) : (⟨e, ob, g⟩ : St).res P (.cell s ty) (.agg cs) :=
  ⟨g1, d1, t, cs, h1, h2, .inr ⟨ha.h, z, size, bytes, hi.h, hl, hr, rfl⟩⟩
theorem res_cL {s ty g1 d1 t : Nat} {cs : List V} {u : V} [ha : LeafC P ty] (h1 : e s = .ptr g1 d1 0 := by exact eV_) (h2 : ob g1 d1 = .cells t cs := by exact oB_) (hl : cs[0]? = some u := by exact rfl) (hr : u.isRL = true := by exact rfl) : (⟨e, ob, g⟩ : St).res P (.cell s ty) u :=
  ⟨g1, d1, t, cs, h1, h2, .inl ⟨ha.h, u, hl, hr, rfl⟩⟩
theorem p_r1 {dfs : List Dfr} {rd : Option Nat} {fn : Func} {Post : V → Prop} {x0 : ResultVar} {v0 : V} (hres : fn.results = #[x0] := by exact rfl) (h0 : (⟨e, ob, g⟩ : St).res P x0 v0 := by first | exact ⟨eV_, rfl⟩ | exact res_cA | exact res_cL) (hp : Post v0) (htup : ∀ l, v0 ≠ .tup l := by intro l h; cases h) (hmk : dfs.all Dfr.isMark = true := by exact rfl) : Tr ⟨P, w0, S0, nt, ⟨[], dfs, rd⟩⟩ ⟨e, ob, g⟩ (Ret P fn S0 w0 Post .ret) := Tr.ret1 hres h0 hp htup hmk
theorem p_r2 {dfs : List Dfr} {rd : Option Nat} {fn : Func} {Post : V → Prop} {x0 x1 : ResultVar} {v0 v1 : V} (hres : fn.results = #[x0, x1] := by exact rfl) (h0 : (⟨e, ob, g⟩ : St).res P x0 v0 := by first | exact ⟨eV_, rfl⟩ | exact res_cA | exact res_cL) (h1 : (⟨e, ob, g⟩ : St).res P x1 v1 := by first | exact ⟨eV_, rfl⟩ | exact res_cA | exact res_cL) (hp : Post (.tup [v0, v1])) (hmk : dfs.all Dfr.isMark = true := by exact rfl) : Tr ⟨P, w0, S0, nt, ⟨[], dfs, rd⟩⟩ ⟨e, ob, g⟩ (Ret P fn S0 w0 Post .ret) :=
  Tr.rets (xs := [x0, x1]) (vs := [v0, v1]) (by rw [hres]) rfl (by simp) (fun j r q hr hq => by
    obtain _ | _ | j := j
    · simp at hr hq; subst hr hq; exact h0
    · simp at hr hq; subst hr hq; exact h1
    · simp at hr) hp hmk
theorem p_r3 {dfs : List Dfr} {rd : Option Nat} {fn : Func} {Post : V → Prop} {x0 x1 x2 : ResultVar} {v0 v1 v2 : V} (hres : fn.results = #[x0, x1, x2] := by exact rfl) (h0 : (⟨e, ob, g⟩ : St).res P x0 v0 := by first | exact ⟨eV_, rfl⟩ | exact res_cA | exact res_cL) (h1 : (⟨e, ob, g⟩ : St).res P x1 v1 := by first | exact ⟨eV_, rfl⟩ | exact res_cA | exact res_cL) (h2 : (⟨e, ob, g⟩ : St).res P x2 v2 := by first | exact ⟨eV_, rfl⟩ | exact res_cA | exact res_cL) (hp : Post (.tup [v0, v1, v2])) (hmk : dfs.all Dfr.isMark = true := by exact rfl) : Tr ⟨P, w0, S0, nt, ⟨[], dfs, rd⟩⟩ ⟨e, ob, g⟩ (Ret P fn S0 w0 Post .ret) :=
  Tr.rets (xs := [x0, x1, x2]) (vs := [v0, v1, v2]) (by rw [hres]) rfl (by simp) (fun j r q hr hq => by
    obtain _ | _ | _ | j := j
    · simp at hr hq; subst hr hq; exact h0
    · simp at hr hq; subst hr hq; exact h1
    · simp at hr hq; subst hr hq; exact h2
    · simp at hr) hp hmk
theorem p_r4 {dfs : List Dfr} {rd : Option Nat} {fn : Func} {Post : V → Prop} {x0 x1 x2 x3 : ResultVar} {v0 v1 v2 v3 : V} (hres : fn.results = #[x0, x1, x2, x3] := by exact rfl) (h0 : (⟨e, ob, g⟩ : St).res P x0 v0 := by first | exact ⟨eV_, rfl⟩ | exact res_cA | exact res_cL) (h1 : (⟨e, ob, g⟩ : St).res P x1 v1 := by first | exact ⟨eV_, rfl⟩ | exact res_cA | exact res_cL) (h2 : (⟨e, ob, g⟩ : St).res P x2 v2 := by first | exact ⟨eV_, rfl⟩ | exact res_cA | exact res_cL) (h3 : (⟨e, ob, g⟩ : St).res P x3 v3 := by first | exact ⟨eV_, rfl⟩ | exact res_cA | exact res_cL) (hp : Post (.tup [v0, v1, v2, v3])) (hmk : dfs.all Dfr.isMark = true := by exact rfl) : Tr ⟨P, w0, S0, nt, ⟨[], dfs, rd⟩⟩ ⟨e, ob, g⟩ (Ret P fn S0 w0 Post .ret) :=
  Tr.rets (xs := [x0, x1, x2, x3]) (vs := [v0, v1, v2, v3]) (by rw [hres]) rfl (by simp) (fun j r q hr hq => by
    obtain _ | _ | _ | _ | j := j
    · simp at hr hq; subst hr hq; exact h0
    · simp at hr hq; subst hr hq; exact h1
    · simp at hr hq; subst hr hq; exact h2
    · simp at hr hq; subst hr hq; exact h3
    · simp at hr) hp hmk
/-- What a loop leaves as it is. -/
def valsE (e : Nat → V) : List Nat → List V
  | [] => []
  | s :: l => e s :: valsE e l
def valsO (o : Nat → Nat → Ob) : List (Nat × Nat) → List Ob
  | [] => []
  | p :: l => o p.1 p.2 :: valsO o l
theorem p_loopK {body : Code} {vs : List V} {us : List Ob} (ks : List Nat) (os : List (Nat × Nat)) (I : St → Prop) (μ : St → Nat) (h0 : I ⟨e, ob, g⟩) (hround : ∀ e' ob' g', valsE e' ks = vs → valsO ob' os = us → I ⟨e', ob', g'⟩ → TrC ⟨P, w0, S0, nt, frs⟩ ⟨e', ob', g'⟩ body (Exit.then (Some ⟨P, w0, S0, nt, frs⟩ fun st' => (valsE st'.env ks = vs ∧ valsO st'.obj os = us) ∧ I st' ∧ μ st' < μ ⟨e', ob', g'⟩) Q)) (hvs : valsE e ks = vs := by simp (decide := true) only [valsE, evE, upd, cv, args0, argsFrom, List.length_map, ↓reduceIte, hE] <;> rfl) (hus : valsO ob os = us := by simp (decide := true) only [valsO, updO, upd, true_and, and_true, false_and, and_false, ↓reduceIte, hE] <;> rfl) : TrC ⟨P, w0, S0, nt, frs⟩ ⟨e, ob, g⟩ (.loop body) Q := by
  refine p_loop (fun st => (valsE st.env ks = vs ∧ valsO st.obj os = us) ∧ I st) μ ⟨⟨hvs, hus⟩, h0⟩ fun e' ob' g' h => ?_
  have := hround e' ob' g' h.1.1 h.1.2 h.2
  simpa only [and_assoc] using this
/-- A loop whose body never comes to its end. -/
theorem p_once {body : Code} (h : TrC ⟨P, w0, S0, nt, frs⟩ ⟨e, ob, g⟩ body (Exit.then (Some ⟨P, w0, S0, nt, frs⟩ fun st' => st' = ⟨e, ob, g⟩ ∧ 0 < 0) Q)) : TrC ⟨P, w0, S0, nt, frs⟩ ⟨e, ob, g⟩ (.loop body) Q :=
  p_loop (fun st' => st' = ⟨e, ob, g⟩) (fun _ => 0) rfl fun e' ob' g' he => by
    cases he
    exact h
end
end Go.Proofs.YtjjpmbaddpiamaaDoor
/-
  The abstract machine: calls that work in place on one row and make objects of their own.
-/
set_option linter.unusedSimpArgs false
set_option linter.unusedVariables false
namespace Go.Proofs.YtjjpmbaddpiamaaDoor
open Go.RowKit
/-- What lies below a generation is as it was, but for one object. -/
def Low (g g1 d1 : Nat) (ob o : Nat → Nat → Ob) : Prop := ∀ g0 d0, g0 ≤ g → ¬ (g0 = g1 ∧ d0 = d1) → o g0 d0 = ob g0 d0
theorem Low.refl {g g1 d1 : Nat} {ob : Nat → Nat → Ob} : Low g g1 d1 ob ob := fun _ _ _ _ => rfl
theorem Low.up {g g1 d1 g2 d2 : Nat} {ob o : Nat → Nat → Ob} {v : Ob} (h : Low g g1 d1 ob o) (hg : g < g2) : Low g g1 d1 ob (updO o g2 d2 v) := fun g0 d0 h0 h1 => by
  rw [updO, if_neg (by omega)]; exact h g0 d0 h0 h1
theorem Low.row {g g1 d1 : Nat} {ob o : Nat → Nat → Ob} {v : Ob} (h : Low g g1 d1 ob o) : Low g g1 d1 ob (updO o g1 d1 v) := fun g0 d0 h0 h1 => by
  rw [updO, if_neg (by omega)]; exact h g0 d0 h0 h1
theorem Low.vals {g g1 d1 : Nat} {ob o : Nat → Nat → Ob} (h : Low g g1 d1 ob o) : ∀ {os : List (Nat × Nat)} {us : List Ob}, (∀ k ∈ os, k.1 ≤ g ∧ ¬ (k.1 = g1 ∧ k.2 = d1)) → valsO ob os = us → valsO o os = us
  | [], _, _, hv => hv
  | k :: os, us, hk, hv => by
    subst hv
    obtain ⟨h1, h2⟩ := hk k (by simp)
    rw [valsO, valsO, h k.1 k.2 h1 h2, Low.vals h (os := os) (fun k' hk' => hk k' (by simp [hk'])) rfl]
def FnE (P : Program) (f : FuncId) (args : List V) (g1 d1 : Nat) (row row' : Ob) (r : V) : Prop :=
  ∃ fn code nt, HasBody P f fn code ∧ fn.ntmps = nt ∧ args.length ≤ nt ∧ ∀ w0 S0 l ob g K, ob g1 d1 = row → g1 ≤ g → (∀ o g', g ≤ g' → Low g g1 d1 ob o → o g1 d1 = row' → K r o g') → TrC ⟨P, w0, S0, nt, ⟨l, [], none⟩⟩ ⟨args0 args, ob, g⟩ code (RetE ⟨P, w0, S0, nt, ⟨l, [], none⟩⟩ fn K)
theorem FnE.of {P : Program} {f : FuncId} {fn : Func} {code : Code} {nt : Nat} {args : List V} {g1 d1 : Nat} {row row' : Ob} {r : V} (hb : HasBody P f fn code) (hnt : fn.ntmps = nt) (hle : args.length ≤ nt)
    (h : ∀ w0 S0 l ob g K, ob g1 d1 = row → g1 ≤ g → (∀ o g', g ≤ g' → Low g g1 d1 ob o → o g1 d1 = row' → K r o g') → TrC ⟨P, w0, S0, nt, ⟨l, [], none⟩⟩ ⟨args0 args, ob, g⟩ code (RetE ⟨P, w0, S0, nt, ⟨l, [], none⟩⟩ fn K)) : FnE P f args g1 d1 row row' r := ⟨fn, code, nt, hb, hnt, hle, h⟩
section
variable {c : Ctx} {st : St}
/-- A call whose answer is a row of its own, as one step. -/
theorem Stp.callO {o : Oper} {d : Nat} {x : Operand} {f : FuncId} {fn : Func} {code : Code} {xs : Array Operand} {ts : Array TypeId} {vs : List V} {el : TypeId} {row : List V} {res : Nat → Nat → V} (dd : Nat) (hd : o.dst = some d) (hn : d < c.nt) (hop : o.op = .call { callee := .value x, args := xs, argTypes := ts })
    (hx : st.ev x = .fn f []) (hb : HasBody c.P f fn code) (hvs : xs.toList.map st.ev = vs) (hro : V.outs vs = true) (hf : FnO c.P f vs el row res) (hfr : st.obj st.gen dd = .none) : Stp c o st ⟨upd st.env d (res st.gen dd), updO st.obj st.gen dd (.row el row), st.gen⟩ := by
  intro S at_ a w hr next Q hk
  obtain ⟨arr, h1, hrun⟩ := call_run hr hop hx hb
  obtain rfl : arr = [] := by cases arr with | nil => rfl | cons => simp [VRs] at h1
  rw [List.append_nil] at hrun
  have hargs : VRs c.P w S (fun _ _ => none) vs (xs.toList.map a.eval) := by
    refine VRs.out vs _ hro (at_ := at_) ?_
    subst hvs
    generalize xs.toList = l
    induction l with
    | nil => simp [VRs]
    | cons y l ih => simp only [List.map_cons]; rw [VRs]; exact ⟨hr.ev y, ih⟩
  refine wpIn_enter hop hrun ?_
  refine (hf w S _ hr.globs hr.slt hargs).mono ?_
  rintro e w' ⟨v, rv, S', rfl, h1, h2, h3, ⟨flat, h4, h5⟩, h6, h7⟩
  rw [hd]
  have hr1 := hr.grow h1 h2 h3
  have hbase : c.w0.heap.size ≤ w.heap.size := hr.below.size
  have hr2 := hr1.newObj (d := dd) hfr (w' := w') (v := rv) (o := .row el row) rfl rfl rfl (Nat.le_refl _) (fun _ _ _ => rfl) (fun b hb => by
    obtain ⟨k1, k2, k3⟩ := h6 b hb
    refine ⟨by omega, k2, k3, fun g' d' v' hv' hl' he => ?_⟩
    have := hr.own g' d' v' b hv' hl' he
    omega) rfl ⟨flat, ownsRow_base h4 hbase, h5⟩
  exact hk S' _ _ w' (hr2.put hn (h7 _ _ _ (by simp [updA])))
end
section
variable {P : Program} {w0 : World} {S0 : Nat → Prop} {nt : Nat} {frs : Frs} {e : Nat → V} {ob : Nat → Nat → Ob} {g : Nat} {Q : Exit → Act → World → Prop} {ops : Array Oper} {rest : List Oper} {d : Nat} {ty : TypeId} {pos : String} {aft : Array Edge} {m : Md}
theorem p_callOD (dd : Nat) {x : Operand} {f : FuncId} {fn : Func} {code : Code} {xs : List Operand} {ts : Array TypeId} {vs : List V} {el : TypeId} {row : List V} {res : Nat → Nat → V} {v : V} (hn : d < nt := by decide) (hx : evE e x = .fn f [] := by simp (decide := true) only [evE, upd, cv, args0, argsFrom, List.length_map, ↓reduceIte, hE] <;> rfl) (hb : HasBody P f fn code) (hvs : xs.map (evE e) = vs := by simp (decide := true) only [List.map_cons, List.map_nil, List.cons_append, List.nil_append, List.append_nil, evE, upd, updO, cv, args0, List.getElem?_cons_zero, List.getElem?_cons_succ, Option.getD_some, List.length_map, ↓reduceIte, hE] <;> rfl) (hro : V.outs vs = true := by exact rfl) (hf : FnO P f vs el row res) (hfr : ob g dd = .none := by repeat (first | exact hf _ | with_reducible rfl | rw [updO_off (by decide)])) (hres : res g dd = v := by exact rfl)
    (h : Wk (m.log ⟨some (d, v), [(g, dd, .row el row)], [(g, dd)]⟩) ⟨P, w0, S0, nt, frs⟩ ops Q ⟨upd e d v, updO ob g dd (.row el row), g⟩ rest) : Wk m ⟨P, w0, S0, nt, frs⟩ ops Q ⟨e, ob, g⟩ (⟨some d, .call { callee := .value x, args := xs.toArray, argTypes := ts }, ty, pos, aft, none⟩ :: rest) := by
  subst hres
  refine Wk.op (st := ⟨e, ob, g⟩) (x := ⟨some (d, res g dd), [(g, dd, .row el row)], [(g, dd)]⟩) (Loc.plain rfl rfl fun st' hv' ho' hg' => ?_) h
  have hg2 : st'.gen = g := hg'
  have := Stp.callO (c := ⟨P, w0, S0, nt, frs⟩) (st := st') (o := ⟨some d, .call { callee := .value x, args := xs.toArray, argTypes := ts }, ty, pos, aft, none⟩) dd rfl hn rfl ((hv' x (by simp [Op.operands, Call.operands])).trans ((evE_eq e ob g x).trans hx)) hb (vs := vs) (by rw [← hvs]; exact ev_list (op := .call { callee := .value x, args := xs.toArray, argTypes := ts }) hv' (fun y hy => by simp [Op.operands, Call.operands]; exact .inr hy)) hro hf ((ho' (g, dd) (by simp)).trans hfr |> fun h => by rw [hg2]; exact h)
  rw [hg2] at this
  have he : (⟨upd st'.env d (res g dd), updO st'.obj g dd (.row el row), g⟩ : St) = Eff.put ⟨some (d, res g dd), [(g, dd, .row el row)], [(g, dd)]⟩ st' := by
    simp only [Eff.put, putW, List.foldl_cons, List.foldl_nil, hg2]
  rw [← he]; exact this
theorem p_callE (os : List (Nat × Nat)) {x : Operand} {f : FuncId} {xs : List Operand} {ts : Array TypeId} {args : List V} {g1 d1 : Nat} {row row' : Ob} {r : V} {us : List Ob} (hm : m = .lex := by exact rfl) (hn : d < nt := by decide) (hx : evE e x = .fn f [] := by simp (decide := true) only [evE, upd, cv, args0, argsFrom, List.length_map, ↓reduceIte, hE] <;> rfl) (hus : xs.map (evE e) = args := by simp (decide := true) only [List.map_cons, List.map_nil, List.cons_append, List.nil_append, List.append_nil, evE, upd, updO, cv, args0, List.getElem?_cons_zero, List.getElem?_cons_succ, Option.getD_some, List.length_map, ↓reduceIte, hE] <;> rfl)
    (hf : FnE P f args g1 d1 row row' r) (hrow : ob g1 d1 = row := by simp (decide := true) only [updO, upd, true_and, and_true, false_and, and_false, ↓reduceIte, hE] <;> first | rfl | assumption) (hg : g1 ≤ g) (hos : ∀ k ∈ os, k.1 ≤ g ∧ ¬ (k.1 = g1 ∧ k.2 = d1)) (hv : valsO ob os = us := by simp (decide := true) only [valsO, updO, upd, true_and, and_true, false_and, and_false, ↓reduceIte, hE] <;> rfl)
    (h : ∀ o g', g ≤ g' → valsO o os = us → o g1 d1 = row' → Wk .lex ⟨P, w0, S0, nt, frs⟩ ops Q ⟨upd e d r, o, g'⟩ rest) : Wk m ⟨P, w0, S0, nt, frs⟩ ops Q ⟨e, ob, g⟩ (⟨some d, .call { callee := .value x, args := xs.toArray, argTypes := ts }, ty, pos, aft, none⟩ :: rest) := by
  obtain ⟨fn, code, nt', hb, hnt, hle, hbody⟩ := hf
  refine p_enter (cap := []) (args := args) hb hnt hm hn hx (by rw [List.append_nil]; exact hus) hle fun a0 => ?_
  exact hbody w0 S0 _ ob g _ hrow hg fun o g' hg' hlow hrow' => h o g' hg' (hlow.vals hos hv) hrow'
/-- The least number that an invariant holds with. -/
noncomputable def muN (I : Nat → St → Prop) (st : St) : Nat := open Classical in if h : ∃ n, I n st ∧ ∀ m, I m st → n ≤ m then Classical.choose h else 0
theorem least_is {p : Nat → Prop} : ∀ {n : Nat}, p n → ∃ k, p k ∧ ∀ m, p m → k ≤ m := by
  intro n
  induction n using Nat.strongRecOn with
  | _ n ih =>
    intro hn
    by_cases h : ∃ m, m < n ∧ p m
    · obtain ⟨m, hm, hp⟩ := h; exact ih m hm hp
    · exact ⟨n, hn, fun m hm => Nat.le_of_not_lt fun hlt => h ⟨m, hlt, hm⟩⟩
theorem muN_is {I : Nat → St → Prop} {n : Nat} {st : St} (h : I n st) : I (muN I st) st ∧ muN I st ≤ n := by
  have hx := least_is (p := fun n => I n st) h
  unfold muN
  rw [dif_pos hx]
  exact ⟨(Classical.choose_spec hx).1, (Classical.choose_spec hx).2 n h⟩
theorem loopN_next {I : Nat → St → Prop} {m n : Nat} {st : St} (h : I m st) (hlt : m < n) : (∃ m, I m st) ∧ muN I st < n := ⟨⟨m, h⟩, Nat.lt_of_le_of_lt (muN_is h).2 hlt⟩
/-- A loop whose rounds are numbered downwards. -/
theorem p_loopN {body : Code} {vs : List V} {us : List Ob} (ks : List Nat) (os : List (Nat × Nat)) (I : Nat → St → Prop) (n0 : Nat) (h0 : I n0 ⟨e, ob, g⟩) (hround : ∀ n e' ob' g', valsE e' ks = vs → valsO ob' os = us → I n ⟨e', ob', g'⟩ → TrC ⟨P, w0, S0, nt, frs⟩ ⟨e', ob', g'⟩ body (Exit.then (Some ⟨P, w0, S0, nt, frs⟩ fun st' => (valsE st'.env ks = vs ∧ valsO st'.obj os = us) ∧ (∃ m, I m st') ∧ muN I st' < n) Q)) (hvs : valsE e ks = vs := by simp (decide := true) only [valsE, evE, upd, cv, args0, argsFrom, List.length_map, ↓reduceIte, hE] <;> rfl) (hus : valsO ob os = us := by simp (decide := true) only [valsO, updO, upd, true_and, and_true, false_and, and_false, ↓reduceIte, hE] <;> rfl) : TrC ⟨P, w0, S0, nt, frs⟩ ⟨e, ob, g⟩ (.loop body) Q := by
  refine p_loop (fun st => (valsE st.env ks = vs ∧ valsO st.obj os = us) ∧ ∃ m, I m st) (muN I) ⟨⟨hvs, hus⟩, n0, h0⟩ fun e' ob' g' h => ?_
  obtain ⟨⟨h1, h2⟩, m, hm⟩ := h
  have := hround (muN I ⟨e', ob', g'⟩) e' ob' g' h1 h2 (muN_is hm).1
  simpa only [and_assoc] using this
end
end Go.Proofs.YtjjpmbaddpiamaaDoor
