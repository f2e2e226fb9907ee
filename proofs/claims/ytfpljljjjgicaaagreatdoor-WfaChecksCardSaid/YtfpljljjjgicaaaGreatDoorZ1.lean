/-
  The abstract machine: 'xs == nil', the greater of two, negation, package-level tables.
-/
import Derived.Test.YtfpljljjjgicaaaGreatDoorZ
import Derived.Test.YtfpljljjjgicaaaGreatDoorX
import Derived.WalkSpells
set_option linter.unusedSimpArgs false
set_option linter.unusedVariables false
namespace Go.Proofs.YtfpljljjjgicaaaGreatDoor
open Go.RowKit
section
variable {c : Ctx} {st : St} {o : Oper} {d : Nat}
theorem Stp.neg {t : TypeId} {x : Operand} {k : IntKind} {p : Int} (hd : o.dst = some d) (hn : d < c.nt) (hop : o.op = .unOp .neg t x) (hx : st.ev x = .int k p) : Stp c o st (st.put d (.int k (k.wrap (0 - p)))) :=
  Stp.val hd hn fun S at_ a w hr => by
    have h1 := hr.ev x
    rw [hx, VR, RL] at h1
    exact ⟨.int k (k.wrap (0 - p)), by simp [execOp, hop, h1, Op.unary, Op.intArith], by rw [VR, RL]⟩
theorem Stp.maxI {t u : TypeId} {x y : Operand} {k : IntKind} {p q : Int} (hd : o.dst = some d) (hn : d < c.nt) (hop : o.op = .call { callee := .builtin .max, args := #[x, y], argTypes := #[t, u] }) (hx : st.ev x = .int k p) (hy : st.ev y = .int k q) : Stp c o st (st.put d (.int k (if p < q then q else p))) :=
  Stp.val hd hn fun S at_ a w hr => by
    have h1 := hr.ev x
    have h2 := hr.ev y
    rw [hx, VR, RL] at h1
    rw [hy, VR, RL] at h2
    exact ⟨.int k (if p < q then q else p), by simp [execOp, hop, resolve, invoke, builtin, h1, h2, Builtin.max_, Builtin.max2], by rw [VR, RL]⟩
/-- A slice held against nil: of an empty one nothing is told. -/
theorem Tr.eqNil {ops : Array Oper} {rest : List Oper} {Q : Exit → Act → World → Prop} {t t' e : TypeId} {x : Operand} {xs : List V} (hg : o.guard = none) (hd : o.dst = some d) (hn : d < c.nt) (hop : o.op = .binOp .eql t x (.const (.slice none 0 0)) t') (ht : c.P.underlying t = some (.slice e)) (hx : st.ev x = .sl e xs)
    (h : ∀ b, (b = true → xs = []) → Tr c ⟨upd st.env d (.bool b), st.obj, st.gen⟩ (wpListIn (Fn c.frs.rd) 0 c.P ops Q rest)) : Tr c st (wpListIn (Fn c.frs.rd) 0 c.P ops Q (o :: rest)) :=
  fun S at_ a w hr => wpListIn_plain hg fun K hK => by
    have h1 := hr.ev x
    rw [hx, VR, RL] at h1
    obtain ⟨A, cp, h2, h3, h4⟩ := h1
    have hrun : (execOp a.eval o).run c.P w = .ok (.value (.bool A.isNone)) w := by
      have h5 : (Op.equal t (.slice A xs.length cp) (.slice none 0 0)).run c.P w = .ok A.isNone w := by
        simp [Op.equal, Op.maxDepth, Lib.run_equalIn_slice_nil w 9999 t e A xs.length cp 0 0 ht]
      have h6 : a.eval (.const (.slice none 0 0)) = .slice none 0 0 := rfl
      simp [execOp, hop, h2, h6, eqGuard, binOp, h5, Result.andThen]
    refine wpIn_of_run (not_defer_of_value hrun) hrun ?_
    rw [Oper.uponIn_value, hd]
    refine hK _ _ (h A.isNone (fun hb => ?_) S at_ _ w (hr.put hn (by rw [VR, RL])))
    rcases h4 with h4 | ⟨ad, rfl, _⟩
    · exact h4
    · simp at hb
/-- A table's cell. -/
theorem Stp.idxGlob {t e gl n : Nat} {y : Operand} {k : IntKind} {i : Int} {z : Value} {bytes : Nat} (hd : o.dst = some d) (hn : d < c.nt) (hop : o.op = .indexAddr t (.global gl) y) (ht : c.P.underlying t = some (.array n e)) (hi : TI c.P e z 1 bytes)
    (hy : st.ev y = .int k i) (h0 : 0 ≤ i) (hlt : i < n) : Stp c o st (st.put d (.any (.pointer (some ⟨gl, i.toNat, none⟩)))) :=
  Stp.val hd hn fun S at_ a w hr => by
    have h2 := hr.ev y
    rw [hy, VR, RL] at h2
    have h1 : a.eval (.global gl) = .pointer (some ⟨gl, 0, none⟩) := rfl
    refine ⟨.pointer (some ⟨gl, i.toNat, none⟩), ?_, ?_⟩
    · simp [execOp, hop, h1, h2, Instr.indexAt, run_underlying ht, asIntOf, h0, hlt, hi.sizeOf, Instr.sureAddr, add_plain']
    · rw [VR, RL]; exact ⟨rfl, rfl⟩
theorem Stp.loadGlob {ty : TypeId} {x : Operand} {ad : Addr} {v : Value} {u : V} (hd : o.dst = some d) (hn : d < c.nt) (hop : o.op = .load ty x) (ht : IsLeaf c.P ty) (hx : st.ev x = .any (.pointer (some ad))) (hv : (ad, v) ∈ globTab) (hu : cv v = u) : Stp c o st (st.put d u) :=
  Stp.val hd hn fun S at_ a w hr => by
    have h1 := hr.ev x
    rw [hx, VR, RL] at h1
    have hcell := hr.globs (ad, v) hv
    exact ⟨v, by simp only [execOp, hop, h1.1, load_leaf_run ht hcell, Sem.run_bind, Sem.run_pure, Result.andThen], by rw [← hu]; exact VR_cv v⟩
end
section
variable {P : Program} {w0 : World} {S0 : Nat → Prop} {nt : Nat} {frs : Frs} {e : Nat → V} {ob : Nat → Nat → Ob} {g : Nat} {Q : Exit → Act → World → Prop} {ops : Array Oper} {rest : List Oper} {d : Nat} {ty : TypeId} {pos : String} {aft : Array Edge} {m : Md}
theorem p_eqNil {t t' el : TypeId} {x : Operand} {xs : List V} (hm : m = .lex := by exact rfl) (hn : d < nt := by decide) [ht : SlC P t el] (hx : evE e x = .sl el xs := by simp (decide := true) only [evE, upd, cv, args0, argsFrom, List.length_map, ↓reduceIte, hE] <;> rfl) (h : ∀ b, (b = true → xs = []) → Wk .lex ⟨P, w0, S0, nt, frs⟩ ops Q ⟨upd e d (.bool b), ob, g⟩ rest) : Wk m ⟨P, w0, S0, nt, frs⟩ ops Q ⟨e, ob, g⟩ (⟨some d, .binOp .eql t x (.const (.slice none 0 0)) t', ty, pos, aft, none⟩ :: rest) := by
  subst hm
  exact Tr.eqNil (st := ⟨e, ob, g⟩) rfl rfl hn rfl ht.h ((evE_eq e ob g x).trans hx) h
theorem p_neg {t : TypeId} {x : Operand} {k : IntKind} {p : Int} (hn : d < nt := by decide) (hx : evE e x = .int k p := by simp (decide := true) only [evE, upd, cv, args0, argsFrom, List.length_map, ↓reduceIte, hE] <;> rfl) (h : Wk (m.log ⟨some (d, .int k (k.wrap (0 - p))), [], []⟩) ⟨P, w0, S0, nt, frs⟩ ops Q ⟨upd e d (.int k (k.wrap (0 - p))), ob, g⟩ rest) : Wk m ⟨P, w0, S0, nt, frs⟩ ops Q ⟨e, ob, g⟩ (⟨some d, .unOp .neg t x, ty, pos, aft, none⟩ :: rest) :=
  Wk.op (Loc.plain rfl rfl fun st' hv' _ _ => Stp.neg (st := st') rfl hn rfl ((hv' x (by simp [Op.operands, Call.operands])).trans ((evE_eq e ob g x).trans hx))) h
theorem p_shrB {t t' : TypeId} {x y : Operand} {k' : IntKind} {p q : Int} {b1 : BitVec 64} (hn : d < nt := by decide) (hx : evE e x = .int .u64 p := by simp (decide := true) only [evE, upd, cv, args0, argsFrom, List.length_map, ↓reduceIte, hE] <;> rfl) (hy : evE e y = .int k' q := by simp (decide := true) only [evE, upd, cv, args0, argsFrom, List.length_map, ↓reduceIte, hE] <;> rfl) (hp : p = (b1.toNat : Int) := by first | exact rfl | exact bvLit (by decide) (by decide)) (n : Nat) (hq : q = (n : Int) := by exact rfl) (h : Wk (m.log ⟨some (d, .int .u64 ((b1 >>> n).toNat : Nat)), [], []⟩) ⟨P, w0, S0, nt, frs⟩ ops Q ⟨upd e d (.int .u64 ((b1 >>> n).toNat : Nat)), ob, g⟩ rest) : Wk m ⟨P, w0, S0, nt, frs⟩ ops Q ⟨e, ob, g⟩ (⟨some d, .binOp .shr t x y t', ty, pos, aft, none⟩ :: rest) := by
  subst hp; subst hq
  refine p_shr hn hx hy (by omega) ?_ h
  congr 1
  have hb := b1.isLt
  rw [BitVec.toNat_ushiftRight, Nat.shiftRight_eq_div_pow, Int.fdiv_eq_ediv_of_nonneg _ (Int.le_of_lt (Int.pow_pos (by decide))), Int.toNat_natCast]
  have h2 : ((2 : Int) ^ min n IntKind.u64.bits) = ((2 ^ min n 64 : Nat) : Int) := by rw [Int.natCast_pow]; rfl
  rw [h2, ← Int.natCast_ediv]
  congr 1
  by_cases h3 : n ≤ 64
  · rw [Nat.min_eq_left h3]
  · rw [Nat.min_eq_right (by omega), Nat.div_eq_of_lt hb, Nat.div_eq_of_lt (Nat.lt_of_lt_of_le hb (Nat.pow_le_pow_right (by decide) (by omega)))]
theorem p_shlB {t t' : TypeId} {x y : Operand} {k' : IntKind} {p q : Int} {b1 : BitVec 64} (hn : d < nt := by decide) (hx : evE e x = .int .u64 p := by simp (decide := true) only [evE, upd, cv, args0, argsFrom, List.length_map, ↓reduceIte, hE] <;> rfl) (hy : evE e y = .int k' q := by simp (decide := true) only [evE, upd, cv, args0, argsFrom, List.length_map, ↓reduceIte, hE] <;> rfl) (hp : p = (b1.toNat : Int) := by first | exact rfl | exact bvLit (by decide) (by decide)) (n : Nat) (hq : q = (n : Int) := by exact rfl) (h : Wk (m.log ⟨some (d, .int .u64 ((b1 <<< n).toNat : Nat)), [], []⟩) ⟨P, w0, S0, nt, frs⟩ ops Q ⟨upd e d (.int .u64 ((b1 <<< n).toNat : Nat)), ob, g⟩ rest) : Wk m ⟨P, w0, S0, nt, frs⟩ ops Q ⟨e, ob, g⟩ (⟨some d, .binOp .shl t x y t', ty, pos, aft, none⟩ :: rest) := by
  subst hp; subst hq
  refine p_shl hn hx hy (by omega) ?_ h
  congr 1
  have hb := b1.isLt
  have h2 : ((2 : Int) ^ min n IntKind.u64.bits) = ((2 ^ min n 64 : Nat) : Int) := by rw [Int.natCast_pow]; rfl
  rw [Int.toNat_natCast, h2, ← Int.natCast_mul, BitVec.toNat_shiftLeft, Nat.shiftLeft_eq]
  simp only [IntKind.wrap, IntKind.signed, IntKind.bits, Bool.false_and, Bool.false_eq_true, ↓reduceIte]
  by_cases h3 : n ≤ 64
  · rw [Nat.min_eq_left h3]; omega
  · rw [Nat.min_eq_right (by omega)]
    have h4 : (2 : Nat) ^ n = 2 ^ 64 * 2 ^ (n - 64) := by rw [← Nat.pow_add]; congr 1; omega
    have h5 : b1.toNat * 2 ^ n % 2 ^ 64 = 0 := by rw [h4, ← Nat.mul_assoc, Nat.mul_comm b1.toNat, Nat.mul_assoc, Nat.mul_mod_right]
    rw [h5]; omega
theorem p_negB {t : TypeId} {x : Operand} {p : Int} {b1 : BitVec 64} (hn : d < nt := by decide) (hx : evE e x = .int .u64 p := by simp (decide := true) only [evE, upd, cv, args0, argsFrom, List.length_map, ↓reduceIte, hE] <;> rfl) (hp : p = (b1.toNat : Int) := by first | exact rfl | exact bvLit (by decide) (by decide)) (h : Wk (m.log ⟨some (d, .int .u64 ((-b1).toNat : Nat)), [], []⟩) ⟨P, w0, S0, nt, frs⟩ ops Q ⟨upd e d (.int .u64 ((-b1).toNat : Nat)), ob, g⟩ rest) : Wk m ⟨P, w0, S0, nt, frs⟩ ops Q ⟨e, ob, g⟩ (⟨some d, .unOp .neg t x, ty, pos, aft, none⟩ :: rest) := by
  subst hp
  have h1 : IntKind.u64.wrap (0 - (b1.toNat : Int)) = (((-b1).toNat : Nat) : Int) := by
    have hb := b1.isLt
    simp only [IntKind.wrap, IntKind.signed, IntKind.bits, Bool.false_and, Bool.false_eq_true, ↓reduceIte, BitVec.toNat_neg]
    omega
  refine p_neg hn hx ?_
  rw [h1]; exact h
theorem p_max {t u : TypeId} {x y : Operand} {k : IntKind} {p q : Int} (hn : d < nt := by decide) (hx : evE e x = .int k p := by simp (decide := true) only [evE, upd, cv, args0, argsFrom, List.length_map, ↓reduceIte, hE] <;> rfl) (hy : evE e y = .int k q := by simp (decide := true) only [evE, upd, cv, args0, argsFrom, List.length_map, ↓reduceIte, hE] <;> rfl) (h : Wk (m.log ⟨some (d, .int k (if p < q then q else p)), [], []⟩) ⟨P, w0, S0, nt, frs⟩ ops Q ⟨upd e d (.int k (if p < q then q else p)), ob, g⟩ rest) : Wk m ⟨P, w0, S0, nt, frs⟩ ops Q ⟨e, ob, g⟩ (⟨some d, .call { callee := .builtin .max, args := #[x, y], argTypes := #[t, u] }, ty, pos, aft, none⟩ :: rest) :=
  Wk.op (Loc.plain rfl rfl fun st' hv' _ _ => Stp.maxI (st := st') rfl hn rfl ((hv' x (by simp [Op.operands, Call.operands])).trans ((evE_eq e ob g x).trans hx)) ((hv' y (by simp [Op.operands, Call.operands])).trans ((evE_eq e ob g y).trans hy))) h
theorem p_idxGlob {t el gl n : Nat} {y : Operand} {k : IntKind} {i : Int} {z : Value} {bytes : Nat} (ht : P.underlying t = some (.array n el)) (hn : d < nt := by decide) [hi : TIC P el z 1 bytes] (hy : evE e y = .int k i := by simp (decide := true) only [evE, upd, cv, args0, argsFrom, List.length_map, ↓reduceIte, hE] <;> rfl) (h0 : 0 ≤ i) (hlt : i < n) (h : Wk (m.log ⟨some (d, .any (.pointer (some ⟨gl, i.toNat, none⟩))), [], []⟩) ⟨P, w0, S0, nt, frs⟩ ops Q ⟨upd e d (.any (.pointer (some ⟨gl, i.toNat, none⟩))), ob, g⟩ rest) : Wk m ⟨P, w0, S0, nt, frs⟩ ops Q ⟨e, ob, g⟩ (⟨some d, .indexAddr t (.global gl) y, ty, pos, aft, none⟩ :: rest) :=
  Wk.op (Loc.plain rfl rfl fun st' hv' _ _ => Stp.idxGlob (st := st') rfl hn rfl ht hi.h ((hv' y (by simp [Op.operands, Call.operands])).trans ((evE_eq e ob g y).trans hy)) h0 hlt) h
theorem p_loadGlob {t : TypeId} {x : Operand} {ad : Addr} {v : Value} {u : V} (hn : d < nt := by decide) [ht : LeafC P t] (hx : evE e x = .any (.pointer (some ad)) := by simp (decide := true) only [evE, upd, cv, args0, argsFrom, List.length_map, ↓reduceIte, hE] <;> rfl) (hv : (ad, v) ∈ globTab) (hu : cv v = u := by exact rfl) (h : Wk (m.log ⟨some (d, u), [], []⟩) ⟨P, w0, S0, nt, frs⟩ ops Q ⟨upd e d u, ob, g⟩ rest) : Wk m ⟨P, w0, S0, nt, frs⟩ ops Q ⟨e, ob, g⟩ (⟨some d, .load t x, ty, pos, aft, none⟩ :: rest) :=
  Wk.op (Loc.plain rfl rfl fun st' hv' _ _ => Stp.loadGlob (st := st') rfl hn rfl ht.h ((hv' x (by simp [Op.operands, Call.operands])).trans ((evE_eq e ob g x).trans hx)) hv hu) h
theorem res_cA {s ty g1 d1 t size bytes : Nat} {cs : List V} {z : Value} [ha : AggC P ty] [hi : TIC P ty z size bytes] (h1 : e s = .ptr g1 d1 0 := by exact eV_) (h2 : ob g1 d1 = .cells t cs := by exact oB_) (hl : cs.length = size := by exact rfl) (hr : cs.all V.isRL = true := by exact rfl) : (⟨e, ob, g⟩ : St).res P (.cell s ty) (.agg cs) :=
  ⟨g1, d1, t, cs, h1, h2, .inr ⟨ha.h, z, size, bytes, hi.h, hl, hr, rfl⟩⟩
theorem res_cL {s ty g1 d1 t : Nat} {cs : List V} {u : V} [ha : LeafC P ty] (h1 : e s = .ptr g1 d1 0 := by exact eV_) (h2 : ob g1 d1 = .cells t cs := by exact oB_) (hl : cs[0]? = some u := by exact rfl) (hr : u.isRL = true := by exact rfl) : (⟨e, ob, g⟩ : St).res P (.cell s ty) u :=
  ⟨g1, d1, t, cs, h1, h2, .inl ⟨ha.h, u, hl, hr, rfl⟩⟩
theorem p_r1 {dfs : List Dfr} {rd : Option Nat} {fn : Func} {Post : V → Prop} {x0 : ResultVar} {v0 : V} (hres : fn.results = #[x0] := by exact rfl) (h0 : (⟨e, ob, g⟩ : St).res P x0 v0 := by first | exact ⟨eV_, rfl⟩ | exact res_cA | exact res_cL) (hp : Post v0) (htup : ∀ l, v0 ≠ .tup l := by intro l h; cases h) (hmk : dfs.all Dfr.isMark = true := by exact rfl) : Tr ⟨P, w0, S0, nt, ⟨[], dfs, rd⟩⟩ ⟨e, ob, g⟩ (Ret P fn S0 w0 Post .ret) := Tr.ret1 hres h0 hp htup hmk
theorem p_r2 {dfs : List Dfr} {rd : Option Nat} {fn : Func} {Post : V → Prop} {x0 x1 : ResultVar} {v0 v1 : V} (hres : fn.results = #[x0, x1] := by exact rfl) (h0 : (⟨e, ob, g⟩ : St).res P x0 v0 := by first | exact ⟨eV_, rfl⟩ | exact res_cA | exact res_cL) (h1 : (⟨e, ob, g⟩ : St).res P x1 v1 := by first | exact ⟨eV_, rfl⟩ | exact res_cA | exact res_cL) (hp : Post (.tup [v0, v1])) (hmk : dfs.all Dfr.isMark = true := by exact rfl) : Tr ⟨P, w0, S0, nt, ⟨[], dfs, rd⟩⟩ ⟨e, ob, g⟩ (Ret P fn S0 w0 Post .ret) :=
  Tr.rets (xs := [x0, x1]) (vs := [v0, v1]) (by rw [hres]) rfl (by simp) (fun j r q hr hq => by
    obtain _ | _ | j := j
    · simp at hr hq; subst hr hq; exact h0
    · simp at hr hq; subst hr hq; exact h1
    · simp at hr) hp hmk
/-- What a loop leaves as it is. -/
def valsE (e : Nat → V) : List Nat → List V
  | [] => []
  | s :: l => e s :: valsE e l
def valsO (o : Nat → Nat → Ob) : List (Nat × Nat) → List Ob
  | [] => []
  | p :: l => o p.1 p.2 :: valsO o l
theorem p_loopK {body : Code} {vs : List V} {us : List Ob} (ks : List Nat) (os : List (Nat × Nat)) (I : St → Prop) (μ : St → Nat) (h0 : I ⟨e, ob, g⟩) (hround : ∀ e' ob' g', valsE e' ks = vs → valsO ob' os = us → I ⟨e', ob', g'⟩ → TrC ⟨P, w0, S0, nt, frs⟩ ⟨e', ob', g'⟩ body (Exit.then (Some ⟨P, w0, S0, nt, frs⟩ fun st' => (valsE st'.env ks = vs ∧ valsO st'.obj os = us) ∧ I st' ∧ μ st' < μ ⟨e', ob', g'⟩) Q)) (hvs : valsE e ks = vs := by simp (decide := true) only [valsE, evE, upd, cv, args0, argsFrom, List.length_map, ↓reduceIte, hE] <;> rfl) (hus : valsO ob os = us := by simp (decide := true) only [valsO, updO, upd, true_and, and_true, false_and, and_false, ↓reduceIte, hE] <;> rfl) : TrC ⟨P, w0, S0, nt, frs⟩ ⟨e, ob, g⟩ (.loop body) Q := by
  refine p_loop (fun st => (valsE st.env ks = vs ∧ valsO st.obj os = us) ∧ I st) μ ⟨⟨hvs, hus⟩, h0⟩ fun e' ob' g' h => ?_
  have := hround e' ob' g' h.1.1 h.1.2 h.2
  simpa only [and_assoc] using this
/-- A loop whose body never comes to its end. -/
theorem p_once {body : Code} (h : TrC ⟨P, w0, S0, nt, frs⟩ ⟨e, ob, g⟩ body (Exit.then (Some ⟨P, w0, S0, nt, frs⟩ fun st' => st' = ⟨e, ob, g⟩ ∧ 0 < 0) Q)) : TrC ⟨P, w0, S0, nt, frs⟩ ⟨e, ob, g⟩ (.loop body) Q :=
  p_loop (fun st' => st' = ⟨e, ob, g⟩) (fun _ => 0) rfl fun e' ob' g' he => by
    cases he
    exact h
end
end Go.Proofs.YtfpljljjjgicaaaGreatDoor
