import Derived.Test.YtfpljljjjgicaaaGreatDoorY
/-
  The abstract machine: calls of functions that change what their caller owns: the called function works on with the caller's own objects.
-/
set_option linter.unusedSimpArgs false
set_option linter.unusedVariables false
namespace Go.Proofs.YtfpljljjjgicaaaGreatDoor
open Go.RowKit
/-- What the body of such a function must come to: a result, and the caller's objects as they are then. -/
def RetI (c : Ctx) (fn : Func) (K : V → (Nat → Nat → Ob) → Prop) : Exit → Act → World → Prop :=
  Out c.P fn fun e w => ∃ v S at_ st a r, e = .returned v ∧ Rel ⟨c.P, c.w0, c.S0, c.nt, ⟨c.frs.l, [], none⟩⟩ S at_ st a w ∧ VR c.P w S at_ r v ∧ K r st.obj
/-- A function's contract, where it works in place: with objects 'ob' it returns r and leaves 'ob2'. -/
def FnI (P : Program) (f : FuncId) (args : List V) (ob : Nat → Nat → Ob) (r : V) (ob2 : Nat → Nat → Ob) : Prop :=
  ∃ fn code nt, HasBody P f fn code ∧ fn.ntmps = nt ∧ args.length ≤ nt ∧ ∀ w0 S0 l g, TrC ⟨P, w0, S0, nt, ⟨l, [], none⟩⟩ ⟨args0 args, ob, g⟩ code (RetI ⟨P, w0, S0, nt, ⟨l, [], none⟩⟩ fn fun r' o => r' = r ∧ o = ob2)
theorem FnI.of {P : Program} {f : FuncId} {fn : Func} {code : Code} {nt : Nat} {args : List V} {ob ob2 : Nat → Nat → Ob} {r : V} (hb : HasBody P f fn code) (hnt : fn.ntmps = nt) (hle : args.length ≤ nt)
    (h : ∀ w0 S0 l g, TrC ⟨P, w0, S0, nt, ⟨l, [], none⟩⟩ ⟨args0 args, ob, g⟩ code (RetI ⟨P, w0, S0, nt, ⟨l, [], none⟩⟩ fn fun r' o => r' = r ∧ o = ob2)) : FnI P f args ob r ob2 := ⟨fn, code, nt, hb, hnt, hle, h⟩
section
variable {c : Ctx} {st : St} {Q : Exit → Act → World → Prop}
end
section
variable {P : Program} {w0 : World} {S0 : Nat → Prop} {nt : Nat} {frs : Frs} {e : Nat → V} {ob : Nat → Nat → Ob} {g : Nat} {Q : Exit → Act → World → Prop} {ops : Array Oper} {m : Md} {d : Nat} {rest : List Oper} {ty : TypeId} {pos : String} {aft : Array Edge}
end
end Go.Proofs.YtfpljljjjgicaaaGreatDoor
/-
  The abstract machine: more rules: quotient and remainder of whole numbers.
-/
set_option linter.unusedSimpArgs false
set_option linter.unusedVariables false
namespace Go.Proofs.YtfpljljjjgicaaaGreatDoor
open Go.RowKit
section
variable {c : Ctx} {st : St} {o : Oper} {d : Nat}
theorem Stp.quo {t t' : TypeId} {x y : Operand} {p q : Int} (hd : o.dst = some d) (hn : d < c.nt) (hop : o.op = .binOp .quo t x y t') (hx : st.ev x = .int .i64 p) (hy : st.ev y = .int .i64 q) (h : 0 ≤ p ∧ p ≤ 9223372036854775807 ∧ 1 ≤ q) : Stp c o st (st.put d (.int .i64 (p / q))) :=
  Stp.val hd hn fun S at_ a w hr => by
    have h1 := hr.ev x
    have h2 := hr.ev y
    rw [hx, VR, RL] at h1
    rw [hy, VR, RL] at h2
    have h0 : ¬ q = 0 := by omega
    exact ⟨_, by simp [execOp, hop, h1, h2, eqGuard, binOp, Op.intDiv, h0]; rfl, by rw [VR, RL, IntWalk.i64_quo _ _ h]⟩
theorem Stp.rem {t t' : TypeId} {x y : Operand} {p q : Int} (hd : o.dst = some d) (hn : d < c.nt) (hop : o.op = .binOp .rem t x y t') (hx : st.ev x = .int .i64 p) (hy : st.ev y = .int .i64 q) (h : 0 ≤ p ∧ 1 ≤ q) : Stp c o st (st.put d (.int .i64 (p % q))) :=
  Stp.val hd hn fun S at_ a w hr => by
    have h1 := hr.ev x
    have h2 := hr.ev y
    rw [hx, VR, RL] at h1
    rw [hy, VR, RL] at h2
    have h0 : ¬ q = 0 := by omega
    exact ⟨_, by simp [execOp, hop, h1, h2, eqGuard, binOp, Op.intDiv, h0]; rfl, by rw [VR, RL, IntWalk.rem_in _ _ h.1]⟩
end
section
variable {P : Program} {w0 : World} {S0 : Nat → Prop} {nt : Nat} {frs : Frs} {e : Nat → V} {ob : Nat → Nat → Ob} {g : Nat} {Q : Exit → Act → World → Prop} {K : Act → World → Prop} {ops : Array Oper} {rest : List Oper} {d : Nat} {ty : TypeId} {pos : String} {aft : Array Edge} {m : Md}
theorem p_quo {t t' : TypeId} {x y : Operand} {p q r : Int} (hn : d < nt := by decide) (hx : evE e x = .int .i64 p := by simp (decide := true) only [evE, upd, cv, args0, argsFrom, List.length_map, ↓reduceIte, hE] <;> rfl) (hy : evE e y = .int .i64 q := by simp (decide := true) only [evE, upd, cv, args0, argsFrom, List.length_map, ↓reduceIte, hE] <;> rfl) (hr : p / q = r) (hb : 0 ≤ p ∧ p ≤ 9223372036854775807 ∧ 1 ≤ q) (h : Wk (m.log ⟨some (d, .int .i64 r), [], []⟩) ⟨P, w0, S0, nt, frs⟩ ops Q ⟨upd e d (.int .i64 r), ob, g⟩ rest) :
    Wk m ⟨P, w0, S0, nt, frs⟩ ops Q ⟨e, ob, g⟩ (⟨some d, .binOp .quo t x y t', ty, pos, aft, none⟩ :: rest) := by
  subst hr
  exact Wk.op (Loc.plain rfl rfl fun st' hv' _ _ => Stp.quo (st := st') rfl hn rfl ((hv' x (by simp [Op.operands])).trans ((evE_eq e ob g x).trans hx)) ((hv' y (by simp [Op.operands])).trans ((evE_eq e ob g y).trans hy)) hb) h
end
end Go.Proofs.YtfpljljjjgicaaaGreatDoor
