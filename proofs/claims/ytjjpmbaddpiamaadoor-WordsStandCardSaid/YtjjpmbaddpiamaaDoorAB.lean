import Derived.Test.YtjjpmbaddpiamaaDoorY
/-
  The abstract machine: calls of functions that change what their caller owns: the called function works on with the caller's own objects.
-/
set_option linter.unusedSimpArgs false
set_option linter.unusedVariables false
namespace Go.Proofs.YtjjpmbaddpiamaaDoor
open Go.RowKit
/-- What the body of such a function must come to: a result, and the caller's objects as they are then. -/
def RetI (c : Ctx) (fn : Func) (K : V → (Nat → Nat → Ob) → Prop) : Exit → Act → World → Prop :=
  Out c.P fn fun e w => ∃ v S at_ st a r, e = .returned v ∧ Rel ⟨c.P, c.w0, c.S0, c.nt, ⟨c.frs.l, [], none⟩⟩ S at_ st a w ∧ VR c.P w S at_ r v ∧ K r st.obj
/-- A function's contract, where it works in place: with objects 'ob' it returns r and leaves 'ob2'. -/
def FnI (P : Program) (f : FuncId) (args : List V) (ob : Nat → Nat → Ob) (r : V) (ob2 : Nat → Nat → Ob) : Prop :=
  ∃ fn code nt, HasBody P f fn code ∧ fn.ntmps = nt ∧ args.length ≤ nt ∧ ∀ w0 S0 l g, TrC ⟨P, w0, S0, nt, ⟨l, [], none⟩⟩ ⟨args0 args, ob, g⟩ code (RetI ⟨P, w0, S0, nt, ⟨l, [], none⟩⟩ fn fun r' o => r' = r ∧ o = ob2)
theorem FnI.of {P : Program} {f : FuncId} {fn : Func} {code : Code} {nt : Nat} {args : List V} {ob ob2 : Nat → Nat → Ob} {r : V} (hb : HasBody P f fn code) (hnt : fn.ntmps = nt) (hle : args.length ≤ nt)
    (h : ∀ w0 S0 l g, TrC ⟨P, w0, S0, nt, ⟨l, [], none⟩⟩ ⟨args0 args, ob, g⟩ code (RetI ⟨P, w0, S0, nt, ⟨l, [], none⟩⟩ fn fun r' o => r' = r ∧ o = ob2)) : FnI P f args ob r ob2 := ⟨fn, code, nt, hb, hnt, hle, h⟩
section
variable {c : Ctx} {st : St} {Q : Exit → Act → World → Prop}
theorem Tr.callIn {o : Oper} {ops : Array Oper} {rest : List Oper} {d : Nat} {x : Operand} {f : FuncId} {fn : Func} {code : Code} {xs : Array Operand} {ts : Array TypeId} {args : List V} {nt : Nat} {K : V → (Nat → Nat → Ob) → Prop} (hg : o.guard = none) (hd : o.dst = some d) (hn : d < c.nt) (hop : o.op = .call { callee := .value x, args := xs, argTypes := ts })
    (hx : st.ev x = .fn f []) (hb : HasBody c.P f fn code) (hnt : fn.ntmps = nt) (hargs : xs.toList.map st.ev = args) (hle : args.length ≤ nt)
    (hf : ∀ a0, TrC ⟨c.P, c.w0, c.S0, nt, ⟨(st.env, a0, c.frs.dfs) :: c.frs.l, [], none⟩⟩ ⟨args0 args, st.obj, st.gen⟩ code (RetI ⟨c.P, c.w0, c.S0, nt, ⟨(st.env, a0, c.frs.dfs) :: c.frs.l, [], none⟩⟩ fn K))
    (h : ∀ r o g, K r o → Tr c ⟨upd st.env d r, o, g⟩ (wpListIn (Fn c.frs.rd) 0 c.P ops Q rest)) : Tr c st (wpListIn (Fn c.frs.rd) 0 c.P ops Q (o :: rest)) :=
  fun S at_ a w hr => wpListIn_plain hg fun K' hK => by
    obtain ⟨arr, h1, hrun⟩ := call_run hr hop hx hb
    obtain rfl : arr = [] := by cases arr with | nil => rfl | cons => simp [VRs] at h1
    rw [List.append_nil] at hrun
    have hvals : VRs c.P w S at_ args (xs.toList.map a.eval) := by
      subst hargs
      generalize xs.toList = l
      induction l with
      | nil => simp [VRs]
      | cons y l ih => simp only [List.map_cons]; rw [VRs]; exact ⟨hr.ev y, ih⟩
    generalize xs.toList.map a.eval = cs at hrun hvals
    have hlen := VRs.length hvals
    have hr' : Rel ⟨c.P, c.w0, c.S0, nt, ⟨(st.env, a, c.frs.dfs) :: c.frs.l, [], none⟩⟩ S at_ ⟨args0 args, st.obj, st.gen⟩ { tmps := cs.toArray ++ Array.replicate (fn.ntmps - cs.toArray.size) undef, defers := [] } w :=
      { defers := trivial
        stk := fun k hk => hr.stk k ((frs_keys st.env a c.frs) ▸ hk)
        nod := by rw [frs_keys]; exact hr.nod
        size := by simp; omega
        env := fun s => by
          simp only [args0_eq]
          cases hs : args[s]? with
          | none => rw [Option.getD_none, VR]; trivial
          | some v =>
            obtain ⟨x, hx, hv⟩ := VRs.get hvals hs
            have hlt := (List.getElem?_eq_some_iff.1 hx).1
            have : (cs.toArray ++ Array.replicate (fn.ntmps - cs.toArray.size) undef).getD s undef = x := by
              rw [Array.getD_eq_getD_getElem?, Array.getElem?_append_left (by simpa using hlt)]
              simp [hx]
            rw [this]
            exact hv
        frs := fun p hp => by
          rcases List.mem_cons.1 hp with rfl | hp
          · exact ⟨hr.env, hr.defers⟩
          · exact hr.frs p hp
        gen := hr.gen, al := hr.al, ok := hr.ok, own := hr.own, dis := hr.dis, slt := hr.slt, snew := hr.snew, sold := hr.sold, below := hr.below, glob := hr.glob }
    have hcall : Calls c.P f cs.toArray w fun e w' => ∃ v r S' at' o g, e = .returned v ∧ Rel c S' at' ⟨st.env, o, g⟩ a w' ∧ VR c.P w' S' at' r v ∧ K r o := by
      refine (out_calls hb.1 hb.2.2 (hf a S at_ _ w hr')).mono ?_
      rintro e w' ⟨v, S2, at2, st2, a2, r, rfl, k1, k3, k4⟩
      have hm := k1.frs (st.env, a, c.frs.dfs) (List.mem_cons_self ..)
      exact ⟨v, r, S2, at2, st2.obj, st2.gen, rfl,
        { defers := hm.2, size := hr.size, env := hm.1, frs := fun p hp => k1.frs p (List.mem_cons_of_mem _ hp), stk := fun k hk => k1.stk k ((frs_keys st.env a c.frs).symm ▸ hk), nod := hr.nod
          gen := k1.gen, al := k1.al, ok := k1.ok, own := k1.own, dis := k1.dis, slt := k1.slt, snew := k1.snew, sold := k1.sold, below := k1.below, glob := k1.glob }, k3, k4⟩
    refine wpIn_enter hop hrun ?_
    refine hcall.mono ?_
    rintro e w' ⟨v, r, S', at', o', g', rfl, k1, k2, k3⟩
    rw [hd]
    exact hK _ _ (h r o' g' k3 S' at' _ w' (k1.put hn k2))
end
section
variable {P : Program} {w0 : World} {S0 : Nat → Prop} {nt : Nat} {frs : Frs} {e : Nat → V} {ob : Nat → Nat → Ob} {g : Nat} {Q : Exit → Act → World → Prop} {ops : Array Oper} {m : Md} {d : Nat} {rest : List Oper} {ty : TypeId} {pos : String} {aft : Array Edge}
theorem p_callIn {x : Operand} {f : FuncId} {xs : List Operand} {ts : Array TypeId} {args : List V} {r : V} {ob2 : Nat → Nat → Ob} (hm : m = .lex := by exact rfl) (hn : d < nt := by decide) (hx : evE e x = .fn f [] := by simp (decide := true) only [evE, upd, cv, args0, argsFrom, List.length_map, ↓reduceIte, hE] <;> rfl) (hus : xs.map (evE e) = args := by simp (decide := true) only [List.map_cons, List.map_nil, List.cons_append, List.nil_append, List.append_nil, evE, upd, updO, cv, args0, List.getElem?_cons_zero, List.getElem?_cons_succ, Option.getD_some, List.length_map, ↓reduceIte, hE] <;> rfl) (hf : FnI P f args ob r ob2) (h : ∀ g', Wk .lex ⟨P, w0, S0, nt, frs⟩ ops Q ⟨upd e d r, ob2, g'⟩ rest) :
    Wk m ⟨P, w0, S0, nt, frs⟩ ops Q ⟨e, ob, g⟩ (⟨some d, .call { callee := .value x, args := xs.toArray, argTypes := ts }, ty, pos, aft, none⟩ :: rest) := by
  subst hm
  obtain ⟨fn, code, nt', hb, hnt, hle, hf⟩ := hf
  refine Tr.callIn (K := fun r' o => r' = r ∧ o = ob2) rfl rfl hn rfl ((evE_eq e ob g x).trans hx) hb hnt ?_ hle (fun a0 => hf _ _ _ _) ?_
  · rw [← hus]
    exact List.map_congr_left fun y _ => evE_eq e ob g y
  · rintro r' o g' ⟨rfl, rfl⟩
    exact h g'
theorem p_retI0 {fn : Func} {K : V → (Nat → Nat → Ob) → Prop} {l : List ((Nat → V) × Act × List Dfr)} (hres : fn.results = #[]) (hK : K (.tup []) ob) : Tr ⟨P, w0, S0, nt, ⟨l, [], none⟩⟩ ⟨e, ob, g⟩ (RetI ⟨P, w0, S0, nt, ⟨l, [], none⟩⟩ fn K .normal) := fun S at_ a w hr =>
  hr.leave0 ⟨.tuple #[], by simp [results, hres], _, S, at_, _, a, .tup [], rfl, hr, by rw [VR]; exact ⟨#[], rfl, by simp [VRs]⟩, hK⟩
theorem p_retI0' {fn : Func} {K : V → (Nat → Nat → Ob) → Prop} {l : List ((Nat → V) × Act × List Dfr)} (hres : fn.results = #[]) (hK : K (.tup []) ob) : Tr ⟨P, w0, S0, nt, ⟨l, [], none⟩⟩ ⟨e, ob, g⟩ (RetI ⟨P, w0, S0, nt, ⟨l, [], none⟩⟩ fn K .ret) := p_retI0 hres hK
theorem p_retI1 {fn : Func} {K : V → (Nat → Nat → Ob) → Prop} {l : List ((Nat → V) × Act × List Dfr)} {t : Nat} {v : V} (hres : fn.results = #[.tmp t]) (hx : e t = v := by simp (decide := true) only [evE, upd, cv, args0, argsFrom, List.length_map, ↓reduceIte, hE] <;> rfl) (hK : K v ob) : Tr ⟨P, w0, S0, nt, ⟨l, [], none⟩⟩ ⟨e, ob, g⟩ (RetI ⟨P, w0, S0, nt, ⟨l, [], none⟩⟩ fn K .ret) := fun S at_ a w hr =>
  hr.leave0 ⟨a.tmps.getD t undef, by simp [results, hres], _, S, at_, _, a, v, rfl, hr, by have := hr.env t; rw [show (⟨e, ob, g⟩ : St).env t = v from hx] at this; exact this, hK⟩
end
theorem updO_self {f : Nat → Nat → Ob} {g d : Nat} {o : Ob} (h : f g d = o) : updO f g d o = f := by
  funext g' d'
  unfold updO
  split
  · rename_i h'; rw [h'.1, h'.2, h]
  · rfl
theorem updO_upd (f : Nat → Nat → Ob) (g d : Nat) (o o' : Ob) : updO (updO f g d o) g d o' = updO f g d o' := by
  funext g' d'
  unfold updO
  split <;> rfl
end Go.Proofs.YtjjpmbaddpiamaaDoor
/-
  The abstract machine: more rules: quotient and remainder of whole numbers.
-/
set_option linter.unusedSimpArgs false
set_option linter.unusedVariables false
namespace Go.Proofs.YtjjpmbaddpiamaaDoor
open Go.RowKit
section
variable {c : Ctx} {st : St} {o : Oper} {d : Nat}
theorem Stp.quo {t t' : TypeId} {x y : Operand} {p q : Int} (hd : o.dst = some d) (hn : d < c.nt) (hop : o.op = .binOp .quo t x y t') (hx : st.ev x = .int .i64 p) (hy : st.ev y = .int .i64 q) (h : 0 ≤ p ∧ p ≤ 9223372036854775807 ∧ 1 ≤ q) : Stp c o st (st.put d (.int .i64 (p / q))) :=
  Stp.val hd hn fun S at_ a w hr => by
    have h1 := hr.ev x
    have h2 := hr.ev y
    rw [hx, VR, RL] at h1
    rw [hy, VR, RL] at h2
    have h0 : ¬ q = 0 := by omega
    exact ⟨_, by simp [execOp, hop, h1, h2, eqGuard, binOp, Op.intDiv, h0]; rfl, by rw [VR, RL, IntWalk.i64_quo _ _ h]⟩
theorem Stp.rem {t t' : TypeId} {x y : Operand} {p q : Int} (hd : o.dst = some d) (hn : d < c.nt) (hop : o.op = .binOp .rem t x y t') (hx : st.ev x = .int .i64 p) (hy : st.ev y = .int .i64 q) (h : 0 ≤ p ∧ 1 ≤ q) : Stp c o st (st.put d (.int .i64 (p % q))) :=
  Stp.val hd hn fun S at_ a w hr => by
    have h1 := hr.ev x
    have h2 := hr.ev y
    rw [hx, VR, RL] at h1
    rw [hy, VR, RL] at h2
    have h0 : ¬ q = 0 := by omega
    exact ⟨_, by simp [execOp, hop, h1, h2, eqGuard, binOp, Op.intDiv, h0]; rfl, by rw [VR, RL, IntWalk.rem_in _ _ h.1]⟩
end
section
variable {P : Program} {w0 : World} {S0 : Nat → Prop} {nt : Nat} {frs : Frs} {e : Nat → V} {ob : Nat → Nat → Ob} {g : Nat} {Q : Exit → Act → World → Prop} {K : Act → World → Prop} {ops : Array Oper} {rest : List Oper} {d : Nat} {ty : TypeId} {pos : String} {aft : Array Edge} {m : Md}
theorem p_quo {t t' : TypeId} {x y : Operand} {p q r : Int} (hn : d < nt := by decide) (hx : evE e x = .int .i64 p := by simp (decide := true) only [evE, upd, cv, args0, argsFrom, List.length_map, ↓reduceIte, hE] <;> rfl) (hy : evE e y = .int .i64 q := by simp (decide := true) only [evE, upd, cv, args0, argsFrom, List.length_map, ↓reduceIte, hE] <;> rfl) (hr : p / q = r) (hb : 0 ≤ p ∧ p ≤ 9223372036854775807 ∧ 1 ≤ q) (h : Wk (m.log ⟨some (d, .int .i64 r), [], []⟩) ⟨P, w0, S0, nt, frs⟩ ops Q ⟨upd e d (.int .i64 r), ob, g⟩ rest) :
    Wk m ⟨P, w0, S0, nt, frs⟩ ops Q ⟨e, ob, g⟩ (⟨some d, .binOp .quo t x y t', ty, pos, aft, none⟩ :: rest) := by
  subst hr
  exact Wk.op (Loc.plain rfl rfl fun st' hv' _ _ => Stp.quo (st := st') rfl hn rfl ((hv' x (by simp [Op.operands])).trans ((evE_eq e ob g x).trans hx)) ((hv' y (by simp [Op.operands])).trans ((evE_eq e ob g y).trans hy)) hb) h
theorem p_rem {t t' : TypeId} {x y : Operand} {p q r : Int} (hn : d < nt := by decide) (hx : evE e x = .int .i64 p := by simp (decide := true) only [evE, upd, cv, args0, argsFrom, List.length_map, ↓reduceIte, hE] <;> rfl) (hy : evE e y = .int .i64 q := by simp (decide := true) only [evE, upd, cv, args0, argsFrom, List.length_map, ↓reduceIte, hE] <;> rfl) (hr : p % q = r) (hb : 0 ≤ p ∧ 1 ≤ q) (h : Wk (m.log ⟨some (d, .int .i64 r), [], []⟩) ⟨P, w0, S0, nt, frs⟩ ops Q ⟨upd e d (.int .i64 r), ob, g⟩ rest) :
    Wk m ⟨P, w0, S0, nt, frs⟩ ops Q ⟨e, ob, g⟩ (⟨some d, .binOp .rem t x y t', ty, pos, aft, none⟩ :: rest) := by
  subst hr
  exact Wk.op (Loc.plain rfl rfl fun st' hv' _ _ => Stp.rem (st := st') rfl hn rfl ((hv' x (by simp [Op.operands])).trans ((evE_eq e ob g x).trans hx)) ((hv' y (by simp [Op.operands])).trans ((evE_eq e ob g y).trans hy)) hb) h
end
end Go.Proofs.YtjjpmbaddpiamaaDoor
