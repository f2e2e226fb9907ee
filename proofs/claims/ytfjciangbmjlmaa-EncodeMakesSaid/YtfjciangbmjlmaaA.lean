/-
  The abstract machine: calls of functions that change what their caller owns: the called function works on with the caller's own objects.
-/
import Derived.Test.YtfjciangbmjlmaaY
set_option linter.unusedSimpArgs false
set_option linter.unusedVariables false
namespace Go.Proofs.Ytfjciangbmjlmaa
open Go.RowKit
/-- What the body of such a function must come to: a result, and the caller's objects as they are then. -/
def RetI (c : Ctx) (fn : Func) (K : V → (Nat → Nat → Ob) → Prop) : Exit → Act → World → Prop
  | .normal, a, w | .ret, a, w => a.defers = [] ∧ ∃ S at_ st v r, Rel c S at_ st a w ∧ (results fn a.tmps).run c.P w = .ok v w ∧ VR c.P w S at_ r v ∧ K r st.obj
  | _, _, _ => False
/-- A function's contract, where it works in place: with objects 'ob' it returns r and leaves 'ob2'. -/
def FnI (P : Program) (f : FuncId) (args : List V) (ob : Nat → Nat → Ob) (r : V) (ob2 : Nat → Nat → Ob) : Prop :=
  ∃ fn code nt, HasBody P f fn code ∧ fn.ntmps = nt ∧ args.length ≤ nt ∧ ∀ w0 S0 frs g, TrC ⟨P, w0, S0, nt, frs⟩ ⟨args0 args, ob, g⟩ code (RetI ⟨P, w0, S0, nt, frs⟩ fn fun r' o => r' = r ∧ o = ob2)
theorem FnI.of {P : Program} {f : FuncId} {fn : Func} {code : Code} {nt : Nat} {args : List V} {ob ob2 : Nat → Nat → Ob} {r : V} (hb : HasBody P f fn code) (hnt : fn.ntmps = nt) (hle : args.length ≤ nt)
    (h : ∀ w0 S0 frs g, TrC ⟨P, w0, S0, nt, frs⟩ ⟨args0 args, ob, g⟩ code (RetI ⟨P, w0, S0, nt, frs⟩ fn fun r' o => r' = r ∧ o = ob2)) : FnI P f args ob r ob2 := ⟨fn, code, nt, hb, hnt, hle, h⟩
section
variable {c : Ctx} {st : St} {Q : Exit → Act → World → Prop}
theorem Tr.callIn {o : Oper} {ops : Array Oper} {rest : List Oper} {d : Nat} {x : Operand} {f : FuncId} {fn : Func} {code : Code} {xs : Array Operand} {ts : Array TypeId} {args : List V} {nt : Nat} {K : V → (Nat → Nat → Ob) → Prop} (hg : o.guard = none) (hd : o.dst = some d) (hn : d < c.nt) (hop : o.op = .call { callee := .value x, args := xs, argTypes := ts })
    (hx : st.ev x = .fn f []) (hb : HasBody c.P f fn code) (hnt : fn.ntmps = nt) (hargs : xs.toList.map st.ev = args) (hle : args.length ≤ nt)
    (hf : ∀ a0, TrC ⟨c.P, c.w0, c.S0, nt, (st.env, a0) :: c.frs⟩ ⟨args0 args, st.obj, st.gen⟩ code (RetI ⟨c.P, c.w0, c.S0, nt, (st.env, a0) :: c.frs⟩ fn K))
    (h : ∀ r o g, K r o → Tr c ⟨upd st.env d r, o, g⟩ (wpList c.P ops Q rest)) : Tr c st (wpList c.P ops Q (o :: rest)) :=
  fun S at_ a w hr => wpList_plain hg fun K' hK => by
    obtain ⟨arr, h1, hrun⟩ := call_run hr hop hx hb
    obtain rfl : arr = [] := by cases arr with | nil => rfl | cons => simp [VRs] at h1
    rw [List.append_nil] at hrun
    have hvals : VRs c.P w S at_ args (xs.toList.map a.eval) := by
      subst hargs
      generalize xs.toList = l
      induction l with
      | nil => simp [VRs]
      | cons y l ih => simp only [List.map_cons]; rw [VRs]; exact ⟨hr.ev y, ih⟩
    generalize xs.toList.map a.eval = cs at hrun hvals
    have hlen := VRs.length hvals
    have hr' : Rel ⟨c.P, c.w0, c.S0, nt, (st.env, a) :: c.frs⟩ S at_ ⟨args0 args, st.obj, st.gen⟩ { tmps := cs.toArray ++ Array.replicate (fn.ntmps - cs.toArray.size) undef, defers := [] } w :=
      { defers := rfl
        size := by simp; omega
        env := fun s => by
          simp only [args0_eq]
          cases hs : args[s]? with
          | none => rw [Option.getD_none, VR]; trivial
          | some v =>
            obtain ⟨x, hx, hv⟩ := VRs.get hvals hs
            have hlt := (List.getElem?_eq_some_iff.1 hx).1
            have : (cs.toArray ++ Array.replicate (fn.ntmps - cs.toArray.size) undef).getD s undef = x := by
              rw [Array.getD_eq_getD_getElem?, Array.getElem?_append_left (by simpa using hlt)]
              simp [hx]
            rw [this]
            exact hv
        frs := fun p hp s => by
          rcases List.mem_cons.1 hp with rfl | hp
          · exact hr.env s
          · exact hr.frs p hp s
        gen := hr.gen, al := hr.al, ok := hr.ok, own := hr.own, dis := hr.dis, slt := hr.slt, snew := hr.snew, sold := hr.sold, below := hr.below }
    have hcall : Calls c.P f cs.toArray w fun e w' => ∃ v r S' at' o g, e = .returned v ∧ Rel c S' at' ⟨st.env, o, g⟩ a w' ∧ VR c.P w' S' at' r v ∧ K r o := by
      refine calls_of_wp hb.1 hb.2.2 ?_
      refine wp_mono (hf a S at_ _ w hr') fun e a' w' hq => ?_
      have key : (∃ S2 at2 st2 v r, Rel ⟨c.P, c.w0, c.S0, nt, (st.env, a) :: c.frs⟩ S2 at2 st2 a' w' ∧ (results fn a'.tmps).run c.P w' = .ok v w' ∧ VR c.P w' S2 at2 r v ∧ K r st2.obj) → ∃ v, (results fn a'.tmps).run c.P w' = .ok v w' ∧ ∃ v' r S' at' o g, Ending.returned v = .returned v' ∧ Rel c S' at' ⟨st.env, o, g⟩ a w' ∧ VR c.P w' S' at' r v' ∧ K r o := by
        rintro ⟨S2, at2, st2, v, r, k1, k2, k3, k4⟩
        exact ⟨v, k2, v, r, S2, at2, st2.obj, st2.gen, rfl,
          { defers := hr.defers, size := hr.size, env := fun s => k1.frs (st.env, a) (by simp) s, frs := fun p hp s => k1.frs p (by simp [hp]) s
            gen := k1.gen, al := k1.al, ok := k1.ok, own := k1.own, dis := k1.dis, slt := k1.slt, snew := k1.snew, sold := k1.sold, below := k1.below }, k3, k4⟩
      cases e with
      | normal => obtain ⟨h1, h2⟩ := hq; exact ⟨h1, key h2⟩
      | ret => obtain ⟨h1, h2⟩ := hq; exact ⟨h1, key h2⟩
      | exit _ => exact hq.elim
      | goto _ => exact hq.elim
      | panic _ => exact hq.elim
      | outgrown => exact hq.elim
    unfold Oper.wp
    rw [hrun, Oper.upon_enter]
    refine hcall.mono ?_
    rintro e w' ⟨v, r, S', at', o', g', rfl, k1, k2, k3⟩
    rw [hd]
    exact hK _ _ (h r o' g' k3 S' at' _ w' (k1.put hn k2))
end
section
variable {P : Program} {w0 : World} {S0 : Nat → Prop} {nt : Nat} {frs : List ((Nat → V) × Act)} {e : Nat → V} {ob : Nat → Nat → Ob} {g : Nat} {Q : Exit → Act → World → Prop} {ops : Array Oper} {m : Md} {d : Nat} {rest : List Oper} {ty : TypeId} {pos : String} {aft : Array Edge}
theorem p_callIn {x : Operand} {f : FuncId} {xs : List Operand} {ts : Array TypeId} {args : List V} {r : V} {ob2 : Nat → Nat → Ob} (hm : m = .lex := by exact rfl) (hn : d < nt := by decide) (hx : evE e x = .fn f [] := by simp (decide := true) only [evE, upd, cv, args0, argsFrom, List.length_map, ↓reduceIte, hE] <;> rfl) (hus : xs.map (evE e) = args := by simp (decide := true) only [List.map_cons, List.map_nil, List.cons_append, List.nil_append, List.append_nil, evE, upd, updO, cv, args0, List.getElem?_cons_zero, List.getElem?_cons_succ, Option.getD_some, List.length_map, ↓reduceIte, hE] <;> rfl) (hf : FnI P f args ob r ob2) (h : ∀ g', Wk .lex ⟨P, w0, S0, nt, frs⟩ ops Q ⟨upd e d r, ob2, g'⟩ rest) :
    Wk m ⟨P, w0, S0, nt, frs⟩ ops Q ⟨e, ob, g⟩ (⟨some d, .call { callee := .value x, args := xs.toArray, argTypes := ts }, ty, pos, aft, none⟩ :: rest) := by
  subst hm
  obtain ⟨fn, code, nt', hb, hnt, hle, hf⟩ := hf
  refine Tr.callIn (K := fun r' o => r' = r ∧ o = ob2) rfl rfl hn rfl ((evE_eq e ob g x).trans hx) hb hnt ?_ hle (fun a0 => hf _ _ _ _) ?_
  · rw [← hus]
    exact List.map_congr_left fun y _ => evE_eq e ob g y
  · rintro r' o g' ⟨rfl, rfl⟩
    exact h g'
theorem p_retI0 {fn : Func} {K : V → (Nat → Nat → Ob) → Prop} (hres : fn.results = #[]) (hK : K (.tup []) ob) : Tr ⟨P, w0, S0, nt, frs⟩ ⟨e, ob, g⟩ (RetI ⟨P, w0, S0, nt, frs⟩ fn K .normal) := fun S at_ a w hr =>
  ⟨hr.defers, S, at_, _, .tuple #[], .tup [], hr, by simp [results, hres], by rw [VR]; exact ⟨#[], rfl, by simp [VRs]⟩, hK⟩
theorem p_retI0' {fn : Func} {K : V → (Nat → Nat → Ob) → Prop} (hres : fn.results = #[]) (hK : K (.tup []) ob) : Tr ⟨P, w0, S0, nt, frs⟩ ⟨e, ob, g⟩ (RetI ⟨P, w0, S0, nt, frs⟩ fn K .ret) := p_retI0 hres hK
theorem p_retI1 {fn : Func} {K : V → (Nat → Nat → Ob) → Prop} {t : Nat} {v : V} (hres : fn.results = #[.tmp t]) (hx : e t = v := by simp (decide := true) only [evE, upd, cv, args0, argsFrom, List.length_map, ↓reduceIte, hE] <;> rfl) (hK : K v ob) : Tr ⟨P, w0, S0, nt, frs⟩ ⟨e, ob, g⟩ (RetI ⟨P, w0, S0, nt, frs⟩ fn K .ret) := fun S at_ a w hr =>
  ⟨hr.defers, S, at_, _, a.tmps.getD t undef, v, hr, by simp [results, hres], by have := hr.env t; rw [show (⟨e, ob, g⟩ : St).env t = v from hx] at this; exact this, hK⟩
end
theorem updO_self {f : Nat → Nat → Ob} {g d : Nat} {o : Ob} (h : f g d = o) : updO f g d o = f := by
  funext g' d'
  unfold updO
  split
  · rename_i h'; rw [h'.1, h'.2, h]
  · rfl
theorem updO_upd (f : Nat → Nat → Ob) (g d : Nat) (o o' : Ob) : updO (updO f g d o) g d o' = updO f g d o' := by
  funext g' d'
  unfold updO
  split <;> rfl
end Go.Proofs.Ytfjciangbmjlmaa
