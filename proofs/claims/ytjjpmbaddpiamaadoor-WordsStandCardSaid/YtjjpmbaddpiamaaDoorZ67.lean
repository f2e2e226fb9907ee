import Derived.Test.YtjjpmbaddpiamaaDoorZ35
import Derived.RecoverIn
import Derived.Laws.Strings
import Derived.Laws.Concat
import Derived.Laws.PanicsMore
import Derived.Lib.Bytealg
import Derived.Lib.Builder
/-
  The abstract machine: panics, deferred closures that recover.
-/
set_option linter.unusedSimpArgs false
set_option linter.unusedVariables false
namespace Go.Proofs.YtjjpmbaddpiamaaDoor
open Go.RowKit
/-- What is left to do behind a body: the deferred calls, then the results. -/
def Leave (P : Program) (fn : Func) (R : Ending → World → Prop) (u : FrameMode) : Act → World → Prop := fun a w => LeavesInM Fence.wide 0 P fn a.tmps R a.defers u w
def OutP (P : Program) (fn : Func) (R : Ending → World → Prop) : Exit → Act → World → Prop
  | .normal => Leave P fn R .returning
  | .ret => Leave P fn R .returning
  | .panic ch => Leave P fn R (.panicking ch)
  | _ => fun _ _ => False
theorem out_callsP {P : Program} {f : FuncId} {fn : Func} {code : Code} {args : Array Value} {w : World} {R : Ending → World → Prop} (hf : P.funcs[f]? = some fn) (hb : fn.body = some code) (h : code.wpIn (Fn none) 0 P (OutP P fn R) { tmps := args ++ Array.replicate (fn.ntmps - args.size) undef, defers := [] } w) : Calls P f args w R :=
  callsIn_wide.1 (callsIn_of_wp_marks (F := Fence.wide) (n := 0) hf hb trivial (wpIn_mono h fun e a w hq => by
    cases e with
    | normal => exact hq
    | ret => exact hq
    | exit _ => exact hq.elim
    | goto _ => exact hq.elim
    | panic _ => exact hq
    | outgrown => exact hq.elim))
abbrev pan1 (x : Value) : List PanicEntry := [{ v := x, recovered := false }]
def RetP (c : Ctx) (fn : Func) (K : V → (Nat → Nat → Ob) → Nat → Prop) (KP : Value → (Nat → Nat → Ob) → Nat → Prop) : Exit → Act → World → Prop :=
  OutP c.P fn fun e w => ∃ S at_ st a, Rel ⟨c.P, c.w0, c.S0, c.nt, ⟨c.frs.l, [], none⟩⟩ S at_ st a w ∧ ((∃ v r, e = .returned v ∧ VR c.P w S at_ r v ∧ K r st.obj st.gen) ∨ ∃ x, e = .panicked (pan1 x) ∧ KP x st.obj st.gen)
section
variable {c : Ctx} {st : St} {Q : Exit → Act → World → Prop}
theorem Tr.then_panic {next : Act → World → Prop} {ch : List PanicEntry} (h : Tr c st (Q (.panic ch))) : Tr c st (Exit.then next Q (.panic ch)) := h
theorem Tr.block_panic {id : Nat} {ch : List PanicEntry} (h : Tr c st (Q (.panic ch))) : Tr c st (Exit.inBlock id Q (.panic ch)) := h
theorem dfrs_nil {P : Program} {w : World} {S : Nat → Prop} {at_ : At} {m : List Deferred} (h : DfrsR P w S at_ [] m) : m = [] := by
  cases m with
  | nil => rfl
  | cons x m => exact h.elim
theorem clo_keys (l : List ((Nat → V) × Act × List Dfr)) (f : FuncId) (cap : List V) (ds : List Dfr) : (⟨l, .clo f cap :: ds, none⟩ : Frs).keys = (⟨l, ds, none⟩ : Frs).keys := by
  show List.filterMap Dfr.key (.clo f cap :: (ds ++ _)) = List.filterMap Dfr.key (ds ++ _)
  rw [List.filterMap_cons]; rfl
theorem Tr.enterP {o : Oper} {ops : Array Oper} {rest : List Oper} {d : Nat} {x : Operand} {f : FuncId} {fn : Func} {code : Code} {xs : Array Operand} {ts : Array TypeId} {args cap : List V} {nt : Nat} (hg : o.guard = none) (hd : o.dst = some d) (hn : d < c.nt) (hop : o.op = .call { callee := .value x, args := xs, argTypes := ts })
    (hx : st.ev x = .fn f cap) (hb : HasBody c.P f fn code) (hnt : fn.ntmps = nt) (hargs : xs.toList.map st.ev ++ cap = args) (hle : args.length ≤ nt)
    (hf : ∀ a0, TrC ⟨c.P, c.w0, c.S0, nt, ⟨(st.env, a0, c.frs.dfs) :: c.frs.l, [], none⟩⟩ ⟨args0 args, st.obj, st.gen⟩ code (RetP ⟨c.P, c.w0, c.S0, nt, ⟨(st.env, a0, c.frs.dfs) :: c.frs.l, [], none⟩⟩ fn (fun r o g => Tr c ⟨upd st.env d r, o, g⟩ (wpListIn (Fn c.frs.rd) 0 c.P ops Q rest)) fun x o g => Tr c ⟨st.env, o, g⟩ (Q (.panic (pan1 x))))) : Tr c st (wpListIn (Fn c.frs.rd) 0 c.P ops Q (o :: rest)) :=
  fun S at_ a w hr => wpListIn_plain hg fun K' hK => by
    obtain ⟨arr, h1, hrun⟩ := call_run hr hop hx hb
    have hvals : VRs c.P w S at_ args (xs.toList.map a.eval ++ arr) := by
      subst hargs
      refine VRs.append ?_ h1
      generalize xs.toList = l
      induction l with
      | nil => simp [VRs]
      | cons y l ih => simp only [List.map_cons]; rw [VRs]; exact ⟨hr.ev y, ih⟩
    generalize xs.toList.map a.eval ++ arr = cs at hrun hvals
    have hlen := VRs.length hvals
    have hr' : Rel ⟨c.P, c.w0, c.S0, nt, ⟨(st.env, a, c.frs.dfs) :: c.frs.l, [], none⟩⟩ S at_ ⟨args0 args, st.obj, st.gen⟩ { tmps := cs.toArray ++ Array.replicate (fn.ntmps - cs.toArray.size) undef, defers := [] } w :=
      { defers := trivial
        stk := fun k hk => hr.stk k ((frs_keys st.env a c.frs) ▸ hk)
        nod := by rw [frs_keys]; exact hr.nod
        size := by simp; omega
        env := fun s => by
          simp only [args0_eq]
          cases hs : args[s]? with
          | none => rw [Option.getD_none, VR]; trivial
          | some v =>
            obtain ⟨x, hx, hv⟩ := VRs.get hvals hs
            have hlt := (List.getElem?_eq_some_iff.1 hx).1
            have : (cs.toArray ++ Array.replicate (fn.ntmps - cs.toArray.size) undef).getD s undef = x := by
              rw [Array.getD_eq_getD_getElem?, Array.getElem?_append_left (by simpa using hlt)]
              simp [hx]
            rw [this]
            exact hv
        frs := fun p hp => by
          rcases List.mem_cons.1 hp with rfl | hp
          · exact ⟨hr.env, hr.defers⟩
          · exact hr.frs p hp
        gen := hr.gen, al := hr.al, ok := hr.ok, own := hr.own, dis := hr.dis, slt := hr.slt, snew := hr.snew, sold := hr.sold, below := hr.below, glob := hr.glob }
    have hback : ∀ {S2 at2 st2 a2 w'}, Rel ⟨c.P, c.w0, c.S0, nt, ⟨(st.env, a, c.frs.dfs) :: c.frs.l, [], none⟩⟩ S2 at2 st2 a2 w' → Rel c S2 at2 ⟨st.env, st2.obj, st2.gen⟩ a w' := fun {S2 at2 st2 a2 w'} k1 => by
      have hm := k1.frs (st.env, a, c.frs.dfs) (List.mem_cons_self ..)
      exact { defers := hm.2, size := hr.size, env := hm.1, frs := fun p hp => k1.frs p (List.mem_cons_of_mem _ hp), stk := fun k hk => k1.stk k ((frs_keys st.env a c.frs).symm ▸ hk), nod := hr.nod
              gen := k1.gen, al := k1.al, ok := k1.ok, own := k1.own, dis := k1.dis, slt := k1.slt, snew := k1.snew, sold := k1.sold, below := k1.below, glob := k1.glob }
    refine wpIn_enter hop hrun ?_
    refine (out_callsP hb.1 hb.2.2 (hf a S at_ _ w hr')).mono ?_
    rintro e w' ⟨S2, at2, st2, a2, k1, ⟨v, r, rfl, k3, k4⟩ | ⟨x, rfl, k4⟩⟩
    · rw [hd]
      exact hK _ _ (k4 S2 at2 _ w' ((hback k1).put hn k3))
    · exact k4 S2 at2 a w' (hback k1)
end
section
variable {c : Ctx} {st : St} {o : Oper} {d : Nat}
theorem Stp.mkIface {t : TypeId} {x : Operand} {v : Value} {u : TypeDesc} (hd : o.dst = some d) (hn : d < c.nt) (hop : o.op = .makeInterface t x) (ht : c.P.underlying t = some u) (hu : ∀ ms, u ≠ .interface ms) (hx : st.ev x = cw v) (hf : (cw v).flat = true) : Stp c o st (st.put d (.any (.iface t v))) :=
  Stp.val hd hn fun S at_ a w hr => by
    have h1 := hr.ev x
    rw [hx] at h1
    refine ⟨.iface t v, ?_, by rw [VR, RL]; exact ⟨rfl, rfl⟩⟩
    have hrun : (Instr.makeInterface t v).run c.P w = .ok (.iface t v) w := by
      simp only [Instr.makeInterface, Sem.run_bind, run_underlying ht, Result.andThen_ok]
      cases u <;> first | rfl | exact absurd rfl (hu _)
    simp [execOp, hop, cw_val h1 hf, hrun, Result.andThen]
theorem Stp.asIface {t t' : TypeId} {x : Operand} {v : Value} {u : TypeDesc} (hd : o.dst = some d) (hn : d < c.nt) (hop : o.op = .typeAssert x t' t true) (ht : c.P.underlying t = some u) (hu : ∀ ms, u ≠ .interface ms) (hx : st.ev x = .any (.iface t v)) : Stp c o st (st.put d (.tup [cw v, .bool true])) :=
  Stp.val hd hn fun S at_ a w hr => by
    have h1 := hr.ev x
    rw [hx, VR, RL] at h1
    have hrun : (Instr.typeAssert (.iface t v) t' t true).run c.P w = .ok (.tuple #[v, .bool true]) w := by
      simp only [Instr.typeAssert, Sem.run_bind, run_underlying ht, Result.andThen_ok]
      cases u <;> first | (simp; done) | exact absurd rfl (hu _)
    refine ⟨.tuple #[v, .bool true], by simp [execOp, hop, h1.1, hrun, Result.andThen], ?_⟩
    rw [VR]
    refine ⟨_, rfl, ?_⟩
    simp only [VRs]
    exact ⟨VR_cw _, by rw [VR, RL], trivial⟩
theorem equalIn_ifaceNil {P : Program} {w : World} {t s : TypeId} {v : Value} {ms : Array (String × TypeId)} (n : Nat) (ht : P.underlying t = some (.interface ms)) : (Op.equalIn (n + 1) t (.iface s v) .nilIface).run P w = .ok false w := by
  simp only [Op.equalIn, Sem.run_bind, run_underlying ht, Result.andThen_ok, Sem.run_pure]
theorem equalIn_nilNil {P : Program} {w : World} {t : TypeId} {ms : Array (String × TypeId)} (n : Nat) (ht : P.underlying t = some (.interface ms)) : (Op.equalIn (n + 1) t .nilIface .nilIface).run P w = .ok true w := by
  simp only [Op.equalIn, Sem.run_bind, run_underlying ht, Result.andThen_ok, Sem.run_pure]
theorem equal_ifaceNil {P : Program} {w : World} {t s : TypeId} {v : Value} {ms : Array (String × TypeId)} (ht : P.underlying t = some (.interface ms)) : (Op.equal t (.iface s v) .nilIface).run P w = .ok false w := equalIn_ifaceNil 9999 ht
theorem equal_nilNil {P : Program} {w : World} {t : TypeId} {ms : Array (String × TypeId)} (ht : P.underlying t = some (.interface ms)) : (Op.equal t .nilIface .nilIface).run P w = .ok true w := equalIn_nilNil 9999 ht
theorem Stp.eqIface {t t' s : TypeId} {x : Operand} {v : Value} {ms : Array (String × TypeId)} (hd : o.dst = some d) (hn : d < c.nt) (hop : o.op = .binOp .eql t x (.const .nilIface) t') (ht : c.P.underlying t = some (.interface ms)) (hx : st.ev x = .any (.iface s v)) : Stp c o st (st.put d (.bool false)) :=
  Stp.val hd hn fun S at_ a w hr => by
    have h1 := hr.ev x
    rw [hx, VR, RL] at h1
    have hg : (eqGuard .eql t x (.const .nilIface) (.iface s v) .nilIface).run c.P w = .ok () w := rfl
    refine ⟨.bool false, ?_, by rw [VR, RL]⟩
    simp only [execOp, hop, h1.1, show a.eval (.const .nilIface) = .nilIface from rfl, Sem.run_bind, hg, Result.andThen_ok, binOp, equal_ifaceNil ht, Sem.run_pure]
theorem Stp.eqNilIface {t t' : TypeId} {x : Operand} {ms : Array (String × TypeId)} (hd : o.dst = some d) (hn : d < c.nt) (hop : o.op = .binOp .eql t x (.const .nilIface) t') (ht : c.P.underlying t = some (.interface ms)) (hx : st.ev x = .any .nilIface) : Stp c o st (st.put d (.bool true)) :=
  Stp.val hd hn fun S at_ a w hr => by
    have h1 := hr.ev x
    rw [hx, VR, RL] at h1
    have hg : (eqGuard .eql t x (.const .nilIface) .nilIface .nilIface).run c.P w = .ok () w := by simp [eqGuard]
    refine ⟨.bool true, ?_, by rw [VR, RL]⟩
    simp only [execOp, hop, h1.1, show a.eval (.const .nilIface) = .nilIface from rfl, Sem.run_bind, hg, Result.andThen_ok, binOp, equal_nilNil ht, Sem.run_pure]
end
/-- Calls that work in place and may panic. -/
def FnP (P : Program) (f : FuncId) (args : List V) (ks : List (Nat × Nat)) (us : List Ob) (R : V → List Ob → Prop) (RP : Value → List Ob → Prop) : Prop :=
  ∃ fn code nt, HasBody P f fn code ∧ fn.ntmps = nt ∧ args.length ≤ nt ∧ ∀ w0 S0 l ob g K KP, valsO ob ks = us → (∀ k ∈ ks, k.1 ≤ g) → (∀ r o g', g ≤ g' → LowQ g ks ob o → R r (valsO o ks) → K r o g') → (∀ x o g', g ≤ g' → LowQ g ks ob o → RP x (valsO o ks) → KP x o g') → TrC ⟨P, w0, S0, nt, ⟨l, [], none⟩⟩ ⟨args0 args, ob, g⟩ code (RetP ⟨P, w0, S0, nt, ⟨l, [], none⟩⟩ fn K KP)
theorem FnP.of {P : Program} {f : FuncId} {fn : Func} {code : Code} {nt : Nat} {args : List V} {ks : List (Nat × Nat)} {us : List Ob} {R : V → List Ob → Prop} {RP : Value → List Ob → Prop} (hb : HasBody P f fn code) (hnt : fn.ntmps = nt) (hle : args.length ≤ nt)
    (h : ∀ w0 S0 l ob g K KP, valsO ob ks = us → (∀ k ∈ ks, k.1 ≤ g) → (∀ r o g', g ≤ g' → LowQ g ks ob o → R r (valsO o ks) → K r o g') → (∀ x o g', g ≤ g' → LowQ g ks ob o → RP x (valsO o ks) → KP x o g') → TrC ⟨P, w0, S0, nt, ⟨l, [], none⟩⟩ ⟨args0 args, ob, g⟩ code (RetP ⟨P, w0, S0, nt, ⟨l, [], none⟩⟩ fn K KP)) : FnP P f args ks us R RP := ⟨fn, code, nt, hb, hnt, hle, h⟩
theorem FnP.mono {P : Program} {f : FuncId} {args : List V} {ks : List (Nat × Nat)} {us : List Ob} {R R' : V → List Ob → Prop} {RP RP' : Value → List Ob → Prop} (h : FnP P f args ks us R RP) (hR : ∀ r vs, R r vs → R' r vs) (hP : ∀ x vs, RP x vs → RP' x vs) : FnP P f args ks us R' RP' := by
  obtain ⟨fn, code, nt, h1, h2, h3, h4⟩ := h
  exact ⟨fn, code, nt, h1, h2, h3, fun w0 S0 l ob g K KP hv hk hK hKP => h4 w0 S0 l ob g K KP hv hk (fun r o g' hg hl hr => hK r o g' hg hl (hR r _ hr)) fun x o g' hg hl hr => hKP x o g' hg hl (hP x _ hr)⟩
section
variable {P : Program} {w0 : World} {S0 : Nat → Prop} {nt : Nat} {frs : Frs} {e : Nat → V} {ob : Nat → Nat → Ob} {g : Nat} {Q : Exit → Act → World → Prop} {ops : Array Oper} {rest : List Oper} {d : Nat} {ty : TypeId} {pos : String} {aft : Array Edge} {m : Md}
theorem p_callP (os : List (Nat × Nat)) {x : Operand} {f : FuncId} {xs : List Operand} {ts : Array TypeId} {args : List V} {ks : List (Nat × Nat)} {us us' : List Ob} {R : V → List Ob → Prop} {RP : Value → List Ob → Prop} (hm : m = .lex := by exact rfl) (hn : d < nt := by decide) (hx : evE e x = .fn f [] := by simp (decide := true) only [evE, upd, cv, args0, argsFrom, List.length_map, ↓reduceIte, hE] <;> rfl) (hus : xs.map (evE e) = args := by simp (decide := true) only [List.map_cons, List.map_nil, List.cons_append, List.nil_append, List.append_nil, evE, upd, updO, cv, args0, List.getElem?_cons_zero, List.getElem?_cons_succ, Option.getD_some, List.length_map, ↓reduceIte, hE] <;> rfl)
    (hf : FnP P f args ks us R RP) (hrow : valsO ob ks = us := by simp (decide := true) only [valsO, updO, upd, true_and, and_true, false_and, and_false, ↓reduceIte, hE] <;> rfl) (hg : ∀ k ∈ ks, k.1 ≤ g) (hos : ∀ k ∈ os, k.1 ≤ g ∧ k ∉ ks) (hv : valsO ob os = us' := by simp (decide := true) only [valsO, updO, upd, true_and, and_true, false_and, and_false, ↓reduceIte, hE] <;> rfl)
    (hp : ∀ x o g', g ≤ g' → LowQ g ks ob o → valsO o os = us' → RP x (valsO o ks) → Tr ⟨P, w0, S0, nt, frs⟩ ⟨e, o, g'⟩ (Q (.panic (pan1 x))))
    (h : ∀ r o g', g ≤ g' → LowQ g ks ob o → valsO o os = us' → R r (valsO o ks) → Wk .lex ⟨P, w0, S0, nt, frs⟩ ops Q ⟨upd e d r, o, g'⟩ rest) : Wk m ⟨P, w0, S0, nt, frs⟩ ops Q ⟨e, ob, g⟩ (⟨some d, .call { callee := .value x, args := xs.toArray, argTypes := ts }, ty, pos, aft, none⟩ :: rest) := by
  obtain ⟨fn, code, nt', hb, hnt, hle, hbody⟩ := hf
  subst hm
  refine Tr.enterP (cap := []) (args := args) rfl rfl hn rfl ((evE_eq e ob g x).trans hx) hb hnt ?_ hle fun a0 => ?_
  · rw [← hus, List.append_nil]
    exact List.map_congr_left fun y _ => evE_eq e ob g y
  · exact hbody w0 S0 _ ob g _ _ hrow hg (fun r o g' hg' hlow hR => h r o g' hg' hlow (hlow.vals hos hv) hR) fun x o g' hg' hlow hR => hp x o g' hg' hlow (hlow.vals hos hv) hR
/-- The text's own panic. -/
theorem p_panic {G : Prop} {dst : Option Nat} {x : Operand} {t : TypeId} {v : Value} (hm : m = .lex := by exact rfl) (hx : evE e x = .any (.iface t v) := by simp (decide := true) only [evE, upd, cv, args0, argsFrom, List.length_map, ↓reduceIte, hE] <;> rfl) (h : G) (hK : G → Tr ⟨P, w0, S0, nt, frs⟩ ⟨e, ob, g⟩ (Q (.panic (pan1 (.iface t v)))) := by intro hK'; (repeat (first | with_reducible refine Tr.then_panic ?_ | with_reducible refine Tr.block_panic ?_)); exact hK') : Wk m ⟨P, w0, S0, nt, frs⟩ ops Q ⟨e, ob, g⟩ (⟨dst, .panic x, ty, pos, aft, none⟩ :: rest) := by
  subst hm
  intro S at_ a w hr
  refine wpListIn_plain rfl fun K' hK' => ?_
  have h1 := hr.ev x
  rw [(evE_eq e ob g x).trans hx, VR, RL] at h1
  refine wpIn_of_run (res := .halt (.panic (.iface t v)) w) (fun c hc => by cases hc) ?_ (hK h S at_ a w hr)
  have hp : (Instr.panic (.iface t v)).run P w = .halt (.panic (.iface t v)) w := rfl
  simp [execOp, h1.1, hp, Result.andThen]
variable {l : List ((Nat → V) × Act × List Dfr)} {fn : Func} {K : V → (Nat → Nat → Ob) → Nat → Prop} {KP : Value → (Nat → Nat → Ob) → Nat → Prop} {st : St}
theorem p_retP (h : Tr ⟨P, w0, S0, nt, ⟨l, [], none⟩⟩ st (RetE ⟨P, w0, S0, nt, ⟨l, [], none⟩⟩ fn K .ret)) : Tr ⟨P, w0, S0, nt, ⟨l, [], none⟩⟩ st (RetP ⟨P, w0, S0, nt, ⟨l, [], none⟩⟩ fn K KP .ret) := fun S at_ a w hr => by
  have h1 := h S at_ a w hr
  have hd := dfrs_nil hr.defers
  simp only [RetE, Out, hd, LeavesInM, LeavesIn] at h1
  obtain ⟨v, h2, v', S', at', st', a', r, e1, k1, k2, k3⟩ := h1
  simp only [RetP, OutP, Leave, hd, LeavesInM, LeavesIn]
  exact ⟨v, h2, S', at', st', a', k1, .inl ⟨v', r, e1, k2, k3⟩⟩
theorem p_retPn (h : Tr ⟨P, w0, S0, nt, ⟨l, [], none⟩⟩ st (RetE ⟨P, w0, S0, nt, ⟨l, [], none⟩⟩ fn K .ret)) : Tr ⟨P, w0, S0, nt, ⟨l, [], none⟩⟩ st (RetP ⟨P, w0, S0, nt, ⟨l, [], none⟩⟩ fn K KP .normal) := p_retP h
theorem p_xP {x : Value} (hK : KP x ob g) : Tr ⟨P, w0, S0, nt, ⟨l, [], none⟩⟩ ⟨e, ob, g⟩ (RetP ⟨P, w0, S0, nt, ⟨l, [], none⟩⟩ fn K KP (.panic (pan1 x))) := fun S at_ a w hr => by
  have hd := dfrs_nil hr.defers
  simp only [RetP, OutP, Leave, hd, LeavesInM, LeavesIn]
  exact ⟨S, at_, _, a, hr, .inr ⟨x, rfl, hK⟩⟩
/-- A closure whose call is put off. -/
theorem p_defer {dst : Option Nat} {x : Operand} {f : FuncId} {cap : List V} {l : List ((Nat → V) × Act × List Dfr)} {dfs : List Dfr} (hdst : dst = none := by exact rfl) (hm : m = .lex := by exact rfl) (hx : evE e x = .fn f cap := by simp (decide := true) only [evE, upd, cv, args0, argsFrom, List.length_map, ↓reduceIte, hE] <;> rfl) (h : Wk .lex ⟨P, w0, S0, nt, ⟨l, .clo f cap :: dfs, none⟩⟩ ops Q ⟨e, ob, g⟩ rest) : Wk m ⟨P, w0, S0, nt, ⟨l, dfs, none⟩⟩ ops Q ⟨e, ob, g⟩ (⟨dst, .defer { callee := .value x, args := #[], argTypes := #[] }, ty, pos, aft, none⟩ :: rest) := by
  subst hm; subst hdst
  intro S at_ a w hr
  refine wpListIn_plain rfl fun K' hK' => ?_
  have h1 := hr.ev x
  rw [(evE_eq e ob g x).trans hx, VR] at h1
  obtain ⟨arr, h2, h3⟩ := h1
  have hkeys : (⟨l, .clo f cap :: dfs, none⟩ : Frs).keys = (⟨l, dfs, none⟩ : Frs).keys := clo_keys ..
  have hr' : Rel ⟨P, w0, S0, nt, ⟨l, .clo f cap :: dfs, none⟩⟩ S at_ ⟨e, ob, g⟩ { a with defers := { target := .fn (.func f) arr, args := #[] } :: a.defers } w :=
    { hr with defers := ⟨⟨arr, rfl, h3⟩, hr.defers⟩, frs := hr.frs, stk := fun k hk => hr.stk k (hkeys ▸ hk), nod := by rw [hkeys]; exact hr.nod, size := hr.size, env := hr.env }
  refine ⟨fun _ _ => trivial, ?_⟩
  have hrun : (execOp a.eval (⟨none, .defer { callee := .value x, args := #[], argTypes := #[] }, ty, pos, aft, none⟩ : Oper)).run P w = .ok (.defer { target := .fn (.func f) arr, args := #[] }) w := by
    simp [execOp, resolve, h2, Deferred.ofValue, Result.andThen]
  rw [show Oper.semAt (Fn none).round a.eval (⟨none, .defer { callee := .value x, args := #[], argTypes := #[] }, ty, pos, aft, none⟩ : Oper) = execOp a.eval (⟨none, .defer { callee := .value x, args := #[], argTypes := #[] }, ty, pos, aft, none⟩ : Oper) from rfl, hrun, Oper.uponIn_defer]
  exact hK' _ _ (h S at_ _ w hr')
end
/-- The end of a closure that is called behind a body. -/
def RetS (c : Ctx) (fn : Func) (K : V → (Nat → Nat → Ob) → Nat → Prop) : Exit → Act → World → Prop := fun e a w => a.defers = [] ∧ RetE c fn K e a w
section
variable {P : Program} {w0 : World} {S0 : Nat → Prop} {nt : Nat} {e : Nat → V} {ob : Nat → Nat → Ob} {g : Nat} {l : List ((Nat → V) × Act × List Dfr)} {fn : Func} {K : V → (Nat → Nat → Ob) → Nat → Prop} {st : St}
theorem p_retS {x : Exit} (h : Tr ⟨P, w0, S0, nt, ⟨l, [], none⟩⟩ st (RetE ⟨P, w0, S0, nt, ⟨l, [], none⟩⟩ fn K x)) : Tr ⟨P, w0, S0, nt, ⟨l, [], none⟩⟩ st (RetS ⟨P, w0, S0, nt, ⟨l, [], none⟩⟩ fn K x) := fun S at_ a w hr => ⟨dfrs_nil hr.defers, h S at_ a w hr⟩
/-- A closure that was put off is called; it asks first what there is to recover. -/
theorem p_recovers {R : Ending → World → Prop} {f : FuncId} {cap : List V} {ds : List Dfr} {fn' : Func} {code : Code} {id : Nat} {ops : Array Oper} {ts : Array TypeId} {d1 d2 nt' : Nat} {ty1 ty2 : TypeId} {pos1 pos2 : String} {aft1 aft2 : Array Edge} {u : FrameMode} (xv : Value) (hb : HasBody P f fn' (.seq (.region id ops false) code)) (hnt : fn'.ntmps = nt') (hle : cap.length ≤ nt')
    (hops : ops = #[⟨some d1, .call { callee := .builtin .recover, args := #[], argTypes := ts }, ty1, pos1, aft1, none⟩, ⟨some d2, .assign (.tmp d1), ty2, pos2, aft2, none⟩]) (hd1 : d1 < nt') (hd2 : d2 < nt')
    (hm : u = .panicking (pan1 xv) ∨ u = .returning ∧ xv = .nilIface) (hxv : xv.oneCell' = true)
    (h : ∀ a0, TrC ⟨P, w0, S0, nt', ⟨(e, a0, ds) :: l, [], none⟩⟩ ⟨upd (upd (args0 cap) d1 (.any xv)) d2 (.any xv), ob, g⟩ code (RetS ⟨P, w0, S0, nt', ⟨(e, a0, ds) :: l, [], none⟩⟩ fn' fun r o g' => Tr ⟨P, w0, S0, nt, ⟨l, ds, none⟩⟩ ⟨e, o, g'⟩ (Leave P fn R .returning))) : Tr ⟨P, w0, S0, nt, ⟨l, .clo f cap :: ds, none⟩⟩ ⟨e, ob, g⟩ (Leave P fn R u) := fun S at_ a w hr => by
  have hd := hr.defers
  cases hda : a.defers with
  | nil => rw [hda] at hd; exact hd.elim
  | cons y m =>
    rw [hda] at hd
    obtain ⟨⟨arr, rfl, h2⟩, h3⟩ := hd
    have hkeys : (⟨l, .clo f cap :: ds, none⟩ : Frs).keys = (⟨l, ds, none⟩ : Frs).keys := clo_keys ..
    have hlen := VRs.length h2
    have hr' : Rel ⟨P, w0, S0, nt', ⟨(e, { a with defers := m }, ds) :: l, [], none⟩⟩ S at_ ⟨args0 cap, ob, g⟩ { tmps := arr ++ Array.replicate (fn'.ntmps - arr.size) undef, defers := [] } w :=
      { defers := trivial
        stk := fun k hk => hr.stk k (hkeys ▸ (frs_keys e { a with defers := m } ⟨l, ds, none⟩) ▸ hk)
        nod := by have := frs_keys e { a with defers := m } ⟨l, ds, none⟩; simp only at this; rw [this]; have h4 := hr.nod; rwa [hkeys] at h4
        size := by simp; simp at hlen; omega
        env := fun s => by
          simp only [args0_eq]
          cases hs : cap[s]? with
          | none => rw [Option.getD_none, VR]; trivial
          | some v =>
            obtain ⟨x, hx, hv⟩ := VRs.get h2 hs
            have hlt := (List.getElem?_eq_some_iff.1 hx).1
            have : (arr ++ Array.replicate (fn'.ntmps - arr.size) undef).getD s undef = x := by
              rw [Array.getElem?_toList] at hx
              rw [Array.getD_eq_getD_getElem?, Array.getElem?_append_left (by simpa using hlt), hx]; rfl
            rw [this]
            exact hv
        frs := fun p hp => by
          rcases List.mem_cons.1 hp with rfl | hp
          · exact ⟨hr.env, h3⟩
          · exact hr.frs p hp
        gen := hr.gen, al := hr.al, ok := hr.ok, own := hr.own, dis := hr.dis, slt := hr.slt, snew := hr.snew, sold := hr.sold, below := hr.below, glob := hr.glob }
    have hr2 : Rel ⟨P, w0, S0, nt', ⟨(e, { a with defers := m }, ds) :: l, [], none⟩⟩ S at_ ⟨upd (upd (args0 cap) d1 (.any xv)) d2 (.any xv), ob, g⟩ (({ tmps := arr ++ Array.replicate (fn'.ntmps - arr.size) undef, defers := [] } : Act).put (some d1) xv |>.put (some d2) xv) w := by
      have k1 := hr'.put (d := d1) hd1 (x := .any xv) (v := xv) (by rw [VR, RL]; exact ⟨rfl, hxv⟩)
      exact k1.put (d := d2) hd2 (x := .any xv) (v := xv) (by rw [VR, RL]; exact ⟨rfl, hxv⟩)
    have hcode := h { a with defers := m } S at_ _ w hr2
    show LeavesInM Fence.wide 0 P fn a.tmps R a.defers u w
    rw [hda]
    have hun : u ≠ .run := by rcases hm with h | ⟨h, _⟩ <;> rw [h] <;> simp
    refine ⟨hun, .inr ⟨by simp [Fence.wide], .func f, arr, f, arr, rfl, ?_, fun _ _ => trivial, ?_⟩⟩
    · have := hb.call
      simp [invoke, this]
    refine callsDIn_of_wpSIn hb.1 hb.2.2 trivial fun c₀ cs hu => ?_
    refine wpSIn_seq (wpSIn_region ?_)
    subst hops
    have hrec : ∀ (ops : Array Oper) (Q : Exit → Act → List Frame → World → Prop) (a0 : Act) (cs' : List Frame), (match recoverD (c₀ :: cs) with | some (v, cs2) => v = xv ∧ cs' = cs2 | none => xv = .nilIface ∧ cs' = c₀ :: cs) → ops = #[⟨some d1, .call { callee := .builtin .recover, args := #[], argTypes := ts }, ty1, pos1, aft1, none⟩, ⟨some d2, .assign (.tmp d1), ty2, pos2, aft2, none⟩] → d1 < a0.tmps.size → Q .normal ((a0.put (some d1) xv).put (some d2) xv) cs' w → wpOpsSIn Fence.wide 0 P ops Q [0, 1] a0 (c₀ :: cs) w := by
      intro ops Q a0 cs' hcs ho hlt hQ
      have h0 : ops[0]? = some ⟨some d1, .call { callee := .builtin .recover, args := #[], argTypes := ts }, ty1, pos1, aft1, none⟩ := by rw [ho]; rfl
      have h1 : ops[1]? = some ⟨some d2, .assign (.tmp d1), ty2, pos2, aft2, none⟩ := by rw [ho]; rfl
      have hev : ∀ cs2, Q .normal ((a0.put (some d1) xv).put (some d2) xv) cs2 w → wpOpsSIn Fence.wide 0 P ops Q [1] (a0.put (some d1) xv) cs2 w := by
        intro cs2 h7
        have h5 : (a0.put (some d1) xv).eval (.tmp d1) = xv := by
          simp [Act.put, Act.eval, Array.getD_eq_getD_getElem?, hlt]
        have h6 : (execOp (a0.put (some d1) xv).eval ⟨some d2, .assign (.tmp d1), ty2, pos2, aft2, none⟩).run P w = .ok (.value xv) w := by simp [execOp, h5]
        simp only [wpOpsSIn, h1, h6, Region.wanted, if_true]
        exact ⟨fun _ _ => trivial, h7⟩
      have h6 : (execOp a0.eval ⟨some d1, .call { callee := .builtin .recover, args := #[], argTypes := ts }, ty1, pos1, aft1, none⟩).run P w = .ok .recover w := by
        simp [execOp, resolve, Result.andThen, invoke, builtin]
      simp only [wpOpsSIn, h0, h6, Region.wanted, if_true]
      refine ⟨fun _ _ => trivial, ?_⟩
      split
      · rename_i v cs2 hr2
        rw [hr2] at hcs
        obtain ⟨rfl, rfl⟩ := hcs
        have h9 := hev _ hQ; simp only [wpOpsSIn, Region.wanted, h1] at h9 ⊢; exact h9
      · rename_i hr2
        rw [hr2] at hcs
        obtain ⟨rfl, rfl⟩ := hcs
        have h9 := hev _ hQ; simp only [wpOpsSIn, Region.wanted, h1] at h9 ⊢; exact h9
    have hcs : ∃ u', settle u' = .returning ∧ (match recoverD (c₀ :: cs) with | some (v, cs2) => v = xv ∧ ({ c₀ with mode := u' } :: cs) = cs2 | none => xv = .nilIface ∧ ({ c₀ with mode := u' } :: cs) = c₀ :: cs) := by
      rcases hm with rfl | ⟨rfl, rfl⟩
      · refine ⟨.panicking [{ v := xv, recovered := true }], rfl, ?_⟩
        simp only [recoverD, hu, pan1]
        refine ⟨?_, ?_⟩ <;> first | trivial | rfl
      · refine ⟨.returning, rfl, ?_⟩
        simp only [recoverD, hu]
        refine ⟨?_, ?_⟩
        · first | trivial | rfl
        rw [← hu]
    obtain ⟨u', hset, hcs⟩ := hcs
    refine hrec _ _ _ ({ c₀ with mode := u' } :: cs) hcs rfl (by simp; omega) ?_
    refine wpSIn_of_wpIn rfl (wpIn_mono hcode fun ex a' w' hq => ?_)
    have key : ∀ {a' : Act} {w' : World}, (a'.defers = [] ∧ Out P fn' (fun e' w => ∃ v S at_ st a1 r, e' = .returned v ∧ Rel ⟨P, w0, S0, nt', ⟨(e, { a with defers := m }, ds) :: l, [], none⟩⟩ S at_ st a1 w ∧ VR P w S at_ r v ∧ Tr ⟨P, w0, S0, nt, ⟨l, ds, none⟩⟩ ⟨e, st.obj, st.gen⟩ (Leave P fn R .returning)) .ret a' w') → a'.defers = [] ∧ ∃ u'', ({ c₀ with mode := u' } :: cs) = { c₀ with mode := u'' } :: cs ∧ ∃ v, (results fn' a'.tmps).run P w' = .ok v w' ∧ LeavesInM Fence.wide 0 P fn a.tmps R m (settle u'') w' := by
      rintro a' w' ⟨hd, hq⟩
      simp only [Out, hd, LeavesInM, LeavesIn] at hq
      obtain ⟨v, h2, v', S', at', st', a2, r, e1, k1, k2, k3⟩ := hq
      refine ⟨hd, u', rfl, v, h2, ?_⟩
      rw [hset]
      have hm2 := k1.frs (e, { a with defers := m }, ds) (List.mem_cons_self ..)
      refine k3 S' at' { a with defers := m } w' ?_
      exact { defers := hm2.2, size := hr.size, env := hm2.1, frs := fun p hp => k1.frs p (List.mem_cons_of_mem _ hp), stk := fun k hk => k1.stk k ((frs_keys e { a with defers := m } ⟨l, ds, none⟩).symm ▸ hk), nod := by have h4 := hr.nod; rwa [hkeys] at h4
              gen := k1.gen, al := k1.al, ok := k1.ok, own := k1.own, dis := k1.dis, slt := k1.slt, snew := k1.snew, sold := k1.sold, below := k1.below, glob := k1.glob }
    cases ex with
    | normal => exact key hq
    | ret => exact key hq
    | panic _ => exact hq.2.elim
    | exit _ => exact hq.2.elim
    | goto _ => exact hq.2.elim
    | outgrown => exact hq.2.elim
end
end Go.Proofs.YtjjpmbaddpiamaaDoor
/-
  The abstract machine: strings compared, put together, cut; values within interfaces; functions without a body.
-/
set_option linter.unusedSimpArgs false
set_option linter.unusedVariables false
namespace Go.Proofs.YtjjpmbaddpiamaaDoor
open Go.RowKit
/-- The byte at a place; behind the end: 0. -/
def bt (s : ByteArray) (j : Nat) : Int := if h : j < s.size then (s[j].toNat : Int) else 0
theorem bt_lt {s : ByteArray} {j : Nat} (h : j < s.size) : bt s j = (s[j].toNat : Int) := dif_pos h
theorem bt_ge {s : ByteArray} {j : Nat} (h : s.size ≤ j) : bt s j = 0 := dif_neg (by omega)
theorem bt_range (s : ByteArray) (j : Nat) : 0 ≤ bt s j ∧ bt s j < 256 := by
  unfold bt; split
  · have := s[j].toNat_lt; omega
  · omega
theorem str_toList_inj {a b : ByteArray} (h : a.toList = b.toList) : a = b := by
  obtain ⟨⟨a⟩⟩ := a; obtain ⟨⟨b⟩⟩ := b
  rw [ByteArray.toList_eq, ByteArray.toList_eq] at h
  simpa using h
theorem str_eq (a b : ByteArray) : (a.toList == b.toList) = decide (a = b) := by
  by_cases h : a = b
  · subst h; simp
  · rw [decide_eq_false h]; exact beq_eq_false_iff_ne.2 fun h1 => h (str_toList_inj h1)
def strLt (a b : ByteArray) : Bool := Op.bytesLess a.toList b.toList
def strOp (op : BinOp) (a b : ByteArray) : Option V :=
  match op with
  | .eql => some (.bool (decide (a = b)))
  | .neq => some (.bool (decide (a ≠ b)))
  | .lss => some (.bool (strLt a b))
  | _ => none
section
variable {c : Ctx} {st : St} {o : Oper} {d : Nat}
theorem Stp.strOp {op : BinOp} {t t' : TypeId} {x y : Operand} {a b : ByteArray} {v : V} (hd : o.dst = some d) (hn : d < c.nt) (hop : o.op = .binOp op t x y t') (hx : st.ev x = .str a) (hy : st.ev y = .str b) (hv : strOp op a b = some v) : Stp c o st (st.put d v) :=
  Stp.val hd hn fun S at_ ac w hr => by
    have h1 := hr.ev x
    have h2 := hr.ev y
    rw [hx, VR, RL] at h1
    rw [hy, VR, RL] at h2
    cases op <;> simp only [Proofs.YtjjpmbaddpiamaaDoor.strOp, Option.some.injEq, reduceCtorEq] at hv <;> subst hv
    · exact ⟨.bool (decide (a = b)), by simp [execOp, hop, h1, h2, eqGuard, binOp_string_eql, str_eq], by rw [VR, RL]⟩
    · refine ⟨.bool (decide (a ≠ b)), ?_, by rw [VR, RL]⟩
      simp [execOp, hop, h1, h2, eqGuard, binOp_string_neq, str_eq]
    · exact ⟨.bool (strLt a b), by simp [execOp, hop, h1, h2, eqGuard, binOp_string_lss, strLt], by rw [VR, RL]⟩
theorem Stp.strAdd {t t' : TypeId} {x y : Operand} {a b : ByteArray} (hd : o.dst = some d) (hn : d < c.nt) (hop : o.op = .binOp .add t x y t') (hx : st.ev x = .str a) (hy : st.ev y = .str b) (hs : a.size + b.size ≤ 9223372036854775807) : Stp c o st (st.put d (.str (a ++ b))) :=
  Stp.val hd hn fun S at_ ac w hr => by
    have h1 := hr.ev x
    have h2 := hr.ev y
    rw [hx, VR, RL] at h1
    rw [hy, VR, RL] at h2
    exact ⟨.string (a ++ b), by simp [execOp, hop, h1, h2, eqGuard, binOp_string_add, run_string_add_sum _ _ _ hs, Result.andThen], by rw [VR, RL]⟩
theorem Stp.strCut {t : TypeId} {x y z : Operand} {s : ByteArray} {l h : Nat} (hd : o.dst = some d) (hn : d < c.nt) (hop : o.op = .slice t x (some y) (some z) none) (ht : c.P.underlying t = some .string) (hx : st.ev x = .str s) (hy : st.ev y = .int .i64 l) (hz : st.ev z = .int .i64 h) (hl : l ≤ h) (hh : h ≤ s.size) : Stp c o st (st.put d (.str (s.extract l h))) :=
  Stp.val hd hn fun S at_ ac w hr => by
    have h1 := hr.ev x
    have h2 := hr.ev y
    have h3 := hr.ev z
    rw [hx, VR, RL] at h1
    rw [hy, VR, RL] at h2
    rw [hz, VR, RL] at h3
    refine ⟨.string (s.extract l h), ?_, by rw [VR, RL]⟩
    simp [execOp, hop, h1, h2, h3, Instr.sliceAt, Instr.slice, run_underlying ht, Instr.sliceBounds, Instr.sliceBound, asIntOf]
    first | done | (rw [if_pos (by omega), if_pos (by omega)]; simp) | (simp [hl, hh])
/-- A call of a function without a body. -/
theorem Stp.ext {x : Operand} {xs : Array Operand} {ts : Array TypeId} {f : FuncId} {fn : Func} {en : Array Value → Sem Value} {args : List V} {r : V} (hd : o.dst = some d) (hn : d < c.nt) (hop : o.op = .call { callee := .value x, args := xs, argTypes := ts }) (hx : st.ev x = .fn f []) (hargs : xs.toList.map st.ev = args) (hf : c.P.funcs[f]? = some fn) (hname : (fn.name == "runtime.NumGoroutine") = false) (hb : fn.body.isNone = true) (hnx : Extern.findNext fn = none) (he : Extern.find fn = some en)
    (hr : ∀ w S at_ (cs : List Value), VRs c.P w S at_ args cs → ∃ v, (en cs.toArray).run c.P w = .ok v w ∧ VR c.P w S at_ r v) : Stp c o st (st.put d r) :=
  Stp.val hd hn fun S at_ a w hrel => by
    have h1 := hrel.ev x
    rw [hx, VR] at h1
    obtain ⟨arr, h2, h3⟩ := h1
    have h0 : arr = #[] := by
      cases h : arr.toList with
      | nil => simpa using h
      | cons y l => rw [h] at h3; simp [VRs] at h3
    subst h0
    have hvals : VRs c.P w S at_ args (xs.toList.map a.eval) := by
      subst hargs
      generalize xs.toList = l
      induction l with
      | nil => simp [VRs]
      | cons y l ih => simp only [List.map_cons]; rw [VRs]; exact ⟨hrel.ev y, ih⟩
    obtain ⟨v, h4, h5⟩ := hr w S at_ _ hvals
    refine ⟨v, ?_, h5⟩
    have h6 := run_callFunc_extern hf hname hb hnx he (xs.toList.map a.eval).toArray w
    simp only [execOp, hop, resolve, h2, Deferred.ofValue, invoke, Sem.run_bind, Sem.run_pure, Result.andThen_ok]
    have : (#[] ++ Array.map a.eval xs ++ #[] : Array Value) = (xs.toList.map a.eval).toArray := by apply Array.ext'; simp
    rw [this, h6, h4]; rfl
theorem ext_indexByte {P : Program} {s : ByteArray} {b : Int} (w : World) (S : Nat → Prop) (at_ : At) (cs : List Value) (h : VRs P w S at_ [.str s, .int .u8 b] cs) : ∃ v, (Extern.BytealgIndexByte.indexByte cs.toArray).run P w = .ok v w ∧ VR P w S at_ (.int .i64 (Lib.indexByte s.data.toList b.toNat.toUInt8)) v := by
  match cs, h with
  | [x, y], h =>
    simp only [VRs, VR, RL, and_true] at h
    obtain ⟨rfl, rfl⟩ := h
    exact ⟨_, Lib.run_indexByteString s b w, by rw [VR, RL]⟩
theorem ext_noEscape {P : Program} {v : V} (w : World) (S : Nat → Prop) (at_ : At) (cs : List Value) (h : VRs P w S at_ [v] cs) : ∃ x, (Extern.AbiNoEscape.same cs.toArray).run P w = .ok x w ∧ VR P w S at_ v x := by
  match cs, h with
  | [x], h =>
    simp only [VRs, and_true] at h
    exact ⟨x, Lib.run_noEscape w x, h⟩
end
section
variable {P : Program} {w0 : World} {S0 : Nat → Prop} {nt : Nat} {frs : Frs} {e : Nat → V} {ob : Nat → Nat → Ob} {g : Nat} {Q : Exit → Act → World → Prop} {ops : Array Oper} {rest : List Oper} {d : Nat} {ty : TypeId} {pos : String} {aft : Array Edge} {m : Md}
theorem p_strOp {op : BinOp} {t t' : TypeId} {x y : Operand} {a b : ByteArray} {v : V} (hn : d < nt := by decide) (hx : evE e x = .str a := by exact eV_) (hy : evE e y = .str b := by exact eV_) (hv : strOp op a b = some v := by exact rfl) (h : Wk (m.log ⟨some (d, v), [], []⟩) ⟨P, w0, S0, nt, frs⟩ ops Q ⟨upd e d v, ob, g⟩ rest) : Wk m ⟨P, w0, S0, nt, frs⟩ ops Q ⟨e, ob, g⟩ (⟨some d, .binOp op t x y t', ty, pos, aft, none⟩ :: rest) :=
  Wk.op (Loc.plain rfl rfl fun st' hv' ho' hg => Stp.strOp rfl hn rfl ((hv' x (by simp [Op.operands, Call.operands])).trans ((evE_eq e ob g x).trans hx)) ((hv' y (by simp [Op.operands, Call.operands])).trans ((evE_eq e ob g y).trans hy)) hv) h
theorem p_strAdd {t t' : TypeId} {x y : Operand} {a b : ByteArray} (hn : d < nt := by decide) (hx : evE e x = .str a := by exact eV_) (hy : evE e y = .str b := by exact eV_) (hs : a.size + b.size ≤ 9223372036854775807) (h : Wk (m.log ⟨some (d, (.str (a ++ b))), [], []⟩) ⟨P, w0, S0, nt, frs⟩ ops Q ⟨upd e d (.str (a ++ b)), ob, g⟩ rest) : Wk m ⟨P, w0, S0, nt, frs⟩ ops Q ⟨e, ob, g⟩ (⟨some d, .binOp .add t x y t', ty, pos, aft, none⟩ :: rest) :=
  Wk.op (Loc.plain rfl rfl fun st' hv' ho' hg => Stp.strAdd rfl hn rfl ((hv' x (by simp [Op.operands, Call.operands])).trans ((evE_eq e ob g x).trans hx)) ((hv' y (by simp [Op.operands, Call.operands])).trans ((evE_eq e ob g y).trans hy)) hs) h
theorem p_strCut {t : TypeId} {x y z : Operand} {s : ByteArray} {l h' : Nat} [ht : StrC P t] (hn : d < nt := by decide) (hx : evE e x = .str s := by exact eV_) (hy : evE e y = .int .i64 l := by exact eV_) (hz : evE e z = .int .i64 h' := by exact eV_) (hl : l ≤ h') (hh : h' ≤ s.size) (h : Wk (m.log ⟨some (d, (.str (s.extract l h'))), [], []⟩) ⟨P, w0, S0, nt, frs⟩ ops Q ⟨upd e d (.str (s.extract l h')), ob, g⟩ rest) : Wk m ⟨P, w0, S0, nt, frs⟩ ops Q ⟨e, ob, g⟩ (⟨some d, .slice t x (some y) (some z) none, ty, pos, aft, none⟩ :: rest) :=
  Wk.op (Loc.plain rfl rfl fun st' hv' ho' hg => Stp.strCut rfl hn rfl ht.h ((hv' x (by simp [Op.operands, Call.operands])).trans ((evE_eq e ob g x).trans hx)) ((hv' y (by simp [Op.operands, Call.operands])).trans ((evE_eq e ob g y).trans hy)) ((hv' z (by simp [Op.operands, Call.operands])).trans ((evE_eq e ob g z).trans hz)) hl hh) h
theorem p_idxB {t : TypeId} {x y : Operand} {s : ByteArray} {k : IntKind} {i : Int} (j : Nat) [ht : StrC P t] (hn : d < nt := by decide) (hx : evE e x = .str s := by exact eV_) (hy : evE e y = .int k i := by exact eV_) (hij : i = (j : Int) := by first | exact rfl | omega) (hj : j < s.size) (h : Wk (m.log ⟨some (d, (.int .u8 (bt s j))), [], []⟩) ⟨P, w0, S0, nt, frs⟩ ops Q ⟨upd e d (.int .u8 (bt s j)), ob, g⟩ rest) : Wk m ⟨P, w0, S0, nt, frs⟩ ops Q ⟨e, ob, g⟩ (⟨some d, .index t x y, ty, pos, aft, none⟩ :: rest) := by
  refine p_idxStr j hn ht.h hx hy hij hj ?_
  rw [← bt_lt hj]; exact h
theorem p_mkIface {t : TypeId} {x : Operand} (v : Value) {u : TypeDesc} (hn : d < nt := by decide) (ht : P.underlying t = some u) (hu : ∀ ms, u ≠ .interface ms) (hx : evE e x = cw v := by exact eV_) (hf : (cw v).flat = true := by exact rfl) (h : Wk (m.log ⟨some (d, (.any (.iface t v))), [], []⟩) ⟨P, w0, S0, nt, frs⟩ ops Q ⟨upd e d (.any (.iface t v)), ob, g⟩ rest) : Wk m ⟨P, w0, S0, nt, frs⟩ ops Q ⟨e, ob, g⟩ (⟨some d, .makeInterface t x, ty, pos, aft, none⟩ :: rest) :=
  Wk.op (Loc.plain rfl rfl fun st' hv' ho' hg => Stp.mkIface rfl hn rfl ht hu ((hv' x (by simp [Op.operands, Call.operands])).trans ((evE_eq e ob g x).trans hx)) hf) h
theorem p_asIface {t t' : TypeId} {x : Operand} {v : Value} {u : TypeDesc} (hn : d < nt := by decide) (ht : P.underlying t = some u) (hu : ∀ ms, u ≠ .interface ms) (hx : evE e x = .any (.iface t v) := by exact eV_) (h : Wk (m.log ⟨some (d, (.tup [cw v, .bool true])), [], []⟩) ⟨P, w0, S0, nt, frs⟩ ops Q ⟨upd e d (.tup [cw v, .bool true]), ob, g⟩ rest) : Wk m ⟨P, w0, S0, nt, frs⟩ ops Q ⟨e, ob, g⟩ (⟨some d, .typeAssert x t' t true, ty, pos, aft, none⟩ :: rest) :=
  Wk.op (Loc.plain rfl rfl fun st' hv' ho' hg => Stp.asIface rfl hn rfl ht hu ((hv' x (by simp [Op.operands, Call.operands])).trans ((evE_eq e ob g x).trans hx))) h
theorem p_eqIface {t t' s : TypeId} {x : Operand} {v : Value} {ms : Array (String × TypeId)} (hn : d < nt := by decide) (ht : P.underlying t = some (.interface ms)) (hx : evE e x = .any (.iface s v) := by exact eV_) (h : Wk (m.log ⟨some (d, (.bool false)), [], []⟩) ⟨P, w0, S0, nt, frs⟩ ops Q ⟨upd e d (.bool false), ob, g⟩ rest) : Wk m ⟨P, w0, S0, nt, frs⟩ ops Q ⟨e, ob, g⟩ (⟨some d, .binOp .eql t x (.const .nilIface) t', ty, pos, aft, none⟩ :: rest) :=
  Wk.op (Loc.plain rfl rfl fun st' hv' ho' hg => Stp.eqIface rfl hn rfl ht ((hv' x (by simp [Op.operands, Call.operands])).trans ((evE_eq e ob g x).trans hx))) h
theorem p_eqNilIface {t t' : TypeId} {x : Operand} {ms : Array (String × TypeId)} (hn : d < nt := by decide) (ht : P.underlying t = some (.interface ms)) (hx : evE e x = .any .nilIface := by exact eV_) (h : Wk (m.log ⟨some (d, (.bool true)), [], []⟩) ⟨P, w0, S0, nt, frs⟩ ops Q ⟨upd e d (.bool true), ob, g⟩ rest) : Wk m ⟨P, w0, S0, nt, frs⟩ ops Q ⟨e, ob, g⟩ (⟨some d, .binOp .eql t x (.const .nilIface) t', ty, pos, aft, none⟩ :: rest) :=
  Wk.op (Loc.plain rfl rfl fun st' hv' ho' hg => Stp.eqNilIface rfl hn rfl ht ((hv' x (by simp [Op.operands, Call.operands])).trans ((evE_eq e ob g x).trans hx))) h
theorem p_ext {x : Operand} {f : FuncId} {fn : Func} {xs : List Operand} {ts : Array TypeId} {en : Array Value → Sem Value} {args : List V} {r : V} (hn : d < nt := by decide) (hx : evE e x = .fn f [] := by exact eV_) (hargs : xs.map (evE e) = args := by simp (decide := true) only [List.map_cons, List.map_nil, evE, upd, updO, cv, args0, List.getElem?_cons_zero, List.getElem?_cons_succ, Option.getD_some, List.length_map, ↓reduceIte, hE] <;> rfl) (hf : P.funcs[f]? = some fn) (he : Extern.find fn = some en := by kernel_rfl) (hname : (fn.name == "runtime.NumGoroutine") = false := by kernel_rfl) (hb : fn.body.isNone = true := by kernel_rfl) (hnx : Extern.findNext fn = none := by kernel_rfl) (hr : ∀ w S at_ (cs : List Value), VRs P w S at_ args cs → ∃ v, (en cs.toArray).run P w = .ok v w ∧ VR P w S at_ r v) (h : Wk (m.log ⟨some (d, r), [], []⟩) ⟨P, w0, S0, nt, frs⟩ ops Q ⟨upd e d r, ob, g⟩ rest) : Wk m ⟨P, w0, S0, nt, frs⟩ ops Q ⟨e, ob, g⟩ (⟨some d, .call { callee := .value x, args := xs.toArray, argTypes := ts }, ty, pos, aft, none⟩ :: rest) :=
  Wk.op (Loc.plain rfl rfl fun st' hv' ho' hg => Stp.ext rfl hn rfl ((hv' x (by simp [Op.operands, Call.operands])).trans ((evE_eq e ob g x).trans hx)) (by rw [← hargs]; exact List.map_congr_left fun y hy => (hv' y (by simp [Op.operands, Call.operands, hy])).trans (evE_eq e ob g y)) hf hname hb hnx he hr) h
end
end Go.Proofs.YtjjpmbaddpiamaaDoor
