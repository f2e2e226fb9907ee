/-
  The abstract machine: results of any sort behind a body that puts calls off.
-/
import Derived.Test.YtjjpmbaddpiamaaDoorZ11
set_option linter.unusedSimpArgs false
set_option linter.unusedVariables false
namespace Go.Proofs.YtjjpmbaddpiamaaDoor
open Go.RowKit
/-- What a result's variable holds, of any sort. -/
def St.resW (st : St) (P : Program) : ResultVar → V → Prop
  | .tmp t, v => st.env t = v
  | .cell s ty, v => ∃ g d t cs, st.env s = .ptr g d 0 ∧ st.obj g d = .cells t cs ∧ ((IsLeaf P ty ∧ cs[0]? = some v) ∨ (IsAgg P ty ∧ ∃ z size bytes, TI P ty z size bytes ∧ cs.length = size ∧ v = .agg cs))
theorem resW_run {c : Ctx} {st : St} {S : Nat → Prop} {at_ : At} {a : Act} {w : World} (hr : Rel c S at_ st a w) {x : ResultVar} {v : V} (h : st.resW c.P x v) :
    ∃ u, (resOf a x).run c.P w = .ok u w ∧ VR c.P w S at_ v u := by
  cases x with
  | tmp t => obtain rfl := h; exact ⟨_, rfl, hr.env t⟩
  | cell s ty =>
    obtain ⟨g, d, t, cs, h1, h2, h3⟩ := h
    have h4 := hr.env s
    rw [h1, VR] at h4
    obtain ⟨b, h5, h6⟩ := h4
    have hok := hr.ok g d _ h5
    rw [h2] at hok
    obtain ⟨b', arr, e, h7, h8⟩ := hok
    cases e
    have haddr : ∀ w : World, (asAddr (a.tmps.getD s undef)).run c.P w = .ok ⟨b, 0, none⟩ w := fun w => by rw [h6]; rfl
    rcases h3 with ⟨k1, k2⟩ | ⟨k1, z, size, bytes, k2, k3, rfl⟩
    · obtain ⟨x, hx, hv⟩ := h8.get k2
      refine ⟨x, ?_, hv⟩
      have := load_leaf_run (w := w) k1 (a := ⟨b, 0, none⟩) (v := x) (by rw [blk_cells h7]; simpa using hx)
      simp only [Instr.loadAt, Instr.sureAddr, Sem.run_bind, Sem.run_pure, Result.andThen_ok] at this
      simp only [resOf, Sem.run_bind, haddr, Result.andThen_ok, this]
    · refine ⟨.agg arr, ?_, by rw [VR]; exact ⟨arr, rfl, h8⟩⟩
      have := load_agg_run (w := w) k1 k2 (a := ⟨b, 0, none⟩) (cs := arr.toList) (by rw [← h8.length, k3]) (fun j u hu => by rw [add_plain', Nat.zero_add, blk_cells h7]; simpa using hu)
      simp only [Instr.loadAt, Instr.sureAddr, Sem.run_bind, Sem.run_pure, Result.andThen_ok] at this
      simp only [resOf, Sem.run_bind, haddr, Result.andThen_ok, this]
section
variable {P : Program} {w0 : World} {S0 : Nat → Prop} {nt : Nat} {e : Nat → V} {ob : Nat → Nat → Ob} {g : Nat} {fn : Func} {K : V → (Nat → Nat → Ob) → Nat → Prop} {KP : Value → (Nat → Nat → Ob) → Nat → Prop}
theorem w_leaf {s ty g1 d1 t : Nat} {v : V} {cs : List V} (h1 : e s = .ptr g1 d1 0) (h2 : ob g1 d1 = .cells t cs) (hl : IsLeaf P ty) (hv : cs[0]? = some v) : (⟨e, ob, g⟩ : St).resW P (.cell s ty) v := ⟨g1, d1, t, cs, h1, h2, .inl ⟨hl, hv⟩⟩
theorem w_agg {s ty g1 d1 t size bytes : Nat} {cs : List V} {z : Value} (h1 : e s = .ptr g1 d1 0) (h2 : ob g1 d1 = .cells t cs) (ha : IsAgg P ty) (hi : TI P ty z size bytes) (hl : cs.length = size) : (⟨e, ob, g⟩ : St).resW P (.cell s ty) (.agg cs) := ⟨g1, d1, t, cs, h1, h2, .inr ⟨ha, z, size, bytes, hi, hl, rfl⟩⟩
theorem p_retW1 {l : List ((Nat → V) × Act × List Dfr)} {x : ResultVar} {v : V} (hres : fn.results = #[x]) (h : (⟨e, ob, g⟩ : St).resW P x v) (hK : K v ob g) : Tr ⟨P, w0, S0, nt, ⟨l, [], none⟩⟩ ⟨e, ob, g⟩ (RetE ⟨P, w0, S0, nt, ⟨l, [], none⟩⟩ fn K .ret) := fun S at_ a w hr => by
  obtain ⟨u, h1, h2⟩ := resW_run hr h
  refine hr.leave0 ⟨u, ?_, _, S, at_, _, a, v, rfl, hr, h2, hK⟩
  cases x <;> simp only [resOf, Array.getD_eq_getD_getElem?, Sem.run_bind, Sem.run_pure] at h1 <;> simp [results, hres, h1] <;> (first | exact (by injection h1))
theorem p_retW2 {l : List ((Nat → V) × Act × List Dfr)} {x y : ResultVar} {v1 v2 : V} (hres : fn.results = #[x, y]) (h1 : (⟨e, ob, g⟩ : St).resW P x v1) (h2 : (⟨e, ob, g⟩ : St).resW P y v2) (hK : K (.tup [v1, v2]) ob g) : Tr ⟨P, w0, S0, nt, ⟨l, [], none⟩⟩ ⟨e, ob, g⟩ (RetE ⟨P, w0, S0, nt, ⟨l, [], none⟩⟩ fn K .ret) := fun S at_ a w hr => by
  obtain ⟨u1, k1, k2⟩ := resW_run hr h1
  obtain ⟨u2, k3, k4⟩ := resW_run hr h2
  refine hr.leave0 ⟨.tuple #[u1, u2], ?_, _, S, at_, _, a, .tup [v1, v2], rfl, hr, by rw [VR]; exact ⟨#[u1, u2], rfl, by simp [VRs, k2, k4]⟩, hK⟩
  have harr : (fn.results.mapM (resOf a)).run P w = .ok #[u1, u2] w := by
    rw [hres]
    simp [k1, k3]
  have heq : results fn a.tmps = (do let vs ← fn.results.mapM (resOf a); pure (if h : vs.size = 1 then vs[0] else .tuple vs)) := rfl
  rw [heq, Sem.run_bind, harr]
  simp
theorem p_retW3 {l : List ((Nat → V) × Act × List Dfr)} {x y z : ResultVar} {v1 v2 v3 : V} (hres : fn.results = #[x, y, z]) (h1 : (⟨e, ob, g⟩ : St).resW P x v1) (h2 : (⟨e, ob, g⟩ : St).resW P y v2) (h3 : (⟨e, ob, g⟩ : St).resW P z v3) (hK : K (.tup [v1, v2, v3]) ob g) : Tr ⟨P, w0, S0, nt, ⟨l, [], none⟩⟩ ⟨e, ob, g⟩ (RetE ⟨P, w0, S0, nt, ⟨l, [], none⟩⟩ fn K .ret) := fun S at_ a w hr => by
  obtain ⟨u1, k1, k2⟩ := resW_run hr h1
  obtain ⟨u2, k3, k4⟩ := resW_run hr h2
  obtain ⟨u3, k5, k6⟩ := resW_run hr h3
  refine hr.leave0 ⟨.tuple #[u1, u2, u3], ?_, _, S, at_, _, a, .tup [v1, v2, v3], rfl, hr, by rw [VR]; exact ⟨#[u1, u2, u3], rfl, by simp [VRs, k2, k4, k6]⟩, hK⟩
  have harr : (fn.results.mapM (resOf a)).run P w = .ok #[u1, u2, u3] w := by
    rw [hres]
    simp [k1, k3, k5]
  have heq : results fn a.tmps = (do let vs ← fn.results.mapM (resOf a); pure (if h : vs.size = 1 then vs[0] else .tuple vs)) := rfl
  rw [heq, Sem.run_bind, harr]
  simp
/-- What is left to do behind a body, as an end of it. -/
abbrev LeaveP (c : Ctx) (fn : Func) (K : V → (Nat → Nat → Ob) → Nat → Prop) (KP : Value → (Nat → Nat → Ob) → Nat → Prop) (u : FrameMode) : Act → World → Prop :=
  Leave c.P fn (fun e w => ∃ S at_ st a, Rel ⟨c.P, c.w0, c.S0, c.nt, ⟨c.frs.l, [], none⟩⟩ S at_ st a w ∧ ((∃ v r, e = .returned v ∧ VR c.P w S at_ r v ∧ K r st.obj st.gen) ∨ ∃ x, e = .panicked (pan1 x) ∧ KP x st.obj st.gen)) u
theorem p_retPD {c c' : Ctx} {st : St} (h : Tr c' st (LeaveP c fn K KP .returning)) : Tr c' st (RetP c fn K KP .ret) := h
theorem p_xPD {c c' : Ctx} {st : St} {x : Value} (h : Tr c' st (LeaveP c fn K KP (.panicking (pan1 x)))) : Tr c' st (RetP c fn K KP (.panic (pan1 x))) := h
theorem p_leftP {c c' : Ctx} {st : St} (h : Tr c' st (RetP c fn K KP .ret)) : Tr c' st (LeaveP c fn K KP .returning) := h
end
section
variable {c : Ctx} {o : Oper} {st : St} {d : Nat}
theorem Stp.strHead {t : TypeId} {x z : Operand} {s : ByteArray} {h : Nat} (hd : o.dst = some d) (hn : d < c.nt) (hop : o.op = .slice t x none (some z) none) (ht : c.P.underlying t = some .string) (hx : st.ev x = .str s) (hz : st.ev z = .int .i64 h) (hh : h ≤ s.size) : Stp c o st (st.put d (.str (s.extract 0 h))) :=
  Stp.val hd hn fun S at_ ac w hr => by
    have h1 := hr.ev x
    have h3 := hr.ev z
    rw [hx, VR, RL] at h1
    rw [hz, VR, RL] at h3
    refine ⟨.string (s.extract 0 h), ?_, by rw [VR, RL]⟩
    simp [execOp, hop, h1, h3, Instr.sliceAt, Instr.slice, run_underlying ht, Instr.sliceBounds, Instr.sliceBound, asIntOf]
    intro h4; omega
variable {P : Program} {w0 : World} {S0 : Nat → Prop} {nt : Nat} {frs : Frs} {e : Nat → V} {ob : Nat → Nat → Ob} {g : Nat} {Q : Exit → Act → World → Prop} {ops : Array Oper} {rest : List Oper} {ty : TypeId} {pos : String} {aft : Array Edge} {m : Md}
theorem p_strHead {t : TypeId} {x z : Operand} {s : ByteArray} {h' : Nat} [ht : StrC P t] (hn : d < nt := by decide) (hx : evE e x = .str s := by exact eV_) (hz : evE e z = .int .i64 h' := by exact eV_) (hh : h' ≤ s.size) (h : Wk (m.log ⟨some (d, (.str (s.extract 0 h'))), [], []⟩) ⟨P, w0, S0, nt, frs⟩ ops Q ⟨upd e d (.str (s.extract 0 h')), ob, g⟩ rest) : Wk m ⟨P, w0, S0, nt, frs⟩ ops Q ⟨e, ob, g⟩ (⟨some d, .slice t x none (some z) none, ty, pos, aft, none⟩ :: rest) :=
  Wk.op (Loc.plain rfl rfl fun st' hv' ho' hg => Stp.strHead rfl hn rfl ht.h ((hv' x (by simp [Op.operands, Call.operands])).trans ((evE_eq e ob g x).trans hx)) ((hv' z (by simp [Op.operands, Call.operands])).trans ((evE_eq e ob g z).trans hz)) hh) h
end
end Go.Proofs.YtjjpmbaddpiamaaDoor
