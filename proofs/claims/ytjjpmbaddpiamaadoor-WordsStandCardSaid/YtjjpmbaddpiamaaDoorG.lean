/-
  The abstract machine: functions that hand back a row that is new and nobody else's: the caller may go on writing to it.
-/
import Derived.Test.YtjjpmbaddpiamaaDoorAB
set_option linter.unusedSimpArgs false
set_option linter.unusedVariables false
namespace Go.Proofs.YtjjpmbaddpiamaaDoor
open Go.RowKit
/-- A contract with a row that becomes the caller's own; the result names it. -/
def FnO (P : Program) (f : FuncId) (args : List V) (el : TypeId) (xs : List V) (res : Nat → Nat → V) : Prop :=
  ∀ (w : World) (S : Nat → Prop) (cs : List Value), Globs w → (∀ b, S b → b < w.heap.size) → VRs P w S (fun _ _ => none) args cs →
    Calls P f cs.toArray w fun e w' => ∃ v rv S', e = .returned v ∧ Below w.heap.size w w' ∧ (∀ b, S b → S' b) ∧ (∀ b, S' b → S b ∨ (w.heap.size ≤ b ∧ b < w'.heap.size)) ∧ (∃ flat, w'.ownsRow w.heap.size el (P.cellsOf el) rv xs.length flat ∧ Flat P w' S' el xs flat) ∧
      (∀ b, blkOf rv = some b → w.heap.size ≤ b ∧ b < w'.heap.size ∧ ¬ S' b) ∧ ∀ at_ g d, at_ g d = some rv → VR P w' S' at_ (res g d) v
def RetO (P : Program) (fn : Func) (S0 : Nat → Prop) (w0 : World) (el : TypeId) (xs : List V) (res : Nat → Nat → V) : Exit → Act → World → Prop :=
  Out P fn fun e w => ∃ v rv S', e = .returned v ∧ Below w0.heap.size w0 w ∧ (∀ b, S0 b → S' b) ∧ (∀ b, S' b → S0 b ∨ (w0.heap.size ≤ b ∧ b < w.heap.size)) ∧ (∃ flat, w.ownsRow w0.heap.size el (P.cellsOf el) rv xs.length flat ∧ Flat P w S' el xs flat) ∧
      (∀ b, blkOf rv = some b → w0.heap.size ≤ b ∧ b < w.heap.size ∧ ¬ S' b) ∧ ∀ at_ g d, at_ g d = some rv → VR P w S' at_ (res g d) v
theorem ownsRow_base {w : World} {base base' : Nat} {e : TypeId} {size n : Nat} {v : Value} {flat : List Value} (h : w.ownsRow base e size v n flat) (hb : base' ≤ base) : w.ownsRow base' e size v n flat := by
  obtain ⟨h1, h2⟩ := h
  refine ⟨h1, ?_⟩
  rcases h2 with h2 | ⟨g, cap, cur, rfl, h3, h4, h5⟩
  · exact .inl h2
  · exact .inr ⟨g, cap, cur, rfl, Nat.le_trans hb h3, h4, h5⟩
/-- A value that may name the row otherwise. -/
def Ren (r : Nat → Nat → V) : Prop := ∀ (P : Program) (w : World) (S : Nat → Prop) (at_ at' : At) (g d g' d' : Nat) (u : Value), at_ g d = at' g' d' → VR P w S at_ (r g d) u → VR P w S at' (r g' d') u
def RenL (r : Nat → Nat → List V) : Prop := ∀ (P : Program) (w : World) (S : Nat → Prop) (at_ at' : At) (g d g' d' : Nat) (us : List Value), at_ g d = at' g' d' → VRs P w S at_ (r g d) us → VRs P w S at' (r g' d') us
theorem Ren.row (n : Nat) : Ren fun g d => .row g d n := fun P w S at_ at' g d g' d' u ha h => by
  rw [VR] at h ⊢; rw [← ha]; exact h
theorem Ren.out {v : V} (hv : v.out = true) : Ren fun _ _ => v := fun P w S at_ at' g d g' d' u ha h => VR.out v u hv h
theorem RenL.nil : RenL fun _ _ => [] := fun P w S at_ at' g d g' d' u ha h => by
  cases u <;> simp_all [VRs]
theorem RenL.cons {r : Nat → Nat → V} {l : Nat → Nat → List V} (hr : Ren r) (hl : RenL l) : RenL fun g d => r g d :: l g d := fun P w S at_ at' g d g' d' us ha h => by
  cases us with
  | nil => simp [VRs] at h
  | cons u us => rw [VRs] at h ⊢; exact ⟨hr _ _ _ _ _ _ _ _ _ _ ha h.1, hl _ _ _ _ _ _ _ _ _ _ ha h.2⟩
theorem Ren.agg {l : Nat → Nat → List V} (hl : RenL l) : Ren fun g d => .agg (l g d) := fun P w S at_ at' g d g' d' u ha h => by
  rw [VR] at h ⊢; obtain ⟨arr, h1, h2⟩ := h; exact ⟨arr, h1, hl _ _ _ _ _ _ _ _ _ _ ha h2⟩
theorem Ren.tup {l : Nat → Nat → List V} (hl : RenL l) : Ren fun g d => .tup (l g d) := fun P w S at_ at' g d g' d' u ha h => by
  rw [VR] at h ⊢; obtain ⟨arr, h1, h2⟩ := h; exact ⟨arr, h1, hl _ _ _ _ _ _ _ _ _ _ ha h2⟩
theorem FnO.of {P : Program} {f : FuncId} {fn : Func} {code : Code} {nt : Nat} {args : List V} {el : TypeId} {xs : List V} {res : Nat → Nat → V} (hb : HasBody P f fn code) (hnt : fn.ntmps = nt) (hle : args.length ≤ nt)
    (h : ∀ w0 S0, TrC ⟨P, w0, S0, nt, fr0⟩ ⟨args0 args, fun _ _ => .none, 0⟩ code (RetO P fn S0 w0 el xs res)) : FnO P f args el xs res := by
  intro w S cs hG hS hargs
  refine out_calls hb.1 hb.2.2 ?_
  have hlen := VRs.length hargs
  have hr : Rel ⟨P, w, S, nt, fr0⟩ S (fun _ _ => none) ⟨args0 args, fun _ _ => .none, 0⟩ { tmps := cs.toArray ++ Array.replicate (fn.ntmps - cs.toArray.size) undef, defers := [] } w :=
    { defers := trivial
      stk := fun k hk => by simp [Frs.keys, Frs.all] at hk
      nod := by simp [Frs.keys, Frs.all]
      size := by simp; omega
      env := fun s => by
        simp only [args0_eq]
        cases hs : args[s]? with
        | none => rw [Option.getD_none, VR]; trivial
        | some v =>
          obtain ⟨x, hx, hv⟩ := VRs.get hargs hs
          have hlt := (List.getElem?_eq_some_iff.1 hx).1
          have : (cs.toArray ++ Array.replicate (fn.ntmps - cs.toArray.size) undef).getD s undef = x := by
            rw [Array.getD_eq_getD_getElem?, Array.getElem?_append_left (by simpa using hlt)]
            simp [hx]
          rw [this]
          exact hv
      frs := fun p hp => by simp at hp
      gen := fun _ _ _ => rfl
      al := fun _ _ => by simp
      ok := fun _ _ _ h => by cases h
      own := fun _ _ _ _ h => by cases h
      dis := fun _ _ _ _ _ _ _ h => by cases h
      slt := hS, snew := fun b hb => .inl hb, sold := fun b hb => hb, below := Below.refl _ _, glob := hG }
  exact h w S S _ _ w hr

section
variable {P : Program} {w0 : World} {S0 : Nat → Prop} {nt : Nat} {st : St} {fn : Func} {el : TypeId} {xs : List V} {res : Nat → Nat → V}
/-- What a result's variable holds, rows of the call's own with it. -/
def St.resV (st : St) (P : Program) : ResultVar → V → Prop
  | .tmp t, v => st.env t = v
  | .cell s ty, v => ∃ g d t cs, st.env s = .ptr g d 0 ∧ st.obj g d = .cells t cs ∧ IsAgg P ty ∧ ∃ z size bytes, TI P ty z size bytes ∧ cs.length = size ∧ v = .agg cs
theorem resV_run {c : Ctx} {S : Nat → Prop} {at_ : At} {a : Act} {w : World} (hr : Rel c S at_ st a w) {x : ResultVar} {v : V} (h : st.resV c.P x v) :
    ∃ u, (resOf a x).run c.P w = .ok u w ∧ VR c.P w S at_ v u := by
  cases x with
  | tmp t => obtain rfl := h; exact ⟨_, rfl, hr.env t⟩
  | cell s ty =>
    obtain ⟨g, d, t, cs, h1, h2, k1, z, size, bytes, k2, k3, rfl⟩ := h
    have h4 := hr.env s
    rw [h1, VR] at h4
    obtain ⟨b, h5, h6⟩ := h4
    have hok := hr.ok g d _ h5
    rw [h2] at hok
    obtain ⟨b', arr, e, h7, h8⟩ := hok
    cases e
    have haddr : ∀ w : World, (asAddr (a.tmps.getD s undef)).run c.P w = .ok ⟨b, 0, none⟩ w := fun w => by rw [h6]; rfl
    refine ⟨.agg arr, ?_, by rw [VR]; exact ⟨arr, rfl, h8⟩⟩
    have := load_agg_run (w := w) k1 k2 (a := ⟨b, 0, none⟩) (cs := arr.toList) (by rw [← h8.length, k3]) (fun j u hu => by rw [add_plain', Nat.zero_add, blk_cells h7]; simpa using hu)
    simp only [Instr.loadAt, Instr.sureAddr, Sem.run_bind, Sem.run_pure, Result.andThen_ok] at this
    simp only [resOf, Sem.run_bind, haddr, Result.andThen_ok, this]
theorem retO_fin {rd : Option Nat} {S : Nat → Prop} {at_ : At} {a : Act} {w : World} (hr : Rel ⟨P, w0, S0, nt, ⟨[], [], rd⟩⟩ S at_ st a w) {g1 d1 : Nat} (ho : st.obj g1 d1 = .row el xs) (hren : Ren res) {v : Value} (hrun : (results fn a.tmps).run P w = .ok v w) (hv : VR P w S at_ (res g1 d1) v) : RetO P fn S0 w0 el xs res .ret a w := by
  obtain ⟨rv, hat⟩ := hr.at_of (g := g1) (d := d1) (by rw [ho]; intro e; cases e)
  have hok := hr.ok g1 d1 rv hat
  rw [ho] at hok
  obtain ⟨flat, k1, k2⟩ := hok
  refine hr.leave0 ⟨v, hrun, v, rv, S, rfl, hr.below, hr.sold, fun b hb => ?_, ⟨flat, k1, k2⟩, fun b hb => hr.own g1 d1 rv b hat (by rw [ho]; rfl) hb, fun at' g d ha => hren _ _ _ _ _ _ _ _ _ _ (by rw [hat, ha]) hv⟩
  rcases hr.snew b hb with k | k
  · exact .inl k
  · exact .inr ⟨k, hr.slt b hb⟩
theorem p_retO1 {rd : Option Nat} {x : ResultVar} (g1 d1 : Nat) (hres : fn.results = #[x]) (ho : st.obj g1 d1 = .row el xs) (h : st.resV P x (res g1 d1)) (hren : Ren res) : Tr ⟨P, w0, S0, nt, ⟨[], [], rd⟩⟩ st (RetO P fn S0 w0 el xs res .ret) := fun S at_ a w hr => by
  obtain ⟨u, h1, h2⟩ := resV_run hr h
  refine retO_fin hr ho hren (v := u) ?_ h2
  cases x <;> simp only [resOf, Array.getD_eq_getD_getElem?, Sem.run_bind, Sem.run_pure] at h1 <;> simp [results, hres, h1] <;> (first | exact (by injection h1))
theorem p_retO2 {rd : Option Nat} {x y : ResultVar} (g1 d1 : Nat) {v1 v2 : Nat → Nat → V} (hres : fn.results = #[x, y]) (ho : st.obj g1 d1 = .row el xs) (h1 : st.resV P x (v1 g1 d1)) (h2 : st.resV P y (v2 g1 d1)) (hv : res = fun g d => .tup [v1 g d, v2 g d]) (hren : Ren res) : Tr ⟨P, w0, S0, nt, ⟨[], [], rd⟩⟩ st (RetO P fn S0 w0 el xs res .ret) := fun S at_ a w hr => by
  obtain ⟨u1, k1, k2⟩ := resV_run hr h1
  obtain ⟨u2, k3, k4⟩ := resV_run hr h2
  refine retO_fin hr ho hren (v := .tuple #[u1, u2]) ?_ (by rw [hv, VR]; exact ⟨#[u1, u2], rfl, by simp [VRs, k2, k4]⟩)
  have harr : (fn.results.mapM (resOf a)).run P w = .ok #[u1, u2] w := by
    rw [hres]
    simp [k1, k3]
  have heq : results fn a.tmps = (do let vs ← fn.results.mapM (resOf a); pure (if h : vs.size = 1 then vs[0] else .tuple vs)) := rfl
  rw [heq, Sem.run_bind, harr]
  simp
end
section
variable {c : Ctx} {st : St} {Q : Exit → Act → World → Prop}
theorem Tr.callO {o : Oper} {ops : Array Oper} {rest : List Oper} {d : Nat} {x : Operand} {f : FuncId} {fn : Func} {code : Code} {xs : Array Operand} {ts : Array TypeId} {vs : List V} {el : TypeId} {row : List V} {res : Nat → Nat → V} (dd : Nat) (hg : o.guard = none) (hd : o.dst = some d) (hn : d < c.nt) (hop : o.op = .call { callee := .value x, args := xs, argTypes := ts })
    (hx : st.ev x = .fn f []) (hb : HasBody c.P f fn code) (hvs : xs.toList.map st.ev = vs) (hro : V.outs vs = true) (hf : FnO c.P f vs el row res) (hfr : st.obj st.gen dd = .none) (h : Tr c ⟨upd st.env d (res st.gen dd), updO st.obj st.gen dd (.row el row), st.gen⟩ (wpListIn (Fn c.frs.rd) 0 c.P ops Q rest)) : Tr c st (wpListIn (Fn c.frs.rd) 0 c.P ops Q (o :: rest)) :=
  fun S at_ a w hr => wpListIn_plain hg fun K hK => by
    obtain ⟨arr, h1, hrun⟩ := call_run hr hop hx hb
    obtain rfl : arr = [] := by cases arr with | nil => rfl | cons => simp [VRs] at h1
    rw [List.append_nil] at hrun
    have hargs : VRs c.P w S (fun _ _ => none) vs (xs.toList.map a.eval) := by
      refine VRs.out vs _ hro (at_ := at_) ?_
      subst hvs
      generalize xs.toList = l
      induction l with
      | nil => simp [VRs]
      | cons y l ih => simp only [List.map_cons]; rw [VRs]; exact ⟨hr.ev y, ih⟩
    refine wpIn_enter hop hrun ?_
    refine (hf w S _ hr.globs hr.slt hargs).mono ?_
    rintro e w' ⟨v, rv, S', rfl, h1, h2, h3, ⟨flat, h4, h5⟩, h6, h7⟩
    rw [hd]
    have hr1 := hr.grow h1 h2 h3
    have hbase : c.w0.heap.size ≤ w.heap.size := hr.below.size
    have hr2 := hr1.newObj (d := dd) hfr (w' := w') (v := rv) (o := .row el row) rfl rfl rfl (Nat.le_refl _) (fun _ _ _ => rfl) (fun b hb => by
      obtain ⟨k1, k2, k3⟩ := h6 b hb
      refine ⟨by omega, k2, k3, fun g' d' v' hv' hl' he => ?_⟩
      have := hr.own g' d' v' b hv' hl' he
      omega) rfl ⟨flat, ownsRow_base h4 hbase, h5⟩
    exact hK _ _ (h S' _ _ w' (hr2.put hn (h7 _ _ _ (by simp [updA]))))
end
section
variable {P : Program} {w0 : World} {S0 : Nat → Prop} {nt : Nat} {frs : Frs} {e : Nat → V} {ob : Nat → Nat → Ob} {g : Nat} {Q : Exit → Act → World → Prop} {K : Act → World → Prop} {ops : Array Oper} {rest : List Oper} {d : Nat} {ty : TypeId} {pos : String} {aft : Array Edge} {m : Md}
theorem p_callO (dd : Nat) {x : Operand} {f : FuncId} {fn : Func} {code : Code} {xs : List Operand} {ts : Array TypeId} {vs : List V} {el : TypeId} {row : List V} {res : Nat → Nat → V} (hm : m = .lex := by exact rfl) (hn : d < nt := by decide) (hx : evE e x = .fn f [] := by simp (decide := true) only [evE, upd, cv, args0, argsFrom, List.length_map, ↓reduceIte, hE] <;> rfl) (hb : HasBody P f fn code) (hvs : xs.map (evE e) = vs := by simp (decide := true) only [List.map_cons, List.map_nil, List.cons_append, List.nil_append, List.append_nil, evE, upd, updO, cv, args0, List.getElem?_cons_zero, List.getElem?_cons_succ, Option.getD_some, List.length_map, ↓reduceIte, hE] <;> rfl) (hro : V.outs vs = true := by exact rfl) (hf : FnO P f vs el row res) (hfr : ob g dd = .none := by repeat (first | exact hf _ | with_reducible rfl | rw [updO_off (by decide)]))
    (h : Wk .lex ⟨P, w0, S0, nt, frs⟩ ops Q ⟨upd e d (res g dd), updO ob g dd (.row el row), g⟩ rest) : Wk m ⟨P, w0, S0, nt, frs⟩ ops Q ⟨e, ob, g⟩ (⟨some d, .call { callee := .value x, args := xs.toArray, argTypes := ts }, ty, pos, aft, none⟩ :: rest) := by
  subst hm
  exact Tr.callO dd rfl rfl hn rfl ((evE_eq e ob g x).trans hx) hb (by rw [← hvs]; exact List.map_congr_left fun y _ => evE_eq e ob g y) hro hf hfr h
end
/-! ### rows of structs -/
theorem flat_get {α : Type} (l : List α) (h0 : 0 < l.length) : ∀ (n i : Nat), i < n * l.length → (List.replicate n l).flatten[i]? = l[i % l.length]?
  | 0, i, h => by omega
  | n + 1, i, h => by
    rw [List.replicate_succ, List.flatten_cons]
    by_cases hi : i < l.length
    · rw [List.getElem?_append_left hi, Nat.mod_eq_of_lt hi]
    · rw [List.getElem?_append_right (by omega), flat_get l h0 n (i - l.length) (by rw [Nat.succ_mul] at h; omega), ← Nat.mod_eq_sub_mod (by omega)]
theorem flat_len {α : Type} (l : List α) : ∀ n, (List.replicate n l).flatten.length = n * l.length
  | 0 => by simp
  | n + 1 => by rw [List.replicate_succ, List.flatten_cons, List.length_append, flat_len l n, Nat.succ_mul]; omega
theorem made_flat (z : Array Value) (h0 : 0 < z.size) (n : Nat) : (madeCells z (n * z.size)).toList = (List.replicate n z.toList).flatten := by
  refine List.ext_getElem? fun i => ?_
  by_cases hi : i < n * z.size
  · rw [flat_get _ (by simpa using h0) n i (by simpa using hi)]
    have hm : i % z.size < z.size := Nat.mod_lt _ h0
    simp [madeCells, hi, hm, getElem!_pos]
  · rw [List.getElem?_eq_none (by simp [madeCells]; omega), List.getElem?_eq_none (by rw [flat_len]; simpa using hi)]
section
variable {c : Ctx} {st : St} {o : Oper} {d : Nat}
theorem RLs_cvl {P : Program} {w : World} {S : Nat → Prop} : ∀ l : List Value, (l.map cv).all V.isRL = true → RLs P w S (l.map cv) l
  | [], _ => by simp [RLs]
  | v :: l, h => by
    simp only [List.map_cons, List.all_cons, Bool.and_eq_true] at h
    rw [List.map_cons, RLs_cons]
    exact ⟨(VR_cv (P := P) (w := w) (S := S) (at_ := fun _ _ => none) v).toRL (by have := h.1; cases hc : cv v <;> simp_all [V.isRL, V.ro]), RLs_cvl l h.2⟩
theorem Stp.makeA {t e : TypeId} {x : Operand} {n : Nat} {k : IntKind} {z : Value} {size bytes : Nat} {l : List V} (hd : o.dst = some d) (hn : d < c.nt) (hop : o.op = .makeSlice t x x) (ht : c.P.underlying t = some (.slice e)) (hi : TI c.P e z size bytes) (hz : z.cells.size = size) (h0 : 0 < size)
    (hzv : z.cells.toList.map cv = l) (hro : l.all V.isRL = true) (hx : st.ev x = .int k n) (hnone : st.obj st.gen d = .none) (hb : bytes * n ≤ 281474976710656) (h63 : n ≤ 9223372036854775807) : Stp c o st ((st.set st.gen d (.row e (List.replicate n (.agg l)))).put d (.row st.gen d n)) :=
  Stp.fresh hd hn hnone rfl fun S at_ a w hr => by
    have h1 := hr.ev x
    rw [hx, VR, RL] at h1
    have hcz := hi.cells
    obtain ⟨i, hi1, hi2, hi3, hi4⟩ := hi.get
    have hb' : (i.bytes : Int) * (n : Int) ≤ 281474976710656 := by
      have : ((i.bytes * n : Nat) : Int) ≤ 281474976710656 := by rw [hi4]; omega
      rwa [Int.natCast_mul] at this
    have hrun := run_make (P := c.P) w t e i z ht hi1 hi2 k k n n (by omega) (Int.le_refl _) hb' (by omega)
    simp only [Int.toNat_natCast, hi3] at hrun
    have hsz : (madeCells z.cells (n * size)).toList = (List.replicate n z.cells.toList).flatten := by
      rw [← hz]; exact made_flat z.cells (by omega) n
    refine ⟨.cells (madeCells z.cells (n * size)) e, .slice (some ⟨w.heap.size, 0, none⟩) n n, .slice (some ⟨w.heap.size, 0, none⟩) n n, ?_, rfl, ⟨(madeCells z.cells (n * size)).toList, ?_, ?_⟩, ?_⟩
    · simp only [execOp, hop, h1, hrun, Sem.run_bind, Sem.run_pure, Result.andThen]
    · have := World.ownsRow_lit (base := c.w0.heap.size) (e := e) (size := size) w (madeCells z.cells (n * size)) n hr.below.size (by simpa [maxLen] using h63) (size_madeCells _ _)
      rw [hcz, List.length_replicate]; exact this
    · rw [hsz]
      subst hzv
      exact Flat.replicate (by rw [hcz]; simpa using hz) (by
        simp only [RX]
        exact RLs_cvl _ hro) n
    · rw [VR]; exact ⟨_, n, n, by simp [updA], Nat.le_refl _, rfl⟩
end
section
variable {P : Program} {w0 : World} {S0 : Nat → Prop} {nt : Nat} {frs : Frs} {e : Nat → V} {ob : Nat → Nat → Ob} {g : Nat} {Q : Exit → Act → World → Prop} {K : Act → World → Prop} {ops : Array Oper} {rest : List Oper} {d : Nat} {ty : TypeId} {pos : String} {aft : Array Edge} {m : Md}
theorem p_makeA {t t' : TypeId} {x : Operand} {n : Nat} {k : IntKind} {z : Value} {size bytes : Nat} {l : List V} (hn : d < nt := by decide) (hf : ob g d = .none := by repeat (first | exact hf _ | with_reducible rfl | rw [updO_off (by decide)])) (ht : P.underlying t = some (.slice t')) (hi : TI P t' z size bytes) (hz : z.cells.size = size := by exact rfl) (h0 : 0 < size := by decide) (hzv : z.cells.toList.map cv = l := by simp [Value.cells, cv] <;> rfl) (hro : l.all V.isRL = true := by exact rfl) (hx : evE e x = .int k n := by simp (decide := true) only [evE, upd, cv, args0, argsFrom, List.length_map, ↓reduceIte, hE] <;> rfl) (hb : bytes * n ≤ 281474976710656) (h63 : n ≤ 9223372036854775807)
    (h : Wk (m.log ⟨some (d, (.row g d n)), [(g, d, (.row t' (List.replicate n (.agg l))))], [(g, d)]⟩) ⟨P, w0, S0, nt, frs⟩ ops Q ⟨upd e d (.row g d n), updO ob g d (.row t' (List.replicate n (.agg l))), g⟩ rest) : Wk m ⟨P, w0, S0, nt, frs⟩ ops Q ⟨e, ob, g⟩ (⟨some d, .makeSlice t x x, ty, pos, aft, none⟩ :: rest) :=
  Wk.op (Loc.plain rfl rfl fun st' hv' ho' hg => by
    obtain ⟨e', ob', g'⟩ := st'
    obtain rfl : g = g' := hg.symm
    exact Stp.makeA (st := ⟨e', ob', g⟩) rfl hn rfl ht hi hz h0 hzv hro ((hv' x (by simp [Op.operands, Call.operands])).trans ((evE_eq e ob g x).trans hx)) ((ho' (g, d) (by simp)).trans hf) hb h63) h
/-- A field of an element of a row that is told by f is written. -/
theorem p_storePartF {t t' i q g1 d1 n : Nat} {x y : Operand} {f f' : Nat → V} {v : V} {l : List V} {z : Value} {bytes : Nat} (hi : TI P t z 1 bytes) (hx : evE e x = .rptr t' g1 d1 i q := by simp (decide := true) only [evE, upd, cv, args0, argsFrom, List.length_map, ↓reduceIte, hE] <;> rfl) (ho : ob g1 d1 = .row t' ((List.range n).map f) := by simp (decide := true) only [updO, upd, true_and, and_true, false_and, and_false, ↓reduceIte, hE] <;> first | rfl | assumption) (hlt : i < n) (hfi : f i = .agg l := by exact rfl) (hy : evE e y = v := by simp (decide := true) only [evE, upd, cv, args0, argsFrom, List.length_map, ↓reduceIte, hE] <;> rfl) (hl : v.isRL = true := by exact rfl) (hq : q < l.length := by decide) (hf : ∀ j, j < n → f' j = if j = i then .agg (l.set q v) else f j)
    (h : Wk (m.log ⟨none, [(g1, d1, (.row t' ((List.range n).map f')))], [(g1, d1)]⟩) ⟨P, w0, S0, nt, frs⟩ ops Q ⟨e, updO ob g1 d1 (.row t' ((List.range n).map f')), g⟩ rest) : Wk m ⟨P, w0, S0, nt, frs⟩ ops Q ⟨e, ob, g⟩ (⟨none, .store t x y, ty, pos, aft, none⟩ :: rest) := by
  have hc1 : v.cells = [v] := by cases v <;> simp_all [V.isRL, V.cells]
  have hlf : v.leaf = true := by cases v <;> simp_all [V.isRL, V.leaf]
  have hro : v.ro = true := by cases v <;> simp_all [V.isRL, V.ro]
  have hset : ((List.range n).map f).set i (.agg (splice l q v.cells)) = (List.range n).map f' := by
    rw [hc1, splice_one _ _ _ hq]; exact set_map_range hf
  refine Wk.op (x := ⟨none, [(g1, d1, .row t' ((List.range n).map f'))], [(g1, d1)]⟩) (Loc.plain rfl rfl fun st' hv' ho' hg => ?_) h
  have := Stp.storeRowPart (c := ⟨P, w0, S0, nt, frs⟩) (st := st') (o := ⟨none, .store t x y, ty, pos, aft, none⟩) rfl rfl hi ((hv' x (by simp [Op.operands, Call.operands])).trans ((evE_eq e ob g x).trans hx)) ((ho' (g1, d1) (by simp)).trans ho) (l := l) (by simp [hlt, hfi]) ((hv' y (by simp [Op.operands, Call.operands])).trans ((evE_eq e ob g y).trans hy)) (.inl hlf) hro (by rw [hc1]; rfl) (by omega)
  rw [hset] at this
  exact this
/-- An element of a row of structs that is told by f is written anew. -/
theorem p_storeRowAF {t t' i g1 d1 n : Nat} {x y : Operand} {f f' : Nat → V} {l : List V} {z : Value} {size bytes : Nat} (hi : TI P t z size bytes) (hc : P.cellsOf t' = size) (hx : evE e x = .rptr t' g1 d1 i 0 := by simp (decide := true) only [evE, upd, cv, args0, argsFrom, List.length_map, ↓reduceIte, hE] <;> rfl) (ho : ob g1 d1 = .row t' ((List.range n).map f) := by simp (decide := true) only [updO, upd, true_and, and_true, false_and, and_false, ↓reduceIte, hE] <;> first | rfl | assumption) (hlt : i < n) (hy : evE e y = .agg l := by simp (decide := true) only [evE, upd, cv, args0, argsFrom, List.length_map, ↓reduceIte, hE] <;> rfl) (hro : (V.agg l).ro = true := by exact rfl) (hsz : l.length = size := by exact rfl) (hf : ∀ j, j < n → f' j = if j = i then .agg l else f j)
    (h : Wk (m.log ⟨none, [(g1, d1, (.row t' ((List.range n).map f')))], [(g1, d1)]⟩) ⟨P, w0, S0, nt, frs⟩ ops Q ⟨e, updO ob g1 d1 (.row t' ((List.range n).map f')), g⟩ rest) : Wk m ⟨P, w0, S0, nt, frs⟩ ops Q ⟨e, ob, g⟩ (⟨none, .store t x y, ty, pos, aft, none⟩ :: rest) := by
  refine p_storeRow hi hc hx ho (by simpa using hlt) hy (.inr ⟨_, rfl⟩) hro hsz ?_
  rw [set_map_range hf]; exact h
end
/-! ### a call walked on the spot: the called function works with the caller's objects, and the walk goes on behind it -/
def RetE (c : Ctx) (fn : Func) (K : V → (Nat → Nat → Ob) → Nat → Prop) : Exit → Act → World → Prop :=
  Out c.P fn fun e w => ∃ v S at_ st a r, e = .returned v ∧ Rel ⟨c.P, c.w0, c.S0, c.nt, ⟨c.frs.l, [], none⟩⟩ S at_ st a w ∧ VR c.P w S at_ r v ∧ K r st.obj st.gen
theorem Tr.enter {c : Ctx} {st : St} {Q : Exit → Act → World → Prop} {o : Oper} {ops : Array Oper} {rest : List Oper} {d : Nat} {x : Operand} {f : FuncId} {fn : Func} {code : Code} {xs : Array Operand} {ts : Array TypeId} {args cap : List V} {nt : Nat} (hg : o.guard = none) (hd : o.dst = some d) (hn : d < c.nt) (hop : o.op = .call { callee := .value x, args := xs, argTypes := ts })
    (hx : st.ev x = .fn f cap) (hb : HasBody c.P f fn code) (hnt : fn.ntmps = nt) (hargs : xs.toList.map st.ev ++ cap = args) (hle : args.length ≤ nt)
    (hf : ∀ a0, TrC ⟨c.P, c.w0, c.S0, nt, ⟨(st.env, a0, c.frs.dfs) :: c.frs.l, [], none⟩⟩ ⟨args0 args, st.obj, st.gen⟩ code (RetE ⟨c.P, c.w0, c.S0, nt, ⟨(st.env, a0, c.frs.dfs) :: c.frs.l, [], none⟩⟩ fn fun r o g => Tr c ⟨upd st.env d r, o, g⟩ (wpListIn (Fn c.frs.rd) 0 c.P ops Q rest))) : Tr c st (wpListIn (Fn c.frs.rd) 0 c.P ops Q (o :: rest)) :=
  fun S at_ a w hr => wpListIn_plain hg fun K' hK => by
    obtain ⟨arr, h1, hrun⟩ := call_run hr hop hx hb
    have hvals : VRs c.P w S at_ args (xs.toList.map a.eval ++ arr) := by
      subst hargs
      refine VRs.append ?_ h1
      generalize xs.toList = l
      induction l with
      | nil => simp [VRs]
      | cons y l ih => simp only [List.map_cons]; rw [VRs]; exact ⟨hr.ev y, ih⟩
    generalize xs.toList.map a.eval ++ arr = cs at hrun hvals
    have hlen := VRs.length hvals
    have hr' : Rel ⟨c.P, c.w0, c.S0, nt, ⟨(st.env, a, c.frs.dfs) :: c.frs.l, [], none⟩⟩ S at_ ⟨args0 args, st.obj, st.gen⟩ { tmps := cs.toArray ++ Array.replicate (fn.ntmps - cs.toArray.size) undef, defers := [] } w :=
      { defers := trivial
        stk := fun k hk => hr.stk k ((frs_keys st.env a c.frs) ▸ hk)
        nod := by rw [frs_keys]; exact hr.nod
        size := by simp; omega
        env := fun s => by
          simp only [args0_eq]
          cases hs : args[s]? with
          | none => rw [Option.getD_none, VR]; trivial
          | some v =>
            obtain ⟨x, hx, hv⟩ := VRs.get hvals hs
            have hlt := (List.getElem?_eq_some_iff.1 hx).1
            have : (cs.toArray ++ Array.replicate (fn.ntmps - cs.toArray.size) undef).getD s undef = x := by
              rw [Array.getD_eq_getD_getElem?, Array.getElem?_append_left (by simpa using hlt)]
              simp [hx]
            rw [this]
            exact hv
        frs := fun p hp => by
          rcases List.mem_cons.1 hp with rfl | hp
          · exact ⟨hr.env, hr.defers⟩
          · exact hr.frs p hp
        gen := hr.gen, al := hr.al, ok := hr.ok, own := hr.own, dis := hr.dis, slt := hr.slt, snew := hr.snew, sold := hr.sold, below := hr.below, glob := hr.glob }
    have hcall : Calls c.P f cs.toArray w fun e w' => ∃ v r S' at' o g, e = .returned v ∧ Rel c S' at' ⟨st.env, o, g⟩ a w' ∧ VR c.P w' S' at' r v ∧ Tr c ⟨upd st.env d r, o, g⟩ (wpListIn (Fn c.frs.rd) 0 c.P ops Q rest) := by
      refine (out_calls hb.1 hb.2.2 (hf a S at_ _ w hr')).mono ?_
      rintro e w' ⟨v, S2, at2, st2, a2, r, rfl, k1, k3, k4⟩
      have hm := k1.frs (st.env, a, c.frs.dfs) (List.mem_cons_self ..)
      exact ⟨v, r, S2, at2, st2.obj, st2.gen, rfl,
        { defers := hm.2, size := hr.size, env := hm.1, frs := fun p hp => k1.frs p (List.mem_cons_of_mem _ hp), stk := fun k hk => k1.stk k ((frs_keys st.env a c.frs).symm ▸ hk), nod := hr.nod
          gen := k1.gen, al := k1.al, ok := k1.ok, own := k1.own, dis := k1.dis, slt := k1.slt, snew := k1.snew, sold := k1.sold, below := k1.below, glob := k1.glob }, k3, k4⟩
    refine wpIn_enter hop hrun ?_
    refine hcall.mono ?_
    rintro e w' ⟨v, r, S', at', o', g', rfl, k1, k2, k3⟩
    rw [hd]
    exact hK _ _ (k3 S' at' _ w' (k1.put hn k2))
section
variable {P : Program} {w0 : World} {S0 : Nat → Prop} {nt : Nat} {frs : Frs} {e : Nat → V} {ob : Nat → Nat → Ob} {g : Nat} {Q : Exit → Act → World → Prop} {ops : Array Oper} {rest : List Oper} {d : Nat} {ty : TypeId} {pos : String} {aft : Array Edge} {m : Md}
theorem p_enter {x : Operand} {f : FuncId} {fn : Func} {code : Code} {xs : List Operand} {ts : Array TypeId} {args cap : List V} {nt' : Nat} (hb : HasBody P f fn code) (hnt : fn.ntmps = nt') (hm : m = .lex := by exact rfl) (hn : d < nt := by decide) (hx : evE e x = .fn f cap := by simp (decide := true) only [evE, upd, cv, args0, argsFrom, List.length_map, ↓reduceIte, hE] <;> rfl) (hus : xs.map (evE e) ++ cap = args := by simp (decide := true) only [List.map_cons, List.map_nil, List.cons_append, List.nil_append, List.append_nil, evE, upd, updO, cv, args0, List.getElem?_cons_zero, List.getElem?_cons_succ, Option.getD_some, List.length_map, ↓reduceIte, hE] <;> rfl) (hle : args.length ≤ nt' := by simp)
    (h : ∀ a0, TrC ⟨P, w0, S0, nt', ⟨(e, a0, frs.dfs) :: frs.l, [], none⟩⟩ ⟨args0 args, ob, g⟩ code (RetE ⟨P, w0, S0, nt', ⟨(e, a0, frs.dfs) :: frs.l, [], none⟩⟩ fn fun r o g' => Wk .lex ⟨P, w0, S0, nt, frs⟩ ops Q ⟨upd e d r, o, g'⟩ rest)) : Wk m ⟨P, w0, S0, nt, frs⟩ ops Q ⟨e, ob, g⟩ (⟨some d, .call { callee := .value x, args := xs.toArray, argTypes := ts }, ty, pos, aft, none⟩ :: rest) := by
  subst hm
  refine Tr.enter rfl rfl hn rfl ((evE_eq e ob g x).trans hx) hb hnt ?_ hle h
  rw [← hus, List.append_cancel_right_eq]
  exact List.map_congr_left fun y _ => evE_eq e ob g y
variable {fn : Func} {K : V → (Nat → Nat → Ob) → Nat → Prop}
theorem p_retE1 {l : List ((Nat → V) × Act × List Dfr)} {x : ResultVar} {v : V} (hres : fn.results = #[x]) (h : (⟨e, ob, g⟩ : St).resV P x v) (hK : K v ob g) : Tr ⟨P, w0, S0, nt, ⟨l, [], none⟩⟩ ⟨e, ob, g⟩ (RetE ⟨P, w0, S0, nt, ⟨l, [], none⟩⟩ fn K .ret) := fun S at_ a w hr => by
  obtain ⟨u, h1, h2⟩ := resV_run hr h
  refine hr.leave0 ⟨u, ?_, _, S, at_, _, a, v, rfl, hr, h2, hK⟩
  cases x <;> simp only [resOf, Array.getD_eq_getD_getElem?, Sem.run_bind, Sem.run_pure] at h1 <;> simp [results, hres, h1] <;> (first | exact (by injection h1))
theorem p_retE2 {l : List ((Nat → V) × Act × List Dfr)} {x y : ResultVar} {v1 v2 : V} (hres : fn.results = #[x, y]) (h1 : (⟨e, ob, g⟩ : St).resV P x v1) (h2 : (⟨e, ob, g⟩ : St).resV P y v2) (hK : K (.tup [v1, v2]) ob g) : Tr ⟨P, w0, S0, nt, ⟨l, [], none⟩⟩ ⟨e, ob, g⟩ (RetE ⟨P, w0, S0, nt, ⟨l, [], none⟩⟩ fn K .ret) := fun S at_ a w hr => by
  obtain ⟨u1, k1, k2⟩ := resV_run hr h1
  obtain ⟨u2, k3, k4⟩ := resV_run hr h2
  refine hr.leave0 ⟨.tuple #[u1, u2], ?_, _, S, at_, _, a, .tup [v1, v2], rfl, hr, by rw [VR]; exact ⟨#[u1, u2], rfl, by simp [VRs, k2, k4]⟩, hK⟩
  have harr : (fn.results.mapM (resOf a)).run P w = .ok #[u1, u2] w := by
    rw [hres]
    simp [k1, k3]
  have heq : results fn a.tmps = (do let vs ← fn.results.mapM (resOf a); pure (if h : vs.size = 1 then vs[0] else .tuple vs)) := rfl
  rw [heq, Sem.run_bind, harr]
  simp
end
/-! ### a row of the call's own, read otherwise -/
theorem Rel.rowW {c : Ctx} {S : Nat → Prop} {at_ : At} {st : St} {a : Act} {w : World} (h : Rel c S at_ st a w) {g d t : Nat} {xs xs' : List V} (hobj : st.obj g d = .row t xs) (hlen : xs'.length = xs.length) (hw : ∀ cs, Flat c.P w S t xs cs → Flat c.P w S t xs' cs) : Rel c S at_ (st.set g d (.row t xs')) a w := by
  have hsame : ∀ {g' d'}, ¬ (d' = d ∧ g' = g) → (updO st.obj g d (.row t xs')) g' d' = st.obj g' d' := fun hne => by simp [updO, hne]
  have hthis : (updO st.obj g d (.row t xs')) g d = .row t xs' := by simp [updO]
  have hlive : ∀ g' d', ((updO st.obj g d (.row t xs')) g' d').live = (st.obj g' d').live := fun g' d' => by
    by_cases he : d' = d ∧ g' = g
    · obtain ⟨rfl, rfl⟩ := he; rw [hthis, hobj]; rfl
    · rw [hsame he]
  refine h.move (obj' := updO st.obj g d (.row t xs')) (at' := at_) (S' := S) h.below (Nat.le_refl _) (fun _ h => h) h.slt h.snew (fun _ _ => rfl) (fun _ _ _ h => h) (dfd_off (by rw [hobj]; simp)) ?_ ?_ ?_ ?_ ?_
  · intro g' d' hg'
    by_cases he : d' = d ∧ g' = g
    · obtain ⟨rfl, rfl⟩ := he
      have := h.gen g' d' hg'
      rw [hobj] at this; cases this
    · rw [hsame he]; exact h.gen g' d' hg'
  · intro g' d'
    by_cases he : d' = d ∧ g' = g
    · obtain ⟨rfl, rfl⟩ := he
      rw [hthis]
      have := h.al g' d'
      rw [hobj] at this
      exact ⟨fun e => (by have := this.1 e; cases this), fun e => (by cases e)⟩
    · rw [hsame he]; exact h.al g' d'
  · intro g' d' v' hv'
    by_cases he : d' = d ∧ g' = g
    · obtain ⟨rfl, rfl⟩ := he
      have := h.ok g' d' v' hv'
      rw [hobj] at this
      rw [hthis]
      obtain ⟨flat, h1, h2⟩ := this
      exact ⟨flat, by rw [hlen]; exact h1, hw flat h2⟩
    · rw [hsame he]; exact h.ok g' d' v' hv'
  · intro g' d' v b h1 h2 h3
    rw [hlive] at h2; exact h.own g' d' v b h1 h2 h3
  · intro g' d' g'' d'' v v' b h1 h2 h3 h4 h5 h6
    rw [hlive] at h3 h4; exact h.dis g' d' g'' d'' v v' b h1 h2 h3 h4 h5 h6
theorem Flat.last {P : Program} {w : World} {S : Nat → Prop} {e : TypeId} {x x' : V} (hx : ∀ cs, RX P w S x cs → RX P w S x' cs) : ∀ (xs : List V) (cs : List Value), Flat P w S e (xs ++ [x]) cs → Flat P w S e (xs ++ [x']) cs
  | [], cs, h => by
    obtain ⟨c1, c2, h1, h2, h3, h4⟩ := h
    exact ⟨c1, c2, h1, h2, hx c1 h3, h4⟩
  | y :: xs, cs, h => by
    obtain ⟨c1, c2, h1, h2, h3, h4⟩ := h
    exact ⟨c1, c2, h1, h2, h3, Flat.last hx xs c2 h4⟩
theorem RLs.nilSl {P : Program} {w : World} {S : Nat → Prop} {el : TypeId} : ∀ {cs : List V} {xs : List Value} {i : Nat}, RLs P w S cs xs → cs[i]? = some .nil → RLs P w S (cs.set i (.sl el [])) xs
  | [], _, i, _, hi => by simp at hi
  | _ :: _, [], _, h, _ => by simp [RLs] at h
  | u :: cs, x :: xs, i, h, hi => by
    rw [RLs_cons] at h
    cases i with
    | zero =>
      simp at hi; subst hi
      rw [List.set_cons_zero, RLs_cons]
      refine ⟨?_, h.2⟩
      have h1 := h.1
      rw [RL] at h1
      rw [RL]
      exact ⟨none, 0, h1, Nat.le_refl _, .inl rfl⟩
    | succ i => simp at hi; rw [List.set_cons_succ, RLs_cons]; exact ⟨h.1, RLs.nilSl h.2 hi⟩
section
variable {P : Program} {w0 : World} {S0 : Nat → Prop} {nt : Nat} {frs : Frs} {e : Nat → V} {ob : Nat → Nat → Ob} {g : Nat} {K : Act → World → Prop}
/-- nil in the last element of a row of structs, as an empty slice. -/
theorem p_lastNil {g1 d1 t i el : Nat} {xs : List V} {l l' : List V} (ho : ob g1 d1 = .row t (xs ++ [.agg l]) := by simp (decide := true) only [updO, upd, true_and, and_true, false_and, and_false, ↓reduceIte, hE] <;> first | rfl | assumption) (hi : l[i]? = some .nil := by exact rfl) (hl : l.set i (.sl el []) = l' := by exact rfl) (h : Tr ⟨P, w0, S0, nt, frs⟩ ⟨e, updO ob g1 d1 (.row t (xs ++ [.agg l'])), g⟩ K) : Tr ⟨P, w0, S0, nt, frs⟩ ⟨e, ob, g⟩ K := fun S at_ a w hr =>
  h S at_ a w (hr.rowW (st := ⟨e, ob, g⟩) ho (by simp) fun cs hcs => Flat.last (fun cs h => by
    simp only [RX] at h ⊢
    rw [← hl]; exact RLs.nilSl h hi) xs cs hcs)
end
/-! ### structs of whole numbers that are not alike -/
theorem Stp.neInts {c : Ctx} {st : St} {o : Oper} {d : Nat} {t t' : TypeId} {x y : Operand} {ks : List IntKind} {ms ns : List Int} (hd : o.dst = some d) (hnt : d < c.nt) (hop : o.op = .binOp .neq t x y t') (ht : IntStruct c.P t ks) (hm : ms.length = ks.length) (hn : ns.length = ks.length) (hx : st.ev x = .agg (intVs ks ms)) (hy : st.ev y = .agg (intVs ks ns)) : Stp c o st (st.put d (.bool (!decide (ms = ns)))) :=
  Stp.val hd hnt fun S at_ a w hr => by
    have h1 := hr.ev x
    have h2 := hr.ev y
    rw [hx, VR] at h1
    rw [hy, VR] at h2
    obtain ⟨xs, h3, h4⟩ := h1
    obtain ⟨ys, h5, h6⟩ := h2
    have hg := ht
    obtain ⟨fs, _, _, hgt, _⟩ := hg
    refine ⟨.bool (!decide (ms = ns)), ?_, by rw [VR, RL]⟩
    simp only [execOp, hop, h3, h5, Sem.run_bind, run_eqGuard_agg w .neq t x y xs ys hgt, Result.andThen_ok, binOp, equal_ints ht hm hn h4 h6, Sem.run_pure]
section
variable {P : Program} {w0 : World} {S0 : Nat → Prop} {nt : Nat} {frs : Frs} {e : Nat → V} {ob : Nat → Nat → Ob} {g : Nat} {Q : Exit → Act → World → Prop} {ops : Array Oper} {rest : List Oper} {d : Nat} {ty : TypeId} {pos : String} {aft : Array Edge} {m : Md}
theorem p_neIntsL {t t' : TypeId} {x y : Operand} {ks : List IntKind} {l l' : List V} {b : Bool} (hn : d < nt := by decide) (ht : IntStruct P t ks) (hx : evE e x = .agg l := by simp (decide := true) only [evE, upd, cv, args0, argsFrom, List.length_map, ↓reduceIte, hE] <;> rfl) (hy : evE e y = .agg l' := by simp (decide := true) only [evE, upd, cv, args0, argsFrom, List.length_map, ↓reduceIte, hE] <;> rfl) (hl : intVs ks (l.map V.toI) = l := by exact rfl) (hl' : intVs ks (l'.map V.toI) = l' := by exact rfl) (hm : l.length = ks.length := by exact rfl) (hm' : l'.length = ks.length := by exact rfl) (hb : (!decide (l.map V.toI = l'.map V.toI)) = b) (h : Wk (m.log ⟨some (d, .bool b), [], []⟩) ⟨P, w0, S0, nt, frs⟩ ops Q ⟨upd e d (.bool b), ob, g⟩ rest) :
    Wk m ⟨P, w0, S0, nt, frs⟩ ops Q ⟨e, ob, g⟩ (⟨some d, .binOp .neq t x y t', ty, pos, aft, none⟩ :: rest) := by
  subst hb
  refine Wk.op (Loc.plain rfl rfl fun st' hv' _ _ => Stp.neInts (st := st') rfl hn rfl ht (by simpa using hm) (by simpa using hm') ?_ ?_) h
  · rw [hl]; exact (hv' x (by simp [Op.operands])).trans ((evE_eq e ob g x).trans hx)
  · rw [hl']; exact (hv' y (by simp [Op.operands])).trans ((evE_eq e ob g y).trans hy)
end
end Go.Proofs.YtjjpmbaddpiamaaDoor
