/-
  The abstract machine and code: regions, conditions, loops, calls.
-/
import Derived.Test.YtjjpmbaddpiamaaDoorU
set_option linter.unusedSimpArgs false
set_option linter.unusedVariables false
namespace Go.Proofs.YtjjpmbaddpiamaaDoor
open Go.RowKit

/-- What code comes to from a state on: Q tells of ends, frames and worlds. -/
abbrev TrC (c : Ctx) (st : St) (code : Code) (Q : Exit → Act → World → Prop) : Prop := Tr c st fun a w => code.wpIn (Fn c.frs.rd) 0 c.P Q a w

section code
variable {c : Ctx} {st : St} {Q : Exit → Act → World → Prop} {K : Act → World → Prop}
theorem TrC.seq {x y : Code} (h : TrC c st x (Exit.then (y.wpIn (Fn c.frs.rd) 0 c.P Q) Q)) : TrC c st (.seq x y) Q := fun S at_ a w hr => wpIn_seq (h S at_ a w hr)
theorem TrC.skip (h : Tr c st (Q .normal)) : TrC c st .skip Q := fun S at_ a w hr => wpIn_skip (h S at_ a w hr)
theorem TrC.exit {id : Nat} (h : Tr c st (Q (.exit id))) : TrC c st (.exit id) Q := fun S at_ a w hr => wpIn_exit (h S at_ a w hr)
theorem TrC.ret (h : Tr c st (Q .ret)) : TrC c st .ret Q := fun S at_ a w hr => wpIn_ret (h S at_ a w hr)
theorem TrC.block {id : Nat} {x : Code} (h : TrC c st x (Exit.inBlock id Q)) : TrC c st (.block id x) Q := fun S at_ a w hr => wpIn_block (h S at_ a w hr)
theorem Tr.then_normal {next : Act → World → Prop} (h : Tr c st next) : Tr c st (Exit.then next Q .normal) := h
theorem Tr.then_ret {next : Act → World → Prop} (h : Tr c st (Q .ret)) : Tr c st (Exit.then next Q .ret) := h
theorem Tr.then_exit {next : Act → World → Prop} {id : Nat} (h : Tr c st (Q (.exit id))) : Tr c st (Exit.then next Q (.exit id)) := h
theorem Tr.block_normal {id : Nat} (h : Tr c st (Q .normal)) : Tr c st (Exit.inBlock id Q .normal) := h
theorem Tr.block_ret {id : Nat} (h : Tr c st (Q .ret)) : Tr c st (Exit.inBlock id Q .ret) := h
theorem Tr.block_exit_same {id : Nat} (h : Tr c st (Q .normal)) : Tr c st (Exit.inBlock id Q (.exit id)) := fun S at_ a w hr => by simp only [Exit.inBlock, if_true]; exact h S at_ a w hr
theorem Tr.block_exit_other {id id' : Nat} (hne : id' ≠ id) (h : Tr c st (Q (.exit id'))) : Tr c st (Exit.inBlock id Q (.exit id')) := fun S at_ a w hr => by simp only [Exit.inBlock, if_neg hne]; exact h S at_ a w hr
theorem TrC.cond {x : Operand} {p q : Code} {b : Bool} (hx : st.ev x = .bool b) (ht : b = true → TrC c st p Q) (hf : b = false → TrC c st q Q) : TrC c st (.cond x p q) Q := fun S at_ a w hr => by
  have h1 := hr.ev x
  rw [hx, VR, RL] at h1
  refine wpIn_cond (t := b) (by rw [h1]) ?_
  cases b
  · exact hf rfl S at_ a w hr
  · exact ht rfl S at_ a w hr
/-- The generation goes on: what is made from here on has names of its own. -/
theorem Tr.next (h : Tr c { st with gen := st.gen + 1 } K) : Tr c st K := fun S at_ a w hr =>
  h S at_ a w { hr with gen := fun g d hg => hr.gen g d (by have hg' : st.gen + 1 < g := hg; omega), env := hr.env, al := hr.al, ok := hr.ok, own := hr.own, dis := hr.dis }
/-- A region in the text's order: its objects are of the next generation, whose names nothing has yet. -/
theorem TrC.region {id : Nat} {l : List Oper} (h : (∀ d, st.obj (st.gen + 1) d = .none) → Tr c { st with gen := st.gen + 1 } (wpListIn (Fn c.frs.rd) 0 c.P l.toArray Q l)) : TrC c st (.region id l.toArray false) Q := fun S at_ a w hr =>
  wpIn_region_lit (Tr.next (h fun d => hr.gen _ d (Nat.lt_succ_self _)) S at_ a w hr)
theorem Tr.nil {ops : Array Oper} (h : Tr c st (Q .normal)) : Tr c st (wpListIn (Fn c.frs.rd) 0 c.P ops Q []) := fun S at_ a w hr => wpListIn_nil (h S at_ a w hr)
/-- A guarded operation is carried out, or left out. -/
theorem Tr.guardYes {ops : Array Oper} {rest : List Oper} {o : Oper} {st' : St} {j s : Nat} {want : Bool} (hg : o.guard = some (j, want)) (hj : (ops[j]?).bind (·.dst) = some s) (hn : s < c.nt) (hb : st.env s = .bool want) (hs : Stp c o st st') (h : Tr c st' (wpListIn (Fn c.frs.rd) 0 c.P ops Q rest)) : Tr c st (wpListIn (Fn c.frs.rd) 0 c.P ops Q (o :: rest)) :=
  fun S at_ a w hr => wpListIn_step fun K hK => by
    have h1 := hr.env s
    rw [hb, VR, RL] at h1
    have hy : yielded ops a.tmps j = some want := by
      have hlt : s < a.tmps.size := by rw [hr.size]; exact hn
      have h2 : a.tmps[s]? = some (.bool want) := by rw [Array.getD_eq_getD_getElem?, Array.getElem?_eq_getElem hlt] at h1; rw [Array.getElem?_eq_getElem hlt]; simpa using h1
      simp [yielded, hj, h2]
    have hw : Region.wanted o (yielded ops a.tmps) = true := by simp [Region.wanted, hg, hy]
    rw [if_pos hw]
    exact hs S at_ a w hr K Q fun S' at' a' w' hr' => hK _ _ (h S' at' a' w' hr')
theorem Rel.top {S : Nat → Prop} {at_ : At} {a : Act} {w : World} (hr : Rel c S at_ st a w) {d : Nat} (hn : d < c.nt) (v : Value) : Rel c S at_ (st.put d .top) (a.put (some d) v) w := hr.put hn (by rw [VR]; trivial)
theorem Tr.guardNo {ops : Array Oper} {rest : List Oper} {o : Oper} {j s d : Nat} {want b : Bool} (hg : o.guard = some (j, want)) (hj : (ops[j]?).bind (·.dst) = some s) (hn : s < c.nt) (hb : st.env s = .bool b) (hne : b ≠ want) (hd : o.dst = some d) (hdn : d < c.nt)
    (h : Tr c (st.put d .top) (wpListIn (Fn c.frs.rd) 0 c.P ops Q rest)) : Tr c st (wpListIn (Fn c.frs.rd) 0 c.P ops Q (o :: rest)) :=
  fun S at_ a w hr => wpListIn_step fun K hK => by
    have h1 := hr.env s
    rw [hb, VR, RL] at h1
    have hy : yielded ops a.tmps j = some b := by
      have hlt : s < a.tmps.size := by rw [hr.size]; exact hn
      have h2 : a.tmps[s]? = some (.bool b) := by rw [Array.getD_eq_getD_getElem?, Array.getElem?_eq_getElem hlt] at h1; rw [Array.getElem?_eq_getElem hlt]; simpa using h1
      simp [yielded, hj, h2]
    have hw : Region.wanted o (yielded ops a.tmps) = false := by simp [Region.wanted, hg, hy, hne]
    rw [if_neg (by rw [hw]; simp), hd]
    exact ⟨fun _ _ => trivial, hK _ _ (h S at_ _ w (hr.top hdn undef))⟩
/-- Less is told of a state. -/
theorem Tr.weaken {st' : St} (h : Tr c st' K) (hobj : st'.obj = st.obj) (hgen : st'.gen = st.gen) (henv : ∀ s, st'.env s = .top ∨ st'.env s = st.env s) : Tr c st K := fun S at_ a w hr =>
  h S at_ a w { hr with
    env := fun s => by
      rcases henv s with e | e
      · rw [e, VR]; trivial
      · rw [e]; exact hr.env s
    stk := fun k hk => by rw [hobj]; exact hr.stk k hk
    gen := fun g d hg => by rw [hobj]; exact hr.gen g d (by rw [hgen] at hg; exact hg)
    al := fun g d => by rw [hobj]; exact hr.al g d
    ok := fun g d v hv => by rw [hobj]; exact hr.ok g d v hv
    own := fun g d v b h1 h2 h3 => hr.own g d v b h1 (by rw [hobj] at h2; exact h2) h3
    dis := fun g d g' d' v v' b h1 h2 h3 h4 h5 h6 => hr.dis g d g' d' v v' b h1 h2 (by rw [hobj] at h3; exact h3) (by rw [hobj] at h4; exact h4) h5 h6 }
/-- What holds of some state of a kind. -/
def Some (c : Ctx) (I : St → Prop) (a : Act) (w : World) : Prop := ∃ S at_ st, Rel c S at_ st a w ∧ I st
theorem Tr.one {I : St → Prop} (h : I st) : Tr c st (Some c I) := fun S at_ a w hr => ⟨S, at_, st, hr, h⟩
theorem Tr.mono {K' : Act → World → Prop} (h : Tr c st K) (hk : ∀ a w, K a w → K' a w) : Tr c st K' := fun S at_ a w hr => hk _ _ (h S at_ a w hr)
theorem least_ex {P : Nat → Prop} : ∀ n, P n → ∃ m, P m ∧ ∀ k, P k → m ≤ k := by
  intro n
  induction n using Nat.strongRecOn with
  | _ n ih =>
    intro hn
    by_cases h : ∃ k, k < n ∧ P k
    · obtain ⟨k, hk, hp⟩ := h
      exact ih k hk hp
    · exact ⟨n, hn, fun k hk => Nat.le_of_not_lt fun hlt => h ⟨k, hlt, hk⟩⟩
open Classical in
noncomputable def leastOf (P : Nat → Prop) : Nat := if h : ∃ m, P m ∧ ∀ k, P k → m ≤ k then Classical.choose h else 0
theorem leastOf_spec {P : Nat → Prop} (h : ∃ n, P n) : P (leastOf P) ∧ ∀ k, P k → leastOf P ≤ k := by
  obtain ⟨n, hn⟩ := h
  have h1 := least_ex n hn
  unfold leastOf
  rw [dif_pos h1]
  exact Classical.choose_spec h1
/-- A loop: I holds at each round's head, and each round that comes to its end has made μ smaller. -/
theorem TrC.loop {body : Code} (I : St → Prop) (μ : St → Nat) (h0 : I st) (hround : ∀ st, I st → TrC c st body (Exit.then (Some c fun st' => I st' ∧ μ st' < μ st) Q)) : TrC c st (.loop body) Q := by
  intro S at_ a w hr
  let P : Act → World → Nat → Prop := fun a w n => ∃ S at_ st, Rel c S at_ st a w ∧ I st ∧ μ st = n
  refine wpIn_loop (fun a w => ∃ n, P a w n) (fun a w => leastOf (P a w)) ⟨μ st, S, at_, st, hr, h0, rfl⟩ ?_
  intro a w hn
  obtain ⟨S, at_, st, hr, hI, hm⟩ := (leastOf_spec hn).1
  refine wpIn_mono (hround st hI S at_ a w hr) fun e a' w' hq => ?_
  cases e with
  | normal =>
    obtain ⟨S', at', st', hr', hI', hlt⟩ := hq
    have hn' : ∃ n, P a' w' n := ⟨μ st', S', at', st', hr', hI', rfl⟩
    refine ⟨hn', ?_⟩
    have := (leastOf_spec hn').2 (μ st') ⟨S', at', st', hr', hI', rfl⟩
    show leastOf (P a' w') < leastOf (P a w)
    omega
  | exit id => exact hq
  | goto l => exact hq
  | ret => exact hq
  | panic ch => exact hq
  | outgrown => exact hq
end code

/-! ### calls -/
mutual
/-- Values without objects of the call's own. -/
def V.out : V → Bool
  | .agg l | .tup l | .fn _ l => V.outs l
  | .ptr _ _ _ | .row _ _ _ | .rptr _ _ _ _ _ | .map _ _ | .yld _ _ => false
  | _ => true
def V.outs : List V → Bool
  | [] => true
  | v :: vs => v.out && V.outs vs
end
mutual
theorem VR.out {P : Program} {w : World} {S : Nat → Prop} {at_ at' : At} : ∀ (v : V) (x : Value), v.out = true → VR P w S at_ v x → VR P w S at' v x
  | .int _ _, _, _, h => by rw [VR] at h ⊢; exact h
  | .bool _, _, _, h => by rw [VR] at h ⊢; exact h
  | .str _, _, _, h => by rw [VR] at h ⊢; exact h
  | .nil, _, _, h => by rw [VR] at h ⊢; exact h
  | .sl _ _, _, _, h => by rw [VR] at h ⊢; exact h
  | .any _, _, _, h => by rw [VR] at h ⊢; exact h
  | .mp _, _, _, h => by rw [VR] at h ⊢; exact h
  | .top, _, _, _ => by rw [VR]; trivial
  | .agg l, _, hv, h => by rw [VR] at h ⊢; obtain ⟨arr, h1, h2⟩ := h; exact ⟨arr, h1, VRs.out l _ (by rw [V.out] at hv; exact hv) h2⟩
  | .tup l, _, hv, h => by rw [VR] at h ⊢; obtain ⟨arr, h1, h2⟩ := h; exact ⟨arr, h1, VRs.out l _ (by rw [V.out] at hv; exact hv) h2⟩
  | .fn f l, _, hv, h => by rw [VR] at h ⊢; obtain ⟨arr, h1, h2⟩ := h; exact ⟨arr, h1, VRs.out l _ (by rw [V.out] at hv; exact hv) h2⟩
  | .ref _, _, _, h => by rw [VR] at h ⊢; exact h
  | .ptr _ _ _, _, hv, _ => by simp [V.out] at hv
  | .row _ _ _, _, hv, _ => by simp [V.out] at hv
  | .rptr _ _ _ _ _, _, hv, _ => by simp [V.out] at hv
  | .map _ _, _, hv, _ => by simp [V.out] at hv
  | .yld _ _, _, hv, _ => by simp [V.out] at hv
theorem VRs.out {P : Program} {w : World} {S : Nat → Prop} {at_ at' : At} : ∀ (vs : List V) (xs : List Value), V.outs vs = true → VRs P w S at_ vs xs → VRs P w S at' vs xs
  | [], [], _, _ => by simp [VRs]
  | [], _ :: _, _, h => by simp [VRs] at h
  | _ :: _, [], _, h => by simp [VRs] at h
  | v :: vs, x :: xs, hv, h => by
    rw [VRs] at h ⊢
    rw [V.outs, Bool.and_eq_true] at hv
    exact ⟨VR.out v x hv.1 h.1, VRs.out vs xs hv.2 h.2⟩
end
/-- A function's contract: called with values that read as 'args' it returns one that reads as some r with Post r, and makes new memory alone. -/
def FnC (P : Program) (f : FuncId) (args : List V) (Post : V → Prop) : Prop :=
  ∀ (w : World) (S : Nat → Prop) (cs : List Value), Globs w → (∀ b, S b → b < w.heap.size) → VRs P w S (fun _ _ => none) args cs →
    Calls P f cs.toArray w fun e w' => ∃ v r S', e = .returned v ∧ Below w.heap.size w w' ∧ (∀ b, S b → S' b) ∧ (∀ b, S' b → S b ∨ (w.heap.size ≤ b ∧ b < w'.heap.size)) ∧ RV P w' S' r v ∧ Post r
/-- Values that lead nowhere. -/
def V.flatL : V → Bool
  | .int _ _ | .bool _ | .str _ | .nil => true
  | _ => false
def V.flat : V → Bool
  | .agg l | .tup l => l.all V.flatL
  | v => v.flatL
theorem V.flatL_RL {P : Program} {w w' : World} {S S' : Nat → Prop} {v : V} {x : Value} (hf : v.flatL = true) (h : RL P w S v x) : RL P w' S' v x := by
  cases v <;> simp_all [V.flatL, RL]
theorem V.flatL_RLs {P : Program} {w w' : World} {S S' : Nat → Prop} : ∀ {vs : List V} {xs : List Value}, vs.all V.flatL = true → RLs P w S vs xs → RLs P w' S' vs xs
  | [], [], _, _ => by simp [RLs]
  | [], _ :: _, _, h => by simp [RLs] at h
  | _ :: _, [], _, h => by simp [RLs] at h
  | v :: vs, x :: xs, hf, h => by
    rw [RLs] at h ⊢
    simp only [List.all_cons, Bool.and_eq_true] at hf
    exact ⟨V.flatL_RL hf.1 h.1, V.flatL_RLs hf.2 h.2⟩
theorem V.flatL_RUs {P : Program} {w w' : World} {S S' : Nat → Prop} : ∀ {vs : List V} {xs : List Value}, vs.all V.flatL = true → RUs P w S vs xs → RUs P w' S' vs xs
  | [], [], _, _ => trivial
  | [], _ :: _, _, h => h
  | _ :: _, [], _, h => h
  | v :: vs, x :: xs, hf, ⟨h1, h2⟩ => by
    simp only [List.all_cons, Bool.and_eq_true] at hf
    refine ⟨?_, V.flatL_RUs hf.2 h2⟩
    have hv : ∀ l, v ≠ .agg l := fun l e => by subst e; simp [V.flatL] at hf
    rw [RU_iff _ _ _ hv] at h1 ⊢
    exact V.flatL_RL hf.1 h1
theorem V.flat_RV {P : Program} {w w' : World} {S S' : Nat → Prop} {v : V} {x : Value} (hf : v.flat = true) (h : RV P w S v x) : RV P w' S' v x := by
  by_cases h1 : ∃ l, v = .tup l
  · obtain ⟨l, rfl⟩ := h1
    obtain ⟨arr, h1, h2⟩ := h
    exact ⟨arr, h1, V.flatL_RUs hf h2⟩
  · have h1' : ∀ l, v ≠ .tup l := fun l e => h1 ⟨l, e⟩
    rw [RV_iff _ _ _ h1'] at h ⊢
    by_cases h2 : ∃ l, v = .agg l
    · obtain ⟨l, rfl⟩ := h2
      obtain ⟨arr, h1, h2⟩ := h
      exact ⟨arr, h1, V.flatL_RLs hf h2⟩
    · have h2' : ∀ l, v ≠ .agg l := fun l e => h2 ⟨l, e⟩
      rw [RU_iff _ _ _ h2'] at h ⊢
      refine V.flatL_RL ?_ h
      cases v <;> first | exact absurd rfl (h2' _) | exact absurd rfl (h1' _) | exact hf
section calls
variable {c : Ctx} {st : St} {Q : Exit → Act → World → Prop} {K : Act → World → Prop}
theorem VR.toRU {P : Program} {w : World} {S : Nat → Prop} {at_ : At} {v : V} {x : Value} (h : VR P w S at_ v x) (hro : v.ro = true) : RU P w S v x := by
  by_cases hv : ∃ l, v = .agg l
  · obtain ⟨l, rfl⟩ := hv
    rw [VR] at h; obtain ⟨arr, h1, h2⟩ := h; exact ⟨arr, h1, h2.toRLs hro⟩
  · have hv' : ∀ l, v ≠ .agg l := fun l e => hv ⟨l, e⟩
    rw [RU_iff _ _ _ hv']
    refine h.toRL ?_
    cases v <;> first | exact absurd rfl (hv' _) | exact hro
theorem RU.toVR {P : Program} {w : World} {S : Nat → Prop} {at_ : At} {v : V} {x : Value} (h : RU P w S v x) : VR P w S at_ v x := by
  by_cases hv : ∃ l, v = .agg l
  · obtain ⟨l, rfl⟩ := hv
    obtain ⟨arr, h1, h2⟩ := h; rw [VR]; exact ⟨arr, h1, VRs.of_RLs h2⟩
  · have hv' : ∀ l, v ≠ .agg l := fun l e => hv ⟨l, e⟩
    rw [RU_iff _ _ _ hv'] at h
    exact VR.of_leaf h
theorem RUs.toVRs {P : Program} {w : World} {S : Nat → Prop} {at_ : At} : ∀ {vs : List V} {xs : List Value}, RUs P w S vs xs → VRs P w S at_ vs xs
  | [], [], _ => by simp [VRs]
  | [], _ :: _, h => h.elim
  | _ :: _, [], h => h.elim
  | _ :: _, _ :: _, ⟨h1, h2⟩ => by rw [VRs]; exact ⟨h1.toVR, h2.toVRs⟩
theorem RV.toVR {P : Program} {w : World} {S : Nat → Prop} {at_ : At} {v : V} {x : Value} (h : RV P w S v x) : VR P w S at_ v x := by
  by_cases hv : ∃ l, v = .tup l
  · obtain ⟨l, rfl⟩ := hv
    obtain ⟨arr, h1, h2⟩ := h; rw [VR]; exact ⟨arr, h1, h2.toVRs⟩
  · have hv' : ∀ l, v ≠ .tup l := fun l e => hv ⟨l, e⟩
    rw [RV_iff _ _ _ hv'] at h
    exact RU.toVR h

/-- A function that has a body. -/
def HasBody (P : Program) (f : FuncId) (fn : Func) (code : Code) : Prop := P.funcs[f]? = some fn ∧ (fn.name == "runtime.NumGoroutine") = false ∧ fn.body = some code
theorem HasBody.call {P : Program} {f : FuncId} {fn : Func} {code : Code} (h : HasBody P f fn code) (args : Array Value) (w : World) : (callFunc f args).run P w = .ok (.enter f args) w := by
  obtain ⟨h1, h2, h3⟩ := h
  have h2' : ¬ fn.name = "runtime.NumGoroutine" := by simpa using h2
  simp [callFunc, program, Sem.run, h1, h2', h3]
/-- What a value that is handed to a function reads as there: itself, or a slice or variable of the call's own that is only read. -/
def St.leafArg (st : St) : V → V → Prop
  | .row g d n, v => ∃ e xs, (st.obj g d = .row e xs ∨ st.obj g d = .froz e xs) ∧ n = xs.length ∧ v = .sl e xs
  | u, v => u.isRL = true ∧ v = u
def St.leafArgs (st : St) : List V → List V → Prop
  | [], [] => True
  | u :: us, v :: vs => st.leafArg u v ∧ st.leafArgs us vs
  | _, _ => False
def St.capArg (st : St) : V → V → Prop
  | .ptr g d off, v => ∃ t cs l, st.obj g d = .cells t cs ∧ st.leafArgs (cs.drop off) l ∧ v = .ref l
  | .agg us, v => ∃ vs, st.leafArgs us vs ∧ v = .agg vs
  | .ref l, v => v = .ref l
  | u, v => st.leafArg u v
def St.capArgs (st : St) : List V → List V → Prop
  | [], [] => True
  | u :: us, v :: vs => st.capArg u v ∧ st.capArgs us vs
  | _, _ => False
def St.arg (st : St) : V → V → Prop
  | .fn f us, v => (∃ vs, st.capArgs us vs ∧ v = .fn f vs) ∨ (V.outs us = true ∧ v = .fn f us)
  | u, v => st.capArg u v
section args
variable {S : Nat → Prop} {at_ at' : At} {a : Act} {w : World}
theorem leafArg_ok (hr : Rel c S at_ st a w) {u v : V} {x : Value} (h : st.leafArg u v) (hv : VR c.P w S at_ u x) : RL c.P w (fun b => b < w.heap.size) v x := by
  have hother : u.isRL = true → v = u → RL c.P w (fun b => b < w.heap.size) v x := fun k1 k2 => by
    subst k2; exact RL.mono (fun b hb => hr.slt b hb) (fun _ _ => rfl) _ _ (hv.toRL k1)
  cases u with
  | row g d n =>
    obtain ⟨e, xs, h3, rfl, rfl⟩ := h
    rw [VR] at hv
    obtain ⟨A, m, cp, h4, h5, h6⟩ := hv
    have hok := hr.ok g d _ h4
    rcases h3 with h3 | h3
    · rw [h3] at hok
      obtain ⟨flat, h7, h8⟩ := hok
      rw [h6, RL]
      rcases h7.2 with ⟨k1, k2⟩ | ⟨b, cap, cur, k1, _, hh, k2, _⟩
      · cases k1
        exact ⟨none, 0, rfl, by omega, .inl (List.eq_nil_of_length_eq_zero k2)⟩
      · cases k1
        refine ⟨_, _, rfl, k2, .inr ⟨_, rfl, (Array.getElem?_eq_some_iff.1 hh).1, ?_⟩⟩
        refine (Flat.mono (S' := fun b => b < w.heap.size) (fun b hb => hr.slt b hb) (fun _ _ => rfl) e _ _ h8).rows fun j u hu => ?_
        rw [Nat.zero_mul, Nat.zero_add]
        exact h7.cells (g := b) rfl j u hu
    · rw [h3] at hok
      simp only [ObOk, RL] at hok
      obtain ⟨A', cp', k1, k2, k3⟩ := hok
      cases k1
      rw [h6, RL]
      refine ⟨A, cp, rfl, k2, ?_⟩
      rcases k3 with k3 | ⟨ad, k3, k4, k5⟩
      · exact .inl k3
      · exact .inr ⟨ad, k3, hr.slt _ k4, RLrow.mono (S := S) (fun b hb => hr.slt b hb) (fun _ _ => rfl) e ad k4 0 xs k5⟩
  | _ => exact hother h.1 h.2
theorem leafArgs_ok (hr : Rel c S at_ st a w) : ∀ {us vs : List V} {xs : List Value}, st.leafArgs us vs → VRs c.P w S at_ us xs → RLs c.P w (fun b => b < w.heap.size) vs xs
  | [], [], [], _, _ => by simp [RLs]
  | [], [], _ :: _, _, h => by simp [VRs] at h
  | [], _ :: _, _, h, _ => h.elim
  | _ :: _, [], _, h, _ => h.elim
  | _ :: _, _ :: _, [], _, h => by simp [VRs] at h
  | u :: us, v :: vs, x :: xs, ⟨h1, h2⟩, h => by
    rw [VRs] at h
    rw [RLs]
    exact ⟨leafArg_ok hr h1 h.1, leafArgs_ok hr h2 h.2⟩
theorem capArg_leaf {u v : V} (h1 : ∀ g d o, u ≠ .ptr g d o) (h2 : ∀ l, u ≠ .agg l) (h3 : ∀ l, u ≠ .ref l) (h : st.capArg u v) : st.leafArg u v := by
  cases u <;> first | exact h | exact absurd rfl (h1 _ _ _) | exact absurd rfl (h2 _) | exact absurd rfl (h3 _)
theorem capArg_ok (hr : Rel c S at_ st a w) {u v : V} {x : Value} (h : st.capArg u v) (hv : VR c.P w S at_ u x) : VR c.P w (fun b => b < w.heap.size) at' v x := by
  by_cases h1 : ∃ g d o, u = .ptr g d o
  · obtain ⟨g, d, off, rfl⟩ := h1
    obtain ⟨t, cs, l, h1, h2, rfl⟩ := h
    rw [VR] at hv
    obtain ⟨b, h3, rfl⟩ := hv
    have hok := hr.ok g d _ h3
    rw [h1] at hok
    obtain ⟨b', arr, e, h4, h5⟩ := hok
    cases e
    rw [VR]
    refine ⟨⟨b, off, none⟩, arr.toList.drop off, rfl, (Array.getElem?_eq_some_iff.1 h4).1, leafArgs_ok hr h2 (h5.drop off), fun j u hu => ?_⟩
    rw [add_plain', blk_cells h4]
    simpa using hu
  · by_cases h2 : ∃ l, u = .agg l
    · obtain ⟨us, rfl⟩ := h2
      obtain ⟨vs, h1, rfl⟩ := h
      rw [VR] at hv
      obtain ⟨arr, h2, h3⟩ := hv
      rw [VR]
      exact ⟨arr, h2, VRs.of_RLs (leafArgs_ok hr h1 h3)⟩
    · by_cases h3 : ∃ l, u = .ref l
      · obtain ⟨l, rfl⟩ := h3
        obtain rfl : v = .ref l := h
        exact VR.out _ _ rfl (VR.mono (fun b hb => hr.slt b hb) (fun _ _ => rfl) (fun _ _ _ h => h) _ _ hv)
      · exact VR.of_leaf (leafArg_ok hr (capArg_leaf (fun g d o e => h1 ⟨g, d, o, e⟩) (fun l e => h2 ⟨l, e⟩) (fun l e => h3 ⟨l, e⟩) h) hv)
theorem capArgs_ok (hr : Rel c S at_ st a w) : ∀ {us vs : List V} {xs : List Value}, st.capArgs us vs → VRs c.P w S at_ us xs → VRs c.P w (fun b => b < w.heap.size) at' vs xs
  | [], [], [], _, _ => by simp [VRs]
  | [], [], _ :: _, _, h => by simp [VRs] at h
  | [], _ :: _, _, h, _ => h.elim
  | _ :: _, [], _, h, _ => h.elim
  | _ :: _, _ :: _, [], _, h => by simp [VRs] at h
  | u :: us, v :: vs, x :: xs, ⟨h1, h2⟩, h => by
    rw [VRs] at h ⊢
    exact ⟨capArg_ok hr h1 h.1, capArgs_ok hr h2 h.2⟩
theorem arg_cap {u v : V} (h1 : ∀ f l, u ≠ .fn f l) (h : st.arg u v) : st.capArg u v := by
  cases u <;> first | exact h | exact absurd rfl (h1 _ _)
theorem arg_ok (hr : Rel c S at_ st a w) {u v : V} {x : Value} (h : st.arg u v) (hv : VR c.P w S at_ u x) : VR c.P w (fun b => b < w.heap.size) at' v x := by
  by_cases h1 : ∃ f l, u = .fn f l
  · obtain ⟨f, us, rfl⟩ := h1
    rcases h with ⟨vs, h1, rfl⟩ | ⟨h1, rfl⟩
    · rw [VR] at hv
      obtain ⟨arr, h2, h3⟩ := hv
      rw [VR]
      exact ⟨arr, h2, capArgs_ok hr h1 h3⟩
    · exact VR.out _ _ (by rw [V.out]; exact h1) (VR.mono (fun b hb => hr.slt b hb) (fun _ _ => rfl) (fun _ _ _ h => h) _ _ hv)
  · exact capArg_ok hr (arg_cap (fun f l e => h1 ⟨f, l, e⟩) h) hv
def St.args (st : St) : List V → List V → Prop
  | [], [] => True
  | u :: us, v :: vs => st.arg u v ∧ st.args us vs
  | _, _ => False
theorem args_ok (hr : Rel c S at_ st a w) : ∀ {us : List Operand} {vs : List V}, st.args (us.map st.ev) vs → VRs c.P w (fun b => b < w.heap.size) at' vs (us.map a.eval)
  | [], [], _ => by simp [VRs]
  | [], _ :: _, h => h.elim
  | _ :: _, [], h => h.elim
  | u :: us, v :: vs, ⟨h1, h2⟩ => by
    simp only [List.map_cons]
    rw [VRs]
    exact ⟨arg_ok hr h1 (hr.ev u), args_ok hr h2⟩
end args
/-- What is called: a function, or a function literal with what it has captured. -/
def V.callee : V → Option (FuncId × List V)
  | .fn f cap => some (f, cap)
  | _ => none
theorem call_run {S : Nat → Prop} {at_ : At} {a : Act} {w : World} (hr : Rel c S at_ st a w) {o : Oper} {x : Operand} {xs : Array Operand} {ts : Array TypeId} {f : FuncId} {fn : Func} {code : Code} {cap : List V} (hop : o.op = .call { callee := .value x, args := xs, argTypes := ts }) (hx : st.ev x = .fn f cap) (hb : HasBody c.P f fn code) :
    ∃ arr : List Value, VRs c.P w S at_ cap arr ∧ (execOp a.eval o).run c.P w = .ok (.enter f (xs.toList.map a.eval ++ arr).toArray) w := by
  have h1 := hr.ev x
  rw [hx, VR] at h1
  obtain ⟨arr, h2, h3⟩ := h1
  refine ⟨arr.toList, h3, ?_⟩
  simp only [execOp, hop, resolve, h2, Deferred.ofValue, invoke, Sem.run_bind, Sem.run_pure, Result.andThen_ok]
  have : (#[] ++ Array.map a.eval xs ++ arr : Array Value) = (xs.toList.map a.eval ++ arr.toList).toArray := by apply Array.ext'; simp
  rw [this, hb.call]
/-- A call, by its contract: what it is handed is only read from here on. -/
theorem Tr.call {o : Oper} {ops : Array Oper} {rest : List Oper} {d : Nat} {x : Operand} {f : FuncId} {fn : Func} {code : Code} {xs : Array Operand} {ts : Array TypeId} {cap vs : List V} {Post : V → Prop} (hg : o.guard = none) (hd : o.dst = some d) (hn : d < c.nt) (hop : o.op = .call { callee := .value x, args := xs, argTypes := ts })
    (hx : st.ev x = .fn f cap) (hb : HasBody c.P f fn code) (hvs : xs.toList.map st.ev ++ cap = vs) (hro : V.outs vs = true) (hf : FnC c.P f vs Post) (h : ∀ r, Post r → Tr c (st.put d r) (wpListIn (Fn c.frs.rd) 0 c.P ops Q rest)) : Tr c st (wpListIn (Fn c.frs.rd) 0 c.P ops Q (o :: rest)) :=
  fun S at_ a w hr => wpListIn_plain hg fun K hK => by
    obtain ⟨arr, h1, hrun⟩ := call_run hr hop hx hb
    have hargs : VRs c.P w S (fun _ _ => none) vs (xs.toList.map a.eval ++ arr) := by
      refine VRs.out _ _ hro (at_ := at_) ?_
      subst hvs
      refine VRs.append ?_ h1
      generalize xs.toList = l
      induction l with
      | nil => simp [VRs]
      | cons y l ih => simp only [List.map_cons]; rw [VRs]; exact ⟨hr.ev y, ih⟩
    refine wpIn_enter hop hrun ?_
    refine (hf w S _ hr.globs hr.slt hargs).mono ?_
    rintro e w' ⟨v, r, S', rfl, h1, h2, h3, h4, h5⟩
    rw [hd]
    exact hK _ _ (h r h5 S' at_ _ w' ((hr.grow h1 h2 h3).put hn h4.toVR))
/-- The same, where the result leads nowhere: slices and variables of the call's own may be handed on as they are, to be read. -/
theorem Tr.callFlat {o : Oper} {ops : Array Oper} {rest : List Oper} {d : Nat} {x : Operand} {f : FuncId} {fn : Func} {code : Code} {xs : Array Operand} {ts : Array TypeId} {cap vs vs' : List V} {Post : V → Prop} (hg : o.guard = none) (hd : o.dst = some d) (hn : d < c.nt) (hop : o.op = .call { callee := .value x, args := xs, argTypes := ts })
    (hx : st.ev x = .fn f cap) (hb : HasBody c.P f fn code) (hvs : st.args (xs.toList.map st.ev) vs) (hcap : st.capArgs cap vs') (hf : FnC c.P f (vs ++ vs') Post) (hflat : ∀ r, Post r → r.flat = true) (h : ∀ r, Post r → Tr c (st.put d r) (wpListIn (Fn c.frs.rd) 0 c.P ops Q rest)) : Tr c st (wpListIn (Fn c.frs.rd) 0 c.P ops Q (o :: rest)) :=
  fun S at_ a w hr => wpListIn_plain hg fun K hK => by
    obtain ⟨arr, h1, hrun⟩ := call_run hr hop hx hb
    have hargs : VRs c.P w (fun b => b < w.heap.size) (fun _ _ => none) (vs ++ vs') (xs.toList.map a.eval ++ arr) := (args_ok hr hvs).append (capArgs_ok hr hcap h1)
    refine wpIn_enter hop hrun ?_
    refine (hf w _ _ hr.globs (fun _ h => h) hargs).mono ?_
    rintro e w' ⟨v, r, S', rfl, h1, h2, h3, h4, h5⟩
    rw [hd]
    exact hK _ _ (h r h5 S at_ _ w' ((hr.grow h1 (fun _ h => h) (fun _ h => .inl h)).put hn (V.flat_RV (hflat r h5) h4).toVR))
/-- Where ways meet again: J tells of the states there. -/
theorem TrC.join {x y : Code} (J : St → Prop) (h1 : TrC c st x (Exit.then (Some c J) Q)) (h2 : ∀ st', J st' → TrC c st' y Q) : TrC c st (.seq x y) Q :=
  TrC.seq fun S at_ a w hr => wpIn_mono (h1 S at_ a w hr) fun e a' w' hq => by
    cases e with
    | normal => obtain ⟨S', at', st', hr', hJ⟩ := hq; exact h2 st' hJ S' at' a' w' hr'
    | exit id => exact hq
    | goto l => exact hq
    | ret => exact hq
    | panic ch => exact hq
    | outgrown => exact hq
end calls
end Go.Proofs.YtjjpmbaddpiamaaDoor
