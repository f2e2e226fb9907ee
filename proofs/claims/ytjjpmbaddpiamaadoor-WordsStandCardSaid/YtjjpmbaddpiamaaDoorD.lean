/-
  The abstract machine and functions: what a body comes to is the function's contract; calls of function literals.
-/
import Derived.Test.YtjjpmbaddpiamaaDoorC
import Derived.RangeFuncLeaves
set_option linter.unusedSimpArgs false
set_option linter.unusedVariables false
namespace Go.Proofs.YtjjpmbaddpiamaaDoor
open Go.RowKit

def argsFrom : Nat → List V → Nat → V
  | _, [] => fun _ => .top
  | k, v :: l => upd (argsFrom (k + 1) l) k v
def args0 (args : List V) : Nat → V := argsFrom 0 args
theorem argsFrom_eq : ∀ (l : List V) (k s : Nat), argsFrom k l (k + s) = (l[s]?).getD .top
  | [], _, _ => rfl
  | v :: l, k, s => by
    cases s with
    | zero => simp [argsFrom, upd]
    | succ s =>
      have h : k + (s + 1) ≠ k := by omega
      rw [argsFrom, upd, if_neg h, show k + (s + 1) = k + 1 + s by omega, argsFrom_eq l (k + 1) s]
      simp
theorem args0_eq (l : List V) (s : Nat) : args0 l s = (l[s]?).getD .top := by
  have := argsFrom_eq l 0 s
  rwa [Nat.zero_add] at this
/-- What a body must come to. -/
def RetR (P : Program) (S0 : Nat → Prop) (w0 : World) (Post : V → Prop) (e : Ending) (w : World) : Prop :=
  ∃ v r S', e = .returned v ∧ Below w0.heap.size w0 w ∧ (∀ b, S0 b → S' b) ∧ (∀ b, S' b → S0 b ∨ (w0.heap.size ≤ b ∧ b < w.heap.size)) ∧ RV P w S' r v ∧ Post r
/-- What a body must come to: the deferred calls of the frame are made, then its results are told. -/
def Out (P : Program) (fn : Func) (R : Ending → World → Prop) : Exit → Act → World → Prop
  | .normal, a, w | .ret, a, w => LeavesInM Fence.wide 0 P fn a.tmps R a.defers .returning w
  | _, _, _ => False
def Ret (P : Program) (fn : Func) (S0 : Nat → Prop) (w0 : World) (Post : V → Prop) : Exit → Act → World → Prop := Out P fn (RetR P S0 w0 Post)
def Dfr.isMark : Dfr → Bool
  | .mark _ _ => true
  | .clo _ _ => false
  | .cal _ _ => false
theorem out_calls {P : Program} {f : FuncId} {fn : Func} {code : Code} {args : Array Value} {w : World} {R : Ending → World → Prop} (hf : P.funcs[f]? = some fn) (hb : fn.body = some code) (h : code.wpIn (Fn none) 0 P (Out P fn R) { tmps := args ++ Array.replicate (fn.ntmps - args.size) undef, defers := [] } w) : Calls P f args w R :=
  callsIn_wide.1 (callsIn_of_wp_marks (F := Fence.wide) (n := 0) hf hb trivial (wpIn_mono h fun e a w hq => by
    cases e with
    | normal => exact hq
    | ret => exact hq
    | exit _ => exact hq.elim
    | goto _ => exact hq.elim
    | panic _ => exact hq.elim
    | outgrown => exact hq.elim))
/-- The marks of a frame's loops over functions are taken; nothing else turns. -/
theorem Rel.leave {P : Program} {fn : Func} {R : Ending → World → Prop} {w0 : World} {S0 : Nat → Prop} {nt : Nat} {l : List ((Nat → V) × Act × List Dfr)} {rd : Option Nat} {S : Nat → Prop} {at_ : At} : ∀ (dfs : List Dfr) (st : St) (a : Act) (w : World), Rel ⟨P, w0, S0, nt, ⟨l, dfs, rd⟩⟩ S at_ st a w → dfs.all Dfr.isMark = true →
    (∀ ob' w', Rel ⟨P, w0, S0, nt, ⟨l, [], rd⟩⟩ S at_ ⟨st.env, ob', st.gen⟩ { a with defers := [] } w' → (∀ g d, st.obj g d ≠ .dfd → ob' g d = st.obj g d) → ∃ v, (results fn a.tmps).run P w' = .ok v w' ∧ R (.returned v) w') → LeavesInM Fence.wide 0 P fn a.tmps R a.defers .returning w
  | [], st, a, w, hr, _, h => by
    have hd := hr.defers
    cases hda : a.defers with
    | cons x m => rw [hda] at hd; exact hd.elim
    | nil =>
      have ha : a = { a with defers := [] } := by cases a; simp_all
      exact h st.obj w (ha ▸ hr) (fun _ _ _ => rfl)
  | .clo _ _ :: _, _, _, _, _, hm, _ => by simp [Dfr.isMark] at hm
  | .cal _ _ :: _, _, _, _, _, hm, _ => by simp [Dfr.isMark] at hm
  | .mark g d :: ds, st, a, w, hr, hm, h => by
    have hd := hr.defers
    cases hda : a.defers with
    | nil => rw [hda] at hd; exact hd.elim
    | cons x m =>
      rw [hda] at hd
      obtain ⟨⟨b, h1, rfl⟩, h2⟩ := hd
      have hkeys : (⟨l, .mark g d :: ds, rd⟩ : Frs).keys = (g, d) :: (⟨l, ds, rd⟩ : Frs).keys := by simp [Frs.keys, Frs.all, Dfr.key]
      have hstk : st.obj g d = .dfd := hr.stk (g, d) (by rw [hkeys]; exact List.mem_cons_self ..)
      have hnod := hr.nod
      rw [hkeys, List.nodup_cons] at hnod
      have hok := hr.ok g d _ h1
      rw [hstk] at hok
      obtain ⟨b', e, h3⟩ := hok
      cases e
      obtain ⟨o1, o2, o3⟩ := hr.own g d _ b h1 (by rw [hstk]; rfl) rfl
      have hr1 : Rel ⟨P, w0, S0, nt, ⟨l, ds, rd⟩⟩ S at_ st { a with defers := m } w :=
        { hr with defers := h2, frs := hr.frs, stk := fun k hk => hr.stk k (by rw [hkeys]; exact List.mem_cons_of_mem _ hk), nod := hnod.2, size := hr.size, env := hr.env }
      have hw : ∀ k, k ≠ b → (w.putObj b (.deferred none)).heap[k]? = w.heap[k]? := fun k hk => World.putObj_heap_other hk
      have hsame : ∀ {g' d'}, ¬ (d' = d ∧ g' = g) → (updO st.obj g d .dead) g' d' = st.obj g' d' := fun hne => by simp [updO, hne]
      have hthis : (updO st.obj g d .dead) g d = .dead := by simp [updO]
      have hlv : ∀ {g' d'}, ((updO st.obj g d .dead) g' d').live = true → ¬ (d' = d ∧ g' = g) ∧ (st.obj g' d').live = true := fun {g' d'} hh => by
        by_cases he : d' = d ∧ g' = g
        · obtain ⟨rfl, rfl⟩ := he; rw [hthis] at hh; simp [Ob.live] at hh
        · exact ⟨he, by rwa [hsame he] at hh⟩
      have hr2 : Rel ⟨P, w0, S0, nt, ⟨l, ds, rd⟩⟩ S at_ ⟨st.env, updO st.obj g d .dead, st.gen⟩ { a with defers := m } (w.putObj b (.deferred none)) := by
        refine hr1.moveK (obj' := updO st.obj g d .dead) (at' := at_) (S' := S) ?_ (by simp) (fun _ h => h) (fun k hk => by simpa using hr.slt k hk) hr.snew (fun k hk => hw k fun e => o3 (e ▸ hk)) (fun _ _ _ h => h) ?_ ?_ ?_ ?_ ?_ ?_
        · exact ⟨hr.below.os, hr.below.tape, hr.below.output, by simpa using hr.below.size, fun k hk => (hw k (by have : w0.heap.size ≤ b := o1; show k ≠ b; have hk' : k < w0.heap.size := hk; omega)).trans (hr.below.block k hk)⟩
        · intro k hk
          by_cases he : k.2 = d ∧ k.1 = g
          · exact absurd (by rw [← he.1, ← he.2]; exact hk) hnod.1
          · rw [hsame he]; exact hr1.stk k hk
        · intro g' d' hg'
          by_cases he : d' = d ∧ g' = g
          · obtain ⟨rfl, rfl⟩ := he
            have := hr.gen g' d' hg'
            rw [hstk] at this; cases this
          · rw [hsame he]; exact hr.gen g' d' hg'
        · intro g' d'
          by_cases he : d' = d ∧ g' = g
          · obtain ⟨rfl, rfl⟩ := he
            rw [hthis, h1]
            exact ⟨(fun e => by cases e), fun e => by cases e⟩
          · rw [hsame he]; exact hr.al g' d'
        · intro g' d' v' hv'
          by_cases he : d' = d ∧ g' = g
          · obtain ⟨rfl, rfl⟩ := he; rw [hthis]; trivial
          · rw [hsame he]
            refine (hr.ok g' d' v' hv').mono (fun _ h => h) (fun k hk => hw k fun e => o3 (e ▸ hk)) (fun _ _ _ h => h) fun hl2 b' hb' => hw b' fun e => ?_
            subst e
            have := hr.dis g' d' g d v' _ b' hv' h1 hl2 (by rw [hstk]; rfl) hb' rfl
            exact he ⟨this.2, this.1⟩
        · intro g' d' v' b' k1 k2 k3
          have := hr.own g' d' v' b' k1 (hlv k2).2 k3
          exact ⟨this.1, by simpa using this.2.1, this.2.2⟩
        · intro g1 d1 g2 d2 v1 v2 b' k1 k2 k3 k4 k5 k6
          exact hr.dis g1 d1 g2 d2 v1 v2 b' k1 k2 (hlv k3).2 (hlv k4).2 k5 k6
      refine ⟨by simp, .inl ⟨b, w.putObj b (.deferred none), rfl, run_takeDeferred h3, ?_⟩⟩
      refine Rel.leave ds ⟨st.env, updO st.obj g d .dead, st.gen⟩ { a with defers := m } _ hr2 (by simpa [Dfr.isMark] using hm) fun ob' w' hr3 hag => h ob' w' hr3 fun g' d' hne => ?_
      by_cases he : d' = d ∧ g' = g
      · obtain ⟨rfl, rfl⟩ := he; exact absurd hstk hne
      · have := hag g' d' (by simpa only [hsame he] using hne)
        rw [this]; exact hsame he
theorem Rel.leave0 {P : Program} {fn : Func} {R : Ending → World → Prop} {w0 : World} {S0 : Nat → Prop} {nt : Nat} {l : List ((Nat → V) × Act × List Dfr)} {rd : Option Nat} {S : Nat → Prop} {at_ : At} {st : St} {a : Act} {w : World} (hr : Rel ⟨P, w0, S0, nt, ⟨l, [], rd⟩⟩ S at_ st a w) (h : ∃ v, (results fn a.tmps).run P w = .ok v w ∧ R (.returned v) w) : LeavesInM Fence.wide 0 P fn a.tmps R a.defers .returning w := by
  have hd := hr.defers
  cases hda : a.defers with
  | cons x m => rw [hda] at hd; exact hd.elim
  | nil => exact h
theorem frs_keys (e : Nat → V) (a : Act) (f : Frs) : (⟨(e, a, f.dfs) :: f.l, [], none⟩ : Frs).keys = f.keys := by simp [Frs.keys, Frs.all]
theorem RUs.length {P : Program} {w : World} {S : Nat → Prop} : ∀ {vs : List V} {xs : List Value}, RUs P w S vs xs → vs.length = xs.length
  | [], [], _ => rfl
  | [], _ :: _, h => h.elim
  | _ :: _, [], h => h.elim
  | _ :: _, _ :: _, ⟨_, h⟩ => by simp [h.length]
theorem RUs.get {P : Program} {w : World} {S : Nat → Prop} : ∀ {vs : List V} {xs : List Value} (_ : RUs P w S vs xs) {j : Nat} {v : V}, vs[j]? = some v → ∃ x, xs[j]? = some x ∧ RU P w S v x
  | [], _, _, j, v, hj => by simp at hj
  | _ :: _, [], h, _, _, _ => h.elim
  | _ :: _, _ :: _, ⟨h1, h2⟩, j, v, hj => by
    cases j with
    | zero => simp at hj; subst hj; exact ⟨_, rfl, h1⟩
    | succ j => simp at hj ⊢; exact h2.get hj
theorem FnC.of {P : Program} {f : FuncId} {fn : Func} {code : Code} {nt : Nat} {args : List V} {Post : V → Prop} (hb : HasBody P f fn code) (hnt : fn.ntmps = nt) (hle : args.length ≤ nt)
    (h : ∀ w0 S0, TrC ⟨P, w0, S0, nt, fr0⟩ ⟨args0 args, fun _ _ => .none, 0⟩ code (Ret P fn S0 w0 Post)) : FnC P f args Post := by
  intro w S cs hG hS hargs
  refine out_calls hb.1 hb.2.2 ?_
  have hlen := VRs.length hargs
  have hr : Rel ⟨P, w, S, nt, fr0⟩ S (fun _ _ => none) ⟨args0 args, fun _ _ => .none, 0⟩ { tmps := cs.toArray ++ Array.replicate (fn.ntmps - cs.toArray.size) undef, defers := [] } w :=
    { defers := trivial
      stk := fun k hk => by simp [Frs.keys, Frs.all] at hk
      nod := by simp [Frs.keys, Frs.all]
      size := by simp; omega
      env := fun s => by
        simp only [args0_eq]
        cases hs : args[s]? with
        | none => rw [Option.getD_none, VR]; trivial
        | some v =>
          obtain ⟨x, hx, hv⟩ := VRs.get hargs hs
          have hlt := (List.getElem?_eq_some_iff.1 hx).1
          have : (cs.toArray ++ Array.replicate (fn.ntmps - cs.toArray.size) undef).getD s undef = x := by
            rw [Array.getD_eq_getD_getElem?, Array.getElem?_append_left (by simpa using hlt)]
            simp [hx]
          rw [this]
          exact hv
      frs := fun p hp => by simp at hp
      gen := fun _ _ _ => rfl
      al := fun _ _ => by simp
      ok := fun _ _ _ h => by cases h
      own := fun _ _ _ _ h => by cases h
      dis := fun _ _ _ _ _ _ _ h => by cases h
      slt := hS, snew := fun b hb => .inl hb, sold := fun b hb => hb, below := Below.refl _ _, glob := hG }
  exact h w S S _ _ w hr

section ret
variable {P : Program} {w0 : World} {S0 : Nat → Prop} {nt : Nat} {st : St} {fn : Func} {Post : V → Prop} {dfs : List Dfr} {rd : Option Nat}
/-- What a result's variable holds. -/
def St.res (st : St) (P : Program) : ResultVar → V → Prop
  | .tmp t, v => st.env t = v ∧ v.ro = true
  | .cell s ty, v => ∃ g d t cs, st.env s = .ptr g d 0 ∧ st.obj g d = .cells t cs ∧ ((IsLeaf P ty ∧ ∃ u, cs[0]? = some u ∧ u.isRL = true ∧ v = u) ∨ (IsAgg P ty ∧ ∃ z size bytes, TI P ty z size bytes ∧ cs.length = size ∧ cs.all V.isRL = true ∧ v = .agg cs))
def resOf (a : Act) (x : ResultVar) : Sem Value := match x with
  | .tmp t => pure (a.tmps.getD t undef)
  | .cell s t => do loadVar t (← asAddr (a.tmps.getD s undef))
theorem res_run {c : Ctx} {S : Nat → Prop} {at_ : At} {a : Act} {w : World} (hr : Rel c S at_ st a w) {x : ResultVar} {v : V} (h : st.res c.P x v) :
    ∃ u, (resOf a x).run c.P w = .ok u w ∧ RU c.P w S v u := by
  cases x with
  | tmp t =>
    obtain ⟨rfl, h2⟩ := h
    exact ⟨_, rfl, (hr.env t).toRU h2⟩
  | cell s ty =>
    obtain ⟨g, d, t, cs, h1, h2, h3⟩ := h
    have h4 := hr.env s
    rw [h1, VR] at h4
    obtain ⟨b, h5, h6⟩ := h4
    have hok := hr.ok g d _ h5
    rw [h2] at hok
    obtain ⟨b', arr, e, h7, h8⟩ := hok
    cases e
    have haddr : ∀ w : World, (asAddr (a.tmps.getD s undef)).run c.P w = .ok ⟨b, 0, none⟩ w := fun w => by rw [h6]; rfl
    rcases h3 with ⟨k1, u, k2, k3, rfl⟩ | ⟨k1, z, size, bytes, k2, k3, k4, rfl⟩
    · obtain ⟨x, hx, hv⟩ := h8.get k2
      refine ⟨x, ?_, ?_⟩
      · have := load_leaf_run (w := w) k1 (a := ⟨b, 0, none⟩) (v := x) (by rw [blk_cells h7]; simpa using hx)
        simp only [Instr.loadAt, Instr.sureAddr, Sem.run_bind, Sem.run_pure, Result.andThen_ok] at this
        simp only [resOf, Sem.run_bind, haddr, Result.andThen_ok, this]
      · have := hv.toRL k3
        rw [RU_iff _ _ _ (fun l e => by subst e; simp [V.isRL] at k3)]
        exact this
    · refine ⟨.agg arr, ?_, ⟨arr, rfl, h8.toRLs k4⟩⟩
      have := load_agg_run (w := w) k1 k2 (a := ⟨b, 0, none⟩) (cs := arr.toList) (by rw [← h8.length, k3]) (fun j u hu => by rw [add_plain', Nat.zero_add, blk_cells h7]; simpa using hu)
      simp only [Instr.loadAt, Instr.sureAddr, Sem.run_bind, Sem.run_pure, Result.andThen_ok] at this
      simp only [resOf, Sem.run_bind, haddr, Result.andThen_ok, this]
theorem St.res.agree {x : ResultVar} {v : V} {ob' : Nat → Nat → Ob} (h : st.res P x v) (hag : ∀ g d, st.obj g d ≠ .dfd → ob' g d = st.obj g d) : (⟨st.env, ob', st.gen⟩ : St).res P x v := by
  cases x with
  | tmp t => exact h
  | cell s ty =>
    obtain ⟨g, d, t, cs, h1, h2, h3⟩ := h
    exact ⟨g, d, t, cs, h1, (hag g d (by rw [h2]; simp)).trans h2, h3⟩
theorem resOf_defers (a : Act) (x : ResultVar) : resOf { a with defers := [] } x = resOf a x := by cases x <;> rfl
theorem Tr.ret1 {x : ResultVar} {v : V} (hres : fn.results = #[x]) (h : st.res P x v) (hp : Post v) (htup : ∀ l, v ≠ .tup l) (hmk : dfs.all Dfr.isMark = true := by exact rfl) : Tr ⟨P, w0, S0, nt, ⟨[], dfs, rd⟩⟩ st (Ret P fn S0 w0 Post .ret) := fun S at_ a w hr => by
  refine Rel.leave dfs st a w hr hmk fun ob' w' hr hag => ?_
  obtain ⟨u, h1, h2⟩ := res_run hr (h.agree hag)
  rw [resOf_defers] at h1
  refine ⟨u, ?_, u, v, S, rfl, hr.below, hr.sold, fun b hb => ?_, (RV_iff _ _ _ htup _).2 h2, hp⟩
  · cases x <;> simp only [resOf, Array.getD_eq_getD_getElem?, Sem.run_bind, Sem.run_pure] at h1 <;> simp [results, hres, h1] <;> (first | exact (by injection h1))
  · rcases hr.snew b hb with k | k
    · exact .inl k
    · exact .inr ⟨k, hr.slt b hb⟩
theorem mapM_run {P : Program} {w : World} (f : ResultVar → Sem Value) : ∀ (l : List ResultVar) (us : List Value), (∀ (j : Nat) (x : ResultVar) , l[j]? = some x → ∃ u, us[j]? = some u ∧ (f x).run P w = .ok u w) → l.length = us.length → (l.mapM f).run P w = .ok us w
  | [], [], _, _ => by simp
  | [], _ :: _, _, h => by simp at h
  | _ :: _, [], _, h => by simp at h
  | x :: l, u :: us, h, hl => by
    obtain ⟨u', hu', h1⟩ := h 0 x rfl
    simp at hu'; subst hu'
    have := mapM_run f l us (fun j x hx => h (j + 1) x hx) (by simpa using hl)
    simp [List.mapM_cons, h1, this]
theorem Tr.rets {xs : List ResultVar} {vs : List V} (hres : fn.results.toList = xs) (hlen : xs.length = vs.length) (h2 : xs.length ≠ 1) (h : ∀ (j : Nat) (x : ResultVar) (v : V), xs[j]? = some x → vs[j]? = some v → st.res P x v) (hp : Post (.tup vs)) (hmk : dfs.all Dfr.isMark = true := by exact rfl) : Tr ⟨P, w0, S0, nt, ⟨[], dfs, rd⟩⟩ st (Ret P fn S0 w0 Post .ret) := fun S at_ a w hr => by
  refine Rel.leave dfs st a w hr hmk fun ob' w hr hag => ?_
  have key : ∃ us : List Value, us.length = xs.length ∧ RUs P w S vs us ∧ ∀ (j : Nat) (x : ResultVar), xs[j]? = some x → ∃ u, us[j]? = some u ∧ (resOf a x).run P w = .ok u w := by
    clear hp hres h2
    induction xs generalizing vs with
    | nil => obtain rfl : vs = [] := List.eq_nil_of_length_eq_zero hlen.symm; exact ⟨[], rfl, trivial, fun j x hx => by simp at hx⟩
    | cons x xs ih =>
      cases vs with
      | nil => simp at hlen
      | cons v vs =>
        obtain ⟨us, k1, k2, k3⟩ := ih (vs := vs) (by simpa using hlen) (fun j x v h1 h2 => h (j + 1) x v h1 h2)
        obtain ⟨u, k4, k5⟩ := res_run hr ((h 0 x v rfl rfl).agree hag)
        rw [resOf_defers] at k4
        refine ⟨u :: us, by simp [k1], ⟨k5, k2⟩, fun j y hy => ?_⟩
        cases j with
        | zero => simp at hy; subst hy; exact ⟨u, rfl, k4⟩
        | succ j => simp at hy; obtain ⟨u', k6, k7⟩ := k3 j y hy; exact ⟨u', by simpa using k6, k7⟩
  obtain ⟨us, k1, k2, k3⟩ := key
  have hrun := mapM_run (P := P) (w := w) (resOf a) xs us k3 k1.symm
  refine ⟨.tuple us.toArray, ?_, .tuple us.toArray, .tup vs, S, rfl, hr.below, hr.sold, fun b hb => ?_, ⟨us.toArray, rfl, by simpa using k2⟩, hp⟩
  · have harr : (fn.results.mapM (resOf a)).run P w = .ok us.toArray w := by
      rw [← Array.toArray_toList (xs := fn.results), hres, List.mapM_toArray]
      simp [hrun]
    have heq : results fn a.tmps = (do let vs ← fn.results.mapM (resOf a); pure (if h : vs.size = 1 then vs[0] else .tuple vs)) := rfl
    rw [heq, Sem.run_bind, harr]
    have hsz : ¬ us.toArray.size = 1 := by simp [k1, h2]
    simp only [Result.andThen_ok, hsz, dif_neg, Sem.run_pure, not_false_eq_true]
  · rcases hr.snew b hb with k | k
    · exact .inl k
    · exact .inr ⟨k, hr.slt b hb⟩
end ret
end Go.Proofs.YtjjpmbaddpiamaaDoor
