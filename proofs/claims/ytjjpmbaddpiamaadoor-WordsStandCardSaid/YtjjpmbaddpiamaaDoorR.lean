/-
  The abstract machine's states, what they say of a frame and a world, and what one operation of the model does to them.
-/
import Derived.Test.YtjjpmbaddpiamaaDoorV
import Derived.Test.YtjjpmbaddpiamaaDoorTabM
import Derived.WalkKit
import Derived.TacticsIn
import Derived.RangeFuncRecord
import Derived.Maps.AppendAt
set_option linter.unusedSimpArgs false
set_option linter.unusedVariables false
namespace Go.Proofs.YtjjpmbaddpiamaaDoor
open Go.RowKit

/-- An object of the call's own. -/
inductive Ob where
  | none
  | dead
  | cells (t : TypeId) (cs : List V)
  | row (e : TypeId) (xs : List V)
  | froz (e : TypeId) (xs : List V)
  | map (m : MP)
  | fmap (m : MP)
  | mv (l : List (MK × V))
  | rv (e : TypeId) (xs : List V)
  | dfd
  | sit (s : ByteArray) (pos : Nat)
  | lp (e : Nat → V) (nt : Nat) (ps : Array Tmp) (asg body : Code) (s : LoopState) (pe : Option Code)

def Ob.live : Ob → Bool
  | .cells _ _ | .row _ _ | .map _ | .mv _ | .rv _ _ | .dfd | .sit _ _ | .lp _ _ _ _ _ _ _ => true
  | _ => false

structure St where
  env : Nat → V
  obj : Nat → Nat → Ob
  gen : Nat

def upd (e : Nat → V) (d : Nat) (v : V) : Nat → V := fun s => if s = d then v else e s
def updO (f : Nat → Nat → Ob) (g d : Nat) (o : Ob) : Nat → Nat → Ob := fun g' d' => if d' = d ∧ g' = g then o else f g' d'
def St.put (st : St) (d : Nat) (v : V) : St := { st with env := upd st.env d v }
def St.set (st : St) (g d : Nat) (o : Ob) : St := { st with obj := updO st.obj g d o }

/-- A constant as a value. -/
def cv : Value → V
  | .int k n => .int k n
  | .bool b => .bool b
  | .string s => .str s
  | .slice Option.none 0 0 => .nil
  | v => if v.oneCell' then .any v else .top
def St.ev (st : St) : Operand → V
  | .tmp t => st.env t
  | .const v => cv v
  | .func f => .fn f []
  | .global g => .any (.pointer (some ⟨g, 0, Option.none⟩))

def blkOf : Value → Option Nat
  | .pointer (some a) => some a.block
  | .slice (some a) _ _ => some a.block
  | .map (some b) => some b
  | _ => Option.none

section rel
variable (P : Program) (w : World) (S : Nat → Prop)
/-- The cells of a row's elements, one after the other. -/
def Flat (e : TypeId) : List V → List Value → Prop
  | [], cs => cs = []
  | x :: xs, cs => ∃ c1 c2, cs = c1 ++ c2 ∧ c1.length = P.cellsOf e ∧ RX P w S x c1 ∧ Flat e xs c2
def ObOk (base : Nat) (at_ : At) (v : Value) : Ob → Prop
  | .none => False
  | .dead => True
  | .cells t cs => ∃ b arr, v = .pointer (some ⟨b, 0, Option.none⟩) ∧ w.heap[b]? = some (.cells arr t (0, 0)) ∧ VRs P w S at_ cs arr.toList
  | .row e xs => ∃ flat, w.ownsRow base e (P.cellsOf e) v xs.length flat ∧ Flat P w S e xs flat
  | .froz e xs => RL P w S (.sl e xs) v
  | .map m => ∃ b arr clock, v = .map (some b) ∧ w.heap[b]? = some (.map arr clock) ∧ m.holds arr
  | .fmap m => RL P w S (.mp m) v
  | .mv l => ∃ b arr clock, v = .map (some b) ∧ w.heap[b]? = some (.map arr clock) ∧ arr.toList.map (·.key) = l.map (·.1.val) ∧ VRs P w S at_ (l.map (·.2)) (arr.toList.map (·.val))
  | .rv e xs => ∃ flat, P.cellsOf e = 1 ∧ w.ownsRow base e 1 v xs.length flat ∧ VRs P w S at_ xs flat
  | .dfd => ∃ b, v = .pointer (some ⟨b, 0, Option.none⟩) ∧ w.heap[b]? = some (.deferred (some []))
  | .sit s pos => ∃ b, v = .pointer (some ⟨b, 0, Option.none⟩) ∧ w.heap[b]? = some (.stringIter s pos)
  | .lp e nt ps asg body s pe => ∃ b fn tmps D, v = .pointer (some ⟨b, 0, Option.none⟩) ∧ w.heap[b]? = some (.loop { state := s, pending := pe, fn, tmps, params := ps, assign := asg, body, defers := D }) ∧ tmps.size = nt ∧ ∀ k, VR P w S at_ (e k) (tmps.getD k undef)
/-- A deferred call: the mark of a loop over a function; a function with what it has captured. -/
inductive Dfr where
  | mark (g d : Nat)
  | clo (f : FuncId) (cap : List V)
  | cal (f : FuncId) (args : List V)
def Dfr.key : Dfr → Option (Nat × Nat)
  | .mark g d => some (g, d)
  | .clo _ _ => Option.none
  | .cal _ _ => Option.none
def DfrR (at_ : At) : Dfr → Deferred → Prop
  | .mark g d, x => ∃ b, at_ g d = some (.pointer (some ⟨b, 0, Option.none⟩)) ∧ x = { target := .collected b, args := #[] }
  | .clo f cap, x => ∃ arr : Array Value, x = { target := .fn (.func f) arr, args := #[] } ∧ VRs P w S at_ cap arr.toList
  | .cal f args, x => ∃ arr as9 : Array Value, x = { target := .fn (.func f) arr, args := as9 } ∧ VRs P w S at_ args (as9.toList ++ arr.toList)
def DfrsR (at_ : At) : List Dfr → List Deferred → Prop
  | [], [] => True
  | x :: l, y :: m => DfrR P w S at_ x y ∧ DfrsR at_ l m
  | _, _ => False
end rel
/-- The frames behind the one that is walked: their slots, their deferred calls; this frame's deferred calls; is it a round's, of which loop? -/
structure Frs where
  l : List ((Nat → V) × Act × List Dfr)
  dfs : List Dfr
  rd : Option Nat
def Frs.all (f : Frs) : List Dfr := f.dfs ++ f.l.flatMap (·.2.2)
def Frs.keys (f : Frs) : List (Nat × Nat) := f.all.filterMap Dfr.key
abbrev fr0 : Frs := ⟨[], [], none⟩
/-- All functions, any depth; a round's, or none. -/
def Fn (r : Option Nat) : Fence := { fn := fun _ => True, depth := none, alive := false, round := r }
theorem Fn_wide : Fn none = Fence.wide := rfl
theorem callsIn_Fn {r : Option Nat} {n : Nat} {P : Program} {f : FuncId} {args : Array Value} {w : World} {R : Ending → World → Prop} (h : Calls P f args w R) : CallsIn (Fn r) n P f args w R := (callsIn_wide (n := n)).2 h
theorem callsIn_Fn_iff {r : Option Nat} {n : Nat} {P : Program} {f : FuncId} {args : Array Value} {w : World} {R : Ending → World → Prop} : CallsIn (Fn r) n P f args w R ↔ Calls P f args w R := callsIn_wide (n := n)
/-- An operation that is no 'defer', out of how it runs. -/
theorem wpIn_of_run {r : Option Nat} {P : Program} {o : Oper} {a : Act} {w : World} {next : Act → World → Prop} {Q : Exit → Act → World → Prop} {res : Result Next} (hnd : ∀ c, o.op ≠ .defer c) (hrun : (execOp a.eval o).run P w = res) (h : o.uponIn (Fn r) 0 P a next Q res) : o.wpIn (Fn r) 0 P a w next Q :=
  ⟨fun _ _ => trivial, by rw [Oper.semAt_eq _ _ _ hnd, hrun]; exact h⟩
/-- A call that enters a function, by what the call comes to. -/
theorem wpIn_enter {r : Option Nat} {P : Program} {o : Oper} {a : Act} {w w1 : World} {next : Act → World → Prop} {Q : Exit → Act → World → Prop} {cl : Call} {f : FuncId} {args : Array Value} (hop : o.op = .call cl) (hrun : (execOp a.eval o).run P w = .ok (.enter f args) w1)
    (h : Calls P f args w1 fun
      | .returned v, w' => next (a.put o.dst v) w'
      | .panicked chain, w' => Q (.panic chain) a w'
      | .outgrown, _ => LetsOut Q) : o.wpIn (Fn r) 0 P a w next Q :=
  wpIn_of_run (fun c hc => by rw [hop] at hc; cases hc) hrun (by rw [Oper.uponIn_enter]; exact ⟨(fun hd => by cases hd), callsIn_Fn h⟩)
theorem not_defer_of_value {P : Program} {o : Oper} {ρ : Operand → Value} {w w' : World} {v : Value} (h : (execOp ρ o).run P w = .ok (.value v) w') : ∀ c, o.op ≠ .defer c := by
  intro c hc
  unfold execOp at h
  rw [hc] at h
  simp only [Sem.run_bind] at h
  cases hr : (resolve ρ c o.type).run P w <;> simp [hr, Result.andThen] at h
theorem not_defer_of_skip {P : Program} {o : Oper} {ρ : Operand → Value} {w w' : World} (h : (execOp ρ o).run P w = .ok .skip w') : ∀ c, o.op ≠ .defer c := by
  intro c hc
  unfold execOp at h
  rw [hc] at h
  simp only [Sem.run_bind] at h
  cases hr : (resolve ρ c o.type).run P w <;> simp [hr, Result.andThen] at h

structure Ctx where
  P : Program
  w0 : World
  S0 : Nat → Prop
  nt : Nat
  frs : Frs

/-- What lies in package-level variables that are only read. -/
def Globs (w : World) : Prop := (∀ p ∈ globTab, w.cell? p.1 = some p.2) ∧ globMore w
theorem Globs.below {w w' : World} (h : Globs w) (hb : Below w.heap.size w w') : Globs w' := ⟨fun p hp => by
  have h1 := h.1 p hp
  have hlt : p.1.block < w.heap.size := by
    refine Nat.lt_of_not_le fun hle => ?_
    have : w.heap[p.1.block]? = none := Array.getElem?_eq_none hle
    simp [World.cell?, this] at h1
  rw [← h1]
  exact World.cell?_of_block (hb.block _ hlt), globMore_below hb h.2⟩
structure Rel (c : Ctx) (S : Nat → Prop) (at_ : At) (st : St) (a : Act) (w : World) : Prop where
  defers : DfrsR c.P w S at_ c.frs.dfs a.defers
  size : a.tmps.size = c.nt
  env : ∀ s, VR c.P w S at_ (st.env s) (a.tmps.getD s undef)
  frs : ∀ p, p ∈ c.frs.l → (∀ s, VR c.P w S at_ (p.1 s) (p.2.1.tmps.getD s undef)) ∧ DfrsR c.P w S at_ p.2.2 p.2.1.defers
  stk : ∀ k, k ∈ c.frs.keys → st.obj k.1 k.2 = .dfd
  nod : c.frs.keys.Nodup
  gen : ∀ g d, st.gen < g → st.obj g d = .none
  al : ∀ g d, at_ g d = Option.none ↔ st.obj g d = .none
  ok : ∀ g d v, at_ g d = some v → ObOk c.P w S c.w0.heap.size at_ v (st.obj g d)
  own : ∀ g d v b, at_ g d = some v → (st.obj g d).live = true → blkOf v = some b → c.w0.heap.size ≤ b ∧ b < w.heap.size ∧ ¬ S b
  dis : ∀ g d g' d' v v' b, at_ g d = some v → at_ g' d' = some v' → (st.obj g d).live = true → (st.obj g' d').live = true → blkOf v = some b → blkOf v' = some b → g = g' ∧ d = d'
  slt : ∀ b, S b → b < w.heap.size
  snew : ∀ b, S b → c.S0 b ∨ c.w0.heap.size ≤ b
  sold : ∀ b, c.S0 b → S b
  below : Below c.w0.heap.size c.w0 w
  glob : Globs c.w0

section mono
variable {P : Program} {w w' : World} {S S' : Nat → Prop} {at_ at' : At}
theorem DfrR.mono (hS : ∀ b, S b → S' b) (hw : ∀ b, S b → w'.heap[b]? = w.heap[b]?) (ha : ∀ g d v, at_ g d = some v → at' g d = some v) : ∀ (x : Dfr) (y : Deferred), DfrR P w S at_ x y → DfrR P w' S' at' x y
  | .mark _ _, _, ⟨b, h1, h2⟩ => ⟨b, ha _ _ _ h1, h2⟩
  | .clo _ _, _, ⟨arr, h1, h2⟩ => ⟨arr, h1, VRs.mono hS hw ha _ _ h2⟩
  | .cal _ _, _, ⟨arr, as9, h1, h2⟩ => ⟨arr, as9, h1, VRs.mono hS hw ha _ _ h2⟩
theorem DfrsR.mono (hS : ∀ b, S b → S' b) (hw : ∀ b, S b → w'.heap[b]? = w.heap[b]?) (ha : ∀ g d v, at_ g d = some v → at' g d = some v) : ∀ (l : List Dfr) (m : List Deferred), DfrsR P w S at_ l m → DfrsR P w' S' at' l m
  | [], [], h => h
  | [], _ :: _, h => h
  | _ :: _, [], h => h
  | x :: l, y :: m, ⟨h1, h2⟩ => ⟨DfrR.mono hS hw ha x y h1, DfrsR.mono hS hw ha l m h2⟩
theorem Flat.mono (hS : ∀ b, S b → S' b) (hw : ∀ b, S b → w'.heap[b]? = w.heap[b]?) (e : TypeId) : ∀ (xs : List V) (cs : List Value), Flat P w S e xs cs → Flat P w' S' e xs cs
  | [], _, h => h
  | x :: xs, cs, h => by
    obtain ⟨c1, c2, h1, h2, h3, h4⟩ := h
    exact ⟨c1, c2, h1, h2, RX.mono hS hw x c1 h3, Flat.mono hS hw e xs c2 h4⟩
theorem RU.mono (hS : ∀ b, S b → S' b) (hw : ∀ b, S b → w'.heap[b]? = w.heap[b]?) (v : V) (c : Value) (h : RU P w S v c) : RU P w' S' v c := by
  by_cases hv : ∃ l, v = .agg l
  · obtain ⟨l, rfl⟩ := hv
    obtain ⟨arr, h1, h2⟩ := h
    exact ⟨arr, h1, RLs.mono hS hw _ _ h2⟩
  · have hv' : ∀ l, v ≠ .agg l := fun l e => hv ⟨l, e⟩
    rw [RU_iff _ _ _ hv'] at h ⊢
    exact RL.mono hS hw _ _ h
theorem RUs.mono (hS : ∀ b, S b → S' b) (hw : ∀ b, S b → w'.heap[b]? = w.heap[b]?) : ∀ (vs : List V) (cs : List Value), RUs P w S vs cs → RUs P w' S' vs cs
  | [], [], _ => trivial
  | [], _ :: _, h => h
  | _ :: _, [], h => h
  | _ :: vs, _ :: cs, ⟨h1, h2⟩ => ⟨RU.mono hS hw _ _ h1, RUs.mono hS hw vs cs h2⟩
theorem RV.mono (hS : ∀ b, S b → S' b) (hw : ∀ b, S b → w'.heap[b]? = w.heap[b]?) (v : V) (c : Value) (h : RV P w S v c) : RV P w' S' v c := by
  by_cases hv : ∃ l, v = .tup l
  · obtain ⟨l, rfl⟩ := hv
    obtain ⟨arr, h1, h2⟩ := h
    exact ⟨arr, h1, RUs.mono hS hw _ _ h2⟩
  · have hv' : ∀ l, v ≠ .tup l := fun l e => hv ⟨l, e⟩
    rw [RV_iff _ _ _ hv'] at h ⊢
    exact RU.mono hS hw _ _ h
theorem VR_cv (v : Value) : VR P w S at_ (cv v) v := by
  unfold cv
  split
  · rw [VR]; simp [RL]
  · rw [VR]; simp [RL]
  · rw [VR]; simp [RL]
  · rw [VR]; simp [RL]
  · split
    · rw [VR, RL]; exact ⟨rfl, by assumption⟩
    · rw [VR]; trivial
theorem ownsRow_blk {base n : Nat} {e : TypeId} {size : Nat} {v : Value} {flat : List Value} (h : w.ownsRow base e size v n flat) (hw : ∀ b, blkOf v = some b → w'.heap[b]? = w.heap[b]?) : w'.ownsRow base e size v n flat := by
  obtain ⟨h1, h2⟩ := h
  refine ⟨h1, ?_⟩
  rcases h2 with h2 | ⟨g, cap, cur, rfl, h3, h4, h5⟩
  · exact .inl h2
  · exact .inr ⟨g, cap, cur, rfl, h3, (hw g rfl).trans h4, h5⟩
theorem ObOk.mono {base : Nat} {v : Value} {o : Ob} (hS : ∀ b, S b → S' b) (hw : ∀ b, S b → w'.heap[b]? = w.heap[b]?) (ha : ∀ g d v, at_ g d = some v → at' g d = some v)
    (hb : o.live = true → ∀ b, blkOf v = some b → w'.heap[b]? = w.heap[b]?) (h : ObOk P w S base at_ v o) : ObOk P w' S' base at' v o := by
  cases o with
  | none => exact h
  | dead => trivial
  | cells t cs =>
    obtain ⟨b, arr, rfl, h2, h3⟩ := h
    exact ⟨b, arr, rfl, (hb rfl b rfl).trans h2, VRs.mono hS hw ha _ _ h3⟩
  | row e xs =>
    obtain ⟨flat, h1, h2⟩ := h
    exact ⟨flat, ownsRow_blk h1 (hb rfl), Flat.mono hS hw e _ _ h2⟩
  | froz e xs => exact RL.mono hS hw _ _ h
  | fmap m => exact RL.mono hS hw _ _ h
  | map m =>
    obtain ⟨b, arr, clock, rfl, h2, h3⟩ := h
    exact ⟨b, arr, clock, rfl, (hb rfl b rfl).trans h2, h3⟩
  | mv l =>
    obtain ⟨b, arr, clock, rfl, h2, h3, h4⟩ := h
    exact ⟨b, arr, clock, rfl, (hb rfl b rfl).trans h2, h3, VRs.mono hS hw ha _ _ h4⟩
  | rv e xs =>
    obtain ⟨flat, h0, h1, h2⟩ := h
    exact ⟨flat, h0, ownsRow_blk h1 (hb rfl), VRs.mono hS hw ha _ _ h2⟩
  | dfd =>
    obtain ⟨b, rfl, h2⟩ := h
    exact ⟨b, rfl, (hb rfl b rfl).trans h2⟩
  | sit s pos =>
    obtain ⟨b, rfl, h2⟩ := h
    exact ⟨b, rfl, (hb rfl b rfl).trans h2⟩
  | lp e nt ps asg body s pe =>
    obtain ⟨b, fn, tmps, D, rfl, h2, h3, h4⟩ := h
    exact ⟨b, fn, tmps, D, rfl, (hb rfl b rfl).trans h2, h3, fun k => VR.mono hS hw ha _ _ (h4 k)⟩
end mono

section
variable {c : Ctx} {S : Nat → Prop} {at_ : At} {st : St} {a : Act} {w : World}
theorem Rel.globs (h : Rel c S at_ st a w) : Globs w := h.glob.below h.below
theorem Rel.ev (h : Rel c S at_ st a w) (x : Operand) : VR c.P w S at_ (st.ev x) (a.eval x) := by
  cases x with
  | tmp t => exact h.env t
  | const v => exact VR_cv v
  | global g => simp only [St.ev, Act.eval]; rw [VR]; simp [RL, Value.oneCell']
  | func f => simp only [St.ev, Act.eval]; rw [VR]; exact ⟨#[], rfl, by simp [VRs]⟩
theorem put_getD (a : Act) (d : Nat) (v : Value) (s : Nat) (hd : d < a.tmps.size) : (a.put (some d) v).tmps.getD s undef = if s = d then v else a.tmps.getD s undef := by
  unfold Act.put
  simp only [Array.getD_eq_getD_getElem?, Array.getElem?_setIfInBounds]
  by_cases h : s = d
  · subst h; simp [hd]
  · have h' : d ≠ s := fun e => h e.symm
    simp [h, h']
theorem put_size (a : Act) (d : Option Nat) (v : Value) : (a.put d v).tmps.size = a.tmps.size := by
  unfold Act.put; cases d <;> simp
theorem put_defers (a : Act) (d : Option Nat) (v : Value) : (a.put d v).defers = a.defers := by
  unfold Act.put; cases d <;> rfl
/-- A slot gets a value; the world stays. -/
theorem Rel.put (h : Rel c S at_ st a w) {d : Nat} (hd : d < c.nt) {x : V} {v : Value} (hv : VR c.P w S at_ x v) : Rel c S at_ (st.put d x) (a.put (some d) v) w :=
  { h with
    defers := by rw [put_defers]; exact h.defers
    frs := h.frs, stk := h.stk, nod := h.nod
    size := (put_size a _ v).trans h.size
    env := fun s => by
      rw [put_getD a d v s (h.size ▸ hd)]
      by_cases hs : s = d
      · simp only [St.put, upd, if_pos hs]; exact hv
      · simp only [St.put, upd, if_neg hs]; exact h.env s
    gen := h.gen, al := h.al, ok := h.ok, own := h.own, dis := h.dis }
theorem Rel.skip (h : Rel c S at_ st a w) (v : Value) : Rel c S at_ st (a.put none v) w := h
/-- The world goes on: what is only read, and the blocks of the live objects, stay, but for those of one object; that one is told anew. -/
theorem Rel.moveK (h : Rel c S at_ st a w) {w' : World} {S' : Nat → Prop} {at' : At} {obj' : Nat → Nat → Ob}
    (hb : Below c.w0.heap.size c.w0 w') (hsz : w.heap.size ≤ w'.heap.size)
    (hS : ∀ b, S b → S' b) (hS' : ∀ b, S' b → b < w'.heap.size) (hS0 : ∀ b, S' b → c.S0 b ∨ c.w0.heap.size ≤ b)
    (hw : ∀ b, S b → w'.heap[b]? = w.heap[b]?)
    (ha : ∀ g d v, at_ g d = some v → at' g d = some v)
    (hdf : ∀ k ∈ c.frs.keys, obj' k.1 k.2 = .dfd)
    (hgen : ∀ g d, st.gen < g → obj' g d = .none)
    (hal : ∀ g d, at' g d = Option.none ↔ obj' g d = .none)
    (hok : ∀ g d v, at' g d = some v → ObOk c.P w' S' c.w0.heap.size at' v (obj' g d))
    (hown : ∀ g d v b, at' g d = some v → (obj' g d).live = true → blkOf v = some b → c.w0.heap.size ≤ b ∧ b < w'.heap.size ∧ ¬ S' b)
    (hdis : ∀ g d g' d' v v' b, at' g d = some v → at' g' d' = some v' → (obj' g d).live = true → (obj' g' d').live = true → blkOf v = some b → blkOf v' = some b → g = g' ∧ d = d') :
    Rel c S' at' { st with obj := obj' } a w' :=
  { defers := DfrsR.mono hS hw ha _ _ h.defers, size := h.size
    env := fun s => VR.mono hS hw ha _ _ (h.env s)
    frs := fun p hp => ⟨fun s => VR.mono hS hw ha _ _ ((h.frs p hp).1 s), DfrsR.mono hS hw ha _ _ (h.frs p hp).2⟩
    stk := hdf, nod := h.nod
    gen := hgen, al := hal, ok := hok, own := hown, dis := hdis, slt := hS', snew := hS0, sold := fun b hb => hS b (h.sold b hb), below := hb, glob := h.glob }
theorem Rel.move (h : Rel c S at_ st a w) {w' : World} {S' : Nat → Prop} {at' : At} {obj' : Nat → Nat → Ob}
    (hb : Below c.w0.heap.size c.w0 w') (hsz : w.heap.size ≤ w'.heap.size)
    (hS : ∀ b, S b → S' b) (hS' : ∀ b, S' b → b < w'.heap.size) (hS0 : ∀ b, S' b → c.S0 b ∨ c.w0.heap.size ≤ b)
    (hw : ∀ b, S b → w'.heap[b]? = w.heap[b]?)
    (ha : ∀ g d v, at_ g d = some v → at' g d = some v)
    (hdf : ∀ g d, st.obj g d = .dfd → obj' g d = .dfd)
    (hgen : ∀ g d, st.gen < g → obj' g d = .none)
    (hal : ∀ g d, at' g d = Option.none ↔ obj' g d = .none)
    (hok : ∀ g d v, at' g d = some v → ObOk c.P w' S' c.w0.heap.size at' v (obj' g d))
    (hown : ∀ g d v b, at' g d = some v → (obj' g d).live = true → blkOf v = some b → c.w0.heap.size ≤ b ∧ b < w'.heap.size ∧ ¬ S' b)
    (hdis : ∀ g d g' d' v v' b, at' g d = some v → at' g' d' = some v' → (obj' g d).live = true → (obj' g' d').live = true → blkOf v = some b → blkOf v' = some b → g = g' ∧ d = d') :
    Rel c S' at' { st with obj := obj' } a w' :=
  h.moveK hb hsz hS hS' hS0 hw ha (fun k hk => hdf _ _ (h.stk k hk)) hgen hal hok hown hdis
/-- Nothing but the orders drawn. -/
theorem Rel.same (h : Rel c S at_ st a w) {w' : World} (hh : w'.heap = w.heap) (hb : Below c.w0.heap.size c.w0 w') : Rel c S at_ st a w' :=
  h.move (obj' := st.obj) (at' := at_) (S' := S) hb (by rw [hh]; exact Nat.le_refl _) (fun _ h => h) (fun b hs => by rw [hh]; exact h.slt b hs) h.snew (fun b _ => by rw [hh]) (fun _ _ _ h => h) (fun _ _ h => h) h.gen h.al
    (fun g d v hv => (h.ok g d v hv).mono (fun _ h => h) (fun b _ => by rw [hh]) (fun _ _ _ h => h) (fun _ b _ => by rw [hh])) (fun g d v b h1 h2 h3 => by rw [hh]; exact h.own g d v b h1 h2 h3) h.dis
/-- Old blocks stay, new ones come; nothing of the machine's own is touched. -/
theorem Rel.grow (h : Rel c S at_ st a w) {w' : World} {S' : Nat → Prop} (hb : Below w.heap.size w w') (hS : ∀ b, S b → S' b) (hS' : ∀ b, S' b → S b ∨ (w.heap.size ≤ b ∧ b < w'.heap.size)) : Rel c S' at_ st a w' := by
  have hbase : c.w0.heap.size ≤ w.heap.size := h.below.size
  have hlt : ∀ g d v b, at_ g d = some v → (st.obj g d).live = true → blkOf v = some b → w'.heap[b]? = w.heap[b]? := fun g d v b h1 h2 h3 => hb.block b (h.own g d v b h1 h2 h3).2.1
  refine h.move (obj' := st.obj) (at' := at_) (S' := S') ⟨hb.os.trans h.below.os, hb.tape.trans h.below.tape, hb.output.trans h.below.output, Nat.le_trans h.below.size hb.size, fun k hk => (hb.block k (by omega)).trans (h.below.block k hk)⟩ hb.size hS
    (fun b hs => ?_) (fun b hs => ?_) (fun b hs => hb.block b (h.slt b hs)) (fun _ _ _ h => h) (fun _ _ h => h) h.gen h.al
    (fun g d v hv => (h.ok g d v hv).mono hS (fun b hs => hb.block b (h.slt b hs)) (fun _ _ _ h => h) (fun hl b hbk => hlt g d v b hv hl hbk)) (fun g d v b h1 h2 h3 => ?_) h.dis
  · rcases hS' b hs with h1 | h1
    · have := h.slt b h1; have := hb.size; omega
    · exact h1.2
  · rcases hS' b hs with h1 | h1
    · exact h.snew b h1
    · right; omega
  · obtain ⟨h4, h5, h6⟩ := h.own g d v b h1 h2 h3
    refine ⟨h4, by have := hb.size; omega, fun hs => ?_⟩
    rcases hS' b hs with h7 | h7
    · exact h6 h7
    · omega
end

/-- What one operation does: from any frame and world that the first state tells of it comes to one that the second tells of. -/
def Stp (c : Ctx) (o : Oper) (st st' : St) : Prop :=
  ∀ S at_ a w, Rel c S at_ st a w → ∀ (next : Act → World → Prop) Q, (∀ S' at' a' w', Rel c S' at' st' a' w' → next a' w') → o.wpIn (Fn c.frs.rd) 0 c.P a w next Q
/-- What follows holds of all frames and worlds of which a state tells. -/
def Tr (c : Ctx) (st : St) (K : Act → World → Prop) : Prop := ∀ S at_ a w, Rel c S at_ st a w → K a w

section
variable {c : Ctx} {st st' : St} {o : Oper} {ops : Array Oper} {rest : List Oper} {Q : Exit → Act → World → Prop}
theorem Tr.op (hg : o.guard = none) (hs : Stp c o st st') (h : Tr c st' (wpListIn (Fn c.frs.rd) 0 c.P ops Q rest)) : Tr c st (wpListIn (Fn c.frs.rd) 0 c.P ops Q (o :: rest)) :=
  fun S at_ a w hr => wpListIn_plain hg fun K hK => hs S at_ a w hr K Q fun S' at' a' w' hr' => hK _ _ (h S' at' a' w' hr')
/-- An operation that only computes. -/
theorem Stp.val {x : V} {d : Nat} (hd : o.dst = some d) (hn : d < c.nt) (h : ∀ S at_ a w, Rel c S at_ st a w → ∃ v, (execOp a.eval o).run c.P w = .ok (.value v) w ∧ VR c.P w S at_ x v) : Stp c o st (st.put d x) := by
  intro S at_ a w hr next Q hk
  obtain ⟨v, h1, h2⟩ := h S at_ a w hr
  refine wpIn_of_run (not_defer_of_value h1) h1 ?_
  rw [Oper.uponIn_value, hd]
  exact hk S at_ _ w (hr.put hn h2)
end
end Go.Proofs.YtjjpmbaddpiamaaDoor
