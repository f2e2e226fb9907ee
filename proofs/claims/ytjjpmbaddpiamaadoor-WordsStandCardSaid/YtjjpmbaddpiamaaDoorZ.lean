/-
  The abstract machine: loops over functions ('for x := range seq'): the loop's record is an object; the iterator is walked with the caller's objects; where it calls yield the loop's body is walked.
-/
import Derived.Test.YtjjpmbaddpiamaaDoorG
import Derived.RangeFuncIn
set_option linter.unusedSimpArgs false
set_option linter.unusedVariables false
namespace Go.Proofs.YtjjpmbaddpiamaaDoor
open Go.RowKit
/-- Parameters get their values. -/
def bindPs (e : Nat → V) : List Tmp → List V → Nat → V
  | p :: ps, v :: vs => bindPs (upd e p v) ps vs
  | _, _ => e
/-- A frame that only remembers where a loop's record lies. -/
def ghostE (g : Nat) (s : Nat) : V := if s = 0 then .yld g 0 else .top
section
variable {c : Ctx} {st : St} {Q : Exit → Act → World → Prop}
theorem Rel.genUp {S : Nat → Prop} {at_ : At} {a : Act} {w : World} (hr : Rel c S at_ st a w) : Rel c S at_ { st with gen := st.gen + 1 } a w :=
  { hr with gen := fun g d hg => hr.gen g d (by have hg' : st.gen + 1 < g := hg; omega), env := hr.env, al := hr.al, ok := hr.ok, own := hr.own, dis := hr.dis, stk := hr.stk }
/-- What an iterator's body must come to: the record as it is then, and how the loop goes on. -/
def RngK (c : Ctx) (e : Nat → V) (nt : Nat) (ps : Array Tmp) (asg body : Code) (Q : Exit → Act → World → Prop) (g0 : Nat) : V → (Nat → Nat → Ob) → Nat → Prop := fun _ o g =>
  (o g0 0 = .lp e nt ps asg body .ready none ∧ Tr ⟨c.P, c.w0, c.S0, c.nt, ⟨c.frs.l, .mark g0 1 :: c.frs.dfs, none⟩⟩ ⟨e, updO o g0 0 .dead, g⟩ (Q .normal)) ∨
  (∃ cd, o g0 0 = .lp e nt ps asg body .done (some cd) ∧ TrC ⟨c.P, c.w0, c.S0, c.nt, ⟨c.frs.l, .mark g0 1 :: c.frs.dfs, none⟩⟩ ⟨e, updO o g0 0 .dead, g⟩ cd Q)
theorem Rel.lpW {S : Nat → Prop} {at_ : At} {a : Act} {w : World} (hr : Rel c S at_ st a w) {g d : Nat} {e : Nat → V} {nt : Nat} {ps : Array Tmp} {asg body : Code} {s : LoopState} {pe : Option Code} (ho : st.obj g d = .lp e nt ps asg body s pe) :
    ∃ b fn tmps D, at_ g d = some (.pointer (some ⟨b, 0, none⟩)) ∧ w.heap[b]? = some (.loop { state := s, pending := pe, fn, tmps, params := ps, assign := asg, body, defers := D }) ∧ tmps.size = nt ∧ (∀ k, VR c.P w S at_ (e k) (tmps.getD k undef)) ∧
      ∀ s' pe', Rel c S at_ (st.set g d (.lp e nt ps asg body s' pe')) a (w.putObj b (.loop { state := s', pending := pe', fn, tmps, params := ps, assign := asg, body, defers := D })) := by
  obtain ⟨v, hat⟩ := hr.at_of (g := g) (d := d) (by rw [ho]; intro e; cases e)
  have hok := hr.ok g d v hat
  rw [ho] at hok
  obtain ⟨b, fn, tmps, D, rfl, h2, h3, h4⟩ := hok
  obtain ⟨o1, o2, o3⟩ := hr.own g d _ b hat (by rw [ho]; rfl) rfl
  refine ⟨b, fn, tmps, D, hat, h2, h3, h4, fun s' pe' => ?_⟩
  have hw : ∀ k, S k → (w.putObj b (.loop { state := s', pending := pe', fn, tmps, params := ps, assign := asg, body, defers := D })).heap[k]? = w.heap[k]? := fun k hk => World.putObj_heap_other fun e => o3 (e ▸ hk)
  exact hr.write hat (by rw [ho]; rfl) (b := b) rfl ⟨rfl, rfl, rfl, by simp, fun k _ hk => World.putObj_heap_other (fun e => hk (by rw [e]))⟩ (by simp) rfl
    ⟨b, fn, tmps, D, rfl, World.putObj_heap_same o2, h3, fun k => VR.mono (fun _ h => h) hw (fun _ _ _ h => h) _ _ (h4 k)⟩ (by rw [ho]; simp)
theorem Tr.rangeFunc {gop : Operand} {ps : Array Tmp} {asg body code : Code} {f : FuncId} {fn : Func} {cap : List V} {nt : Nat} (hro : c.frs.rd = none) (hx : st.ev gop = .fn f cap) (hb : HasBody c.P f fn code) (hnt : fn.ntmps = nt) (hle : cap.length + 1 ≤ nt)
    (h : ∀ a0 a1, TrC ⟨c.P, c.w0, c.S0, nt, ⟨(st.env, a0, .mark (st.gen + 1) 1 :: c.frs.dfs) :: (ghostE (st.gen + 1), a1, []) :: c.frs.l, [], none⟩⟩ ⟨args0 (.yld (st.gen + 1) 0 :: cap), updO (updO st.obj (st.gen + 1) 1 .dfd) (st.gen + 1) 0 (.lp st.env c.nt ps asg body .ready none), st.gen + 1⟩ code
      (RetE ⟨c.P, c.w0, c.S0, nt, ⟨(st.env, a0, .mark (st.gen + 1) 1 :: c.frs.dfs) :: (ghostE (st.gen + 1), a1, []) :: c.frs.l, [], none⟩⟩ fn (RngK c st.env c.nt ps asg body Q (st.gen + 1)))) : TrC c st (.rangeFunc gop ps asg body) Q := fun S at_ a w hr => by
  obtain ⟨arr, hcap, hg⟩ : ∃ arr : List Value, VRs c.P w S at_ cap arr ∧ a.eval gop = .func (.func f) #[] arr.toArray := by
    have h1 := hr.ev gop
    rw [hx, VR] at h1
    obtain ⟨arr, h2, h3⟩ := h1
    exact ⟨arr.toList, h3, by rw [h2]⟩
  have hr0 := hr.genUp
  have hn1 : st.obj (st.gen + 1) 1 = .none := hr.gen _ _ (Nat.lt_succ_self _)
  have hn0 : st.obj (st.gen + 1) 0 = .none := hr.gen _ _ (Nat.lt_succ_self _)
  have hr1 := hr0.alloc (d := 1) hn1 (ob := .deferred (some [])) (v := .pointer (some ⟨w.heap.size, 0, none⟩)) (o := .dfd) rfl rfl ⟨_, rfl, World.alloc_heap_new w _⟩
  have hn0' : (updO st.obj (st.gen + 1) 1 .dfd) (st.gen + 1) 0 = .none := by rw [updO_off (by decide)]; exact hn0
  refine wpIn_rangeFunc fun fid _ => ?_
  have hro' : (Fn c.frs.rd).round = none := hro
  rw [hro']
  obtain ⟨W1, hW1⟩ : ∃ W1, (w.alloc (.deferred (some []))).alloc (.loop { state := .ready, pending := none, fn := fid, tmps := a.tmps, params := ps, assign := asg, body, defers := w.heap.size }) = W1 := ⟨_, rfl⟩
  refine ⟨w.heap.size + 1, [{ target := .collected w.heap.size, args := #[] }], W1, { target := .fn (.func f) arr.toArray, args := #[.func (.yield (w.heap.size + 1)) #[] #[]] }, W1, f,
    #[.func (.yield (w.heap.size + 1)) #[] #[]] ++ arr.toArray, W1, by rw [← hW1]; exact run_enterLoop_outer _ _ _ _ _, ?_, fun _ _ => trivial, ?_, (fun hd => by cases hd), ?_⟩
  · simp only [resolve, hg]; simp [go_sem]
  · simp [invoke, go_sem, hb.call]
  refine callsIn_Fn ?_
  have hA : ∀ g' d' v', at_ g' d' = some v' → (updA at_ (st.gen + 1) 1 (.pointer (some ⟨w.heap.size, 0, none⟩))) g' d' = some v' := fun g' d' v' hv' => by
    unfold updA
    split
    · rename_i he; obtain ⟨rfl, rfl⟩ := he; rw [(hr.al _ _).2 hn1] at hv'; cases hv'
    · exact hv'
  have hr2 := hr1.alloc (d := 0) hn0' (ob := .loop { state := .ready, pending := none, fn := fid, tmps := a.tmps, params := ps, assign := asg, body, defers := w.heap.size }) (v := .pointer (some ⟨w.heap.size + 1, 0, none⟩)) (o := .lp st.env c.nt ps asg body .ready none) (by simp [blkOf]) rfl
    ⟨w.heap.size + 1, fid, a.tmps, w.heap.size, rfl, by have := World.alloc_heap_new (w.alloc (.deferred (some []))) (.loop { state := .ready, pending := none, fn := fid, tmps := a.tmps, params := ps, assign := asg, body, defers := w.heap.size }); rwa [World.size_alloc] at this, hr.size, fun k => by
      have h1 := hr1.env k
      refine VR.mono (fun _ h => h) (fun b hs => ?_) (fun g' d' v' hv' => ?_) _ _ h1
      · exact Below.heap_alloc _ _ _ (hr1.slt b hs)
      · unfold updA
        split
        · rename_i he; obtain ⟨rfl, rfl⟩ := he; exact absurd (hv'.symm.trans ((hr1.al (st.gen + 1) 0).2 hn0')) (by simp)
        · exact hv'⟩
  rw [hW1] at hr2
  have hA2 : ∀ g' d' v', (updA at_ (st.gen + 1) 1 (.pointer (some ⟨w.heap.size, 0, none⟩))) g' d' = some v' → (updA (updA at_ (st.gen + 1) 1 (.pointer (some ⟨w.heap.size, 0, none⟩))) (st.gen + 1) 0 (.pointer (some ⟨w.heap.size + 1, 0, none⟩))) g' d' = some v' := fun g' d' v' hv' => by
    show (if d' = 0 ∧ g' = st.gen + 1 then _ else _) = _
    split
    · rename_i he; obtain ⟨rfl, rfl⟩ := he; exact absurd (hv'.symm.trans ((hr1.al (st.gen + 1) 0).2 hn0')) (by simp)
    · exact hv'
  have hlen : cap.length = arr.length := VRs.length hcap
  have hcap2 : VRs c.P W1 S (updA (updA at_ (st.gen + 1) 1 (.pointer (some ⟨w.heap.size, 0, none⟩))) (st.gen + 1) 0 (.pointer (some ⟨w.heap.size + 1, 0, none⟩))) cap arr :=
    VRs.mono (fun _ h => h) (fun b hs => by rw [← hW1]; exact (Below.heap_alloc _ _ _ (by have := hr.slt b hs; simp; omega)).trans (Below.heap_alloc _ _ _ (hr.slt b hs))) (fun g' d' v' hv' => hA2 _ _ _ (hA _ _ _ hv')) _ _ hcap
  have hkeys : (⟨(st.env, ({ a with defers := { target := .collected w.heap.size, args := #[] } :: a.defers } : Act), Dfr.mark (st.gen + 1) 1 :: c.frs.dfs) :: (ghostE (st.gen + 1), ({ tmps := #[.func (.yield (w.heap.size + 1)) #[] #[]], defers := [] } : Act), []) :: c.frs.l, [], none⟩ : Frs).keys = (st.gen + 1, 1) :: c.frs.keys := by simp [Frs.keys, Frs.all, Dfr.key]
  have hm1 : DfrsR c.P W1 S (updA (updA at_ (st.gen + 1) 1 (.pointer (some ⟨w.heap.size, 0, none⟩))) (st.gen + 1) 0 (.pointer (some ⟨w.heap.size + 1, 0, none⟩))) (Dfr.mark (st.gen + 1) 1 :: c.frs.dfs) ({ target := .collected w.heap.size, args := #[] } :: a.defers) :=
    ⟨⟨w.heap.size, hA2 _ _ _ (by simp [updA]), rfl⟩, hr2.defers⟩
  have hr3 : Rel ⟨c.P, c.w0, c.S0, nt, ⟨(st.env, ({ a with defers := { target := .collected w.heap.size, args := #[] } :: a.defers } : Act), Dfr.mark (st.gen + 1) 1 :: c.frs.dfs) :: (ghostE (st.gen + 1), ({ tmps := #[.func (.yield (w.heap.size + 1)) #[] #[]], defers := [] } : Act), []) :: c.frs.l, [], none⟩⟩ S (updA (updA at_ (st.gen + 1) 1 (.pointer (some ⟨w.heap.size, 0, none⟩))) (st.gen + 1) 0 (.pointer (some ⟨w.heap.size + 1, 0, none⟩)))
      ⟨args0 (.yld (st.gen + 1) 0 :: cap), updO (updO st.obj (st.gen + 1) 1 .dfd) (st.gen + 1) 0 (.lp st.env c.nt ps asg body .ready none), st.gen + 1⟩
      { tmps := (#[Value.func (.yield (w.heap.size + 1)) #[] #[]] ++ arr.toArray) ++ Array.replicate (fn.ntmps - (#[Value.func (.yield (w.heap.size + 1)) #[] #[]] ++ arr.toArray).size) undef, defers := [] } _ :=
    { hr2 with
      defers := trivial
      size := by simp; omega
      env := fun s => by
        simp only [args0_eq]
        cases hs : (V.yld (st.gen + 1) 0 :: cap)[s]? with
        | none => rw [Option.getD_none, VR]; trivial
        | some v =>
          have hvals : VRs c.P W1 S (updA (updA at_ (st.gen + 1) 1 (.pointer (some ⟨w.heap.size, 0, none⟩))) (st.gen + 1) 0 (.pointer (some ⟨w.heap.size + 1, 0, none⟩))) (V.yld (st.gen + 1) 0 :: cap) (Value.func (.yield (w.heap.size + 1)) #[] #[] :: arr) := by
            rw [VRs]
            exact ⟨by rw [VR]; exact ⟨w.heap.size + 1, by simp [updA], rfl⟩, hcap2⟩
          obtain ⟨x, hx', hv⟩ := VRs.get hvals hs
          have hlt := (List.getElem?_eq_some_iff.1 hx').1
          have : ((#[Value.func (.yield (w.heap.size + 1)) #[] #[]] ++ arr.toArray) ++ Array.replicate (fn.ntmps - (#[Value.func (.yield (w.heap.size + 1)) #[] #[]] ++ arr.toArray).size) undef).getD s undef = x := by
            rw [Array.getD_eq_getD_getElem?, Array.getElem?_append_left (by simp at hlt ⊢; omega)]
            have : (#[Value.func (.yield (w.heap.size + 1)) #[] #[]] ++ arr.toArray : Array Value) = (Value.func (.yield (w.heap.size + 1)) #[] #[] :: arr).toArray := by apply Array.ext'; simp
            rw [this]
            simp only [List.getElem?_toArray, hx', Option.getD_some]
          rw [this]
          exact hv
      frs := fun p hp => by
        rcases List.mem_cons.1 hp with rfl | hp
        · exact ⟨hr2.env, hm1⟩
        · rcases List.mem_cons.1 hp with rfl | hp
          · refine ⟨fun s => ?_, trivial⟩
            cases s with
            | zero => show VR _ _ _ _ (V.yld _ _) _; rw [VR]; exact ⟨w.heap.size + 1, by simp [updA], rfl⟩
            | succ s => show VR _ _ _ _ V.top _; rw [VR]; trivial
          · exact hr2.frs p hp
      stk := fun k hk => by
        rw [hkeys] at hk
        rcases List.mem_cons.1 hk with rfl | hk
        · simp [updO]
        · exact hr2.stk k hk
      nod := by
        rw [hkeys, List.nodup_cons]
        refine ⟨fun hk => ?_, hr.nod⟩
        have := hr.stk _ hk
        rw [hn1] at this; cases this }
  refine (out_calls hb.1 hb.2.2 (h { a with defers := { target := .collected w.heap.size, args := #[] } :: a.defers } { tmps := #[.func (.yield (w.heap.size + 1)) #[] #[]], defers := [] } S _ _ _ hr3)).mono ?_
  rintro e w' ⟨v, S2, at2, st2, a2, r, rfl, k1, k3, k4⟩
  have hm := k1.frs (st.env, { a with defers := { target := .collected w.heap.size, args := #[] } :: a.defers }, .mark (st.gen + 1) 1 :: c.frs.dfs) (List.mem_cons_self ..)
  have fin : ∀ s pe, st2.obj (st.gen + 1) 0 = .lp st.env c.nt ps asg body s pe → s ≠ .busy → ∃ w'', (Instr.endLoop (w.heap.size + 1)).run c.P w' = .ok pe w'' ∧ Rel ⟨c.P, c.w0, c.S0, c.nt, ⟨c.frs.l, .mark (st.gen + 1) 1 :: c.frs.dfs, none⟩⟩ S2 at2 ⟨st.env, updO st2.obj (st.gen + 1) 0 .dead, st2.gen⟩ ({ a with defers := { target := .collected w.heap.size, args := #[] } :: a.defers }) w'' := by
    intro s pe hs hb'
    obtain ⟨b, fn', tmps', D, q1, q2, q3, q4, q5⟩ := k1.lpW hs
    have hbl : b = w.heap.size + 1 := by
      have := (k1.frs (ghostE (st.gen + 1), ({ tmps := #[.func (.yield (w.heap.size + 1)) #[] #[]], defers := [] } : Act), []) (List.mem_cons_of_mem _ (List.mem_cons_self ..))).1 0
      have h0 : VR c.P w' S2 at2 (V.yld (st.gen + 1) 0) (.func (.yield (w.heap.size + 1)) #[] #[]) := this
      rw [VR] at h0
      obtain ⟨b', h1, h2⟩ := h0
      rw [q1] at h1
      cases h1; cases h2; rfl
    subst hbl
    refine ⟨_, run_endLoop q2 hb', ?_⟩
    have k6 := (q5 .exhausted pe).kill (g := st.gen + 1) (d := 0) q1 (by simp [St.set, updO])
    have hm2 := k6.frs (st.env, { a with defers := { target := .collected w.heap.size, args := #[] } :: a.defers }, .mark (st.gen + 1) 1 :: c.frs.dfs) (List.mem_cons_self ..)
    have hob : updO (updO st2.obj (st.gen + 1) 0 (.lp st.env c.nt ps asg body .exhausted pe)) (st.gen + 1) 0 .dead = updO st2.obj (st.gen + 1) 0 .dead := by
      funext g' d'; unfold updO; split <;> rfl
    have hk2 : (⟨c.frs.l, Dfr.mark (st.gen + 1) 1 :: c.frs.dfs, none⟩ : Frs).keys = (st.gen + 1, 1) :: c.frs.keys := by simp [Frs.keys, Frs.all, Dfr.key]
    simp only [St.set, hob] at k6 hm2
    exact { defers := hm2.2, size := hr.size, env := hm2.1, frs := fun p hp => k6.frs p (List.mem_cons_of_mem _ (List.mem_cons_of_mem _ hp)), stk := fun k hk => k6.stk k (by rw [hkeys]; rw [hk2] at hk; exact hk)
            nod := by have := k6.nod; rw [hkeys] at this; rw [hk2]; exact this
            gen := k6.gen, al := k6.al, ok := k6.ok, own := k6.own, dis := k6.dis, slt := k6.slt, snew := k6.snew, sold := k6.sold, below := k6.below, glob := k6.glob }
  rcases k4 with ⟨k5, k6⟩ | ⟨cd, k5, k6⟩
  · obtain ⟨w'', e1, e2⟩ := fin _ _ k5 (by simp)
    exact ⟨none, w'', e1, k6 _ _ _ _ e2⟩
  · obtain ⟨w'', e1, e2⟩ := fin _ _ k5 (by simp)
    refine ⟨some cd, w'', e1, ?_⟩
    have := k6 _ _ _ _ e2
    show cd.wpIn (Fn c.frs.rd) 0 c.P Q _ _
    rw [hro]
    exact this
/-! ### yield -/
/-- What a round's body must come to. -/
def Rnd (c : Ctx) (K : Option Code → (Nat → Nat → Ob) → Nat → Prop) : Exit → Act → World → Prop
  | .normal, a, w => ∃ S at_ st, Rel c S at_ st a w ∧ K none st.obj st.gen
  | .ret, a, w => ∃ S at_ st, Rel c S at_ st a w ∧ K (some .ret) st.obj st.gen
  | .exit id, a, w => ∃ S at_ st, Rel c S at_ st a w ∧ K (some (.exit id)) st.obj st.gen
  | _, _, _ => False
/-- Behind the assignments at a round's head: the record is taken, and the body is walked. -/
def Beg (c : Ctx) (gl dl : Nat) (e1 : Nat → V) (nt1 : Nat) (ps : Array Tmp) (asg body : Code) (K : Option Code → (Nat → Nat → Ob) → Nat → Prop) : Exit → Act → World → Prop
  | .normal, a, w => ∃ S at_ st, Rel c S at_ st a w ∧ st.obj gl dl = .lp e1 nt1 ps asg body .ready none ∧ TrC c ⟨st.env, updO st.obj gl dl (.lp e1 nt1 ps asg body .busy none), st.gen⟩ body (Rnd c K)
  | _, _, _ => False
/-- How the iterator goes on behind a round. -/
def YldK (c : Ctx) (ops : Array Oper) (Q : Exit → Act → World → Prop) (rest : List Oper) (e : Nat → V) (d gl dl : Nat) (e1 : Nat → V) (nt1 : Nat) (ps : Array Tmp) (asg body : Code) : Option Code → (Nat → Nat → Ob) → Nat → Prop := fun jump o g =>
  o gl dl = .lp e1 nt1 ps asg body .busy none ∧ Tr c ⟨upd e d (.bool jump.isNone), updO o gl dl (.lp e1 nt1 ps asg body (if jump.isNone then .ready else .done) jump), g⟩ (wpListIn (Fn c.frs.rd) 0 c.P ops Q rest)
theorem bind_size : ∀ (l : List (Tmp × Value)) (t : Array Value), (l.foldl (fun tmps (p : Tmp × Value) => tmps.setIfInBounds p.1 p.2) t).size = t.size
  | [], _ => rfl
  | _ :: l, t => by rw [List.foldl_cons, bind_size l]; simp
theorem bind_VR {P : Program} {w : World} {S : Nat → Prop} {at_ : At} : ∀ (ps : List Tmp) (vs : List V) (cs : List Value) (e : Nat → V) (t : Array Value), VRs P w S at_ vs cs → (∀ p ∈ ps, p < t.size) → (∀ k, VR P w S at_ (e k) (t.getD k undef)) →
    ∀ k, VR P w S at_ (bindPs e ps vs k) (((ps.zip cs).foldl (fun tmps (p : Tmp × Value) => tmps.setIfInBounds p.1 p.2) t).getD k undef)
  | [], _, _, e, t, _, _, h, k => by simpa [bindPs] using h k
  | _ :: _, [], [], e, t, _, _, h, k => by simpa [bindPs] using h k
  | _ :: _, [], _ :: _, _, _, hv, _, _, _ => by simp [VRs] at hv
  | _ :: _, _ :: _, [], _, _, hv, _, _, _ => by simp [VRs] at hv
  | p :: ps, v :: vs, x :: cs, e, t, hv, hp, h, k => by
    rw [VRs] at hv
    simp only [bindPs, List.zip_cons_cons, List.foldl_cons]
    refine bind_VR ps vs cs (upd e p v) (t.setIfInBounds p x) hv.2 (fun q hq => by simpa using hp q (List.mem_cons_of_mem _ hq)) (fun j => ?_) k
    have hlt := hp p (List.mem_cons_self ..)
    simp only [upd, Array.getD_eq_getD_getElem?, Array.getElem?_setIfInBounds]
    by_cases hj : j = p
    · subst hj; simp [hlt]; exact hv.1
    · have : ¬ p = j := fun e => hj e.symm
      have h1 := h j
      rw [Array.getD_eq_getD_getElem?] at h1
      simpa [hj, this] using h1
theorem Tr.yield {o : Oper} {ops : Array Oper} {rest : List Oper} {d gl dl : Nat} {x : Operand} {xs : Array Operand} {ts : Array TypeId} {vs : List V} {e1 : Nat → V} {nt1 : Nat} {ps : Array Tmp} {asg body : Code} (hg : o.guard = none) (hd : o.dst = some d) (hn : d < c.nt) (hop : o.op = .call { callee := .value x, args := xs, argTypes := ts })
    (hx : st.ev x = .yld gl dl) (ho : st.obj gl dl = .lp e1 nt1 ps asg body .ready none) (hargs : xs.toList.map st.ev = vs) (hlen : vs.length = ps.size) (hps : ∀ p ∈ ps.toList, p < nt1)
    (h : ∀ a0 l, TrC ⟨c.P, c.w0, c.S0, nt1, ⟨(st.env, a0, c.frs.dfs) :: c.frs.l, [], some l⟩⟩ ⟨bindPs e1 ps.toList vs, st.obj, st.gen⟩ asg
      (Beg ⟨c.P, c.w0, c.S0, nt1, ⟨(st.env, a0, c.frs.dfs) :: c.frs.l, [], some l⟩⟩ gl dl e1 nt1 ps asg body (YldK c ops Q rest st.env d gl dl e1 nt1 ps asg body))) : Tr c st (wpListIn (Fn c.frs.rd) 0 c.P ops Q (o :: rest)) :=
  fun S at_ a w hr => wpListIn_plain hg fun K' hK => by
    obtain ⟨t, rfl⟩ : ∃ t, x = .tmp t := by
      cases x with
      | tmp t => exact ⟨t, rfl⟩
      | const v =>
        have : cv v = .yld gl dl := hx
        unfold cv at this
        split at this <;> first | cases this | (split at this <;> cases this)
      | func f => cases hx
      | global g => cases hx
    have hyl := hr.env t
    rw [show st.env t = .yld gl dl from hx, VR] at hyl
    obtain ⟨b, hat, hev⟩ := hyl
    obtain ⟨b', fn, tmps, D, q1, q2, q3, q4, q5⟩ := hr.lpW ho
    obtain rfl : b' = b := by rw [hat] at q1; cases q1; rfl
    have hvals : VRs c.P w S at_ vs (xs.toList.map a.eval) := by
      subst hargs
      generalize xs.toList = l
      induction l with
      | nil => simp [VRs]
      | cons y l ih => simp only [List.map_cons]; rw [VRs]; exact ⟨hr.ev y, ih⟩
    have hsz : (xs.map a.eval).size = ps.size := by rw [← hlen, VRs.length hvals]; simp
    have hrun : (execOp a.eval o).run c.P w = .ok (.round b' fn ((ps.zip (xs.map a.eval)).foldl (fun tmps (t, v) => tmps.setIfInBounds t v) tmps) asg body) w := by
      have hy := run_yield (P := c.P) (args := xs.map a.eval) q2 hsz
      have hev' : a.eval (.tmp t) = .func (.yield b') #[] #[] := hev
      simp only [execOp, hop, resolve, hev', Deferred.ofValue, invoke, Sem.run_bind, Sem.run_pure, Result.andThen_ok]
      simpa [Array.foldl_toList] using hy
    refine wpIn_of_run (fun cl hc => by rw [hop] at hc; cases hc) hrun ?_
    rw [Oper.uponIn_round]
    refine ⟨(fun hd => by cases hd), ?_⟩
    refine roundIn_of_wpIn (F := Fn c.frs.rd) trivial ?_
    have hkeys : (⟨(st.env, a, c.frs.dfs) :: c.frs.l, [], some b'⟩ : Frs).keys = c.frs.keys := by simp [Frs.keys, Frs.all]
    have hr' : Rel ⟨c.P, c.w0, c.S0, nt1, ⟨(st.env, a, c.frs.dfs) :: c.frs.l, [], some b'⟩⟩ S at_ ⟨bindPs e1 ps.toList vs, st.obj, st.gen⟩ { tmps := (ps.zip (xs.map a.eval)).foldl (fun tmps (t, v) => tmps.setIfInBounds t v) tmps, defers := [] } w :=
      { defers := trivial
        size := by
          rw [← Array.foldl_toList]
          show (List.foldl (fun tmps (p : Tmp × Value) => tmps.setIfInBounds p.1 p.2) tmps _).size = nt1
          rw [bind_size]; exact q3
        env := fun k => by
          have := bind_VR ps.toList vs (xs.toList.map a.eval) e1 tmps hvals (fun p hp => by rw [q3]; exact hps p hp) q4 k
          rw [← Array.foldl_toList]
          simpa using this
        frs := fun p hp => by
          rcases List.mem_cons.1 hp with rfl | hp
          · exact ⟨hr.env, hr.defers⟩
          · exact hr.frs p hp
        stk := fun k hk => hr.stk k (hkeys ▸ hk)
        nod := by rw [hkeys]; exact hr.nod
        gen := hr.gen, al := hr.al, ok := hr.ok, own := hr.own, dis := hr.dis, slt := hr.slt, snew := hr.snew, sold := hr.sold, below := hr.below, glob := hr.glob }
    have same : ∀ {S2 : Nat → Prop} {at2 : At} {st2 : St} {a2 : Act} {w2 : World} {b2 : Nat}, Rel ⟨c.P, c.w0, c.S0, nt1, ⟨(st.env, a, c.frs.dfs) :: c.frs.l, [], some b'⟩⟩ S2 at2 st2 a2 w2 → at2 gl dl = some (.pointer (some ⟨b2, 0, none⟩)) → b2 = b' := by
      intro S2 at2 st2 a2 w2 b2 k1 k2
      have h1 := (k1.frs (st.env, a, c.frs.dfs) (List.mem_cons_self ..)).1 t
      have h2 : VR c.P w2 S2 at2 (V.yld gl dl) (.func (.yield b') #[] #[]) := by
        have e1 : st.env t = .yld gl dl := hx
        have e2 : a.tmps.getD t undef = .func (.yield b') #[] #[] := hev
        rw [← e1, ← e2]; exact h1
      rw [VR] at h2
      obtain ⟨b3, h3, h4⟩ := h2
      rw [k2] at h3
      cases h3; cases h4; rfl
    refine wpIn_mono (h a b' S at_ _ w hr') fun e a1 wa hq => ?_
    cases e with
    | exit _ => exact hq.elim
    | goto _ => exact hq.elim
    | ret => exact hq.elim
    | panic _ => exact hq.elim
    | outgrown => exact hq.elim
    | normal =>
      obtain ⟨S1, at1, st1, hr1, ho1, hbody⟩ := hq
      obtain ⟨b1, fn1, tmps1, D1, u1, u2, u3, u4, u5⟩ := hr1.lpW ho1
      obtain rfl := same hr1 u1
      refine ⟨_, run_beginRound u2 rfl, ?_⟩
      refine wpIn_mono (hbody S1 at1 a1 _ (u5 .busy none)) fun e a2 wb hq2 => ?_
      have fin : ∀ (jump : Option Code), (∃ S at_ st', Rel ⟨c.P, c.w0, c.S0, nt1, ⟨(st.env, a, c.frs.dfs) :: c.frs.l, [], some b1⟩⟩ S at_ st' a2 wb ∧ YldK c ops Q rest st.env d gl dl e1 nt1 ps asg body jump st'.obj st'.gen) →
          ∃ v w', (Instr.endRound b1 jump).run c.P wb = .ok v w' ∧ K' (a.put o.dst v) w' := by
        rintro jump ⟨S2, at2, st2, hr2, hk1, hk2⟩
        obtain ⟨b2, fn2, tmps2, D2, v1, v2, v3, v4, v5⟩ := hr2.lpW hk1
        obtain rfl := same hr2 v1
        refine ⟨_, _, run_endRound jump v2, ?_⟩
        have k6 := v5 (if jump.isNone then .ready else .done) jump
        have hm := k6.frs (st.env, a, c.frs.dfs) (List.mem_cons_self ..)
        rw [hd]
        have k7 : Rel c S2 at2 ⟨st.env, updO st2.obj gl dl (.lp e1 nt1 ps asg body (if jump.isNone then .ready else .done) jump), st2.gen⟩ a _ :=
          { defers := hm.2, size := hr.size, env := hm.1, frs := fun p hp => k6.frs p (List.mem_cons_of_mem _ hp), stk := fun k hk => k6.stk k (by rw [hkeys]; exact hk), nod := hr.nod
            gen := k6.gen, al := k6.al, ok := k6.ok, own := k6.own, dis := k6.dis, slt := k6.slt, snew := k6.snew, sold := k6.sold, below := k6.below, glob := k6.glob }
        have k8 := k7.put (d := d) hn (x := .bool jump.isNone) (v := .bool jump.isNone) (by rw [VR, RL])
        exact hK _ _ (hk2 S2 at2 _ _ k8)
      cases e with
      | normal => exact fin none hq2
      | ret => exact fin (some .ret) hq2
      | exit id => exact fin (some (.exit id)) hq2
      | goto _ => exact hq2.elim
      | panic _ => exact hq2.elim
      | outgrown => exact hq2.elim
end
section
variable {P : Program} {w0 : World} {S0 : Nat → Prop} {nt : Nat} {frs : Frs} {e : Nat → V} {ob : Nat → Nat → Ob} {g : Nat} {Q : Exit → Act → World → Prop} {ops : Array Oper} {rest : List Oper} {d : Nat} {ty : TypeId} {pos : String} {aft : Array Edge} {m : Md} {l : List ((Nat → V) × Act × List Dfr)} {dfs : List Dfr}
theorem p_range {gop : Operand} {ps : Array Tmp} {asg body code : Code} {f : FuncId} {fn : Func} {cap : List V} {nt' : Nat} (hb : HasBody P f fn code) (hnt : fn.ntmps = nt') (hx : evE e gop = .fn f cap := by simp (decide := true) only [evE, upd, cv, args0, argsFrom, List.length_map, ↓reduceIte, hE] <;> rfl) (hle : cap.length + 1 ≤ nt' := by decide)
    (h : ∀ a0 a1, TrC ⟨P, w0, S0, nt', ⟨(e, a0, .mark (g + 1) 1 :: dfs) :: (ghostE (g + 1), a1, []) :: l, [], none⟩⟩ ⟨args0 (.yld (g + 1) 0 :: cap), updO (updO ob (g + 1) 1 .dfd) (g + 1) 0 (.lp e nt ps asg body .ready none), g + 1⟩ code
      (RetE ⟨P, w0, S0, nt', ⟨(e, a0, .mark (g + 1) 1 :: dfs) :: (ghostE (g + 1), a1, []) :: l, [], none⟩⟩ fn (RngK ⟨P, w0, S0, nt, ⟨l, dfs, none⟩⟩ e nt ps asg body Q (g + 1)))) : TrC ⟨P, w0, S0, nt, ⟨l, dfs, none⟩⟩ ⟨e, ob, g⟩ (.rangeFunc gop ps asg body) Q :=
  Tr.rangeFunc (st := ⟨e, ob, g⟩) rfl ((evE_eq e ob g gop).trans hx) hb hnt hle h
theorem p_rngN {nt1 : Nat} {ps : Array Tmp} {asg body : Code} {g0 : Nat} {v : V} (ho : ob g0 0 = .lp e nt1 ps asg body .ready none := by simp (decide := true) only [updO, upd, true_and, and_true, false_and, and_false, ↓reduceIte, hE] <;> first | rfl | assumption) (h : Tr ⟨P, w0, S0, nt, ⟨l, .mark g0 1 :: dfs, none⟩⟩ ⟨e, updO ob g0 0 .dead, g⟩ (Q .normal)) : RngK ⟨P, w0, S0, nt, ⟨l, dfs, none⟩⟩ e nt1 ps asg body Q g0 v ob g := .inl ⟨ho, h⟩
theorem p_rngJ {nt1 : Nat} {ps : Array Tmp} {asg body cd : Code} {g0 : Nat} {v : V} (ho : ob g0 0 = .lp e nt1 ps asg body .done (some cd) := by simp (decide := true) only [updO, upd, true_and, and_true, false_and, and_false, ↓reduceIte, hE] <;> first | rfl | assumption) (h : TrC ⟨P, w0, S0, nt, ⟨l, .mark g0 1 :: dfs, none⟩⟩ ⟨e, updO ob g0 0 .dead, g⟩ cd Q) : RngK ⟨P, w0, S0, nt, ⟨l, dfs, none⟩⟩ e nt1 ps asg body Q g0 v ob g := .inr ⟨cd, ho, h⟩
theorem p_retE0 {fn : Func} {K : V → (Nat → Nat → Ob) → Nat → Prop} (hres : fn.results = #[]) (hK : K (.tup []) ob g) : Tr ⟨P, w0, S0, nt, ⟨l, [], none⟩⟩ ⟨e, ob, g⟩ (RetE ⟨P, w0, S0, nt, ⟨l, [], none⟩⟩ fn K .normal) := fun S at_ a w hr =>
  hr.leave0 ⟨.tuple #[], by simp [results, hres], _, S, at_, _, a, .tup [], rfl, hr, by rw [VR]; exact ⟨#[], rfl, by simp [VRs]⟩, hK⟩
theorem p_retE0' {fn : Func} {K : V → (Nat → Nat → Ob) → Nat → Prop} (hres : fn.results = #[]) (hK : K (.tup []) ob g) : Tr ⟨P, w0, S0, nt, ⟨l, [], none⟩⟩ ⟨e, ob, g⟩ (RetE ⟨P, w0, S0, nt, ⟨l, [], none⟩⟩ fn K .ret) := p_retE0 hres hK
theorem p_yield {x : Operand} {xs : List Operand} {ts : Array TypeId} {vs : List V} {e1 : Nat → V} {nt1 gl dl : Nat} {ps : Array Tmp} {asg body : Code} (hm : m = .lex := by exact rfl) (hn : d < nt := by decide) (hx : evE e x = .yld gl dl := by simp (decide := true) only [evE, upd, cv, args0, argsFrom, List.length_map, ↓reduceIte, hE] <;> rfl) (ho : ob gl dl = .lp e1 nt1 ps asg body .ready none := by simp (decide := true) only [updO, upd, true_and, and_true, false_and, and_false, ↓reduceIte, hE] <;> first | rfl | assumption) (hvs : xs.map (evE e) = vs := by simp (decide := true) only [List.map_cons, List.map_nil, List.cons_append, List.nil_append, List.append_nil, evE, upd, updO, cv, args0, List.getElem?_cons_zero, List.getElem?_cons_succ, Option.getD_some, List.length_map, ↓reduceIte, hE] <;> rfl) (hlen : vs.length = ps.size := by exact rfl) (hps : ∀ p ∈ ps.toList, p < nt1 := by decide) {e2 : Nat → V} (he2 : bindPs e1 ps.toList vs = e2 := by simp only [bindPs] <;> rfl)
    (h : ∀ a0 b0, TrC ⟨P, w0, S0, nt1, ⟨(e, a0, frs.dfs) :: frs.l, [], some b0⟩⟩ ⟨e2, ob, g⟩ asg
      (Beg ⟨P, w0, S0, nt1, ⟨(e, a0, frs.dfs) :: frs.l, [], some b0⟩⟩ gl dl e1 nt1 ps asg body (YldK ⟨P, w0, S0, nt, frs⟩ ops Q rest e d gl dl e1 nt1 ps asg body))) : Wk m ⟨P, w0, S0, nt, frs⟩ ops Q ⟨e, ob, g⟩ (⟨some d, .call { callee := .value x, args := xs.toArray, argTypes := ts }, ty, pos, aft, none⟩ :: rest) := by
  subst hm; subst he2
  exact Tr.yield (st := ⟨e, ob, g⟩) rfl rfl hn rfl ((evE_eq e ob g x).trans hx) ho (by rw [← hvs]; exact List.map_congr_left fun y _ => evE_eq e ob g y) hlen hps h
theorem p_yldK {e1 : Nat → V} {nt1 gl dl : Nat} {ps : Array Tmp} {asg body : Code} {jump : Option Code} (ho : ob gl dl = .lp e1 nt1 ps asg body .busy none := by simp (decide := true) only [updO, upd, true_and, and_true, false_and, and_false, ↓reduceIte, hE] <;> first | rfl | assumption) (h : Wk .lex ⟨P, w0, S0, nt, frs⟩ ops Q ⟨upd e d (.bool jump.isNone), updO ob gl dl (.lp e1 nt1 ps asg body (if jump.isNone then .ready else .done) jump), g⟩ rest) : YldK ⟨P, w0, S0, nt, frs⟩ ops Q rest e d gl dl e1 nt1 ps asg body jump ob g := ⟨ho, h⟩
theorem p_beg {e1 : Nat → V} {nt1 gl dl : Nat} {ps : Array Tmp} {asg body : Code} {K : Option Code → (Nat → Nat → Ob) → Nat → Prop} (ho : ob gl dl = .lp e1 nt1 ps asg body .ready none := by simp (decide := true) only [updO, upd, true_and, and_true, false_and, and_false, ↓reduceIte, hE] <;> first | rfl | assumption) (h : TrC ⟨P, w0, S0, nt, frs⟩ ⟨e, updO ob gl dl (.lp e1 nt1 ps asg body .busy none), g⟩ body (Rnd ⟨P, w0, S0, nt, frs⟩ K)) : Tr ⟨P, w0, S0, nt, frs⟩ ⟨e, ob, g⟩ (Beg ⟨P, w0, S0, nt, frs⟩ gl dl e1 nt1 ps asg body K .normal) := fun S at_ a w hr => ⟨S, at_, _, hr, ho, h⟩
theorem p_rndN {K : Option Code → (Nat → Nat → Ob) → Nat → Prop} (h : K none ob g) : Tr ⟨P, w0, S0, nt, frs⟩ ⟨e, ob, g⟩ (Rnd ⟨P, w0, S0, nt, frs⟩ K .normal) := fun S at_ a w hr => ⟨S, at_, _, hr, h⟩
theorem p_rndR {K : Option Code → (Nat → Nat → Ob) → Nat → Prop} (h : K (some .ret) ob g) : Tr ⟨P, w0, S0, nt, frs⟩ ⟨e, ob, g⟩ (Rnd ⟨P, w0, S0, nt, frs⟩ K .ret) := fun S at_ a w hr => ⟨S, at_, _, hr, h⟩
theorem p_rndX {id : Nat} {K : Option Code → (Nat → Nat → Ob) → Nat → Prop} (h : K (some (.exit id)) ob g) : Tr ⟨P, w0, S0, nt, frs⟩ ⟨e, ob, g⟩ (Rnd ⟨P, w0, S0, nt, frs⟩ K (.exit id)) := fun S at_ a w hr => ⟨S, at_, _, hr, h⟩
end
end Go.Proofs.YtjjpmbaddpiamaaDoor
