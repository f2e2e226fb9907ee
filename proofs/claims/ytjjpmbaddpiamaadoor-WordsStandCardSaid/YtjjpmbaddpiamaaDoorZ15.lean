/-
  The abstract machine: loops over functions that may panic; the mark of such a loop among what is left to do behind a body; four results; the rest of a text.
-/
import Derived.Test.YtjjpmbaddpiamaaDoorZ14
set_option linter.unusedSimpArgs false
set_option linter.unusedVariables false
namespace Go.Proofs.YtjjpmbaddpiamaaDoor
open Go.RowKit
section
variable {c : Ctx} {st : St} {Q : Exit → Act → World → Prop}
theorem Tr.rangeFuncP {gop : Operand} {ps : Array Tmp} {asg body code : Code} {f : FuncId} {fn : Func} {cap : List V} {nt : Nat} (hro : c.frs.rd = none) (hx : st.ev gop = .fn f cap) (hb : HasBody c.P f fn code) (hnt : fn.ntmps = nt) (hle : cap.length + 1 ≤ nt)
    (h : ∀ a0 a1, TrC ⟨c.P, c.w0, c.S0, nt, ⟨(st.env, a0, .mark (st.gen + 1) 1 :: c.frs.dfs) :: (ghostE (st.gen + 1), a1, []) :: c.frs.l, [], none⟩⟩ ⟨args0 (.yld (st.gen + 1) 0 :: cap), updO (updO st.obj (st.gen + 1) 1 .dfd) (st.gen + 1) 0 (.lp st.env c.nt ps asg body .ready none), st.gen + 1⟩ code
      (RetP ⟨c.P, c.w0, c.S0, nt, ⟨(st.env, a0, .mark (st.gen + 1) 1 :: c.frs.dfs) :: (ghostE (st.gen + 1), a1, []) :: c.frs.l, [], none⟩⟩ fn (RngK c st.env c.nt ps asg body Q (st.gen + 1)) (fun x o g => Tr ⟨c.P, c.w0, c.S0, c.nt, ⟨c.frs.l, .mark (st.gen + 1) 1 :: c.frs.dfs, none⟩⟩ ⟨st.env, o, g⟩ (Q (.panic (pan1 x)))))) : TrC c st (.rangeFunc gop ps asg body) Q := fun S at_ a w hr => by
  obtain ⟨arr, hcap, hg⟩ : ∃ arr : List Value, VRs c.P w S at_ cap arr ∧ a.eval gop = .func (.func f) #[] arr.toArray := by
    have h1 := hr.ev gop
    rw [hx, VR] at h1
    obtain ⟨arr, h2, h3⟩ := h1
    exact ⟨arr.toList, h3, by rw [h2]⟩
  have hr0 := hr.genUp
  have hn1 : st.obj (st.gen + 1) 1 = .none := hr.gen _ _ (Nat.lt_succ_self _)
  have hn0 : st.obj (st.gen + 1) 0 = .none := hr.gen _ _ (Nat.lt_succ_self _)
  have hr1 := hr0.alloc (d := 1) hn1 (ob := .deferred (some [])) (v := .pointer (some ⟨w.heap.size, 0, none⟩)) (o := .dfd) rfl rfl ⟨_, rfl, World.alloc_heap_new w _⟩
  have hn0' : (updO st.obj (st.gen + 1) 1 .dfd) (st.gen + 1) 0 = .none := by rw [updO_off (by decide)]; exact hn0
  refine wpIn_rangeFunc fun fid _ => ?_
  have hro' : (Fn c.frs.rd).round = none := hro
  rw [hro']
  obtain ⟨W1, hW1⟩ : ∃ W1, (w.alloc (.deferred (some []))).alloc (.loop { state := .ready, pending := none, fn := fid, tmps := a.tmps, params := ps, assign := asg, body, defers := w.heap.size }) = W1 := ⟨_, rfl⟩
  refine ⟨w.heap.size + 1, [{ target := .collected w.heap.size, args := #[] }], W1, { target := .fn (.func f) arr.toArray, args := #[.func (.yield (w.heap.size + 1)) #[] #[]] }, W1, f,
    #[.func (.yield (w.heap.size + 1)) #[] #[]] ++ arr.toArray, W1, by rw [← hW1]; exact run_enterLoop_outer _ _ _ _ _, ?_, fun _ _ => trivial, ?_, (fun hd => by cases hd), ?_⟩
  · simp only [resolve, hg]; simp [go_sem]
  · simp [invoke, go_sem, hb.call]
  refine callsIn_Fn ?_
  have hA : ∀ g' d' v', at_ g' d' = some v' → (updA at_ (st.gen + 1) 1 (.pointer (some ⟨w.heap.size, 0, none⟩))) g' d' = some v' := fun g' d' v' hv' => by
    unfold updA
    split
    · rename_i he; obtain ⟨rfl, rfl⟩ := he; rw [(hr.al _ _).2 hn1] at hv'; cases hv'
    · exact hv'
  have hr2 := hr1.alloc (d := 0) hn0' (ob := .loop { state := .ready, pending := none, fn := fid, tmps := a.tmps, params := ps, assign := asg, body, defers := w.heap.size }) (v := .pointer (some ⟨w.heap.size + 1, 0, none⟩)) (o := .lp st.env c.nt ps asg body .ready none) (by simp [blkOf]) rfl
    ⟨w.heap.size + 1, fid, a.tmps, w.heap.size, rfl, by have := World.alloc_heap_new (w.alloc (.deferred (some []))) (.loop { state := .ready, pending := none, fn := fid, tmps := a.tmps, params := ps, assign := asg, body, defers := w.heap.size }); rwa [World.size_alloc] at this, hr.size, fun k => by
      have h1 := hr1.env k
      refine VR.mono (fun _ h => h) (fun b hs => ?_) (fun g' d' v' hv' => ?_) _ _ h1
      · exact Below.heap_alloc _ _ _ (hr1.slt b hs)
      · unfold updA
        split
        · rename_i he; obtain ⟨rfl, rfl⟩ := he; exact absurd (hv'.symm.trans ((hr1.al (st.gen + 1) 0).2 hn0')) (by simp)
        · exact hv'⟩
  rw [hW1] at hr2
  have hA2 : ∀ g' d' v', (updA at_ (st.gen + 1) 1 (.pointer (some ⟨w.heap.size, 0, none⟩))) g' d' = some v' → (updA (updA at_ (st.gen + 1) 1 (.pointer (some ⟨w.heap.size, 0, none⟩))) (st.gen + 1) 0 (.pointer (some ⟨w.heap.size + 1, 0, none⟩))) g' d' = some v' := fun g' d' v' hv' => by
    show (if d' = 0 ∧ g' = st.gen + 1 then _ else _) = _
    split
    · rename_i he; obtain ⟨rfl, rfl⟩ := he; exact absurd (hv'.symm.trans ((hr1.al (st.gen + 1) 0).2 hn0')) (by simp)
    · exact hv'
  have hlen : cap.length = arr.length := VRs.length hcap
  have hcap2 : VRs c.P W1 S (updA (updA at_ (st.gen + 1) 1 (.pointer (some ⟨w.heap.size, 0, none⟩))) (st.gen + 1) 0 (.pointer (some ⟨w.heap.size + 1, 0, none⟩))) cap arr :=
    VRs.mono (fun _ h => h) (fun b hs => by rw [← hW1]; exact (Below.heap_alloc _ _ _ (by have := hr.slt b hs; simp; omega)).trans (Below.heap_alloc _ _ _ (hr.slt b hs))) (fun g' d' v' hv' => hA2 _ _ _ (hA _ _ _ hv')) _ _ hcap
  have hkeys : (⟨(st.env, ({ a with defers := { target := .collected w.heap.size, args := #[] } :: a.defers } : Act), Dfr.mark (st.gen + 1) 1 :: c.frs.dfs) :: (ghostE (st.gen + 1), ({ tmps := #[.func (.yield (w.heap.size + 1)) #[] #[]], defers := [] } : Act), []) :: c.frs.l, [], none⟩ : Frs).keys = (st.gen + 1, 1) :: c.frs.keys := by simp [Frs.keys, Frs.all, Dfr.key]
  have hm1 : DfrsR c.P W1 S (updA (updA at_ (st.gen + 1) 1 (.pointer (some ⟨w.heap.size, 0, none⟩))) (st.gen + 1) 0 (.pointer (some ⟨w.heap.size + 1, 0, none⟩))) (Dfr.mark (st.gen + 1) 1 :: c.frs.dfs) ({ target := .collected w.heap.size, args := #[] } :: a.defers) :=
    ⟨⟨w.heap.size, hA2 _ _ _ (by simp [updA]), rfl⟩, hr2.defers⟩
  have hr3 : Rel ⟨c.P, c.w0, c.S0, nt, ⟨(st.env, ({ a with defers := { target := .collected w.heap.size, args := #[] } :: a.defers } : Act), Dfr.mark (st.gen + 1) 1 :: c.frs.dfs) :: (ghostE (st.gen + 1), ({ tmps := #[.func (.yield (w.heap.size + 1)) #[] #[]], defers := [] } : Act), []) :: c.frs.l, [], none⟩⟩ S (updA (updA at_ (st.gen + 1) 1 (.pointer (some ⟨w.heap.size, 0, none⟩))) (st.gen + 1) 0 (.pointer (some ⟨w.heap.size + 1, 0, none⟩)))
      ⟨args0 (.yld (st.gen + 1) 0 :: cap), updO (updO st.obj (st.gen + 1) 1 .dfd) (st.gen + 1) 0 (.lp st.env c.nt ps asg body .ready none), st.gen + 1⟩
      { tmps := (#[Value.func (.yield (w.heap.size + 1)) #[] #[]] ++ arr.toArray) ++ Array.replicate (fn.ntmps - (#[Value.func (.yield (w.heap.size + 1)) #[] #[]] ++ arr.toArray).size) undef, defers := [] } _ :=
    { hr2 with
      defers := trivial
      size := by simp; omega
      env := fun s => by
        simp only [args0_eq]
        cases hs : (V.yld (st.gen + 1) 0 :: cap)[s]? with
        | none => rw [Option.getD_none, VR]; trivial
        | some v =>
          have hvals : VRs c.P W1 S (updA (updA at_ (st.gen + 1) 1 (.pointer (some ⟨w.heap.size, 0, none⟩))) (st.gen + 1) 0 (.pointer (some ⟨w.heap.size + 1, 0, none⟩))) (V.yld (st.gen + 1) 0 :: cap) (Value.func (.yield (w.heap.size + 1)) #[] #[] :: arr) := by
            rw [VRs]
            exact ⟨by rw [VR]; exact ⟨w.heap.size + 1, by simp [updA], rfl⟩, hcap2⟩
          obtain ⟨x, hx', hv⟩ := VRs.get hvals hs
          have hlt := (List.getElem?_eq_some_iff.1 hx').1
          have : ((#[Value.func (.yield (w.heap.size + 1)) #[] #[]] ++ arr.toArray) ++ Array.replicate (fn.ntmps - (#[Value.func (.yield (w.heap.size + 1)) #[] #[]] ++ arr.toArray).size) undef).getD s undef = x := by
            rw [Array.getD_eq_getD_getElem?, Array.getElem?_append_left (by simp at hlt ⊢; omega)]
            have : (#[Value.func (.yield (w.heap.size + 1)) #[] #[]] ++ arr.toArray : Array Value) = (Value.func (.yield (w.heap.size + 1)) #[] #[] :: arr).toArray := by apply Array.ext'; simp
            rw [this]
            simp only [List.getElem?_toArray, hx', Option.getD_some]
          rw [this]
          exact hv
      frs := fun p hp => by
        rcases List.mem_cons.1 hp with rfl | hp
        · exact ⟨hr2.env, hm1⟩
        · rcases List.mem_cons.1 hp with rfl | hp
          · refine ⟨fun s => ?_, trivial⟩
            cases s with
            | zero => show VR _ _ _ _ (V.yld _ _) _; rw [VR]; exact ⟨w.heap.size + 1, by simp [updA], rfl⟩
            | succ s => show VR _ _ _ _ V.top _; rw [VR]; trivial
          · exact hr2.frs p hp
      stk := fun k hk => by
        rw [hkeys] at hk
        rcases List.mem_cons.1 hk with rfl | hk
        · simp [updO]
        · exact hr2.stk k hk
      nod := by
        rw [hkeys, List.nodup_cons]
        refine ⟨fun hk => ?_, hr.nod⟩
        have := hr.stk _ hk
        rw [hn1] at this; cases this }
  refine (out_callsP hb.1 hb.2.2 (h { a with defers := { target := .collected w.heap.size, args := #[] } :: a.defers } { tmps := #[.func (.yield (w.heap.size + 1)) #[] #[]], defers := [] } S _ _ _ hr3)).mono ?_
  rintro e w' ⟨S2, at2, st2, a2, k1, hend⟩
  have hm := k1.frs (st.env, { a with defers := { target := .collected w.heap.size, args := #[] } :: a.defers }, .mark (st.gen + 1) 1 :: c.frs.dfs) (List.mem_cons_self ..)
  have fin : ∀ s pe, st2.obj (st.gen + 1) 0 = .lp st.env c.nt ps asg body s pe → s ≠ .busy → ∃ w'', (Instr.endLoop (w.heap.size + 1)).run c.P w' = .ok pe w'' ∧ Rel ⟨c.P, c.w0, c.S0, c.nt, ⟨c.frs.l, .mark (st.gen + 1) 1 :: c.frs.dfs, none⟩⟩ S2 at2 ⟨st.env, updO st2.obj (st.gen + 1) 0 .dead, st2.gen⟩ ({ a with defers := { target := .collected w.heap.size, args := #[] } :: a.defers }) w'' := by
    intro s pe hs hb'
    obtain ⟨b, fn', tmps', D, q1, q2, q3, q4, q5⟩ := k1.lpW hs
    have hbl : b = w.heap.size + 1 := by
      have := (k1.frs (ghostE (st.gen + 1), ({ tmps := #[.func (.yield (w.heap.size + 1)) #[] #[]], defers := [] } : Act), []) (List.mem_cons_of_mem _ (List.mem_cons_self ..))).1 0
      have h0 : VR c.P w' S2 at2 (V.yld (st.gen + 1) 0) (.func (.yield (w.heap.size + 1)) #[] #[]) := this
      rw [VR] at h0
      obtain ⟨b', h1, h2⟩ := h0
      rw [q1] at h1
      cases h1; cases h2; rfl
    subst hbl
    refine ⟨_, run_endLoop q2 hb', ?_⟩
    have k6 := (q5 .exhausted pe).kill (g := st.gen + 1) (d := 0) q1 (by simp [St.set, updO])
    have hm2 := k6.frs (st.env, { a with defers := { target := .collected w.heap.size, args := #[] } :: a.defers }, .mark (st.gen + 1) 1 :: c.frs.dfs) (List.mem_cons_self ..)
    have hob : updO (updO st2.obj (st.gen + 1) 0 (.lp st.env c.nt ps asg body .exhausted pe)) (st.gen + 1) 0 .dead = updO st2.obj (st.gen + 1) 0 .dead := by
      funext g' d'; unfold updO; split <;> rfl
    have hk2 : (⟨c.frs.l, Dfr.mark (st.gen + 1) 1 :: c.frs.dfs, none⟩ : Frs).keys = (st.gen + 1, 1) :: c.frs.keys := by simp [Frs.keys, Frs.all, Dfr.key]
    simp only [St.set, hob] at k6 hm2
    exact { defers := hm2.2, size := hr.size, env := hm2.1, frs := fun p hp => k6.frs p (List.mem_cons_of_mem _ (List.mem_cons_of_mem _ hp)), stk := fun k hk => k6.stk k (by rw [hkeys]; rw [hk2] at hk; exact hk)
            nod := by have := k6.nod; rw [hkeys] at this; rw [hk2]; exact this
            gen := k6.gen, al := k6.al, ok := k6.ok, own := k6.own, dis := k6.dis, slt := k6.slt, snew := k6.snew, sold := k6.sold, below := k6.below, glob := k6.glob }
  rcases hend with ⟨v, r, rfl, k3, k4⟩ | ⟨x, rfl, k4⟩
  · rcases k4 with ⟨k5, k6⟩ | ⟨cd, k5, k6⟩
    · obtain ⟨w'', e1, e2⟩ := fin _ _ k5 (by simp)
      exact ⟨none, w'', e1, k6 _ _ _ _ e2⟩
    · obtain ⟨w'', e1, e2⟩ := fin _ _ k5 (by simp)
      refine ⟨some cd, w'', e1, ?_⟩
      have := k6 _ _ _ _ e2
      show cd.wpIn (Fn c.frs.rd) 0 c.P Q _ _
      rw [hro]
      exact this
  · have hk2 : (⟨c.frs.l, Dfr.mark (st.gen + 1) 1 :: c.frs.dfs, none⟩ : Frs).keys = (st.gen + 1, 1) :: c.frs.keys := by simp [Frs.keys, Frs.all, Dfr.key]
    refine k4 S2 at2 { a with defers := { target := .collected w.heap.size, args := #[] } :: a.defers } w' ?_
    exact { defers := hm.2, size := hr.size, env := hm.1, frs := fun p hp => k1.frs p (List.mem_cons_of_mem _ (List.mem_cons_of_mem _ hp)), stk := fun k hk => k1.stk k (by rw [hkeys]; rw [hk2] at hk; exact hk)
            nod := by have := k1.nod; rw [hkeys] at this; rw [hk2]; exact this
            gen := k1.gen, al := k1.al, ok := k1.ok, own := k1.own, dis := k1.dis, slt := k1.slt, snew := k1.snew, sold := k1.sold, below := k1.below, glob := k1.glob }
end
section
variable {P : Program} {w0 : World} {S0 : Nat → Prop} {nt : Nat} {frs : Frs} {e : Nat → V} {ob : Nat → Nat → Ob} {g : Nat} {Q : Exit → Act → World → Prop} {ops : Array Oper} {rest : List Oper} {d : Nat} {ty : TypeId} {pos : String} {aft : Array Edge} {m : Md} {l : List ((Nat → V) × Act × List Dfr)} {dfs : List Dfr}
theorem p_rangeP {gop : Operand} {ps : Array Tmp} {asg body code : Code} {f : FuncId} {fn : Func} {cap : List V} {nt' : Nat} (hb : HasBody P f fn code) (hnt : fn.ntmps = nt') (hx : evE e gop = .fn f cap := by simp (decide := true) only [evE, upd, cv, args0, argsFrom, List.length_map, ↓reduceIte, hE] <;> rfl) (hle : cap.length + 1 ≤ nt' := by decide)
    (h : ∀ a0 a1, TrC ⟨P, w0, S0, nt', ⟨(e, a0, .mark (g + 1) 1 :: dfs) :: (ghostE (g + 1), a1, []) :: l, [], none⟩⟩ ⟨args0 (.yld (g + 1) 0 :: cap), updO (updO ob (g + 1) 1 .dfd) (g + 1) 0 (.lp e nt ps asg body .ready none), g + 1⟩ code
      (RetP ⟨P, w0, S0, nt', ⟨(e, a0, .mark (g + 1) 1 :: dfs) :: (ghostE (g + 1), a1, []) :: l, [], none⟩⟩ fn (RngK ⟨P, w0, S0, nt, ⟨l, dfs, none⟩⟩ e nt ps asg body Q (g + 1)) (fun x o g' => Tr ⟨P, w0, S0, nt, ⟨l, .mark (g + 1) 1 :: dfs, none⟩⟩ ⟨e, o, g'⟩ (Q (.panic (pan1 x)))))) : TrC ⟨P, w0, S0, nt, ⟨l, dfs, none⟩⟩ ⟨e, ob, g⟩ (.rangeFunc gop ps asg body) Q :=
  Tr.rangeFuncP (st := ⟨e, ob, g⟩) rfl ((evE_eq e ob g gop).trans hx) hb hnt hle h
/-- A new generation, between the parts of a text. -/
theorem p_up {K : Act → World → Prop} (h : (∀ d, ob (g + 1) d = .none) → Tr ⟨P, w0, S0, nt, frs⟩ ⟨e, ob, g + 1⟩ K) : Tr ⟨P, w0, S0, nt, frs⟩ ⟨e, ob, g⟩ K := fun S at_ a w hr =>
  h (fun d => hr.gen (g + 1) d (Nat.lt_succ_self _)) S at_ a w hr.genUp
/-- A loop's mark is taken, behind a body. -/
theorem Tr.leaveMark {fn : Func} {R : Ending → World → Prop} {u : FrameMode} {g d : Nat} {ds : List Dfr} {st : St} (hu : u ≠ .run) (h : Tr ⟨P, w0, S0, nt, ⟨l, ds, none⟩⟩ ⟨st.env, updO st.obj g d .dead, st.gen⟩ (Leave P fn R u)) : Tr ⟨P, w0, S0, nt, ⟨l, .mark g d :: ds, none⟩⟩ st (Leave P fn R u) := fun S at_ a w hr => by
  have hd := hr.defers
  cases hda : a.defers with
  | nil => rw [hda] at hd; exact hd.elim
  | cons x m =>
    rw [hda] at hd
    obtain ⟨⟨b, h1, rfl⟩, h2⟩ := hd
    have hkeys : (⟨l, .mark g d :: ds, none⟩ : Frs).keys = (g, d) :: (⟨l, ds, none⟩ : Frs).keys := by simp [Frs.keys, Frs.all, Dfr.key]
    have hstk : st.obj g d = .dfd := hr.stk (g, d) (by rw [hkeys]; exact List.mem_cons_self ..)
    have hnod := hr.nod
    rw [hkeys, List.nodup_cons] at hnod
    have hok := hr.ok g d _ h1
    rw [hstk] at hok
    obtain ⟨b', e, h3⟩ := hok
    cases e
    obtain ⟨o1, o2, o3⟩ := hr.own g d _ b h1 (by rw [hstk]; rfl) rfl
    have hr1 : Rel ⟨P, w0, S0, nt, ⟨l, ds, none⟩⟩ S at_ st { a with defers := m } w :=
      { hr with defers := h2, frs := hr.frs, stk := fun k hk => hr.stk k (by rw [hkeys]; exact List.mem_cons_of_mem _ hk), nod := hnod.2, size := hr.size, env := hr.env }
    have hw : ∀ k, k ≠ b → (w.putObj b (.deferred none)).heap[k]? = w.heap[k]? := fun k hk => World.putObj_heap_other hk
    have hsame : ∀ {g' d'}, ¬ (d' = d ∧ g' = g) → (updO st.obj g d .dead) g' d' = st.obj g' d' := fun hne => by simp [updO, hne]
    have hthis : (updO st.obj g d .dead) g d = .dead := by simp [updO]
    have hlv : ∀ {g' d'}, ((updO st.obj g d .dead) g' d').live = true → ¬ (d' = d ∧ g' = g) ∧ (st.obj g' d').live = true := fun {g' d'} hh => by
      by_cases he : d' = d ∧ g' = g
      · obtain ⟨rfl, rfl⟩ := he; rw [hthis] at hh; simp [Ob.live] at hh
      · exact ⟨he, by rwa [hsame he] at hh⟩
    have hr2 : Rel ⟨P, w0, S0, nt, ⟨l, ds, none⟩⟩ S at_ ⟨st.env, updO st.obj g d .dead, st.gen⟩ { a with defers := m } (w.putObj b (.deferred none)) := by
      refine hr1.moveK (obj' := updO st.obj g d .dead) (at' := at_) (S' := S) ?_ (by simp) (fun _ h => h) (fun k hk => by simpa using hr.slt k hk) hr.snew (fun k hk => hw k fun e => o3 (e ▸ hk)) (fun _ _ _ h => h) ?_ ?_ ?_ ?_ ?_ ?_
      · exact ⟨hr.below.os, hr.below.tape, hr.below.output, by simpa using hr.below.size, fun k hk => (hw k (by have : w0.heap.size ≤ b := o1; show k ≠ b; have hk' : k < w0.heap.size := hk; omega)).trans (hr.below.block k hk)⟩
      · intro k hk
        by_cases he : k.2 = d ∧ k.1 = g
        · exact absurd (by rw [← he.1, ← he.2]; exact hk) hnod.1
        · rw [hsame he]; exact hr1.stk k hk
      · intro g' d' hg'
        by_cases he : d' = d ∧ g' = g
        · obtain ⟨rfl, rfl⟩ := he
          have := hr.gen g' d' hg'
          rw [hstk] at this; cases this
        · rw [hsame he]; exact hr.gen g' d' hg'
      · intro g' d'
        by_cases he : d' = d ∧ g' = g
        · obtain ⟨rfl, rfl⟩ := he
          rw [hthis, h1]
          exact ⟨(fun e => by cases e), fun e => by cases e⟩
        · rw [hsame he]; exact hr.al g' d'
      · intro g' d' v' hv'
        by_cases he : d' = d ∧ g' = g
        · obtain ⟨rfl, rfl⟩ := he; rw [hthis]; trivial
        · rw [hsame he]
          refine (hr.ok g' d' v' hv').mono (fun _ h => h) (fun k hk => hw k fun e => o3 (e ▸ hk)) (fun _ _ _ h => h) fun hl2 b' hb' => hw b' fun e => ?_
          subst e
          have := hr.dis g' d' g d v' _ b' hv' h1 hl2 (by rw [hstk]; rfl) hb' rfl
          exact he ⟨this.2, this.1⟩
      · intro g' d' v' b' k1 k2 k3
        have := hr.own g' d' v' b' k1 (hlv k2).2 k3
        exact ⟨this.1, by simpa using this.2.1, this.2.2⟩
      · intro g1 d1 g2 d2 v1 v2 b' k1 k2 k3 k4 k5 k6
        exact hr.dis g1 d1 g2 d2 v1 v2 b' k1 k2 (hlv k3).2 (hlv k4).2 k5 k6
    show LeavesInM Fence.wide 0 P fn a.tmps R a.defers u w
    rw [hda]
    exact ⟨hu, .inl ⟨b, w.putObj b (.deferred none), rfl, run_takeDeferred h3, h S at_ { a with defers := m } _ hr2⟩⟩
theorem p_leaveMark {fn : Func} {R : Ending → World → Prop} {u : FrameMode} {g1 d1 : Nat} {ds : List Dfr} (hu : u ≠ .run := by simp) (h : Tr ⟨P, w0, S0, nt, ⟨l, ds, none⟩⟩ ⟨e, updO ob g1 d1 .dead, g⟩ (Leave P fn R u)) : Tr ⟨P, w0, S0, nt, ⟨l, .mark g1 d1 :: ds, none⟩⟩ ⟨e, ob, g⟩ (Leave P fn R u) := Tr.leaveMark (st := ⟨e, ob, g⟩) hu h
variable {fn : Func} {K : V → (Nat → Nat → Ob) → Nat → Prop}
theorem p_retW4 {x y z t : ResultVar} {v1 v2 v3 v4 : V} (hres : fn.results = #[x, y, z, t]) (h1 : (⟨e, ob, g⟩ : St).resW P x v1) (h2 : (⟨e, ob, g⟩ : St).resW P y v2) (h3 : (⟨e, ob, g⟩ : St).resW P z v3) (h4 : (⟨e, ob, g⟩ : St).resW P t v4) (hK : K (.tup [v1, v2, v3, v4]) ob g) : Tr ⟨P, w0, S0, nt, ⟨l, [], none⟩⟩ ⟨e, ob, g⟩ (RetE ⟨P, w0, S0, nt, ⟨l, [], none⟩⟩ fn K .ret) := fun S at_ a w hr => by
  obtain ⟨u1, k1, k2⟩ := resW_run hr h1
  obtain ⟨u2, k3, k4⟩ := resW_run hr h2
  obtain ⟨u3, k5, k6⟩ := resW_run hr h3
  obtain ⟨u4, k7, k8⟩ := resW_run hr h4
  refine hr.leave0 ⟨.tuple #[u1, u2, u3, u4], ?_, _, S, at_, _, a, .tup [v1, v2, v3, v4], rfl, hr, by rw [VR]; exact ⟨#[u1, u2, u3, u4], rfl, by simp [VRs, k2, k4, k6, k8]⟩, hK⟩
  have harr : (fn.results.mapM (resOf a)).run P w = .ok #[u1, u2, u3, u4] w := by
    rw [hres]
    simp [k1, k3, k5, k7]
  have heq : results fn a.tmps = (do let vs ← fn.results.mapM (resOf a); pure (if h : vs.size = 1 then vs[0] else .tuple vs)) := rfl
  rw [heq, Sem.run_bind, harr]
  simp
end
section
variable {c : Ctx} {o : Oper} {st : St} {d : Nat}
theorem Stp.strTail {t : TypeId} {x z : Operand} {s : ByteArray} {h : Nat} (hd : o.dst = some d) (hn : d < c.nt) (hop : o.op = .slice t x (some z) none none) (ht : c.P.underlying t = some .string) (hx : st.ev x = .str s) (hz : st.ev z = .int .i64 h) (hh : h ≤ s.size) : Stp c o st (st.put d (.str (s.extract h s.size))) :=
  Stp.val hd hn fun S at_ ac w hr => by
    have h1 := hr.ev x
    have h3 := hr.ev z
    rw [hx, VR, RL] at h1
    rw [hz, VR, RL] at h3
    refine ⟨.string (s.extract h s.size), ?_, by rw [VR, RL]⟩
    simp [execOp, hop, h1, h3, Instr.sliceAt, Instr.slice, run_underlying ht, Instr.sliceBounds, Instr.sliceBound, asIntOf]
    intro h4; omega
theorem Stp.neqIface {t t' s : TypeId} {x : Operand} {v : Value} {ms : Array (String × TypeId)} (hd : o.dst = some d) (hn : d < c.nt) (hop : o.op = .binOp .neq t x (.const .nilIface) t') (ht : c.P.underlying t = some (.interface ms)) (hx : st.ev x = .any (.iface s v)) : Stp c o st (st.put d (.bool true)) :=
  Stp.val hd hn fun S at_ a w hr => by
    have h1 := hr.ev x
    rw [hx, VR, RL] at h1
    have hg : (eqGuard .neq t x (.const .nilIface) (.iface s v) .nilIface).run c.P w = .ok () w := rfl
    refine ⟨.bool true, ?_, by rw [VR, RL]⟩
    simp only [execOp, hop, h1.1, show a.eval (.const .nilIface) = .nilIface from rfl, Sem.run_bind, hg, Result.andThen_ok, binOp, equal_ifaceNil ht, Sem.run_pure, Bool.not_true, Bool.not_false]
theorem Stp.neqNilIface {t t' : TypeId} {x : Operand} {ms : Array (String × TypeId)} (hd : o.dst = some d) (hn : d < c.nt) (hop : o.op = .binOp .neq t x (.const .nilIface) t') (ht : c.P.underlying t = some (.interface ms)) (hx : st.ev x = .any .nilIface) : Stp c o st (st.put d (.bool false)) :=
  Stp.val hd hn fun S at_ a w hr => by
    have h1 := hr.ev x
    rw [hx, VR, RL] at h1
    have hg : (eqGuard .neq t x (.const .nilIface) .nilIface .nilIface).run c.P w = .ok () w := by simp [eqGuard]
    refine ⟨.bool false, ?_, by rw [VR, RL]⟩
    simp only [execOp, hop, h1.1, show a.eval (.const .nilIface) = .nilIface from rfl, Sem.run_bind, hg, Result.andThen_ok, binOp, equal_nilNil ht, Sem.run_pure, Bool.not_true, Bool.not_false]
variable {P : Program} {w0 : World} {S0 : Nat → Prop} {nt : Nat} {frs : Frs} {e : Nat → V} {ob : Nat → Nat → Ob} {g : Nat} {Q : Exit → Act → World → Prop} {ops : Array Oper} {rest : List Oper} {ty : TypeId} {pos : String} {aft : Array Edge} {m : Md}
theorem p_strTail {t : TypeId} {x z : Operand} {s : ByteArray} {h' : Nat} [ht : StrC P t] (hn : d < nt := by decide) (hx : evE e x = .str s := by exact eV_) (hz : evE e z = .int .i64 h' := by exact eV_) (hh : h' ≤ s.size) (h : Wk (m.log ⟨some (d, (.str (s.extract h' s.size))), [], []⟩) ⟨P, w0, S0, nt, frs⟩ ops Q ⟨upd e d (.str (s.extract h' s.size)), ob, g⟩ rest) : Wk m ⟨P, w0, S0, nt, frs⟩ ops Q ⟨e, ob, g⟩ (⟨some d, .slice t x (some z) none none, ty, pos, aft, none⟩ :: rest) :=
  Wk.op (Loc.plain rfl rfl fun st' hv' ho' hg => Stp.strTail rfl hn rfl ht.h ((hv' x (by simp [Op.operands, Call.operands])).trans ((evE_eq e ob g x).trans hx)) ((hv' z (by simp [Op.operands, Call.operands])).trans ((evE_eq e ob g z).trans hz)) hh) h
theorem p_neqIface {t t' s : TypeId} {x : Operand} {v : Value} {ms : Array (String × TypeId)} (hn : d < nt := by decide) (ht : P.underlying t = some (.interface ms)) (hx : evE e x = .any (.iface s v) := by exact eV_) (h : Wk (m.log ⟨some (d, (.bool true)), [], []⟩) ⟨P, w0, S0, nt, frs⟩ ops Q ⟨upd e d (.bool true), ob, g⟩ rest) : Wk m ⟨P, w0, S0, nt, frs⟩ ops Q ⟨e, ob, g⟩ (⟨some d, .binOp .neq t x (.const .nilIface) t', ty, pos, aft, none⟩ :: rest) :=
  Wk.op (Loc.plain rfl rfl fun st' hv' ho' hg => Stp.neqIface rfl hn rfl ht ((hv' x (by simp [Op.operands, Call.operands])).trans ((evE_eq e ob g x).trans hx))) h
theorem p_neqNilIface {t t' : TypeId} {x : Operand} {ms : Array (String × TypeId)} (hn : d < nt := by decide) (ht : P.underlying t = some (.interface ms)) (hx : evE e x = .any .nilIface := by exact eV_) (h : Wk (m.log ⟨some (d, (.bool false)), [], []⟩) ⟨P, w0, S0, nt, frs⟩ ops Q ⟨upd e d (.bool false), ob, g⟩ rest) : Wk m ⟨P, w0, S0, nt, frs⟩ ops Q ⟨e, ob, g⟩ (⟨some d, .binOp .neq t x (.const .nilIface) t', ty, pos, aft, none⟩ :: rest) :=
  Wk.op (Loc.plain rfl rfl fun st' hv' ho' hg => Stp.neqNilIface rfl hn rfl ht ((hv' x (by simp [Op.operands, Call.operands])).trans ((evE_eq e ob g x).trans hx))) h
end
end Go.Proofs.YtjjpmbaddpiamaaDoor
