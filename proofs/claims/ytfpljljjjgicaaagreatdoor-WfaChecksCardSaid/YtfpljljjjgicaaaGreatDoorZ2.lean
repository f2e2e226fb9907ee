/-
  The abstract machine: calls that work in place on one row and make objects of their own.
-/
import Derived.Test.YtfpljljjjgicaaaGreatDoorZ1
set_option linter.unusedSimpArgs false
set_option linter.unusedVariables false
namespace Go.Proofs.YtfpljljjjgicaaaGreatDoor
open Go.RowKit
/-- What lies below a generation is as it was, but for one object. -/
def Low (g g1 d1 : Nat) (ob o : Nat → Nat → Ob) : Prop := ∀ g0 d0, g0 ≤ g → ¬ (g0 = g1 ∧ d0 = d1) → o g0 d0 = ob g0 d0
theorem Low.refl {g g1 d1 : Nat} {ob : Nat → Nat → Ob} : Low g g1 d1 ob ob := fun _ _ _ _ => rfl
theorem Low.up {g g1 d1 g2 d2 : Nat} {ob o : Nat → Nat → Ob} {v : Ob} (h : Low g g1 d1 ob o) (hg : g < g2) : Low g g1 d1 ob (updO o g2 d2 v) := fun g0 d0 h0 h1 => by
  rw [updO, if_neg (by omega)]; exact h g0 d0 h0 h1
theorem Low.row {g g1 d1 : Nat} {ob o : Nat → Nat → Ob} {v : Ob} (h : Low g g1 d1 ob o) : Low g g1 d1 ob (updO o g1 d1 v) := fun g0 d0 h0 h1 => by
  rw [updO, if_neg (by omega)]; exact h g0 d0 h0 h1
theorem Low.vals {g g1 d1 : Nat} {ob o : Nat → Nat → Ob} (h : Low g g1 d1 ob o) : ∀ {os : List (Nat × Nat)} {us : List Ob}, (∀ k ∈ os, k.1 ≤ g ∧ ¬ (k.1 = g1 ∧ k.2 = d1)) → valsO ob os = us → valsO o os = us
  | [], _, _, hv => hv
  | k :: os, us, hk, hv => by
    subst hv
    obtain ⟨h1, h2⟩ := hk k (by simp)
    rw [valsO, valsO, h k.1 k.2 h1 h2, Low.vals h (os := os) (fun k' hk' => hk k' (by simp [hk'])) rfl]
def FnE (P : Program) (f : FuncId) (args : List V) (g1 d1 : Nat) (row row' : Ob) (r : V) : Prop :=
  ∃ fn code nt, HasBody P f fn code ∧ fn.ntmps = nt ∧ args.length ≤ nt ∧ ∀ w0 S0 l ob g K, ob g1 d1 = row → g1 ≤ g → (∀ o g', g ≤ g' → Low g g1 d1 ob o → o g1 d1 = row' → K r o g') → TrC ⟨P, w0, S0, nt, ⟨l, [], none⟩⟩ ⟨args0 args, ob, g⟩ code (RetE ⟨P, w0, S0, nt, ⟨l, [], none⟩⟩ fn K)
theorem FnE.of {P : Program} {f : FuncId} {fn : Func} {code : Code} {nt : Nat} {args : List V} {g1 d1 : Nat} {row row' : Ob} {r : V} (hb : HasBody P f fn code) (hnt : fn.ntmps = nt) (hle : args.length ≤ nt)
    (h : ∀ w0 S0 l ob g K, ob g1 d1 = row → g1 ≤ g → (∀ o g', g ≤ g' → Low g g1 d1 ob o → o g1 d1 = row' → K r o g') → TrC ⟨P, w0, S0, nt, ⟨l, [], none⟩⟩ ⟨args0 args, ob, g⟩ code (RetE ⟨P, w0, S0, nt, ⟨l, [], none⟩⟩ fn K)) : FnE P f args g1 d1 row row' r := ⟨fn, code, nt, hb, hnt, hle, h⟩
section
variable {c : Ctx} {st : St}
/-- A call whose answer is a row of its own, as one step. -/
theorem Stp.callO {o : Oper} {d : Nat} {x : Operand} {f : FuncId} {fn : Func} {code : Code} {xs : Array Operand} {ts : Array TypeId} {vs : List V} {el : TypeId} {row : List V} {res : Nat → Nat → V} (dd : Nat) (hd : o.dst = some d) (hn : d < c.nt) (hop : o.op = .call { callee := .value x, args := xs, argTypes := ts })
    (hx : st.ev x = .fn f []) (hb : HasBody c.P f fn code) (hvs : xs.toList.map st.ev = vs) (hro : V.outs vs = true) (hf : FnO c.P f vs el row res) (hfr : st.obj st.gen dd = .none) : Stp c o st ⟨upd st.env d (res st.gen dd), updO st.obj st.gen dd (.row el row), st.gen⟩ := by
  intro S at_ a w hr next Q hk
  obtain ⟨arr, h1, hrun⟩ := call_run hr hop hx hb
  obtain rfl : arr = [] := by cases arr with | nil => rfl | cons => simp [VRs] at h1
  rw [List.append_nil] at hrun
  have hargs : VRs c.P w S (fun _ _ => none) vs (xs.toList.map a.eval) := by
    refine VRs.out vs _ hro (at_ := at_) ?_
    subst hvs
    generalize xs.toList = l
    induction l with
    | nil => simp [VRs]
    | cons y l ih => simp only [List.map_cons]; rw [VRs]; exact ⟨hr.ev y, ih⟩
  refine wpIn_enter hop hrun ?_
  refine (hf w S _ hr.globs hr.slt hargs).mono ?_
  rintro e w' ⟨v, rv, S', rfl, h1, h2, h3, ⟨flat, h4, h5⟩, h6, h7⟩
  rw [hd]
  have hr1 := hr.grow h1 h2 h3
  have hbase : c.w0.heap.size ≤ w.heap.size := hr.below.size
  have hr2 := hr1.newObj (d := dd) hfr (w' := w') (v := rv) (o := .row el row) rfl rfl rfl (Nat.le_refl _) (fun _ _ _ => rfl) (fun b hb => by
    obtain ⟨k1, k2, k3⟩ := h6 b hb
    refine ⟨by omega, k2, k3, fun g' d' v' hv' hl' he => ?_⟩
    have := hr.own g' d' v' b hv' hl' he
    omega) rfl ⟨flat, ownsRow_base h4 hbase, h5⟩
  exact hk S' _ _ w' (hr2.put hn (h7 _ _ _ (by simp [updA])))
end
section
variable {P : Program} {w0 : World} {S0 : Nat → Prop} {nt : Nat} {frs : Frs} {e : Nat → V} {ob : Nat → Nat → Ob} {g : Nat} {Q : Exit → Act → World → Prop} {ops : Array Oper} {rest : List Oper} {d : Nat} {ty : TypeId} {pos : String} {aft : Array Edge} {m : Md}
theorem p_callOD (dd : Nat) {x : Operand} {f : FuncId} {fn : Func} {code : Code} {xs : List Operand} {ts : Array TypeId} {vs : List V} {el : TypeId} {row : List V} {res : Nat → Nat → V} {v : V} (hn : d < nt := by decide) (hx : evE e x = .fn f [] := by simp (decide := true) only [evE, upd, cv, args0, argsFrom, List.length_map, ↓reduceIte, hE] <;> rfl) (hb : HasBody P f fn code) (hvs : xs.map (evE e) = vs := by simp (decide := true) only [List.map_cons, List.map_nil, List.cons_append, List.nil_append, List.append_nil, evE, upd, updO, cv, args0, List.getElem?_cons_zero, List.getElem?_cons_succ, Option.getD_some, List.length_map, ↓reduceIte, hE] <;> rfl) (hro : V.outs vs = true := by exact rfl) (hf : FnO P f vs el row res) (hfr : ob g dd = .none := by repeat (first | exact hf _ | with_reducible rfl | rw [updO_off (by decide)])) (hres : res g dd = v := by exact rfl)
    (h : Wk (m.log ⟨some (d, v), [(g, dd, .row el row)], [(g, dd)]⟩) ⟨P, w0, S0, nt, frs⟩ ops Q ⟨upd e d v, updO ob g dd (.row el row), g⟩ rest) : Wk m ⟨P, w0, S0, nt, frs⟩ ops Q ⟨e, ob, g⟩ (⟨some d, .call { callee := .value x, args := xs.toArray, argTypes := ts }, ty, pos, aft, none⟩ :: rest) := by
  subst hres
  refine Wk.op (st := ⟨e, ob, g⟩) (x := ⟨some (d, res g dd), [(g, dd, .row el row)], [(g, dd)]⟩) (Loc.plain rfl rfl fun st' hv' ho' hg' => ?_) h
  have hg2 : st'.gen = g := hg'
  have := Stp.callO (c := ⟨P, w0, S0, nt, frs⟩) (st := st') (o := ⟨some d, .call { callee := .value x, args := xs.toArray, argTypes := ts }, ty, pos, aft, none⟩) dd rfl hn rfl ((hv' x (by simp [Op.operands, Call.operands])).trans ((evE_eq e ob g x).trans hx)) hb (vs := vs) (by rw [← hvs]; exact ev_list (op := .call { callee := .value x, args := xs.toArray, argTypes := ts }) hv' (fun y hy => by simp [Op.operands, Call.operands]; exact .inr hy)) hro hf ((ho' (g, dd) (by simp)).trans hfr |> fun h => by rw [hg2]; exact h)
  rw [hg2] at this
  have he : (⟨upd st'.env d (res g dd), updO st'.obj g dd (.row el row), g⟩ : St) = Eff.put ⟨some (d, res g dd), [(g, dd, .row el row)], [(g, dd)]⟩ st' := by
    simp only [Eff.put, putW, List.foldl_cons, List.foldl_nil, hg2]
  rw [← he]; exact this
theorem p_callE (os : List (Nat × Nat)) {x : Operand} {f : FuncId} {xs : List Operand} {ts : Array TypeId} {args : List V} {g1 d1 : Nat} {row row' : Ob} {r : V} {us : List Ob} (hm : m = .lex := by exact rfl) (hn : d < nt := by decide) (hx : evE e x = .fn f [] := by simp (decide := true) only [evE, upd, cv, args0, argsFrom, List.length_map, ↓reduceIte, hE] <;> rfl) (hus : xs.map (evE e) = args := by simp (decide := true) only [List.map_cons, List.map_nil, List.cons_append, List.nil_append, List.append_nil, evE, upd, updO, cv, args0, List.getElem?_cons_zero, List.getElem?_cons_succ, Option.getD_some, List.length_map, ↓reduceIte, hE] <;> rfl)
    (hf : FnE P f args g1 d1 row row' r) (hrow : ob g1 d1 = row := by simp (decide := true) only [updO, upd, true_and, and_true, false_and, and_false, ↓reduceIte, hE] <;> first | rfl | assumption) (hg : g1 ≤ g) (hos : ∀ k ∈ os, k.1 ≤ g ∧ ¬ (k.1 = g1 ∧ k.2 = d1)) (hv : valsO ob os = us := by simp (decide := true) only [valsO, updO, upd, true_and, and_true, false_and, and_false, ↓reduceIte, hE] <;> rfl)
    (h : ∀ o g', g ≤ g' → valsO o os = us → o g1 d1 = row' → Wk .lex ⟨P, w0, S0, nt, frs⟩ ops Q ⟨upd e d r, o, g'⟩ rest) : Wk m ⟨P, w0, S0, nt, frs⟩ ops Q ⟨e, ob, g⟩ (⟨some d, .call { callee := .value x, args := xs.toArray, argTypes := ts }, ty, pos, aft, none⟩ :: rest) := by
  obtain ⟨fn, code, nt', hb, hnt, hle, hbody⟩ := hf
  refine p_enter (cap := []) (args := args) hb hnt hm hn hx (by rw [List.append_nil]; exact hus) hle fun a0 => ?_
  exact hbody w0 S0 _ ob g _ hrow hg fun o g' hg' hlow hrow' => h o g' hg' (hlow.vals hos hv) hrow'
/-- The least number that an invariant holds with. -/
noncomputable def muN (I : Nat → St → Prop) (st : St) : Nat := open Classical in if h : ∃ n, I n st ∧ ∀ m, I m st → n ≤ m then Classical.choose h else 0
theorem least_is {p : Nat → Prop} : ∀ {n : Nat}, p n → ∃ k, p k ∧ ∀ m, p m → k ≤ m := by
  intro n
  induction n using Nat.strongRecOn with
  | _ n ih =>
    intro hn
    by_cases h : ∃ m, m < n ∧ p m
    · obtain ⟨m, hm, hp⟩ := h; exact ih m hm hp
    · exact ⟨n, hn, fun m hm => Nat.le_of_not_lt fun hlt => h ⟨m, hlt, hm⟩⟩
theorem muN_is {I : Nat → St → Prop} {n : Nat} {st : St} (h : I n st) : I (muN I st) st ∧ muN I st ≤ n := by
  have hx := least_is (p := fun n => I n st) h
  unfold muN
  rw [dif_pos hx]
  exact ⟨(Classical.choose_spec hx).1, (Classical.choose_spec hx).2 n h⟩
theorem loopN_next {I : Nat → St → Prop} {m n : Nat} {st : St} (h : I m st) (hlt : m < n) : (∃ m, I m st) ∧ muN I st < n := ⟨⟨m, h⟩, Nat.lt_of_le_of_lt (muN_is h).2 hlt⟩
/-- A loop whose rounds are numbered downwards. -/
theorem p_loopN {body : Code} {vs : List V} {us : List Ob} (ks : List Nat) (os : List (Nat × Nat)) (I : Nat → St → Prop) (n0 : Nat) (h0 : I n0 ⟨e, ob, g⟩) (hround : ∀ n e' ob' g', valsE e' ks = vs → valsO ob' os = us → I n ⟨e', ob', g'⟩ → TrC ⟨P, w0, S0, nt, frs⟩ ⟨e', ob', g'⟩ body (Exit.then (Some ⟨P, w0, S0, nt, frs⟩ fun st' => (valsE st'.env ks = vs ∧ valsO st'.obj os = us) ∧ (∃ m, I m st') ∧ muN I st' < n) Q)) (hvs : valsE e ks = vs := by simp (decide := true) only [valsE, evE, upd, cv, args0, argsFrom, List.length_map, ↓reduceIte, hE] <;> rfl) (hus : valsO ob os = us := by simp (decide := true) only [valsO, updO, upd, true_and, and_true, false_and, and_false, ↓reduceIte, hE] <;> rfl) : TrC ⟨P, w0, S0, nt, frs⟩ ⟨e, ob, g⟩ (.loop body) Q := by
  refine p_loop (fun st => (valsE st.env ks = vs ∧ valsO st.obj os = us) ∧ ∃ m, I m st) (muN I) ⟨⟨hvs, hus⟩, n0, h0⟩ fun e' ob' g' h => ?_
  obtain ⟨⟨h1, h2⟩, m, hm⟩ := h
  have := hround (muN I ⟨e', ob', g'⟩) e' ob' g' h1 h2 (muN_is hm).1
  simpa only [and_assoc] using this
end
end Go.Proofs.YtfpljljjjgicaaaGreatDoor
