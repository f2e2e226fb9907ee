import Derived.Test.YtjjpmbaddpiamaaDoorE
import Derived.Laws.StructEq
/-
  '==' and '!=' of structs whose fields are whole numbers, as a rule of the abstract machine.
-/
set_option linter.unusedSimpArgs false
set_option linter.unusedVariables false
namespace Go.Proofs.YtjjpmbaddpiamaaDoor
open Go.RowKit
/-- Fields that are whole numbers, one cell each. -/
def IntFields (P : Program) : Nat → List Field → List IntKind → Prop
  | _, [], [] => True
  | off, f :: fs, k :: ks => (f.name == "_") = false ∧ f.offset = off ∧ P.underlying f.type = some (.int k) ∧ IntFields P (off + 1) fs ks
  | _, _, _ => False
def IntStruct (P : Program) (t : TypeId) (ks : List IntKind) : Prop := ∃ fs, P.underlying t = some (.struct fs) ∧ P.stoodInHeld t = false ∧ P.eqGuardType P.depth t = false ∧ IntFields P 0 fs.toList ks
def intVs : List IntKind → List Int → List V
  | k :: ks, n :: ns => .int k n :: intVs ks ns
  | _, _ => []
def V.toI : V → Int
  | .int _ n => n
  | _ => 0
section
variable {P : Program} {w : World} {S : Nat → Prop} {at_ : At}
theorem eqFields_ints (d : Nat) (xs ys : Array Value) : ∀ (fs : List Field) (ks : List IntKind) (off : Nat) (ms ns : List Int), IntFields P off fs ks → ms.length = ks.length → ns.length = ks.length →
    (∀ j k m, ks[j]? = some k → ms[j]? = some m → xs[off + j]? = some (.int k m)) → (∀ j k m, ks[j]? = some k → ns[j]? = some m → ys[off + j]? = some (.int k m)) → (Op.eqFields (d + 1) xs ys fs).run P w = .ok (decide (ms = ns)) w
  | [], [], _, [], [], _, _, _, _, _ => by simp [Op.eqFields]
  | f :: fs, k :: ks, off, m :: ms, n :: ns, h, hm, hn, hx, hy => by
    obtain ⟨h1, h2, h3, h4⟩ := h
    have ih := eqFields_ints d xs ys fs ks (off + 1) ms ns h4 (by simpa using hm) (by simpa using hn) (fun j k m hk hj => by have := hx (j + 1) k m (by simpa using hk) (by simpa using hj); rwa [show off + 1 + j = off + (j + 1) by omega]) (fun j k m hk hj => by have := hy (j + 1) k m (by simpa using hk) (by simpa using hj); rwa [show off + 1 + j = off + (j + 1) by omega])
    have hx0 := hx 0 k m rfl rfl
    have hy0 := hy 0 k n rfl rfl
    have hlf : IsLeaf P f.type := ⟨_, h3, rfl⟩
    have hp : ∀ (zs : Array Value) (z : Value), zs[off]? = some z → (part f.type zs f.offset).run P w = .ok z w := fun zs z hz => by
      have h5 := (Array.getElem?_eq_some_iff.1 hz).1
      simp [part, isAgg_leaf hlf, h2, hz]
    have h1' : f.name ≠ "_" := by simpa using h1
    rw [Op.eqFields]
    simp only [if_pos h1', Sem.run_bind, hp xs _ hx0, hp ys _ hy0, Result.andThen_ok, run_equalIn_int w d f.type k k m n h3]
    by_cases he : m = n
    · subst he; simp [ih]
    · simp [he]
  | [], [], _, [], _ :: _, _, _, h, _, _ => by simp at h
  | [], [], _, _ :: _, _, _, h, _, _, _ => by simp at h
  | [], _ :: _, _, _, _, h, _, _, _, _ => h.elim
  | _ :: _, [], _, _, _, h, _, _, _, _ => h.elim
  | _ :: _, _ :: _, _, [], _, _, h, _, _, _ => by simp at h
  | _ :: _, _ :: _, _, _ :: _, [], _, _, h, _, _ => by simp at h
theorem intVs_get {cs : List Value} : ∀ {ks : List IntKind} {ms : List Int}, VRs P w S at_ (intVs ks ms) cs → ∀ (j : Nat) (k : IntKind) (m : Int), ks[j]? = some k → ms[j]? = some m → cs[j]? = some (Value.int k m)
  | [], _, _, j, k, m, hk, _ => by simp at hk
  | _ :: _, [], _, j, k, m, _, hm => by simp at hm
  | k :: ks, m :: ms, h, j, k', m', hk, hm => by
    cases cs with
    | nil => simp [intVs, VRs] at h
    | cons c cs =>
      simp only [intVs] at h
      rw [VRs] at h
      cases j with
      | zero => simp at hk hm; subst hk hm; have := h.1; rw [VR, RL] at this; simp [this]
      | succ j => simp at hk hm ⊢; exact intVs_get h.2 j k' m' hk hm
theorem equal_ints {t : TypeId} {ks : List IntKind} (ht : IntStruct P t ks) {ms ns : List Int} (hm : ms.length = ks.length) (hn : ns.length = ks.length) {xs ys : Array Value} (hx : VRs P w S at_ (intVs ks ms) xs.toList) (hy : VRs P w S at_ (intVs ks ns) ys.toList) :
    (Op.equal t (.agg xs) (.agg ys)).run P w = .ok (decide (ms = ns)) w := by
  obtain ⟨fs, h1, h2, h3, h4⟩ := ht
  have hf : P.fieldsOf t = fs := by simp [Program.fieldsOf, h1]
  show (Op.equalIn 10000 t (.agg xs) (.agg ys)).run P w = _
  rw [run_equalIn_struct (P := P) w 9999 t xs ys (by rw [hf]; exact h1) h2, hf]
  exact eqFields_ints 9998 xs ys fs.toList ks 0 ms ns h4 hm hn (fun j k m hk hj => by have := intVs_get hx j k m hk hj; simpa using this) (fun j k m hk hj => by have := intVs_get hy j k m hk hj; simpa using this)
theorem Stp.eqInts {c : Ctx} {st : St} {o : Oper} {d : Nat} {t t' : TypeId} {x y : Operand} {ks : List IntKind} {ms ns : List Int} (hd : o.dst = some d) (hnt : d < c.nt) (hop : o.op = .binOp .eql t x y t') (ht : IntStruct c.P t ks) (hm : ms.length = ks.length) (hn : ns.length = ks.length) (hx : st.ev x = .agg (intVs ks ms)) (hy : st.ev y = .agg (intVs ks ns)) : Stp c o st (st.put d (.bool (decide (ms = ns)))) :=
  Stp.val hd hnt fun S at_ a w hr => by
    have h1 := hr.ev x
    have h2 := hr.ev y
    rw [hx, VR] at h1
    rw [hy, VR] at h2
    obtain ⟨xs, h3, h4⟩ := h1
    obtain ⟨ys, h5, h6⟩ := h2
    have hg := ht
    obtain ⟨fs, _, _, hgt, _⟩ := hg
    refine ⟨.bool (decide (ms = ns)), ?_, by rw [VR, RL]⟩
    simp only [execOp, hop, h3, h5, Sem.run_bind, run_eqGuard_agg w .eql t x y xs ys hgt, Result.andThen_ok, binOp, equal_ints ht hm hn h4 h6, Sem.run_pure]
end
section
variable {P : Program} {w0 : World} {S0 : Nat → Prop} {nt : Nat} {frs : Frs} {e : Nat → V} {ob : Nat → Nat → Ob} {g : Nat} {Q : Exit → Act → World → Prop} {ops : Array Oper} {rest : List Oper} {d : Nat} {ty : TypeId} {pos : String} {aft : Array Edge} {m : Md}
theorem p_eqInts {t t' : TypeId} {x y : Operand} {ks : List IntKind} {ms ns : List Int} {b : Bool} (hn : d < nt := by decide) (ht : IntStruct P t ks) (hm : ms.length = ks.length) (hn' : ns.length = ks.length) (hx : evE e x = .agg (intVs ks ms) := by simp (decide := true) only [evE, upd, cv, args0, argsFrom, List.length_map, ↓reduceIte, hE] <;> rfl) (hy : evE e y = .agg (intVs ks ns) := by simp (decide := true) only [evE, upd, cv, args0, argsFrom, List.length_map, ↓reduceIte, hE] <;> rfl) (hb : decide (ms = ns) = b) (h : Wk (m.log ⟨some (d, .bool b), [], []⟩) ⟨P, w0, S0, nt, frs⟩ ops Q ⟨upd e d (.bool b), ob, g⟩ rest) :
    Wk m ⟨P, w0, S0, nt, frs⟩ ops Q ⟨e, ob, g⟩ (⟨some d, .binOp .eql t x y t', ty, pos, aft, none⟩ :: rest) := by
  subst hb
  exact Wk.op (Loc.plain rfl rfl fun st' hv' _ _ => Stp.eqInts (st := st') rfl hn rfl ht hm hn' ((hv' x (by simp [Op.operands])).trans ((evE_eq e ob g x).trans hx)) ((hv' y (by simp [Op.operands])).trans ((evE_eq e ob g y).trans hy))) h
theorem p_eqIntsL {t t' : TypeId} {x y : Operand} {ks : List IntKind} {l l' : List V} {b : Bool} (hn : d < nt := by decide) (ht : IntStruct P t ks) (hx : evE e x = .agg l := by simp (decide := true) only [evE, upd, cv, args0, argsFrom, List.length_map, ↓reduceIte, hE] <;> rfl) (hy : evE e y = .agg l' := by simp (decide := true) only [evE, upd, cv, args0, argsFrom, List.length_map, ↓reduceIte, hE] <;> rfl) (hl : intVs ks (l.map V.toI) = l := by exact rfl) (hl' : intVs ks (l'.map V.toI) = l' := by exact rfl) (hm : l.length = ks.length := by exact rfl) (hm' : l'.length = ks.length := by exact rfl) (hb : decide (l.map V.toI = l'.map V.toI) = b) (h : Wk (m.log ⟨some (d, .bool b), [], []⟩) ⟨P, w0, S0, nt, frs⟩ ops Q ⟨upd e d (.bool b), ob, g⟩ rest) :
    Wk m ⟨P, w0, S0, nt, frs⟩ ops Q ⟨e, ob, g⟩ (⟨some d, .binOp .eql t x y t', ty, pos, aft, none⟩ :: rest) :=
  p_eqInts hn ht (by simpa using hm) (by simpa using hm') (by rw [hl]; exact hx) (by rw [hl']; exact hy) hb h
end
end Go.Proofs.YtjjpmbaddpiamaaDoor
/-
  The abstract machine: other names for slices of the call's own; nil as an empty one; frozen ones in cells.
-/
set_option linter.unusedSimpArgs false
set_option linter.unusedVariables false
namespace Go.Proofs.YtjjpmbaddpiamaaDoor
open Go.RowKit
section
variable {c : Ctx} {S : Nat → Prop} {at_ : At} {st : St} {a : Act} {w : World}
theorem Rel.slotV (h : Rel c S at_ st a w) {s : Nat} {v : V} (hv : ∀ x, VR c.P w S at_ (st.env s) x → VR c.P w S at_ v x) : Rel c S at_ (st.put s v) a w :=
  { h with
    env := fun s' => by
      by_cases hs : s' = s
      · subst hs; simp only [St.put, upd, if_true]; exact hv _ (h.env s')
      · simp only [St.put, upd, if_neg hs]; exact h.env s'
    gen := h.gen, al := h.al, ok := h.ok, own := h.own, dis := h.dis }
theorem VRs.set {P : Program} {v v' : V} (hv : ∀ x, VR P w S at_ v x → VR P w S at_ v' x) : ∀ {cs : List V} {xs : List Value} {i : Nat}, VRs P w S at_ cs xs → cs[i]? = some v → VRs P w S at_ (cs.set i v') xs
  | [], _, i, _, hi => by simp at hi
  | _ :: _, [], _, h, _ => by simp [VRs] at h
  | u :: cs, x :: xs, i, h, hi => by
    rw [VRs] at h
    cases i with
    | zero => simp at hi; subst hi; rw [List.set_cons_zero, VRs]; exact ⟨hv _ h.1, h.2⟩
    | succ i => simp at hi; rw [List.set_cons_succ, VRs]; exact ⟨h.1, VRs.set hv h.2 hi⟩
theorem Rel.at_of (h : Rel c S at_ st a w) {g d : Nat} (hne : st.obj g d ≠ .none) : ∃ v, at_ g d = some v := by
  cases hv : at_ g d with
  | none => exact absurd ((h.al _ _).1 hv) hne
  | some v => exact ⟨v, rfl⟩
theorem Rel.cellV (h : Rel c S at_ st a w) {g d t i : Nat} {cs : List V} {v v' : V} (hobj : st.obj g d = .cells t cs) (hi : cs[i]? = some v) (hv : ∀ x, VR c.P w S at_ v x → VR c.P w S at_ v' x) : Rel c S at_ (st.set g d (.cells t (cs.set i v'))) a w := by
  obtain ⟨u, hat⟩ := h.at_of (g := g) (d := d) (by rw [hobj]; intro e; cases e)
  have hok := h.ok g d u hat
  rw [hobj] at hok
  obtain ⟨b, arr, rfl, h2, h3⟩ := hok
  exact h.write hat (by rw [hobj]; rfl) (b := b) rfl ⟨rfl, rfl, rfl, Nat.le_refl _, fun _ _ _ => rfl⟩ rfl rfl ⟨b, arr, rfl, h2, h3.set hv hi⟩ (by rw [hobj]; simp)
theorem Rel.newNil (h : Rel c S at_ st a w) {d e : Nat} (hn : st.obj st.gen d = .none) : Rel c S (updA at_ st.gen d (.slice none 0 0)) (st.set st.gen d (.row e [])) a w :=
  h.newObj hn rfl rfl rfl (Nat.le_refl _) (fun _ _ _ => rfl) (fun b hb => by simp [blkOf] at hb) rfl ⟨[], ⟨by simp, .inl ⟨rfl, rfl⟩⟩, rfl⟩
theorem Rel.rename (h : Rel c S at_ st a w) {g1 d1 d e : Nat} {xs : List V} (hobj : st.obj g1 d1 = .row e xs) (hn : st.obj st.gen d = .none) :
    ∃ v, at_ g1 d1 = some v ∧ (updA at_ st.gen d v) g1 d1 = some v ∧ Rel c S (updA at_ st.gen d v) ((st.set g1 d1 .dead).set st.gen d (.row e xs)) a w := by
  obtain ⟨v, hat⟩ := h.at_of (g := g1) (d := d1) (by rw [hobj]; intro e; cases e)
  have hne : ¬ (d = d1 ∧ st.gen = g1) := fun hh => by rw [hh.1, hh.2, hobj] at hn; cases hn
  have hne' : ¬ (d1 = d ∧ g1 = st.gen) := fun hh => hne ⟨hh.1.symm, hh.2.symm⟩
  have hok := h.ok g1 d1 v hat
  rw [hobj] at hok
  obtain ⟨flat, h1, h2⟩ := hok
  have hk := h.kill hat (by rw [hobj]; simp)
  have hlv : (st.obj g1 d1).live = true := by rw [hobj]; rfl
  have hnat : at_ st.gen d = none := (h.al _ _).2 hn
  refine ⟨v, hat, by simp [updA, hne', hat], hk.newObj (d := d) (v := v) (o := .row e xs) (by simp only [St.set, updO, if_neg hne]; exact hn) rfl rfl rfl (Nat.le_refl _) (fun _ _ _ => rfl) (fun b hb => ?_) rfl ⟨flat, h1, h2⟩⟩
  obtain ⟨k1, k2, k3⟩ := h.own g1 d1 v b hat hlv hb
  refine ⟨k1, k2, k3, fun g' d' v' hv' hl hb' => ?_⟩
  by_cases he : d' = d1 ∧ g' = g1
  · obtain ⟨rfl, rfl⟩ := he
    simp [St.set, updO, Ob.live] at hl
  · have hl' : (st.obj g' d').live = true := by simpa [St.set, updO, he] using hl
    have := h.dis g1 d1 g' d' v v' b hat hv' hlv hl' hb hb'
    exact he ⟨this.2.symm, this.1.symm⟩
end
section
variable {P : Program} {w0 : World} {S0 : Nat → Prop} {nt : Nat} {frs : Frs} {e : Nat → V} {ob : Nat → Nat → Ob} {g : Nat} {K : Act → World → Prop}
/-- nil in a cell, as an empty slice of the call's own with a name of its own. -/
theorem p_nilCell {g1 d1 t i el : Nat} (d : Nat) {cs cs' : List V} (ho : ob g1 d1 = .cells t cs := by simp (decide := true) only [updO, upd, true_and, and_true, false_and, and_false, ↓reduceIte, hE] <;> first | rfl | assumption) (hi : cs[i]? = some .nil := by exact rfl) (hn : ob g d = .none := by repeat (first | exact hf _ | with_reducible rfl | rw [updO_off (by decide)])) (hcs : cs.set i (.row g d 0) = cs' := by exact rfl) (h : Tr ⟨P, w0, S0, nt, frs⟩ ⟨e, updO (updO ob g d (.row el [])) g1 d1 (.cells t cs'), g⟩ K) : Tr ⟨P, w0, S0, nt, frs⟩ ⟨e, ob, g⟩ K := by
  subst hcs
  intro S at_ a w hr
  have h1 := hr.newNil (e := el) (d := d) hn
  have hne : ¬ (d1 = d ∧ g1 = g) := fun hh => by rw [hh.1, hh.2] at ho; rw [ho] at hn; cases hn
  refine h S _ a w (h1.cellV (g := g1) (d := d1) (t := t) (cs := cs) (i := i) (v := .nil) (by simp only [St.set, updO, if_neg hne]; exact ho) hi fun x hx => ?_)
  rw [VR, RL] at hx
  rw [VR]
  exact ⟨none, 0, 0, by simp [updA], Nat.le_refl _, hx⟩
theorem p_nilSlot {s el : Nat} (d : Nat) (hs : evE e (.tmp s) = .nil := by simp (decide := true) only [evE, upd, cv, args0, argsFrom, List.length_map, ↓reduceIte, hE] <;> rfl) (hn : ob g d = .none := by repeat (first | exact hf _ | with_reducible rfl | rw [updO_off (by decide)])) (h : Tr ⟨P, w0, S0, nt, frs⟩ ⟨upd e s (.row g d 0), updO ob g d (.row el []), g⟩ K) : Tr ⟨P, w0, S0, nt, frs⟩ ⟨e, ob, g⟩ K := by
  intro S at_ a w hr
  have h1 := hr.newNil (e := el) (d := d) hn
  refine h S _ a w (h1.slotV (s := s) fun x hx => ?_)
  rw [show ((⟨e, ob, g⟩ : St).set g d (.row el [])).env s = .nil from hs, VR, RL] at hx
  rw [VR]
  exact ⟨none, 0, 0, by simp [updA], Nat.le_refl _, hx⟩
theorem p_renCell {g1 d1 t i g2 d2 n el : Nat} (d : Nat) {cs cs' xs : List V} (ho : ob g1 d1 = .cells t cs := by simp (decide := true) only [updO, upd, true_and, and_true, false_and, and_false, ↓reduceIte, hE] <;> first | rfl | assumption) (hi : cs[i]? = some (.row g2 d2 n) := by exact rfl) (ho2 : ob g2 d2 = .row el xs := by simp (decide := true) only [updO, upd, true_and, and_true, false_and, and_false, ↓reduceIte, hE] <;> first | rfl | assumption) (hn : ob g d = .none := by repeat (first | exact hf _ | with_reducible rfl | rw [updO_off (by decide)])) (hcs : cs.set i (.row g d n) = cs' := by exact rfl)
    (h : Tr ⟨P, w0, S0, nt, frs⟩ ⟨e, updO (updO (updO ob g2 d2 .dead) g d (.row el xs)) g1 d1 (.cells t cs'), g⟩ K) : Tr ⟨P, w0, S0, nt, frs⟩ ⟨e, ob, g⟩ K := by
  subst hcs
  intro S at_ a w hr
  obtain ⟨v, hat, hat', h1⟩ := hr.rename (d := d) ho2 hn
  have hne : ¬ (d1 = d ∧ g1 = g) := fun hh => by rw [hh.1, hh.2] at ho; rw [ho] at hn; cases hn
  have hne2 : ¬ (d1 = d2 ∧ g1 = g2) := fun hh => by rw [hh.1, hh.2] at ho; rw [ho] at ho2; cases ho2
  refine h S _ a w (h1.cellV (g := g1) (d := d1) (t := t) (cs := cs) (i := i) (v := .row g2 d2 n) (by simp only [St.set, updO, if_neg hne, if_neg hne2]; exact ho) hi fun x hx => ?_)
  rw [VR] at hx ⊢
  obtain ⟨A, m, cp, k1, k2, k3⟩ := hx
  rw [hat'] at k1; cases k1
  exact ⟨A, m, cp, by simp [updA], k2, k3⟩
theorem p_renSlot {s g2 d2 n el : Nat} (d : Nat) {xs : List V} (hs : evE e (.tmp s) = .row g2 d2 n := by simp (decide := true) only [evE, upd, cv, args0, argsFrom, List.length_map, ↓reduceIte, hE] <;> rfl) (ho2 : ob g2 d2 = .row el xs := by simp (decide := true) only [updO, upd, true_and, and_true, false_and, and_false, ↓reduceIte, hE] <;> first | rfl | assumption) (hn : ob g d = .none := by repeat (first | exact hf _ | with_reducible rfl | rw [updO_off (by decide)]))
    (h : Tr ⟨P, w0, S0, nt, frs⟩ ⟨upd e s (.row g d n), updO (updO ob g2 d2 .dead) g d (.row el xs), g⟩ K) : Tr ⟨P, w0, S0, nt, frs⟩ ⟨e, ob, g⟩ K := by
  intro S at_ a w hr
  obtain ⟨v, hat, hat', h1⟩ := hr.rename (d := d) ho2 hn
  refine h S _ a w (h1.slotV (s := s) fun x hx => ?_)
  rw [show (((⟨e, ob, g⟩ : St).set g2 d2 .dead).set g d (.row el xs)).env s = .row g2 d2 n from hs, VR] at hx
  rw [VR]
  obtain ⟨A, m, cp, k1, k2, k3⟩ := hx
  rw [hat'] at k1; cases k1
  exact ⟨A, m, cp, by simp [updA], k2, k3⟩
/-- A frozen slice in a cell is one that is only read. -/
theorem p_cellSl {g1 d1 t i g2 d2 n el : Nat} {cs cs' xs : List V} (ho : ob g1 d1 = .cells t cs := by simp (decide := true) only [updO, upd, true_and, and_true, false_and, and_false, ↓reduceIte, hE] <;> first | rfl | assumption) (hi : cs[i]? = some (.row g2 d2 n) := by exact rfl) (ho2 : ob g2 d2 = .froz el xs := by simp (decide := true) only [updO, upd, true_and, and_true, false_and, and_false, ↓reduceIte, hE] <;> first | rfl | assumption) (hn : n = xs.length) (hcs : cs.set i (.sl el xs) = cs' := by exact rfl)
    (h : Tr ⟨P, w0, S0, nt, frs⟩ ⟨e, updO ob g1 d1 (.cells t cs'), g⟩ K) : Tr ⟨P, w0, S0, nt, frs⟩ ⟨e, ob, g⟩ K := by
  subst hcs
  intro S at_ a w hr
  refine h S _ a w (hr.cellV (g := g1) (d := d1) (t := t) (cs := cs) (i := i) (v := .row g2 d2 n) ho hi fun x hx => ?_)
  rw [VR] at hx
  obtain ⟨A, m, cp, h1, h2, rfl⟩ := hx
  have := hr.ok g2 d2 _ h1
  rw [show (⟨e, ob, g⟩ : St).obj g2 d2 = .froz el xs from ho2] at this
  simp only [ObOk, RL] at this
  obtain ⟨A', cp', h3, h4, h5⟩ := this
  cases h3
  rw [VR, RL]
  exact ⟨A, cp, by rw [hn], h4, h5⟩
theorem p_cellNil {g1 d1 t i el : Nat} {cs cs' : List V} (ho : ob g1 d1 = .cells t cs := by simp (decide := true) only [updO, upd, true_and, and_true, false_and, and_false, ↓reduceIte, hE] <;> first | rfl | assumption) (hi : cs[i]? = some .nil := by exact rfl) (hcs : cs.set i (.sl el []) = cs' := by exact rfl) (h : Tr ⟨P, w0, S0, nt, frs⟩ ⟨e, updO ob g1 d1 (.cells t cs'), g⟩ K) : Tr ⟨P, w0, S0, nt, frs⟩ ⟨e, ob, g⟩ K := by
  subst hcs
  intro S at_ a w hr
  refine h S _ a w (hr.cellV (g := g1) (d := d1) (t := t) (cs := cs) (i := i) (v := .nil) ho hi fun x hx => ?_)
  rw [VR, RL] at hx
  rw [VR, RL]
  exact ⟨none, 0, hx, Nat.le_refl _, .inl rfl⟩
theorem p_rets2 {dfs : List Dfr} {rd : Option Nat} {fn : Func} {Post : V → Prop} {x y : ResultVar} {v u : V} (hres : fn.results = #[x, y]) (h1 : (⟨e, ob, g⟩ : St).res P x v) (h2 : (⟨e, ob, g⟩ : St).res P y u) (hp : Post (.tup [v, u])) (hmk : dfs.all Dfr.isMark = true := by exact rfl) : Tr ⟨P, w0, S0, nt, ⟨[], dfs, rd⟩⟩ ⟨e, ob, g⟩ (Ret P fn S0 w0 Post .ret) :=
  Tr.rets (xs := [x, y]) (vs := [v, u]) (by rw [hres]) rfl (by simp) (fun j r q hr hq => by
    obtain _ | _ | j := j
    · simp at hr hq; subst hr hq; exact h1
    · simp at hr hq; subst hr hq; exact h2
    · simp at hr) hp hmk
theorem p_rets3 {dfs : List Dfr} {rd : Option Nat} {fn : Func} {Post : V → Prop} {x y z : ResultVar} {v u t : V} (hres : fn.results = #[x, y, z]) (h1 : (⟨e, ob, g⟩ : St).res P x v) (h2 : (⟨e, ob, g⟩ : St).res P y u) (h3 : (⟨e, ob, g⟩ : St).res P z t) (hp : Post (.tup [v, u, t])) (hmk : dfs.all Dfr.isMark = true := by exact rfl) : Tr ⟨P, w0, S0, nt, ⟨[], dfs, rd⟩⟩ ⟨e, ob, g⟩ (Ret P fn S0 w0 Post .ret) :=
  Tr.rets (xs := [x, y, z]) (vs := [v, u, t]) (by rw [hres]) rfl (by simp) (fun j r q hr hq => by
    obtain _ | _ | _ | j := j
    · simp at hr hq; subst hr hq; exact h1
    · simp at hr hq; subst hr hq; exact h2
    · simp at hr hq; subst hr hq; exact h3
    · simp at hr) hp hmk
/-- A result's variable that is a struct in memory. -/
theorem res_cell {s ty g1 d1 t size bytes : Nat} {cs : List V} {z : Value} (h1 : e s = .ptr g1 d1 0) (h2 : ob g1 d1 = .cells t cs) (ha : IsAgg P ty) (hi : TI P ty z size bytes) (hl : cs.length = size) (hr : cs.all V.isRL = true) : (⟨e, ob, g⟩ : St).res P (.cell s ty) (.agg cs) :=
  ⟨g1, d1, t, cs, h1, h2, .inr ⟨ha, z, size, bytes, hi, hl, hr, rfl⟩⟩
end
end Go.Proofs.YtjjpmbaddpiamaaDoor
