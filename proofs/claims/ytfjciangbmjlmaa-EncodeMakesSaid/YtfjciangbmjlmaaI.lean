/-
  The abstract machine: other names for slices of the call's own; nil as an empty one; frozen ones in cells.
-/
import Derived.Test.YtfjciangbmjlmaaH
set_option linter.unusedSimpArgs false
set_option linter.unusedVariables false
namespace Go.Proofs.Ytfjciangbmjlmaa
open Go.RowKit
section
variable {c : Ctx} {S : Nat → Prop} {at_ : At} {st : St} {a : Act} {w : World}
theorem Rel.slotV (h : Rel c S at_ st a w) {s : Nat} {v : V} (hv : ∀ x, VR c.P w S at_ (st.env s) x → VR c.P w S at_ v x) : Rel c S at_ (st.put s v) a w :=
  { h with
    env := fun s' => by
      by_cases hs : s' = s
      · subst hs; simp only [St.put, upd, if_true]; exact hv _ (h.env s')
      · simp only [St.put, upd, if_neg hs]; exact h.env s'
    gen := h.gen, al := h.al, ok := h.ok, own := h.own, dis := h.dis }
theorem VRs.set {P : Program} {v v' : V} (hv : ∀ x, VR P w S at_ v x → VR P w S at_ v' x) : ∀ {cs : List V} {xs : List Value} {i : Nat}, VRs P w S at_ cs xs → cs[i]? = some v → VRs P w S at_ (cs.set i v') xs
  | [], _, i, _, hi => by simp at hi
  | _ :: _, [], _, h, _ => by simp [VRs] at h
  | u :: cs, x :: xs, i, h, hi => by
    rw [VRs] at h
    cases i with
    | zero => simp at hi; subst hi; rw [List.set_cons_zero, VRs]; exact ⟨hv _ h.1, h.2⟩
    | succ i => simp at hi; rw [List.set_cons_succ, VRs]; exact ⟨h.1, VRs.set hv h.2 hi⟩
theorem Rel.at_of (h : Rel c S at_ st a w) {g d : Nat} (hne : st.obj g d ≠ .none) : ∃ v, at_ g d = some v := by
  cases hv : at_ g d with
  | none => exact absurd ((h.al _ _).1 hv) hne
  | some v => exact ⟨v, rfl⟩
theorem Rel.cellV (h : Rel c S at_ st a w) {g d t i : Nat} {cs : List V} {v v' : V} (hobj : st.obj g d = .cells t cs) (hi : cs[i]? = some v) (hv : ∀ x, VR c.P w S at_ v x → VR c.P w S at_ v' x) : Rel c S at_ (st.set g d (.cells t (cs.set i v'))) a w := by
  obtain ⟨u, hat⟩ := h.at_of (g := g) (d := d) (by rw [hobj]; intro e; cases e)
  have hok := h.ok g d u hat
  rw [hobj] at hok
  obtain ⟨b, arr, rfl, h2, h3⟩ := hok
  exact h.write hat (by rw [hobj]; rfl) (b := b) rfl ⟨rfl, rfl, rfl, Nat.le_refl _, fun _ _ _ => rfl⟩ rfl rfl ⟨b, arr, rfl, h2, h3.set hv hi⟩
theorem Rel.newNil (h : Rel c S at_ st a w) {d e : Nat} (hn : st.obj st.gen d = .none) : Rel c S (updA at_ st.gen d (.slice none 0 0)) (st.set st.gen d (.row e [])) a w :=
  h.newObj hn rfl rfl rfl (Nat.le_refl _) (fun _ _ _ => rfl) (fun b hb => by simp [blkOf] at hb) rfl ⟨[], ⟨by simp, .inl ⟨rfl, rfl⟩⟩, rfl⟩
theorem Rel.rename (h : Rel c S at_ st a w) {g1 d1 d e : Nat} {xs : List V} (hobj : st.obj g1 d1 = .row e xs) (hn : st.obj st.gen d = .none) :
    ∃ v, at_ g1 d1 = some v ∧ (updA at_ st.gen d v) g1 d1 = some v ∧ Rel c S (updA at_ st.gen d v) ((st.set g1 d1 .dead).set st.gen d (.row e xs)) a w := by
  obtain ⟨v, hat⟩ := h.at_of (g := g1) (d := d1) (by rw [hobj]; intro e; cases e)
  have hne : ¬ (d = d1 ∧ st.gen = g1) := fun hh => by rw [hh.1, hh.2, hobj] at hn; cases hn
  have hne' : ¬ (d1 = d ∧ g1 = st.gen) := fun hh => hne ⟨hh.1.symm, hh.2.symm⟩
  have hok := h.ok g1 d1 v hat
  rw [hobj] at hok
  obtain ⟨flat, h1, h2⟩ := hok
  have hk := h.kill hat
  have hlv : (st.obj g1 d1).live = true := by rw [hobj]; rfl
  have hnat : at_ st.gen d = none := (h.al _ _).2 hn
  refine ⟨v, hat, by simp [updA, hne', hat], hk.newObj (d := d) (v := v) (o := .row e xs) (by simp only [St.set, updO, if_neg hne]; exact hn) rfl rfl rfl (Nat.le_refl _) (fun _ _ _ => rfl) (fun b hb => ?_) rfl ⟨flat, h1, h2⟩⟩
  obtain ⟨k1, k2, k3⟩ := h.own g1 d1 v b hat hlv hb
  refine ⟨k1, k2, k3, fun g' d' v' hv' hl hb' => ?_⟩
  by_cases he : d' = d1 ∧ g' = g1
  · obtain ⟨rfl, rfl⟩ := he
    simp [St.set, updO, Ob.live] at hl
  · have hl' : (st.obj g' d').live = true := by simpa [St.set, updO, he] using hl
    have := h.dis g1 d1 g' d' v v' b hat hv' hlv hl' hb hb'
    exact he ⟨this.2.symm, this.1.symm⟩
end
section
variable {P : Program} {w0 : World} {S0 : Nat → Prop} {nt : Nat} {frs : List ((Nat → V) × Act)} {e : Nat → V} {ob : Nat → Nat → Ob} {g : Nat} {K : Act → World → Prop}
/-- nil in a cell, as an empty slice of the call's own with a name of its own. -/
theorem p_nilCell {g1 d1 t i el : Nat} (d : Nat) {cs cs' : List V} (ho : ob g1 d1 = .cells t cs := by simp (decide := true) only [updO, upd, true_and, and_true, false_and, and_false, ↓reduceIte, hE] <;> first | rfl | assumption) (hi : cs[i]? = some .nil := by exact rfl) (hn : ob g d = .none := by repeat (first | exact hf _ | with_reducible rfl | rw [updO_off (by decide)])) (hcs : cs.set i (.row g d 0) = cs' := by exact rfl) (h : Tr ⟨P, w0, S0, nt, frs⟩ ⟨e, updO (updO ob g d (.row el [])) g1 d1 (.cells t cs'), g⟩ K) : Tr ⟨P, w0, S0, nt, frs⟩ ⟨e, ob, g⟩ K := by
  subst hcs
  intro S at_ a w hr
  have h1 := hr.newNil (e := el) (d := d) hn
  have hne : ¬ (d1 = d ∧ g1 = g) := fun hh => by rw [hh.1, hh.2] at ho; rw [ho] at hn; cases hn
  refine h S _ a w (h1.cellV (g := g1) (d := d1) (t := t) (cs := cs) (i := i) (v := .nil) (by simp only [St.set, updO, if_neg hne]; exact ho) hi fun x hx => ?_)
  rw [VR, RL] at hx
  rw [VR]
  exact ⟨none, 0, 0, by simp [updA], Nat.le_refl _, hx⟩
theorem p_nilSlot {s el : Nat} (d : Nat) (hs : evE e (.tmp s) = .nil := by simp (decide := true) only [evE, upd, cv, args0, argsFrom, List.length_map, ↓reduceIte, hE] <;> rfl) (hn : ob g d = .none := by repeat (first | exact hf _ | with_reducible rfl | rw [updO_off (by decide)])) (h : Tr ⟨P, w0, S0, nt, frs⟩ ⟨upd e s (.row g d 0), updO ob g d (.row el []), g⟩ K) : Tr ⟨P, w0, S0, nt, frs⟩ ⟨e, ob, g⟩ K := by
  intro S at_ a w hr
  have h1 := hr.newNil (e := el) (d := d) hn
  refine h S _ a w (h1.slotV (s := s) fun x hx => ?_)
  rw [show ((⟨e, ob, g⟩ : St).set g d (.row el [])).env s = .nil from hs, VR, RL] at hx
  rw [VR]
  exact ⟨none, 0, 0, by simp [updA], Nat.le_refl _, hx⟩
theorem p_renCell {g1 d1 t i g2 d2 n el : Nat} (d : Nat) {cs cs' xs : List V} (ho : ob g1 d1 = .cells t cs := by simp (decide := true) only [updO, upd, true_and, and_true, false_and, and_false, ↓reduceIte, hE] <;> first | rfl | assumption) (hi : cs[i]? = some (.row g2 d2 n) := by exact rfl) (ho2 : ob g2 d2 = .row el xs := by simp (decide := true) only [updO, upd, true_and, and_true, false_and, and_false, ↓reduceIte, hE] <;> first | rfl | assumption) (hn : ob g d = .none := by repeat (first | exact hf _ | with_reducible rfl | rw [updO_off (by decide)])) (hcs : cs.set i (.row g d n) = cs' := by exact rfl)
    (h : Tr ⟨P, w0, S0, nt, frs⟩ ⟨e, updO (updO (updO ob g2 d2 .dead) g d (.row el xs)) g1 d1 (.cells t cs'), g⟩ K) : Tr ⟨P, w0, S0, nt, frs⟩ ⟨e, ob, g⟩ K := by
  subst hcs
  intro S at_ a w hr
  obtain ⟨v, hat, hat', h1⟩ := hr.rename (d := d) ho2 hn
  have hne : ¬ (d1 = d ∧ g1 = g) := fun hh => by rw [hh.1, hh.2] at ho; rw [ho] at hn; cases hn
  have hne2 : ¬ (d1 = d2 ∧ g1 = g2) := fun hh => by rw [hh.1, hh.2] at ho; rw [ho] at ho2; cases ho2
  refine h S _ a w (h1.cellV (g := g1) (d := d1) (t := t) (cs := cs) (i := i) (v := .row g2 d2 n) (by simp only [St.set, updO, if_neg hne, if_neg hne2]; exact ho) hi fun x hx => ?_)
  rw [VR] at hx ⊢
  obtain ⟨A, m, cp, k1, k2, k3⟩ := hx
  rw [hat'] at k1; cases k1
  exact ⟨A, m, cp, by simp [updA], k2, k3⟩
theorem p_renSlot {s g2 d2 n el : Nat} (d : Nat) {xs : List V} (hs : evE e (.tmp s) = .row g2 d2 n := by simp (decide := true) only [evE, upd, cv, args0, argsFrom, List.length_map, ↓reduceIte, hE] <;> rfl) (ho2 : ob g2 d2 = .row el xs := by simp (decide := true) only [updO, upd, true_and, and_true, false_and, and_false, ↓reduceIte, hE] <;> first | rfl | assumption) (hn : ob g d = .none := by repeat (first | exact hf _ | with_reducible rfl | rw [updO_off (by decide)]))
    (h : Tr ⟨P, w0, S0, nt, frs⟩ ⟨upd e s (.row g d n), updO (updO ob g2 d2 .dead) g d (.row el xs), g⟩ K) : Tr ⟨P, w0, S0, nt, frs⟩ ⟨e, ob, g⟩ K := by
  intro S at_ a w hr
  obtain ⟨v, hat, hat', h1⟩ := hr.rename (d := d) ho2 hn
  refine h S _ a w (h1.slotV (s := s) fun x hx => ?_)
  rw [show (((⟨e, ob, g⟩ : St).set g2 d2 .dead).set g d (.row el xs)).env s = .row g2 d2 n from hs, VR] at hx
  rw [VR]
  obtain ⟨A, m, cp, k1, k2, k3⟩ := hx
  rw [hat'] at k1; cases k1
  exact ⟨A, m, cp, by simp [updA], k2, k3⟩
/-- A frozen slice in a cell is one that is only read. -/
theorem p_cellSl {g1 d1 t i g2 d2 n el : Nat} {cs cs' xs : List V} (ho : ob g1 d1 = .cells t cs := by simp (decide := true) only [updO, upd, true_and, and_true, false_and, and_false, ↓reduceIte, hE] <;> first | rfl | assumption) (hi : cs[i]? = some (.row g2 d2 n) := by exact rfl) (ho2 : ob g2 d2 = .froz el xs := by simp (decide := true) only [updO, upd, true_and, and_true, false_and, and_false, ↓reduceIte, hE] <;> first | rfl | assumption) (hn : n = xs.length) (hcs : cs.set i (.sl el xs) = cs' := by exact rfl)
    (h : Tr ⟨P, w0, S0, nt, frs⟩ ⟨e, updO ob g1 d1 (.cells t cs'), g⟩ K) : Tr ⟨P, w0, S0, nt, frs⟩ ⟨e, ob, g⟩ K := by
  subst hcs
  intro S at_ a w hr
  refine h S _ a w (hr.cellV (g := g1) (d := d1) (t := t) (cs := cs) (i := i) (v := .row g2 d2 n) ho hi fun x hx => ?_)
  rw [VR] at hx
  obtain ⟨A, m, cp, h1, h2, rfl⟩ := hx
  have := hr.ok g2 d2 _ h1
  rw [show (⟨e, ob, g⟩ : St).obj g2 d2 = .froz el xs from ho2] at this
  simp only [ObOk, RL] at this
  obtain ⟨A', cp', h3, h4, h5⟩ := this
  cases h3
  rw [VR, RL]
  exact ⟨A, cp, by rw [hn], h4, h5⟩
theorem p_cellNil {g1 d1 t i el : Nat} {cs cs' : List V} (ho : ob g1 d1 = .cells t cs := by simp (decide := true) only [updO, upd, true_and, and_true, false_and, and_false, ↓reduceIte, hE] <;> first | rfl | assumption) (hi : cs[i]? = some .nil := by exact rfl) (hcs : cs.set i (.sl el []) = cs' := by exact rfl) (h : Tr ⟨P, w0, S0, nt, frs⟩ ⟨e, updO ob g1 d1 (.cells t cs'), g⟩ K) : Tr ⟨P, w0, S0, nt, frs⟩ ⟨e, ob, g⟩ K := by
  subst hcs
  intro S at_ a w hr
  refine h S _ a w (hr.cellV (g := g1) (d := d1) (t := t) (cs := cs) (i := i) (v := .nil) ho hi fun x hx => ?_)
  rw [VR, RL] at hx
  rw [VR, RL]
  exact ⟨none, 0, hx, Nat.le_refl _, .inl rfl⟩
theorem p_rets2 {fn : Func} {Post : V → Prop} {x y : ResultVar} {v u : V} (hres : fn.results = #[x, y]) (h1 : (⟨e, ob, g⟩ : St).res P x v) (h2 : (⟨e, ob, g⟩ : St).res P y u) (hp : Post (.tup [v, u])) : Tr ⟨P, w0, S0, nt, []⟩ ⟨e, ob, g⟩ (Ret P fn S0 w0 Post .ret) :=
  Tr.rets (xs := [x, y]) (vs := [v, u]) (by rw [hres]) rfl (by simp) (fun j r q hr hq => by
    obtain _ | _ | j := j
    · simp at hr hq; subst hr hq; exact h1
    · simp at hr hq; subst hr hq; exact h2
    · simp at hr) hp
theorem p_rets3 {fn : Func} {Post : V → Prop} {x y z : ResultVar} {v u t : V} (hres : fn.results = #[x, y, z]) (h1 : (⟨e, ob, g⟩ : St).res P x v) (h2 : (⟨e, ob, g⟩ : St).res P y u) (h3 : (⟨e, ob, g⟩ : St).res P z t) (hp : Post (.tup [v, u, t])) : Tr ⟨P, w0, S0, nt, []⟩ ⟨e, ob, g⟩ (Ret P fn S0 w0 Post .ret) :=
  Tr.rets (xs := [x, y, z]) (vs := [v, u, t]) (by rw [hres]) rfl (by simp) (fun j r q hr hq => by
    obtain _ | _ | _ | j := j
    · simp at hr hq; subst hr hq; exact h1
    · simp at hr hq; subst hr hq; exact h2
    · simp at hr hq; subst hr hq; exact h3
    · simp at hr) hp
/-- A result's variable that is a struct in memory. -/
theorem res_cell {s ty g1 d1 t size bytes : Nat} {cs : List V} {z : Value} (h1 : e s = .ptr g1 d1 0) (h2 : ob g1 d1 = .cells t cs) (ha : IsAgg P ty) (hi : TI P ty z size bytes) (hl : cs.length = size) (hr : cs.all V.isRL = true) : (⟨e, ob, g⟩ : St).res P (.cell s ty) (.agg cs) :=
  ⟨g1, d1, t, cs, h1, h2, .inr ⟨ha, z, size, bytes, hi, hl, hr, rfl⟩⟩
end
end Go.Proofs.Ytfjciangbmjlmaa
