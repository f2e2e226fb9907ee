/-
  The abstract machine: values that say less in other words; conditions that are known; calls that read a row of the call's own.
-/
import Derived.Test.YtfjciangbmjlmaaK
set_option linter.unusedSimpArgs false
set_option linter.unusedVariables false
namespace Go.Proofs.Ytfjciangbmjlmaa
open Go.RowKit
section
variable {P : Program} {w : World} {S : Nat → Prop}
/-- All that one value tells of, another one tells of too. -/
def Wid (P : Program) (v v' : V) : Prop := ∀ w S c, RL P w S v c → RL P w S v' c
def WidX (P : Program) (v v' : V) : Prop := ∀ w S cs, RX P w S v cs → RX P w S v' cs
theorem Wid.refl (v : V) : Wid P v v := fun _ _ _ h => h
theorem WidX.refl (v : V) : WidX P v v := fun _ _ _ h => h
theorem Wid.nil (t : TypeId) : Wid P .nil (.sl t []) := fun w S c h => by
  rw [RL] at h; rw [RL]; exact ⟨none, 0, h, Nat.le_refl _, .inl rfl⟩
def Wids (P : Program) : List V → List V → Prop
  | [], [] => True
  | v :: vs, u :: us => Wid P v u ∧ Wids P vs us
  | _, _ => False
theorem RLs.wid : ∀ {l l' : List V} {cs : List Value}, Wids P l l' → RLs P w S l cs → RLs P w S l' cs
  | [], [], cs, _, h => h
  | v :: vs, u :: us, [], _, h => by simp [RLs] at h
  | v :: vs, u :: us, c :: cs, hw, h => by
    rw [RLs] at h ⊢; exact ⟨hw.1 _ _ _ h.1, RLs.wid hw.2 h.2⟩
theorem WidX.agg {l l' : List V} (h : Wids P l l') : WidX P (.agg l) (.agg l') := fun w S cs hc => RLs.wid h hc
theorem RLrow.wid {e : TypeId} {ad : Addr} : ∀ {xs ys : List V} {i : Nat}, xs.length = ys.length → (∀ (k : Nat) x y, xs[k]? = some x → ys[k]? = some y → WidX P x y) → RLrow P w S e ad i xs → RLrow P w S e ad i ys
  | [], [], _, _, _, h => h
  | [], _ :: _, _, hl, _, _ => by simp at hl
  | _ :: _, [], _, hl, _, _ => by simp at hl
  | x :: xs, y :: ys, i, hl, hw, h => by
    rw [RLrow_cons] at h ⊢
    obtain ⟨⟨cs, h1, h2, h3⟩, h4⟩ := h
    exact ⟨⟨cs, h1, h2, hw 0 x y rfl rfl _ _ _ h3⟩, RLrow.wid (by simpa using hl) (fun k x' y' hx hy => hw (k + 1) x' y' (by simpa using hx) (by simpa using hy)) h4⟩
theorem Wid.sl {e : TypeId} {xs ys : List V} (hl : xs.length = ys.length) (hw : ∀ (k : Nat) x y, xs[k]? = some x → ys[k]? = some y → WidX P x y) : Wid P (.sl e xs) (.sl e ys) := fun w S c h => by
  rw [RL] at h ⊢
  obtain ⟨A, cp, h1, h2, h3⟩ := h
  refine ⟨A, cp, by rw [← hl]; exact h1, by rw [← hl]; exact h2, ?_⟩
  rcases h3 with rfl | ⟨ad, h3, h4, h5⟩
  · left; exact List.eq_nil_of_length_eq_zero (by simpa using hl.symm)
  · exact .inr ⟨ad, h3, h4, RLrow.wid hl hw h5⟩
theorem Wid.map {α : Type} {e : TypeId} {f f' : α → V} (l : List α) (h : ∀ x, x ∈ l → WidX P (f x) (f' x)) : Wid P (.sl e (l.map f)) (.sl e (l.map f')) :=
  Wid.sl (by simp) fun k x y hx hy => by
    simp only [List.getElem?_map, Option.map_eq_some_iff] at hx hy
    obtain ⟨a, ha, rfl⟩ := hx
    obtain ⟨b, hb, rfl⟩ := hy
    rw [ha] at hb; cases hb
    exact h a (List.mem_of_getElem? ha)
theorem FnC.wid {f : FuncId} {args : List V} {v v' : V} (h : FnC P f args fun r => r = v) (hw : ∀ w S c, RV P w S v c → RV P w S v' c) : FnC P f args fun r => r = v' := fun w S cs hS hc => (h w S cs hS hc).mono (by
  rintro e w' ⟨u, r, S', rfl, h1, h2, h3, h4, h5⟩
  subst h5
  exact ⟨u, v', S', rfl, h1, h2, h3, hw _ _ _ h4, rfl⟩)
theorem RV.wid_agg {l l' : List V} (h : Wids P l l') {w : World} {S : Nat → Prop} {c : Value} (hc : RV P w S (.agg l) c) : RV P w S (.agg l') c := by
  obtain ⟨arr, h1, h2⟩ := hc
  exact ⟨arr, h1, RLs.wid h h2⟩
theorem RV.wid_tup {l l' vs : List V} (h : Wids P l l') {w : World} {S : Nat → Prop} {c : Value} (hc : RV P w S (.tup (.agg l :: vs)) c) : RV P w S (.tup (.agg l' :: vs)) c := by
  obtain ⟨arr, h1, h2⟩ := hc
  refine ⟨arr, h1, ?_⟩
  cases hq : arr.toList with
  | nil => rw [hq] at h2; simp [RUs] at h2
  | cons x xs =>
    rw [hq] at h2
    rw [RUs] at h2 ⊢
    obtain ⟨⟨a, ha, hb⟩, h4⟩ := h2
    exact ⟨⟨a, ha, RLs.wid h hb⟩, h4⟩
end
section
variable {c : Ctx} {st : St} {o : Oper} {d : Nat}
theorem Rel.freeze {S : Nat → Prop} {at_ : At} {a : Act} {w : World} {g g' : Nat} {e : TypeId} {xs : List V} (hr : Rel c S at_ st a w) (hobj : st.obj g g' = .row e xs) : ∃ S' at', Rel c S' at' (st.set g g' (.froz e xs)) a w :=
  Tr.freeze (K := fun a w => ∃ S' at', Rel c S' at' (st.set g g' (.froz e xs)) a w) hobj (fun S' at' a w hr => ⟨S', at', hr⟩) S at_ a w hr
/-- A row as a slice that is only read. -/
def V.frz (g d : Nat) (t : TypeId) (xs : List V) : V → V
  | .row g' d' n => if g' = g ∧ d' = d ∧ n = xs.length then .sl t xs else .row g' d' n
  | v => v
theorem frz_VR {S : Nat → Prop} {at_ : At} {a : Act} {w : World} {g g' : Nat} {e : TypeId} {xs : List V} (hr : Rel c S at_ (st.set g g' (.froz e xs)) a w) {v : V} {x : Value} (h : VR c.P w S at_ v x) : VR c.P w S at_ (v.frz g g' e xs) x := by
  cases v with
  | row g1 d1 n =>
    simp only [V.frz]
    split
    · rename_i hc
      obtain ⟨rfl, rfl, hn⟩ := hc
      rw [VR] at h
      obtain ⟨A, m, cp, h1, h2, rfl⟩ := h
      have := hr.ok g1 d1 _ h1
      have hob : (st.set g1 d1 (.froz e xs)).obj g1 d1 = .froz e xs := by simp [St.set, updO]
      rw [hob] at this
      simp only [ObOk, RL] at this
      obtain ⟨A', cp', h3, h4, h5⟩ := this
      cases h3
      rw [VR, RL]
      exact ⟨A, cp, by rw [hn], h4, h5⟩
    · exact h
  | _ => exact h
theorem frz_VRs {S : Nat → Prop} {at_ : At} {a : Act} {w : World} {g g' : Nat} {e : TypeId} {xs : List V} (hr : Rel c S at_ (st.set g g' (.froz e xs)) a w) : ∀ {vs : List V} {cs : List Value}, VRs c.P w S at_ vs cs → VRs c.P w S at_ (vs.map (V.frz g g' e xs)) cs
  | [], [], _ => by simp [VRs]
  | [], _ :: _, h => by simp [VRs] at h
  | _ :: _, [], h => by simp [VRs] at h
  | v :: vs, c :: cs, h => by
    rw [VRs] at h
    rw [List.map_cons, VRs]; exact ⟨frz_VR hr h.1, frz_VRs hr h.2⟩
theorem Stp.callRow {x : Operand} {f : FuncId} {fn : Func} {code : Code} {xs : Array Operand} {ts : Array TypeId} {us vs : List V} {v : V} {g g' : Nat} {e : TypeId} {row : List V} (hd : o.dst = some d) (hn : d < c.nt) (hop : o.op = .call { callee := .value x, args := xs, argTypes := ts })
    (hx : st.ev x = .fn f []) (hb : HasBody c.P f fn code) (hobj : st.obj g g' = .row e row) (hus : xs.toList.map st.ev = us) (hvs : us.map (V.frz g g' e row) = vs) (hro : V.outs vs = true) (hf : FnC c.P f vs fun r => r = v) : Stp c o st ((st.set g g' (.froz e row)).put d v) := fun S at_ a w hr next Q hK => by
  obtain ⟨arr, h1, hrun⟩ := call_run hr hop hx hb
  obtain ⟨S1, at1, hr1⟩ := hr.freeze hobj
  have hev : ∀ y, VR c.P w S1 at1 (st.ev y) (a.eval y) := fun y => hr1.ev y
  have hargs : VRs c.P w S1 (fun _ _ => none) vs (xs.toList.map a.eval ++ arr) := by
    refine VRs.out _ _ hro (at_ := at1) ?_
    have h2 : arr = [] := by cases arr with
      | nil => rfl
      | cons _ _ => simp [VRs] at h1
    subst hvs hus h2
    rw [List.append_nil]
    refine frz_VRs hr1 ?_
    generalize xs.toList = l
    induction l with
    | nil => simp [VRs]
    | cons y l ih => simp only [List.map_cons]; rw [VRs]; exact ⟨hev y, ih⟩
  unfold Oper.wp
  rw [hrun, Oper.upon_enter]
  refine (hf w S1 _ hr1.slt hargs).mono ?_
  rintro e' w' ⟨u, r, S', rfl, h1, h2, h3, h4, h5⟩
  subst h5
  rw [hd]
  exact hK S' at1 _ w' ((hr1.grow h1 h2 h3).put hn h4.toVR)
end
section
variable {P : Program} {w0 : World} {S0 : Nat → Prop} {nt : Nat} {frs : List ((Nat → V) × Act)} {e : Nat → V} {ob : Nat → Nat → Ob} {g : Nat} {Q : Exit → Act → World → Prop} {K : Act → World → Prop} {ops : Array Oper} {rest : List Oper} {d : Nat} {ty : TypeId} {pos : String} {aft : Array Edge} {m : Md}
/-- A call of which an argument is a row of the call's own that is written no more. -/
theorem p_callRow (g1 d1 : Nat) {x : Operand} {f : FuncId} {fn : Func} {code : Code} {xs : List Operand} {ts : Array TypeId} {us vs : List V} {v : V} {t : TypeId} {row : List V} (hn : d < nt := by decide) (hx : evE e x = .fn f [] := by simp (decide := true) only [evE, upd, cv, args0, argsFrom, List.length_map, ↓reduceIte, hE] <;> rfl) (hb : HasBody P f fn code) (ho : ob g1 d1 = .row t row := by simp (decide := true) only [updO, upd, true_and, and_true, false_and, and_false, ↓reduceIte, hE] <;> first | rfl | assumption) (hus : xs.map (evE e) = us := by simp (decide := true) only [List.map_cons, List.map_nil, List.cons_append, List.nil_append, List.append_nil, evE, upd, updO, cv, args0, List.getElem?_cons_zero, List.getElem?_cons_succ, Option.getD_some, List.length_map, ↓reduceIte, hE] <;> rfl) (hvs : us.map (V.frz g1 d1 t row) = vs) (hro : V.outs vs = true := by exact rfl) (hf : FnC P f vs fun r => r = v)
    (h : Wk (m.log ⟨some (d, v), [(g1, d1, .froz t row)], [(g1, d1)]⟩) ⟨P, w0, S0, nt, frs⟩ ops Q ⟨upd e d v, updO ob g1 d1 (.froz t row), g⟩ rest) : Wk m ⟨P, w0, S0, nt, frs⟩ ops Q ⟨e, ob, g⟩ (⟨some d, .call { callee := .value x, args := xs.toArray, argTypes := ts }, ty, pos, aft, none⟩ :: rest) :=
  Wk.op (Loc.plain rfl rfl fun st' hv' ho' _ => Stp.callRow (st := st') rfl hn rfl ((hv' x (by simp [Op.operands, Call.operands])).trans ((evE_eq e ob g x).trans hx)) hb ((ho' (g1, d1) (by simp)).trans ho) (by
    rw [← hus]; exact ev_list hv' (fun y hy => by simp [Op.operands, Call.operands, hy])) hvs hro hf) h
/-- A slot's truth is known. -/
theorem p_isW {s : Nat} {b c : Bool} {l : List Oper} (hs : evE e (.tmp s) = .bool c := by simp (decide := true) only [evE, upd, cv, args0, argsFrom, List.length_map, ↓reduceIte, hE] <;> rfl) (hc : c = b) (h : Wk m ⟨P, w0, S0, nt, frs⟩ ops Q ⟨upd e s (.bool b), ob, g⟩ l) : Wk m ⟨P, w0, S0, nt, frs⟩ ops Q ⟨e, ob, g⟩ l := by
  subst hc; rwa [upd_self hs] at h
theorem p_isC {s : Nat} {b c : Bool} {x : Code} (hs : evE e (.tmp s) = .bool c := by simp (decide := true) only [evE, upd, cv, args0, argsFrom, List.length_map, ↓reduceIte, hE] <;> rfl) (hc : c = b) (h : TrC ⟨P, w0, S0, nt, frs⟩ ⟨upd e s (.bool b), ob, g⟩ x Q) : TrC ⟨P, w0, S0, nt, frs⟩ ⟨e, ob, g⟩ x Q := by
  subst hc; rwa [upd_self hs] at h
/-- nil in a struct in a slot, as an empty slice that is only read. -/
theorem p_aggNilW {s i el : Nat} {l l' : List V} (hm : m = .lex := by exact rfl) (hs : e s = .agg l := by simp (decide := true) only [evE, upd, cv, args0, argsFrom, List.length_map, ↓reduceIte, hE] <;> rfl) (hi : l[i]? = some .nil := by exact rfl) (hl : l.set i (.sl el []) = l' := by exact rfl) (h : Wk .lex ⟨P, w0, S0, nt, frs⟩ ops Q ⟨upd e s (.agg l'), ob, g⟩ rest) : Wk m ⟨P, w0, S0, nt, frs⟩ ops Q ⟨e, ob, g⟩ rest := by
  subst hm hl
  intro S at_ a w hr
  refine h S at_ a w (hr.slotV (s := s) fun x hx => ?_)
  rw [show (⟨e, ob, g⟩ : St).env s = .agg l from hs, VR] at hx
  obtain ⟨arr, h1, h2⟩ := hx
  rw [VR]
  refine ⟨arr, h1, VRs.set (v := .nil) (fun y hy => ?_) h2 hi⟩
  rw [VR, RL] at hy
  rw [VR, RL]
  exact ⟨none, 0, hy, Nat.le_refl _, .inl rfl⟩
end
end Go.Proofs.Ytfjciangbmjlmaa
