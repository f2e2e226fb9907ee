/-
  The abstract machine: values that say less in other words; conditions that are known; calls that read a row of the call's own.
-/
import Derived.Test.YtjjpmbaddpiamaaDoorK
set_option linter.unusedSimpArgs false
set_option linter.unusedVariables false
namespace Go.Proofs.YtjjpmbaddpiamaaDoor
open Go.RowKit
section
variable {P : Program} {w : World} {S : Nat → Prop}
/-- All that one value tells of, another one tells of too. -/
def Wid (P : Program) (v v' : V) : Prop := ∀ w S c, RL P w S v c → RL P w S v' c
def WidX (P : Program) (v v' : V) : Prop := ∀ w S cs, RX P w S v cs → RX P w S v' cs
theorem Wid.refl (v : V) : Wid P v v := fun _ _ _ h => h
theorem WidX.refl (v : V) : WidX P v v := fun _ _ _ h => h
theorem Wid.nil (t : TypeId) : Wid P .nil (.sl t []) := fun w S c h => by
  rw [RL] at h; rw [RL]; exact ⟨none, 0, h, Nat.le_refl _, .inl rfl⟩
def Wids (P : Program) : List V → List V → Prop
  | [], [] => True
  | v :: vs, u :: us => Wid P v u ∧ Wids P vs us
  | _, _ => False
theorem RLs.wid : ∀ {l l' : List V} {cs : List Value}, Wids P l l' → RLs P w S l cs → RLs P w S l' cs
  | [], [], cs, _, h => h
  | v :: vs, u :: us, [], _, h => by simp [RLs] at h
  | v :: vs, u :: us, c :: cs, hw, h => by
    rw [RLs] at h ⊢; exact ⟨hw.1 _ _ _ h.1, RLs.wid hw.2 h.2⟩
theorem WidX.agg {l l' : List V} (h : Wids P l l') : WidX P (.agg l) (.agg l') := fun w S cs hc => RLs.wid h hc
theorem RLrow.wid {e : TypeId} {ad : Addr} : ∀ {xs ys : List V} {i : Nat}, xs.length = ys.length → (∀ (k : Nat) x y, xs[k]? = some x → ys[k]? = some y → WidX P x y) → RLrow P w S e ad i xs → RLrow P w S e ad i ys
  | [], [], _, _, _, h => h
  | [], _ :: _, _, hl, _, _ => by simp at hl
  | _ :: _, [], _, hl, _, _ => by simp at hl
  | x :: xs, y :: ys, i, hl, hw, h => by
    rw [RLrow_cons] at h ⊢
    obtain ⟨⟨cs, h1, h2, h3⟩, h4⟩ := h
    exact ⟨⟨cs, h1, h2, hw 0 x y rfl rfl _ _ _ h3⟩, RLrow.wid (by simpa using hl) (fun k x' y' hx hy => hw (k + 1) x' y' (by simpa using hx) (by simpa using hy)) h4⟩
theorem Wid.sl {e : TypeId} {xs ys : List V} (hl : xs.length = ys.length) (hw : ∀ (k : Nat) x y, xs[k]? = some x → ys[k]? = some y → WidX P x y) : Wid P (.sl e xs) (.sl e ys) := fun w S c h => by
  rw [RL] at h ⊢
  obtain ⟨A, cp, h1, h2, h3⟩ := h
  refine ⟨A, cp, by rw [← hl]; exact h1, by rw [← hl]; exact h2, ?_⟩
  rcases h3 with rfl | ⟨ad, h3, h4, h5⟩
  · left; exact List.eq_nil_of_length_eq_zero (by simpa using hl.symm)
  · exact .inr ⟨ad, h3, h4, RLrow.wid hl hw h5⟩
theorem Wid.map {α : Type} {e : TypeId} {f f' : α → V} (l : List α) (h : ∀ x, x ∈ l → WidX P (f x) (f' x)) : Wid P (.sl e (l.map f)) (.sl e (l.map f')) :=
  Wid.sl (by simp) fun k x y hx hy => by
    simp only [List.getElem?_map, Option.map_eq_some_iff] at hx hy
    obtain ⟨a, ha, rfl⟩ := hx
    obtain ⟨b, hb, rfl⟩ := hy
    rw [ha] at hb; cases hb
    exact h a (List.mem_of_getElem? ha)
theorem FnC.wid {f : FuncId} {args : List V} {v v' : V} (h : FnC P f args fun r => r = v) (hw : ∀ w S c, RV P w S v c → RV P w S v' c) : FnC P f args fun r => r = v' := fun w S cs hG hS hc => (h w S cs hG hS hc).mono (by
  rintro e w' ⟨u, r, S', rfl, h1, h2, h3, h4, h5⟩
  subst h5
  exact ⟨u, v', S', rfl, h1, h2, h3, hw _ _ _ h4, rfl⟩)
theorem RV.wid_agg {l l' : List V} (h : Wids P l l') {w : World} {S : Nat → Prop} {c : Value} (hc : RV P w S (.agg l) c) : RV P w S (.agg l') c := by
  obtain ⟨arr, h1, h2⟩ := hc
  exact ⟨arr, h1, RLs.wid h h2⟩
theorem RV.wid_tup {l l' vs : List V} (h : Wids P l l') {w : World} {S : Nat → Prop} {c : Value} (hc : RV P w S (.tup (.agg l :: vs)) c) : RV P w S (.tup (.agg l' :: vs)) c := by
  obtain ⟨arr, h1, h2⟩ := hc
  refine ⟨arr, h1, ?_⟩
  cases hq : arr.toList with
  | nil => rw [hq] at h2; simp [RUs] at h2
  | cons x xs =>
    rw [hq] at h2
    rw [RUs] at h2 ⊢
    obtain ⟨⟨a, ha, hb⟩, h4⟩ := h2
    exact ⟨⟨a, ha, RLs.wid h hb⟩, h4⟩
end
section
variable {c : Ctx} {st : St} {o : Oper} {d : Nat}
/-- A row as a slice that is only read. -/
def V.frz (g d : Nat) (t : TypeId) (xs : List V) : V → V
  | .row g' d' n => if g' = g ∧ d' = d ∧ n = xs.length then .sl t xs else .row g' d' n
  | v => v
theorem frz_VR {S : Nat → Prop} {at_ : At} {a : Act} {w : World} {g g' : Nat} {e : TypeId} {xs : List V} (hr : Rel c S at_ (st.set g g' (.froz e xs)) a w) {v : V} {x : Value} (h : VR c.P w S at_ v x) : VR c.P w S at_ (v.frz g g' e xs) x := by
  cases v with
  | row g1 d1 n =>
    simp only [V.frz]
    split
    · rename_i hc
      obtain ⟨rfl, rfl, hn⟩ := hc
      rw [VR] at h
      obtain ⟨A, m, cp, h1, h2, rfl⟩ := h
      have := hr.ok g1 d1 _ h1
      have hob : (st.set g1 d1 (.froz e xs)).obj g1 d1 = .froz e xs := by simp [St.set, updO]
      rw [hob] at this
      simp only [ObOk, RL] at this
      obtain ⟨A', cp', h3, h4, h5⟩ := this
      cases h3
      rw [VR, RL]
      exact ⟨A, cp, by rw [hn], h4, h5⟩
    · exact h
  | _ => exact h
theorem frz_VRs {S : Nat → Prop} {at_ : At} {a : Act} {w : World} {g g' : Nat} {e : TypeId} {xs : List V} (hr : Rel c S at_ (st.set g g' (.froz e xs)) a w) : ∀ {vs : List V} {cs : List Value}, VRs c.P w S at_ vs cs → VRs c.P w S at_ (vs.map (V.frz g g' e xs)) cs
  | [], [], _ => by simp [VRs]
  | [], _ :: _, h => by simp [VRs] at h
  | _ :: _, [], h => by simp [VRs] at h
  | v :: vs, c :: cs, h => by
    rw [VRs] at h
    rw [List.map_cons, VRs]; exact ⟨frz_VR hr h.1, frz_VRs hr h.2⟩
/-- What is read of it only from here on: a row, or a variable. -/
inductive Fz where
  | row (g d : Nat) (t : TypeId) (xs : List V)
  | cell (g d : Nat) (t : TypeId) (cs : List V)
def Fz.key : Fz → Nat × Nat
  | .row g d _ _ => (g, d)
  | .cell g d _ _ => (g, d)
def Fz.ob : Fz → Ob
  | .row _ _ t xs => .row t xs
  | .cell _ _ t cs => .cells t cs
def Fz.ob' : Fz → Ob
  | .row _ _ t xs => .froz t xs
  | .cell _ _ _ _ => .dead
def Fz.fine : Fz → Bool
  | .row _ _ _ _ => true
  | .cell _ _ _ cs => cs.all V.isRL
def V.unp (g d : Nat) (cs : List V) : V → V
  | .ptr g' d' o => if g' = g ∧ d' = d ∧ o = 0 then .ref cs else .ptr g' d' o
  | v => v
def V.unps (g d : Nat) (cs : List V) : V → V
  | .ptr g' d' o => if g' = g ∧ d' = d ∧ o = 0 then .ref cs else .ptr g' d' o
  | .fn f cap => .fn f (cap.map (V.unp g d cs))
  | v => v
def Fz.val : Fz → V → V
  | .row g d t xs => V.frz g d t xs
  | .cell g d _ cs => V.unps g d cs
theorem unp_VR {P : Program} {w : World} {S S' : Nat → Prop} {at_ : At} {g d : Nat} {cs : List V} (hS : ∀ b, S b → S' b) (hp : ∀ x, VR P w S at_ (.ptr g d 0) x → VR P w S' at_ (.ref cs) x) {v : V} {x : Value} (h : VR P w S at_ v x) : VR P w S' at_ (v.unp g d cs) x := by
  have hm := VR.mono (at' := at_) hS (fun _ _ => rfl) (fun _ _ _ h => h) v x h
  cases v with
  | ptr g1 d1 o =>
    simp only [V.unp]
    split
    · rename_i hc
      obtain ⟨rfl, rfl, rfl⟩ := hc
      exact hp x h
    · exact hm
  | _ => exact hm
theorem unp_VRs {P : Program} {w : World} {S S' : Nat → Prop} {at_ : At} {g d : Nat} {cs : List V} (hS : ∀ b, S b → S' b) (hp : ∀ x, VR P w S at_ (.ptr g d 0) x → VR P w S' at_ (.ref cs) x) : ∀ {vs : List V} {xs : List Value}, VRs P w S at_ vs xs → VRs P w S' at_ (vs.map (V.unp g d cs)) xs
  | [], [], _ => by simp [VRs]
  | [], _ :: _, h => by simp [VRs] at h
  | _ :: _, [], h => by simp [VRs] at h
  | v :: vs, c :: cs, h => by
    rw [VRs] at h
    rw [List.map_cons, VRs]; exact ⟨unp_VR hS hp h.1, unp_VRs hS hp h.2⟩
theorem unps_VR {P : Program} {w : World} {S S' : Nat → Prop} {at_ : At} {g d : Nat} {cs : List V} (hS : ∀ b, S b → S' b) (hp : ∀ x, VR P w S at_ (.ptr g d 0) x → VR P w S' at_ (.ref cs) x) {v : V} {x : Value} (h : VR P w S at_ v x) : VR P w S' at_ (v.unps g d cs) x := by
  cases v with
  | ptr g1 d1 o => exact unp_VR hS hp h
  | fn f cap =>
    simp only [V.unps]
    rw [VR] at h ⊢
    obtain ⟨arr, rfl, h2⟩ := h
    exact ⟨arr, rfl, unp_VRs hS hp h2⟩
  | _ => exact VR.mono (at' := at_) hS (fun _ _ => rfl) (fun _ _ _ h => h) _ x h
/-- All of a list are read only from here on. -/
def fzAll : List Fz → (Nat → Nat → Ob) → Nat → Nat → Ob
  | [], ob => ob
  | z :: zs, ob => fzAll zs (updO ob z.key.1 z.key.2 z.ob')
def fzOk : List Fz → (Nat → Nat → Ob) → Prop
  | [], _ => True
  | z :: zs, ob => ob z.key.1 z.key.2 = z.ob ∧ z.fine = true ∧ fzOk zs (updO ob z.key.1 z.key.2 z.ob')
def fzVal : List Fz → V → V
  | [], v => v
  | z :: zs, v => fzVal zs (z.val v)
theorem Rel.fz {a : Act} {w : World} {at_ : At} : ∀ {zs : List Fz} {st : St} {S : Nat → Prop}, fzOk zs st.obj → Rel c S at_ st a w → ∃ S', Rel c S' at_ { st with obj := fzAll zs st.obj } a w ∧ ∀ v x, VR c.P w S at_ v x → VR c.P w S' at_ (fzVal zs v) x
  | [], _, S, _, hr => ⟨S, hr, fun _ _ h => h⟩
  | .row g d t xs :: zs, st, S, h, hr => by
    obtain ⟨h1, h2, h3⟩ := h
    obtain ⟨S1, hS, hr1⟩ := hr.freezeR h1
    obtain ⟨S2, hr2, hv2⟩ := Rel.fz (zs := zs) (st := st.set g d (.froz t xs)) h3 hr1
    exact ⟨S2, hr2, fun v x hx => hv2 _ _ (frz_VR hr1 (VR.mono (at' := at_) hS (fun _ _ => rfl) (fun _ _ _ h => h) v x hx))⟩
  | .cell g d t cs :: zs, st, S, h, hr => by
    obtain ⟨h1, h2, h3⟩ := h
    obtain ⟨S1, hS, hr1, hp⟩ := hr.freezeC h1 h2
    obtain ⟨S2, hr2, hv2⟩ := Rel.fz (zs := zs) (st := st.set g d .dead) h3 hr1
    exact ⟨S2, hr2, fun v x hx => hv2 _ _ (unps_VR hS hp hx)⟩
theorem fzVals {P : Program} {w : World} {S S' : Nat → Prop} {at_ : At} {f : V → V} (hf : ∀ v x, VR P w S at_ v x → VR P w S' at_ (f v) x) : ∀ {vs : List V} {xs : List Value}, VRs P w S at_ vs xs → VRs P w S' at_ (vs.map f) xs
  | [], [], _ => by simp [VRs]
  | [], _ :: _, h => by simp [VRs] at h
  | _ :: _, [], h => by simp [VRs] at h
  | v :: vs, c :: cs, h => by
    rw [VRs] at h
    rw [List.map_cons, VRs]; exact ⟨hf _ _ h.1, fzVals hf h.2⟩
def Fz.eff (z : Fz) : Nat × Nat × Ob := (z.key.1, z.key.2, z.ob')
theorem putW_fz : ∀ (zs : List Fz) (ob : Nat → Nat → Ob), putW (zs.map Fz.eff) ob = fzAll zs ob
  | [], _ => rfl
  | z :: zs, ob => by
    have := putW_fz zs (updO ob z.key.1 z.key.2 z.ob')
    simpa [putW, fzAll, Fz.eff] using this
theorem Stp.callFz {x : Operand} {f : FuncId} {fn : Func} {code : Code} {xs : Array Operand} {ts : Array TypeId} {cap us vs : List V} {v : V} (zs : List Fz) (hd : o.dst = some d) (hn : d < c.nt) (hop : o.op = .call { callee := .value x, args := xs, argTypes := ts })
    (hx : st.ev x = .fn f cap) (hb : HasBody c.P f fn code) (hz : fzOk zs st.obj) (hus : xs.toList.map st.ev ++ cap = us) (hvs : us.map (fzVal zs) = vs) (hro : V.outs vs = true) (hf : FnC c.P f vs fun r => r = v) : Stp c o st (({ st with obj := fzAll zs st.obj } : St).put d v) := fun S at_ a w hr next Q hK => by
  obtain ⟨arr, h1, hrun⟩ := call_run hr hop hx hb
  obtain ⟨S1, hr1, hv1⟩ := hr.fz hz
  have hargs : VRs c.P w S1 (fun _ _ => none) vs (xs.toList.map a.eval ++ arr) := by
    refine VRs.out _ _ hro (at_ := at_) ?_
    subst hvs hus
    refine fzVals hv1 (VRs.append ?_ h1)
    generalize xs.toList = l
    induction l with
    | nil => simp [VRs]
    | cons y l ih => simp only [List.map_cons]; rw [VRs]; exact ⟨hr.ev y, ih⟩
  refine wpIn_enter hop hrun ?_
  refine (hf w S1 _ hr1.globs hr1.slt hargs).mono ?_
  rintro e' w' ⟨u, r, S', rfl, h1, h2, h3, h4, h5⟩
  subst h5
  rw [hd]
  exact hK S' at_ _ w' ((hr1.grow h1 h2 h3).put hn h4.toVR)
end
section
variable {P : Program} {w0 : World} {S0 : Nat → Prop} {nt : Nat} {frs : Frs} {e : Nat → V} {ob : Nat → Nat → Ob} {g : Nat} {Q : Exit → Act → World → Prop} {K : Act → World → Prop} {ops : Array Oper} {rest : List Oper} {d : Nat} {ty : TypeId} {pos : String} {aft : Array Edge} {m : Md}
/-- A call that is handed what is only read from here on: rows and variables of the call's own. -/
theorem p_callFz (zs : List Fz) {x : Operand} {f : FuncId} {fn : Func} {code : Code} {xs : List Operand} {ts : Array TypeId} {cap us vs : List V} {v : V} (hn : d < nt := by decide) (hx : evE e x = .fn f cap := by simp (decide := true) only [evE, upd, cv, args0, argsFrom, List.length_map, ↓reduceIte, hE] <;> rfl) (hb : HasBody P f fn code) (hz : fzOk zs ob) (hus : xs.map (evE e) ++ cap = us := by simp (decide := true) only [List.map_cons, List.map_nil, List.cons_append, List.nil_append, List.append_nil, evE, upd, updO, cv, args0, List.getElem?_cons_zero, List.getElem?_cons_succ, Option.getD_some, List.length_map, ↓reduceIte, hE] <;> rfl) (hvs : us.map (fzVal zs) = vs) (hro : V.outs vs = true := by exact rfl) (hf : FnC P f vs fun r => r = v)
    (h : Wk (m.log ⟨some (d, v), zs.map Fz.eff, zs.map Fz.key⟩) ⟨P, w0, S0, nt, frs⟩ ops Q ⟨upd e d v, fzAll zs ob, g⟩ rest) : Wk m ⟨P, w0, S0, nt, frs⟩ ops Q ⟨e, ob, g⟩ (⟨some d, .call { callee := .value x, args := xs.toArray, argTypes := ts }, ty, pos, aft, none⟩ :: rest) := by
  have hzz : ∀ {zs : List Fz} {ob ob' : Nat → Nat → Ob}, (∀ k ∈ zs.map Fz.key, ob' k.1 k.2 = ob k.1 k.2) → fzOk zs ob → fzOk zs ob' := by
    intro zs
    induction zs with
    | nil => intro _ _ _ _; trivial
    | cons z zs ih =>
      intro ob ob' hk h
      obtain ⟨h1, h2, h3⟩ := h
      refine ⟨by rw [hk z.key (by simp)]; exact h1, h2, ih (fun k hk' => ?_) h3⟩
      simp only [updO]
      split
      · rfl
      · exact hk k (by simp only [List.map_cons, List.mem_cons]; exact .inr hk')
  exact Wk.op (x := ⟨some (d, v), zs.map Fz.eff, zs.map Fz.key⟩) (Loc.plain rfl rfl fun st' hv' ho' _ => by
    have := Stp.callFz (c := ⟨P, w0, S0, nt, frs⟩) (st := st') (d := d) (us := us) zs (o := ⟨some d, .call { callee := .value x, args := xs.toArray, argTypes := ts }, ty, pos, aft, none⟩) rfl hn rfl ((hv' x (by simp [Op.operands, Call.operands])).trans ((evE_eq e ob g x).trans hx)) hb (hzz ho' hz) (by
      rw [← hus]; simp only [List.append_cancel_right_eq]; exact ev_list hv' (fun y hy => by simp [Op.operands, Call.operands, hy])) hvs hro hf
    simpa only [Eff.put, putW_fz, St.put] using this) (by simpa only [Eff.put, putW_fz] using h)
/-- The same, where it is one row. -/
theorem p_callRow (g1 d1 : Nat) {x : Operand} {f : FuncId} {fn : Func} {code : Code} {xs : List Operand} {ts : Array TypeId} {us vs : List V} {v : V} {t : TypeId} {row : List V} (hn : d < nt := by decide) (hx : evE e x = .fn f [] := by simp (decide := true) only [evE, upd, cv, args0, argsFrom, List.length_map, ↓reduceIte, hE] <;> rfl) (hb : HasBody P f fn code) (ho : ob g1 d1 = .row t row := by simp (decide := true) only [updO, upd, true_and, and_true, false_and, and_false, ↓reduceIte, hE] <;> first | rfl | assumption) (hus : xs.map (evE e) = us := by simp (decide := true) only [List.map_cons, List.map_nil, List.cons_append, List.nil_append, List.append_nil, evE, upd, updO, cv, args0, List.getElem?_cons_zero, List.getElem?_cons_succ, Option.getD_some, List.length_map, ↓reduceIte, hE] <;> rfl) (hvs : us.map (V.frz g1 d1 t row) = vs) (hro : V.outs vs = true := by exact rfl) (hf : FnC P f vs fun r => r = v)
    (h : Wk (m.log ⟨some (d, v), [(g1, d1, .froz t row)], [(g1, d1)]⟩) ⟨P, w0, S0, nt, frs⟩ ops Q ⟨upd e d v, updO ob g1 d1 (.froz t row), g⟩ rest) : Wk m ⟨P, w0, S0, nt, frs⟩ ops Q ⟨e, ob, g⟩ (⟨some d, .call { callee := .value x, args := xs.toArray, argTypes := ts }, ty, pos, aft, none⟩ :: rest) :=
  p_callFz [.row g1 d1 t row] hn hx hb ⟨ho, rfl, trivial⟩ (by rw [List.append_nil]; exact hus) hvs hro hf h
/-- A slot's truth is known. -/
theorem p_isW {s : Nat} {b c : Bool} {l : List Oper} (hs : evE e (.tmp s) = .bool c := by simp (decide := true) only [evE, upd, cv, args0, argsFrom, List.length_map, ↓reduceIte, hE] <;> rfl) (hc : c = b) (h : Wk m ⟨P, w0, S0, nt, frs⟩ ops Q ⟨upd e s (.bool b), ob, g⟩ l) : Wk m ⟨P, w0, S0, nt, frs⟩ ops Q ⟨e, ob, g⟩ l := by
  subst hc; rwa [upd_self hs] at h
theorem p_isC {s : Nat} {b c : Bool} {x : Code} (hs : evE e (.tmp s) = .bool c := by simp (decide := true) only [evE, upd, cv, args0, argsFrom, List.length_map, ↓reduceIte, hE] <;> rfl) (hc : c = b) (h : TrC ⟨P, w0, S0, nt, frs⟩ ⟨upd e s (.bool b), ob, g⟩ x Q) : TrC ⟨P, w0, S0, nt, frs⟩ ⟨e, ob, g⟩ x Q := by
  subst hc; rwa [upd_self hs] at h
/-- nil in a struct in a slot, as an empty slice that is only read. -/
theorem p_aggNilW {s i el : Nat} {l l' : List V} (hm : m = .lex := by exact rfl) (hs : e s = .agg l := by simp (decide := true) only [evE, upd, cv, args0, argsFrom, List.length_map, ↓reduceIte, hE] <;> rfl) (hi : l[i]? = some .nil := by exact rfl) (hl : l.set i (.sl el []) = l' := by exact rfl) (h : Wk .lex ⟨P, w0, S0, nt, frs⟩ ops Q ⟨upd e s (.agg l'), ob, g⟩ rest) : Wk m ⟨P, w0, S0, nt, frs⟩ ops Q ⟨e, ob, g⟩ rest := by
  subst hm hl
  intro S at_ a w hr
  refine h S at_ a w (hr.slotV (s := s) fun x hx => ?_)
  rw [show (⟨e, ob, g⟩ : St).env s = .agg l from hs, VR] at hx
  obtain ⟨arr, h1, h2⟩ := hx
  rw [VR]
  refine ⟨arr, h1, VRs.set (v := .nil) (fun y hy => ?_) h2 hi⟩
  rw [VR, RL] at hy
  rw [VR, RL]
  exact ⟨none, 0, hy, Nat.le_refl _, .inl rfl⟩
end
end Go.Proofs.YtjjpmbaddpiamaaDoor
