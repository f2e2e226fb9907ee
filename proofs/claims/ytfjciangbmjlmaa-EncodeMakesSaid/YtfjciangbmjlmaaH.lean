/-
  '==' and '!=' of structs whose fields are whole numbers, as a rule of the abstract machine.
-/
import Derived.Test.YtfjciangbmjlmaaE
import Derived.Laws.StructEq
set_option linter.unusedSimpArgs false
set_option linter.unusedVariables false
namespace Go.Proofs.Ytfjciangbmjlmaa
open Go.RowKit
/-- Fields that are whole numbers, one cell each. -/
def IntFields (P : Program) : Nat → List Field → List IntKind → Prop
  | _, [], [] => True
  | off, f :: fs, k :: ks => (f.name == "_") = false ∧ f.offset = off ∧ P.underlying f.type = some (.int k) ∧ IntFields P (off + 1) fs ks
  | _, _, _ => False
def IntStruct (P : Program) (t : TypeId) (ks : List IntKind) : Prop := ∃ fs, P.underlying t = some (.struct fs) ∧ P.stoodInHeld t = false ∧ P.eqGuardType P.depth t = false ∧ IntFields P 0 fs.toList ks
def intVs : List IntKind → List Int → List V
  | k :: ks, n :: ns => .int k n :: intVs ks ns
  | _, _ => []
def V.toI : V → Int
  | .int _ n => n
  | _ => 0
section
variable {P : Program} {w : World} {S : Nat → Prop} {at_ : At}
theorem eqFields_ints (d : Nat) (xs ys : Array Value) : ∀ (fs : List Field) (ks : List IntKind) (off : Nat) (ms ns : List Int), IntFields P off fs ks → ms.length = ks.length → ns.length = ks.length →
    (∀ j k m, ks[j]? = some k → ms[j]? = some m → xs[off + j]? = some (.int k m)) → (∀ j k m, ks[j]? = some k → ns[j]? = some m → ys[off + j]? = some (.int k m)) → (Op.eqFields (d + 1) xs ys fs).run P w = .ok (decide (ms = ns)) w
  | [], [], _, [], [], _, _, _, _, _ => by simp [Op.eqFields]
  | f :: fs, k :: ks, off, m :: ms, n :: ns, h, hm, hn, hx, hy => by
    obtain ⟨h1, h2, h3, h4⟩ := h
    have ih := eqFields_ints d xs ys fs ks (off + 1) ms ns h4 (by simpa using hm) (by simpa using hn) (fun j k m hk hj => by have := hx (j + 1) k m (by simpa using hk) (by simpa using hj); rwa [show off + 1 + j = off + (j + 1) by omega]) (fun j k m hk hj => by have := hy (j + 1) k m (by simpa using hk) (by simpa using hj); rwa [show off + 1 + j = off + (j + 1) by omega])
    have hx0 := hx 0 k m rfl rfl
    have hy0 := hy 0 k n rfl rfl
    have hlf : IsLeaf P f.type := ⟨_, h3, rfl⟩
    have hp : ∀ (zs : Array Value) (z : Value), zs[off]? = some z → (part f.type zs f.offset).run P w = .ok z w := fun zs z hz => by
      have h5 := (Array.getElem?_eq_some_iff.1 hz).1
      simp [part, isAgg_leaf hlf, h2, hz]
    have h1' : f.name ≠ "_" := by simpa using h1
    rw [Op.eqFields]
    simp only [if_pos h1', Sem.run_bind, hp xs _ hx0, hp ys _ hy0, Result.andThen_ok, run_equalIn_int w d f.type k k m n h3]
    by_cases he : m = n
    · subst he; simp [ih]
    · simp [he]
  | [], [], _, [], _ :: _, _, _, h, _, _ => by simp at h
  | [], [], _, _ :: _, _, _, h, _, _, _ => by simp at h
  | [], _ :: _, _, _, _, h, _, _, _, _ => h.elim
  | _ :: _, [], _, _, _, h, _, _, _, _ => h.elim
  | _ :: _, _ :: _, _, [], _, _, h, _, _, _ => by simp at h
  | _ :: _, _ :: _, _, _ :: _, [], _, _, h, _, _ => by simp at h
theorem intVs_get {cs : List Value} : ∀ {ks : List IntKind} {ms : List Int}, VRs P w S at_ (intVs ks ms) cs → ∀ (j : Nat) (k : IntKind) (m : Int), ks[j]? = some k → ms[j]? = some m → cs[j]? = some (Value.int k m)
  | [], _, _, j, k, m, hk, _ => by simp at hk
  | _ :: _, [], _, j, k, m, _, hm => by simp at hm
  | k :: ks, m :: ms, h, j, k', m', hk, hm => by
    cases cs with
    | nil => simp [intVs, VRs] at h
    | cons c cs =>
      simp only [intVs] at h
      rw [VRs] at h
      cases j with
      | zero => simp at hk hm; subst hk hm; have := h.1; rw [VR, RL] at this; simp [this]
      | succ j => simp at hk hm ⊢; exact intVs_get h.2 j k' m' hk hm
theorem equal_ints {t : TypeId} {ks : List IntKind} (ht : IntStruct P t ks) {ms ns : List Int} (hm : ms.length = ks.length) (hn : ns.length = ks.length) {xs ys : Array Value} (hx : VRs P w S at_ (intVs ks ms) xs.toList) (hy : VRs P w S at_ (intVs ks ns) ys.toList) :
    (Op.equal t (.agg xs) (.agg ys)).run P w = .ok (decide (ms = ns)) w := by
  obtain ⟨fs, h1, h2, h3, h4⟩ := ht
  have hf : P.fieldsOf t = fs := by simp [Program.fieldsOf, h1]
  show (Op.equalIn 10000 t (.agg xs) (.agg ys)).run P w = _
  rw [run_equalIn_struct (P := P) w 9999 t xs ys (by rw [hf]; exact h1) h2, hf]
  exact eqFields_ints 9998 xs ys fs.toList ks 0 ms ns h4 hm hn (fun j k m hk hj => by have := intVs_get hx j k m hk hj; simpa using this) (fun j k m hk hj => by have := intVs_get hy j k m hk hj; simpa using this)
theorem Stp.eqInts {c : Ctx} {st : St} {o : Oper} {d : Nat} {t t' : TypeId} {x y : Operand} {ks : List IntKind} {ms ns : List Int} (hd : o.dst = some d) (hnt : d < c.nt) (hop : o.op = .binOp .eql t x y t') (ht : IntStruct c.P t ks) (hm : ms.length = ks.length) (hn : ns.length = ks.length) (hx : st.ev x = .agg (intVs ks ms)) (hy : st.ev y = .agg (intVs ks ns)) : Stp c o st (st.put d (.bool (decide (ms = ns)))) :=
  Stp.val hd hnt fun S at_ a w hr => by
    have h1 := hr.ev x
    have h2 := hr.ev y
    rw [hx, VR] at h1
    rw [hy, VR] at h2
    obtain ⟨xs, h3, h4⟩ := h1
    obtain ⟨ys, h5, h6⟩ := h2
    have hg := ht
    obtain ⟨fs, _, _, hgt, _⟩ := hg
    refine ⟨.bool (decide (ms = ns)), ?_, by rw [VR, RL]⟩
    simp only [execOp, hop, h3, h5, Sem.run_bind, run_eqGuard_agg w .eql t x y xs ys hgt, Result.andThen_ok, binOp, equal_ints ht hm hn h4 h6, Sem.run_pure]
end
section
variable {P : Program} {w0 : World} {S0 : Nat → Prop} {nt : Nat} {frs : List ((Nat → V) × Act)} {e : Nat → V} {ob : Nat → Nat → Ob} {g : Nat} {Q : Exit → Act → World → Prop} {ops : Array Oper} {rest : List Oper} {d : Nat} {ty : TypeId} {pos : String} {aft : Array Edge} {m : Md}
theorem p_eqInts {t t' : TypeId} {x y : Operand} {ks : List IntKind} {ms ns : List Int} {b : Bool} (hn : d < nt := by decide) (ht : IntStruct P t ks) (hm : ms.length = ks.length) (hn' : ns.length = ks.length) (hx : evE e x = .agg (intVs ks ms) := by simp (decide := true) only [evE, upd, cv, args0, argsFrom, List.length_map, ↓reduceIte, hE] <;> rfl) (hy : evE e y = .agg (intVs ks ns) := by simp (decide := true) only [evE, upd, cv, args0, argsFrom, List.length_map, ↓reduceIte, hE] <;> rfl) (hb : decide (ms = ns) = b) (h : Wk (m.log ⟨some (d, .bool b), [], []⟩) ⟨P, w0, S0, nt, frs⟩ ops Q ⟨upd e d (.bool b), ob, g⟩ rest) :
    Wk m ⟨P, w0, S0, nt, frs⟩ ops Q ⟨e, ob, g⟩ (⟨some d, .binOp .eql t x y t', ty, pos, aft, none⟩ :: rest) := by
  subst hb
  exact Wk.op (Loc.plain rfl rfl fun st' hv' _ _ => Stp.eqInts (st := st') rfl hn rfl ht hm hn' ((hv' x (by simp [Op.operands])).trans ((evE_eq e ob g x).trans hx)) ((hv' y (by simp [Op.operands])).trans ((evE_eq e ob g y).trans hy))) h
theorem p_eqIntsL {t t' : TypeId} {x y : Operand} {ks : List IntKind} {l l' : List V} {b : Bool} (hn : d < nt := by decide) (ht : IntStruct P t ks) (hx : evE e x = .agg l := by simp (decide := true) only [evE, upd, cv, args0, argsFrom, List.length_map, ↓reduceIte, hE] <;> rfl) (hy : evE e y = .agg l' := by simp (decide := true) only [evE, upd, cv, args0, argsFrom, List.length_map, ↓reduceIte, hE] <;> rfl) (hl : intVs ks (l.map V.toI) = l := by exact rfl) (hl' : intVs ks (l'.map V.toI) = l' := by exact rfl) (hm : l.length = ks.length := by exact rfl) (hm' : l'.length = ks.length := by exact rfl) (hb : decide (l.map V.toI = l'.map V.toI) = b) (h : Wk (m.log ⟨some (d, .bool b), [], []⟩) ⟨P, w0, S0, nt, frs⟩ ops Q ⟨upd e d (.bool b), ob, g⟩ rest) :
    Wk m ⟨P, w0, S0, nt, frs⟩ ops Q ⟨e, ob, g⟩ (⟨some d, .binOp .eql t x y t', ty, pos, aft, none⟩ :: rest) :=
  p_eqInts hn ht (by simpa using hm) (by simpa using hm') (by rw [hl]; exact hx) (by rw [hl']; exact hy) hb h
end
end Go.Proofs.Ytfjciangbmjlmaa
