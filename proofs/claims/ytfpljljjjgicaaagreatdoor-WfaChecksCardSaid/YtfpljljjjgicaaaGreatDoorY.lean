/-
  The abstract machine: more rules: how many keys a map has; conversions of whole numbers; shifts; bytes as a string; loads and stores of rows of whole numbers.
-/
import Derived.Test.YtfpljljjjgicaaaGreatDoorL
import Derived.Laws.BytesString
import Derived.Laws.Small
set_option linter.unusedSimpArgs false
set_option linter.unusedVariables false
namespace Go.Proofs.YtfpljljjjgicaaaGreatDoor
open Go.RowKit
/-- A value of a map, structs of simple fields with it. -/
def cw : Value → V
  | .agg arr => .agg (arr.toList.map cv)
  | v => cv v
theorem cw_eq {v : Value} (h : ∀ arr, v ≠ .agg arr) : cw v = cv v := by
  cases v <;> first | rfl | exact absurd rfl (h _)
theorem VRs_cvl {P : Program} {w : World} {S : Nat → Prop} {at_ : At} : ∀ l : List Value, VRs P w S at_ (l.map cv) l
  | [] => by simp [VRs]
  | v :: l => by rw [List.map_cons, VRs]; exact ⟨VR_cv v, VRs_cvl l⟩
theorem VR_cw {P : Program} {w : World} {S : Nat → Prop} {at_ : At} (v : Value) : VR P w S at_ (cw v) v := by
  by_cases h : ∃ arr, v = .agg arr
  · obtain ⟨arr, rfl⟩ := h
    rw [cw, VR]; exact ⟨arr, rfl, VRs_cvl _⟩
  · rw [cw_eq fun arr e => h ⟨arr, e⟩]; exact VR_cv v
section
variable {c : Ctx} {st : St} {o : Oper} {d : Nat}
theorem Stp.eqB {t t' : TypeId} {x y : Operand} {p q : Bool} (hd : o.dst = some d) (hn : d < c.nt) (hop : o.op = .binOp .eql t x y t') (ht : c.P.underlying t = some .bool) (hx : st.ev x = .bool p) (hy : st.ev y = .bool q) : Stp c o st (st.put d (.bool (p == q))) :=
  Stp.val hd hn fun S at_ a w hr => by
    have h1 := hr.ev x
    have h2 := hr.ev y
    rw [hx, VR, RL] at h1
    rw [hy, VR, RL] at h2
    exact ⟨.bool (p == q), by simp [execOp, hop, h1, h2, eqGuard, binOp, run_equal_bool w t p q ht], by rw [VR, RL]⟩
theorem Stp.neB {t t' : TypeId} {x y : Operand} {p q : Bool} (hd : o.dst = some d) (hn : d < c.nt) (hop : o.op = .binOp .neq t x y t') (ht : c.P.underlying t = some .bool) (hx : st.ev x = .bool p) (hy : st.ev y = .bool q) : Stp c o st (st.put d (.bool (!(p == q)))) :=
  Stp.val hd hn fun S at_ a w hr => by
    have h1 := hr.ev x
    have h2 := hr.ev y
    rw [hx, VR, RL] at h1
    rw [hy, VR, RL] at h2
    exact ⟨.bool (!(p == q)), by simp [execOp, hop, h1, h2, eqGuard, binOp, run_equal_bool w t p q ht], by rw [VR, RL]⟩
theorem Stp.minI {t u : TypeId} {x y : Operand} {k : IntKind} {p q : Int} (hd : o.dst = some d) (hn : d < c.nt) (hop : o.op = .call { callee := .builtin .min, args := #[x, y], argTypes := #[t, u] }) (hx : st.ev x = .int k p) (hy : st.ev y = .int k q) : Stp c o st (st.put d (.int k (if q < p then q else p))) :=
  Stp.val hd hn fun S at_ a w hr => by
    have h1 := hr.ev x
    have h2 := hr.ev y
    rw [hx, VR, RL] at h1
    rw [hy, VR, RL] at h2
    exact ⟨.int k (if q < p then q else p), by simp [execOp, hop, resolve, invoke, builtin, h1, h2, Builtin.min_, Builtin.min2], by rw [VR, RL]⟩
theorem Flat.bytes {P : Program} {w : World} {S : Nat → Prop} {e : TypeId} {k : IntKind} : ∀ {l : List Int} {cs : List Value}, Flat P w S e (l.map (V.int k)) cs → cs = l.map (Value.int k)
  | [], cs, h => h
  | n :: l, cs, h => by
    obtain ⟨c1, c2, rfl, _, h3, h4⟩ := h
    simp only [RX, RL] at h3
    obtain ⟨x, rfl, rfl⟩ := h3
    rw [Flat.bytes h4]; rfl
end
section
variable {P : Program} {w0 : World} {S0 : Nat → Prop} {nt : Nat} {frs : Frs} {e : Nat → V} {ob : Nat → Nat → Ob} {g : Nat} {Q : Exit → Act → World → Prop} {K : Act → World → Prop} {ops : Array Oper} {rest : List Oper} {d : Nat} {ty : TypeId} {pos : String} {aft : Array Edge} {m : Md}
theorem p_conv {t t' : TypeId} {x : Operand} {k k' : IntKind} {p : Int} {u : TypeDesc} (hn : d < nt := by decide) (hs : P.underlying t = some u) (ht : P.underlying t' = some (.int k')) (hx : evE e x = .int k p := by simp (decide := true) only [evE, upd, cv, args0, argsFrom, List.length_map, ↓reduceIte, hE] <;> rfl) (h : Wk (m.log ⟨some (d, .int k' (k'.wrap p)), [], []⟩) ⟨P, w0, S0, nt, frs⟩ ops Q ⟨upd e d (.int k' (k'.wrap p)), ob, g⟩ rest) : Wk m ⟨P, w0, S0, nt, frs⟩ ops Q ⟨e, ob, g⟩ (⟨some d, .convert t t' x, ty, pos, aft, none⟩ :: rest) :=
  Wk.op (Loc.plain rfl rfl fun st' hv' _ _ => Stp.convInt (st := st') rfl hn rfl hs ht ((hv' x (by simp [Op.operands])).trans ((evE_eq e ob g x).trans hx))) h
theorem p_shr {t t' : TypeId} {x y : Operand} {k k' : IntKind} {p q : Int} {v : V} (hn : d < nt := by decide) (hx : evE e x = .int k p := by simp (decide := true) only [evE, upd, cv, args0, argsFrom, List.length_map, ↓reduceIte, hE] <;> rfl) (hy : evE e y = .int k' q := by simp (decide := true) only [evE, upd, cv, args0, argsFrom, List.length_map, ↓reduceIte, hE] <;> rfl) (h0 : 0 ≤ q) (hv : V.int k (p.fdiv (2 ^ min q.toNat k.bits)) = v) (h : Wk (m.log ⟨some (d, v), [], []⟩) ⟨P, w0, S0, nt, frs⟩ ops Q ⟨upd e d v, ob, g⟩ rest) : Wk m ⟨P, w0, S0, nt, frs⟩ ops Q ⟨e, ob, g⟩ (⟨some d, .binOp .shr t x y t', ty, pos, aft, none⟩ :: rest) :=
  Wk.op (Loc.plain rfl rfl fun st' hv' _ _ => Stp.shift (st := st') rfl hn rfl ((hv' x (by simp [Op.operands])).trans ((evE_eq e ob g x).trans hx)) ((hv' y (by simp [Op.operands])).trans ((evE_eq e ob g y).trans hy)) h0 (.inr ⟨rfl, hv.symm⟩)) h
theorem p_shl {t t' : TypeId} {x y : Operand} {k k' : IntKind} {p q : Int} {v : V} (hn : d < nt := by decide) (hx : evE e x = .int k p := by simp (decide := true) only [evE, upd, cv, args0, argsFrom, List.length_map, ↓reduceIte, hE] <;> rfl) (hy : evE e y = .int k' q := by simp (decide := true) only [evE, upd, cv, args0, argsFrom, List.length_map, ↓reduceIte, hE] <;> rfl) (h0 : 0 ≤ q) (hv : V.int k (k.wrap (p * 2 ^ min q.toNat k.bits)) = v) (h : Wk (m.log ⟨some (d, v), [], []⟩) ⟨P, w0, S0, nt, frs⟩ ops Q ⟨upd e d v, ob, g⟩ rest) : Wk m ⟨P, w0, S0, nt, frs⟩ ops Q ⟨e, ob, g⟩ (⟨some d, .binOp .shl t x y t', ty, pos, aft, none⟩ :: rest) :=
  Wk.op (Loc.plain rfl rfl fun st' hv' _ _ => Stp.shift (st := st') rfl hn rfl ((hv' x (by simp [Op.operands])).trans ((evE_eq e ob g x).trans hx)) ((hv' y (by simp [Op.operands])).trans ((evE_eq e ob g y).trans hy)) h0 (.inl ⟨rfl, hv.symm⟩)) h
theorem p_eqB {t t' : TypeId} {x y : Operand} {p q : Bool} (hn : d < nt := by decide) (ht : P.underlying t = some .bool) (hx : evE e x = .bool p := by simp (decide := true) only [evE, upd, cv, args0, argsFrom, List.length_map, ↓reduceIte, hE] <;> rfl) (hy : evE e y = .bool q := by simp (decide := true) only [evE, upd, cv, args0, argsFrom, List.length_map, ↓reduceIte, hE] <;> rfl) (h : Wk (m.log ⟨some (d, .bool (p == q)), [], []⟩) ⟨P, w0, S0, nt, frs⟩ ops Q ⟨upd e d (.bool (p == q)), ob, g⟩ rest) : Wk m ⟨P, w0, S0, nt, frs⟩ ops Q ⟨e, ob, g⟩ (⟨some d, .binOp .eql t x y t', ty, pos, aft, none⟩ :: rest) :=
  Wk.op (Loc.plain rfl rfl fun st' hv' _ _ => Stp.eqB (st := st') rfl hn rfl ht ((hv' x (by simp [Op.operands])).trans ((evE_eq e ob g x).trans hx)) ((hv' y (by simp [Op.operands])).trans ((evE_eq e ob g y).trans hy))) h
theorem p_neB {t t' : TypeId} {x y : Operand} {p q : Bool} (hn : d < nt := by decide) (ht : P.underlying t = some .bool) (hx : evE e x = .bool p := by simp (decide := true) only [evE, upd, cv, args0, argsFrom, List.length_map, ↓reduceIte, hE] <;> rfl) (hy : evE e y = .bool q := by simp (decide := true) only [evE, upd, cv, args0, argsFrom, List.length_map, ↓reduceIte, hE] <;> rfl) (h : Wk (m.log ⟨some (d, .bool (!(p == q))), [], []⟩) ⟨P, w0, S0, nt, frs⟩ ops Q ⟨upd e d (.bool (!(p == q))), ob, g⟩ rest) : Wk m ⟨P, w0, S0, nt, frs⟩ ops Q ⟨e, ob, g⟩ (⟨some d, .binOp .neq t x y t', ty, pos, aft, none⟩ :: rest) :=
  Wk.op (Loc.plain rfl rfl fun st' hv' _ _ => Stp.neB (st := st') rfl hn rfl ht ((hv' x (by simp [Op.operands])).trans ((evE_eq e ob g x).trans hx)) ((hv' y (by simp [Op.operands])).trans ((evE_eq e ob g y).trans hy))) h
theorem p_min {t u : TypeId} {x y : Operand} {k : IntKind} {p q : Int} (hn : d < nt := by decide) (hx : evE e x = .int k p := by simp (decide := true) only [evE, upd, cv, args0, argsFrom, List.length_map, ↓reduceIte, hE] <;> rfl) (hy : evE e y = .int k q := by simp (decide := true) only [evE, upd, cv, args0, argsFrom, List.length_map, ↓reduceIte, hE] <;> rfl) (h : Wk (m.log ⟨some (d, .int k (if q < p then q else p)), [], []⟩) ⟨P, w0, S0, nt, frs⟩ ops Q ⟨upd e d (.int k (if q < p then q else p)), ob, g⟩ rest) : Wk m ⟨P, w0, S0, nt, frs⟩ ops Q ⟨e, ob, g⟩ (⟨some d, .call { callee := .builtin .min, args := #[x, y], argTypes := #[t, u] }, ty, pos, aft, none⟩ :: rest) :=
  Wk.op (Loc.plain rfl rfl fun st' hv' _ _ => Stp.minI (st := st') rfl hn rfl ((hv' x (by simp [Op.operands, Call.operands])).trans ((evE_eq e ob g x).trans hx)) ((hv' y (by simp [Op.operands, Call.operands])).trans ((evE_eq e ob g y).trans hy))) h
theorem p_mul {t t' : TypeId} {x y : Operand} {p q r : Int} (hn : d < nt := by decide) (hx : evE e x = .int .i64 p := by simp (decide := true) only [evE, upd, cv, args0, argsFrom, List.length_map, ↓reduceIte, hE] <;> rfl) (hy : evE e y = .int .i64 q := by simp (decide := true) only [evE, upd, cv, args0, argsFrom, List.length_map, ↓reduceIte, hE] <;> rfl) (hr : p * q = r) (hb : -9223372036854775808 ≤ r ∧ r ≤ 9223372036854775807) (h : Wk (m.log ⟨some (d, .int .i64 r), [], []⟩) ⟨P, w0, S0, nt, frs⟩ ops Q ⟨upd e d (.int .i64 r), ob, g⟩ rest) :
    Wk m ⟨P, w0, S0, nt, frs⟩ ops Q ⟨e, ob, g⟩ (⟨some d, .binOp .mul t x y t', ty, pos, aft, none⟩ :: rest) :=
  p_num hn hx hy (by simp only [numOp, hr, IntWalk.i64_in r hb]) h
theorem p_sub {t t' : TypeId} {x y : Operand} {p q r : Int} (hn : d < nt := by decide) (hx : evE e x = .int .i64 p := by simp (decide := true) only [evE, upd, cv, args0, argsFrom, List.length_map, ↓reduceIte, hE] <;> rfl) (hy : evE e y = .int .i64 q := by simp (decide := true) only [evE, upd, cv, args0, argsFrom, List.length_map, ↓reduceIte, hE] <;> rfl) (hr : p - q = r) (hb : -9223372036854775808 ≤ r ∧ r ≤ 9223372036854775807) (h : Wk (m.log ⟨some (d, .int .i64 r), [], []⟩) ⟨P, w0, S0, nt, frs⟩ ops Q ⟨upd e d (.int .i64 r), ob, g⟩ rest) :
    Wk m ⟨P, w0, S0, nt, frs⟩ ops Q ⟨e, ob, g⟩ (⟨some d, .binOp .sub t x y t', ty, pos, aft, none⟩ :: rest) :=
  p_num hn hx hy (by simp only [numOp, hr, IntWalk.i64_in r hb]) h
theorem p_idxRowN {t t' g1 d1 n : Nat} {x y : Operand} {xs : List V} {k : IntKind} {i : Int} {z : Value} {size bytes : Nat} (j : Nat) (hn : d < nt := by decide) (ht : P.underlying t = some (.slice t')) (hi : TI P t' z size bytes) (hx : evE e x = .row g1 d1 n := by simp (decide := true) only [evE, upd, cv, args0, argsFrom, List.length_map, ↓reduceIte, hE] <;> rfl) (ho : ob g1 d1 = .row t' xs := by simp (decide := true) only [updO, upd, true_and, and_true, false_and, and_false, ↓reduceIte, hE] <;> first | rfl | assumption) (hy : evE e y = .int k i := by simp (decide := true) only [evE, upd, cv, args0, argsFrom, List.length_map, ↓reduceIte, hE] <;> rfl) (hij : i = (j : Int)) (hlt : j < n)
    (h : Wk (m.log ⟨some (d, (.rptr t' g1 d1 j 0)), [], [(g1, d1)]⟩) ⟨P, w0, S0, nt, frs⟩ ops Q ⟨upd e d (.rptr t' g1 d1 j 0), ob, g⟩ rest) : Wk m ⟨P, w0, S0, nt, frs⟩ ops Q ⟨e, ob, g⟩ (⟨some d, .indexAddr t x y, ty, pos, aft, none⟩ :: rest) := by
  have hj : i.toNat = j := by omega
  refine p_idxRow hn ht hi hx ho hy (by omega) (by omega) ?_
  rw [hj]; exact h
theorem p_loadRowAM {α : Type} {t t' i g1 d1 : Nat} {x : Operand} {l : List α} {f : α → V} {l' : List V} {z : Value} {size bytes : Nat} (hn : d < nt := by decide) (ht : IsAgg P t) (hi : TI P t z size bytes) (hx : evE e x = .rptr t' g1 d1 i 0 := by simp (decide := true) only [evE, upd, cv, args0, argsFrom, List.length_map, ↓reduceIte, hE] <;> rfl) (ho : ob g1 d1 = .row t' (l.map f) := by simp (decide := true) only [updO, upd, true_and, and_true, false_and, and_false, ↓reduceIte, hE] <;> first | rfl | assumption) (hj : i < l.length) (hl : (f l[i]).cells = l' := by exact rfl) (hlen : l'.length = size := by exact rfl)
    (h : Wk (m.log ⟨some (d, (.agg l')), [], [(g1, d1)]⟩) ⟨P, w0, S0, nt, frs⟩ ops Q ⟨upd e d (.agg l'), ob, g⟩ rest) : Wk m ⟨P, w0, S0, nt, frs⟩ ops Q ⟨e, ob, g⟩ (⟨some d, .load t x, ty, pos, aft, none⟩ :: rest) :=
  p_loadRowA hn ht hi hx ho (y := f l[i]) (by simp [hj]) (by rw [List.drop_zero, hl]; exact List.take_of_length_le (by omega)) hlen h
theorem set_map_range {α : Type} {n i : Nat} {f h : Nat → α} {v : α} (hh : ∀ j, j < n → h j = if j = i then v else f j) : ((List.range n).map f).set i v = (List.range n).map h := by
  refine List.ext_getElem (by simp) fun j h1 h2 => ?_
  simp only [List.length_set, List.length_map, List.length_range] at h1
  rw [List.getElem_set]
  simp only [List.getElem_map, List.getElem_range, hh j h1]
  split
  · rename_i he; rw [if_pos he.symm]
  · rename_i he; rw [if_neg fun e => he e.symm]
theorem p_storeRowF {t t' i g1 d1 n : Nat} {x y : Operand} {f f' : Nat → V} {v : V} {z : Value} {bytes : Nat} (hi : TI P t z 1 bytes) (hc : P.cellsOf t' = 1) (hx : evE e x = .rptr t' g1 d1 i 0 := by simp (decide := true) only [evE, upd, cv, args0, argsFrom, List.length_map, ↓reduceIte, hE] <;> rfl) (ho : ob g1 d1 = .row t' ((List.range n).map f) := by simp (decide := true) only [updO, upd, true_and, and_true, false_and, and_false, ↓reduceIte, hE] <;> first | rfl | assumption) (hlt : i < n) (hy : evE e y = v := by simp (decide := true) only [evE, upd, cv, args0, argsFrom, List.length_map, ↓reduceIte, hE] <;> rfl) (hl : v.isRL = true := by exact rfl) (hf : ∀ j, j < n → f' j = if j = i then v else f j)
    (h : Wk (m.log ⟨none, [(g1, d1, (.row t' ((List.range n).map f')))], [(g1, d1)]⟩) ⟨P, w0, S0, nt, frs⟩ ops Q ⟨e, updO ob g1 d1 (.row t' ((List.range n).map f')), g⟩ rest) : Wk m ⟨P, w0, S0, nt, frs⟩ ops Q ⟨e, ob, g⟩ (⟨none, .store t x y, ty, pos, aft, none⟩ :: rest) := by
  have hc1 : v.cells = [v] := by cases v <;> simp_all [V.isRL, V.cells]
  have hlf : v.leaf = true := by cases v <;> simp_all [V.isRL, V.leaf]
  have hro : v.ro = true := by cases v <;> simp_all [V.isRL, V.ro]
  refine p_storeRow hi hc hx ho (by simpa using hlt) hy (.inl hlf) hro (by rw [hc1]; rfl) ?_
  rw [set_map_range hf]; exact h
end
end Go.Proofs.YtfpljljjjgicaaaGreatDoor
