/-
  The abstract machine's rules in the form in which a walk uses them: the state's three parts stand in the goal.
-/
import Derived.Test.YtjjpmbaddpiamaaDoorW
import Derived.IntWalk
set_option linter.unusedSimpArgs false
set_option linter.unusedVariables false
namespace Go.Proofs.YtjjpmbaddpiamaaDoor
open Go.RowKit

def evE (e : Nat → V) : Operand → V
  | .tmp t => e t
  | .const v => cv v
  | .func f => .fn f []
  | .global g => .any (.pointer (some ⟨g, 0, none⟩))
/-- The facts of a walk: a walk names its own so. -/
theorem hE : True := trivial
theorem evE_eq (e : Nat → V) (ob : Nat → Nat → Ob) (g : Nat) (x : Operand) : (⟨e, ob, g⟩ : St).ev x = evE e x := by cases x <;> rfl

section
variable {P : Program} {w0 : World} {S0 : Nat → Prop} {nt : Nat} {frs : Frs} {e : Nat → V} {ob : Nat → Nat → Ob} {g : Nat} {Q : Exit → Act → World → Prop} {K : Act → World → Prop}
variable {ops : Array Oper} {rest : List Oper} {d : Nat} {ty : TypeId} {pos : String} {aft : Array Edge} {m : Md}

theorem p_seq {x y : Code} (h : TrC ⟨P, w0, S0, nt, frs⟩ ⟨e, ob, g⟩ x (Exit.then (y.wpIn (Fn frs.rd) 0 P Q) Q)) : TrC ⟨P, w0, S0, nt, frs⟩ ⟨e, ob, g⟩ (.seq x y) Q := TrC.seq h
theorem p_move {x : Operand} {v : V} (hn : d < nt := by decide) (hx : evE e x = v := by simp (decide := true) only [evE, upd, cv, args0, argsFrom, List.length_map, ↓reduceIte, hE] <;> rfl) (h : Wk (m.log ⟨some (d, v), [], []⟩) ⟨P, w0, S0, nt, frs⟩ ops Q ⟨upd e d v, ob, g⟩ rest) : Wk m ⟨P, w0, S0, nt, frs⟩ ops Q ⟨e, ob, g⟩ (⟨some d, .move x, ty, pos, aft, none⟩ :: rest) :=
  Wk.op (Loc.plain rfl rfl fun st' hv' ho' hg => Stp.move rfl hn (.inl rfl) ((hv' x (by simp [Op.operands, Call.operands])).trans ((evE_eq e ob g x).trans hx))) h
theorem p_assign {x : Operand} {v : V} (hn : d < nt := by decide) (hx : evE e x = v := by simp (decide := true) only [evE, upd, cv, args0, argsFrom, List.length_map, ↓reduceIte, hE] <;> rfl) (h : Wk (m.log ⟨some (d, v), [], []⟩) ⟨P, w0, S0, nt, frs⟩ ops Q ⟨upd e d v, ob, g⟩ rest) : Wk m ⟨P, w0, S0, nt, frs⟩ ops Q ⟨e, ob, g⟩ (⟨some d, .assign x, ty, pos, aft, none⟩ :: rest) :=
  Wk.op (Loc.plain rfl rfl fun st' hv' ho' hg => Stp.move rfl hn (.inr rfl) ((hv' x (by simp [Op.operands, Call.operands])).trans ((evE_eq e ob g x).trans hx))) h
theorem p_num {op : BinOp} {t t' : TypeId} {x y : Operand} {k : IntKind} {p q : Int} {v : V} (hn : d < nt := by decide) (hx : evE e x = .int k p := by simp (decide := true) only [evE, upd, cv, args0, argsFrom, List.length_map, ↓reduceIte, hE] <;> rfl) (hy : evE e y = .int k q := by simp (decide := true) only [evE, upd, cv, args0, argsFrom, List.length_map, ↓reduceIte, hE] <;> rfl) (hv : numOp op k p q = some v := by exact rfl) (h : Wk (m.log ⟨some (d, v), [], []⟩) ⟨P, w0, S0, nt, frs⟩ ops Q ⟨upd e d v, ob, g⟩ rest) :
    Wk m ⟨P, w0, S0, nt, frs⟩ ops Q ⟨e, ob, g⟩ (⟨some d, .binOp op t x y t', ty, pos, aft, none⟩ :: rest) :=
  Wk.op (Loc.plain rfl rfl fun st' hv' ho' hg => Stp.num rfl hn rfl ((hv' x (by simp [Op.operands, Call.operands])).trans ((evE_eq e ob g x).trans hx)) ((hv' y (by simp [Op.operands, Call.operands])).trans ((evE_eq e ob g y).trans hy)) hv) h
theorem p_not {t : TypeId} {x : Operand} {b : Bool} (hn : d < nt := by decide) (hx : evE e x = .bool b := by simp (decide := true) only [evE, upd, cv, args0, argsFrom, List.length_map, ↓reduceIte, hE] <;> rfl) (h : Wk (m.log ⟨some (d, (.bool (!b))), [], []⟩) ⟨P, w0, S0, nt, frs⟩ ops Q ⟨upd e d (.bool (!b)), ob, g⟩ rest) : Wk m ⟨P, w0, S0, nt, frs⟩ ops Q ⟨e, ob, g⟩ (⟨some d, .unOp .not t x, ty, pos, aft, none⟩ :: rest) :=
  Wk.op (Loc.plain rfl rfl fun st' hv' ho' hg => Stp.not rfl hn rfl ((hv' x (by simp [Op.operands, Call.operands])).trans ((evE_eq e ob g x).trans hx))) h
theorem p_extract {x : Operand} {i : Nat} {l : List V} {v : V} (hn : d < nt := by decide) (hx : evE e x = .tup l := by simp (decide := true) only [evE, upd, cv, args0, argsFrom, List.length_map, ↓reduceIte, hE] <;> rfl) (hv : l[i]? = some v := by exact rfl) (h : Wk (m.log ⟨some (d, v), [], []⟩) ⟨P, w0, S0, nt, frs⟩ ops Q ⟨upd e d v, ob, g⟩ rest) : Wk m ⟨P, w0, S0, nt, frs⟩ ops Q ⟨e, ob, g⟩ (⟨some d, .extract x i, ty, pos, aft, none⟩ :: rest) :=
  Wk.op (Loc.plain rfl rfl fun st' hv' ho' hg => Stp.extract rfl hn rfl ((hv' x (by simp [Op.operands, Call.operands])).trans ((evE_eq e ob g x).trans hx)) hv) h
theorem p_box {t : TypeId} {x : Operand} {v : V} {cs : List V} (hn : d < nt := by decide) (hf : ob g d = .none := by repeat (first | exact hf _ | with_reducible rfl | rw [updO_off (by decide)])) (hx : evE e x = v := by simp (decide := true) only [evE, upd, cv, args0, argsFrom, List.length_map, ↓reduceIte, hE] <;> rfl) (hl : v.leaf = true ∨ ∃ l, v = .agg l := by first | exact .inl rfl | exact .inr ⟨_, rfl⟩) (hcs : v.cells = cs := by exact rfl) (h : Wk (m.log ⟨some (d, (.ptr g d 0)), [(g, d, (.cells t cs))], [(g, d)]⟩) ⟨P, w0, S0, nt, frs⟩ ops Q ⟨upd e d (.ptr g d 0), updO ob g d (.cells t cs), g⟩ rest) :
    Wk m ⟨P, w0, S0, nt, frs⟩ ops Q ⟨e, ob, g⟩ (⟨some d, .box t x, ty, pos, aft, none⟩ :: rest) :=
  Wk.op (Loc.plain rfl rfl fun st' hv' ho' hg => by
    obtain ⟨e', ob', g'⟩ := st'
    obtain rfl : g = g' := hg.symm
    exact Stp.box (st := ⟨e', ob', g⟩) rfl hn rfl ((ho' (g, d) (by simp)).trans hf) ((hv' x (by simp [Op.operands, Call.operands])).trans ((evE_eq e ob g x).trans hx)) hl hcs) h
theorem p_alloc {t : TypeId} {z : Value} {size bytes : Nat} {zs : List V} (hn : d < nt := by decide) (hf : ob g d = .none := by repeat (first | exact hf _ | with_reducible rfl | rw [updO_off (by decide)])) (hi : TI P t z size bytes) (hz : z.cells.toList.map cv = zs := by simp [Value.cells, cv] <;> rfl) (h : Wk (m.log ⟨some (d, (.ptr g d 0)), [(g, d, (.cells t zs))], [(g, d)]⟩) ⟨P, w0, S0, nt, frs⟩ ops Q ⟨upd e d (.ptr g d 0), updO ob g d (.cells t zs), g⟩ rest) :
    Wk m ⟨P, w0, S0, nt, frs⟩ ops Q ⟨e, ob, g⟩ (⟨some d, .alloc t, ty, pos, aft, none⟩ :: rest) :=
  Wk.op (Loc.plain rfl rfl fun st' hv' ho' hg => by
    obtain ⟨e', ob', g'⟩ := st'
    obtain rfl : g = g' := hg.symm
    exact Stp.alloc (st := ⟨e', ob', g⟩) rfl hn rfl hi ((ho' (g, d) (by simp)).trans hf) hz) h
theorem p_fieldPtr {s i off p g1 d1 : Nat} {x : Operand} (hn : d < nt := by decide) (hf : FieldAt P s i off) (hx : evE e x = .ptr g1 d1 p := by simp (decide := true) only [evE, upd, cv, args0, argsFrom, List.length_map, ↓reduceIte, hE] <;> rfl) (h : Wk (m.log ⟨some (d, (.ptr g1 d1 (p + off))), [], []⟩) ⟨P, w0, S0, nt, frs⟩ ops Q ⟨upd e d (.ptr g1 d1 (p + off)), ob, g⟩ rest) : Wk m ⟨P, w0, S0, nt, frs⟩ ops Q ⟨e, ob, g⟩ (⟨some d, .fieldAddr s x i, ty, pos, aft, none⟩ :: rest) :=
  Wk.op (Loc.plain rfl rfl fun st' hv' ho' hg => Stp.fieldPtr rfl hn rfl hf ((hv' x (by simp [Op.operands, Call.operands])).trans ((evE_eq e ob g x).trans hx))) h
theorem p_fieldRow {s i off p q t g1 d1 : Nat} {x : Operand} (hn : d < nt := by decide) (hf : FieldAt P s i off) (hx : evE e x = .rptr t g1 d1 p q := by simp (decide := true) only [evE, upd, cv, args0, argsFrom, List.length_map, ↓reduceIte, hE] <;> rfl) (h : Wk (m.log ⟨some (d, (.rptr t g1 d1 p (q + off))), [], []⟩) ⟨P, w0, S0, nt, frs⟩ ops Q ⟨upd e d (.rptr t g1 d1 p (q + off)), ob, g⟩ rest) : Wk m ⟨P, w0, S0, nt, frs⟩ ops Q ⟨e, ob, g⟩ (⟨some d, .fieldAddr s x i, ty, pos, aft, none⟩ :: rest) :=
  Wk.op (Loc.plain rfl rfl fun st' hv' ho' hg => Stp.fieldRow rfl hn rfl hf ((hv' x (by simp [Op.operands, Call.operands])).trans ((evE_eq e ob g x).trans hx))) h
theorem p_fieldRef {s i off : Nat} {x : Operand} {l l' : List V} (hn : d < nt := by decide) (hf : FieldAt P s i off) (hx : evE e x = .ref l := by simp (decide := true) only [evE, upd, cv, args0, argsFrom, List.length_map, ↓reduceIte, hE] <;> rfl) (hl : l.drop off = l' := by simp only [V.cells, List.drop_zero, List.drop_succ_cons, List.drop_nil] <;> rfl) (h : Wk (m.log ⟨some (d, (.ref l')), [], []⟩) ⟨P, w0, S0, nt, frs⟩ ops Q ⟨upd e d (.ref l'), ob, g⟩ rest) : Wk m ⟨P, w0, S0, nt, frs⟩ ops Q ⟨e, ob, g⟩ (⟨some d, .fieldAddr s x i, ty, pos, aft, none⟩ :: rest) :=
  Wk.op (Loc.plain rfl rfl fun st' hv' ho' hg => Stp.fieldRef rfl hn rfl hf ((hv' x (by simp [Op.operands, Call.operands])).trans ((evE_eq e ob g x).trans hx)) hl) h
theorem p_load {t t' p g1 d1 : Nat} {x : Operand} {cs : List V} {v : V} (hn : d < nt := by decide) (ht : IsLeaf P t) (hx : evE e x = .ptr g1 d1 p := by simp (decide := true) only [evE, upd, cv, args0, argsFrom, List.length_map, ↓reduceIte, hE] <;> rfl) (ho : ob g1 d1 = .cells t' cs := by simp (decide := true) only [updO, upd, true_and, and_true, false_and, and_false, ↓reduceIte, hE] <;> first | rfl | assumption) (hv : cs[p]? = some v := by exact rfl) (h : Wk (m.log ⟨some (d, v), [], [(g1, d1)]⟩) ⟨P, w0, S0, nt, frs⟩ ops Q ⟨upd e d v, ob, g⟩ rest) : Wk m ⟨P, w0, S0, nt, frs⟩ ops Q ⟨e, ob, g⟩ (⟨some d, .load t x, ty, pos, aft, none⟩ :: rest) :=
  Wk.op (Loc.plain rfl rfl fun st' hv' ho' hg => Stp.loadPtr (st := st') rfl hn rfl ht ((hv' x (by simp [Op.operands, Call.operands])).trans ((evE_eq e ob g x).trans hx)) ((ho' (g1, d1) (by simp)).trans ho) hv) h
theorem p_loadA {t t' p g1 d1 : Nat} {x : Operand} {cs l : List V} {z : Value} {size bytes : Nat} (hn : d < nt := by decide) (ht : IsAgg P t) (hi : TI P t z size bytes) (hx : evE e x = .ptr g1 d1 p := by simp (decide := true) only [evE, upd, cv, args0, argsFrom, List.length_map, ↓reduceIte, hE] <;> rfl) (ho : ob g1 d1 = .cells t' cs := by simp (decide := true) only [updO, upd, true_and, and_true, false_and, and_false, ↓reduceIte, hE] <;> first | rfl | assumption) (hl : (cs.drop p).take size = l := by simp only [V.cells, List.drop_zero, List.drop_succ_cons, List.take_succ_cons, List.take_zero, List.take_nil, Nat.reduceAdd] <;> rfl) (hlen : l.length = size := by exact rfl)
    (h : Wk (m.log ⟨some (d, (.agg l)), [], [(g1, d1)]⟩) ⟨P, w0, S0, nt, frs⟩ ops Q ⟨upd e d (.agg l), ob, g⟩ rest) : Wk m ⟨P, w0, S0, nt, frs⟩ ops Q ⟨e, ob, g⟩ (⟨some d, .load t x, ty, pos, aft, none⟩ :: rest) :=
  Wk.op (Loc.plain rfl rfl fun st' hv' ho' hg => Stp.loadPtrAgg (st := st') rfl hn rfl ht hi ((hv' x (by simp [Op.operands, Call.operands])).trans ((evE_eq e ob g x).trans hx)) ((ho' (g1, d1) (by simp)).trans ho) hl hlen) h
theorem p_loadRow {t t' i q g1 d1 : Nat} {x : Operand} {xs : List V} {y v : V} (hn : d < nt := by decide) (ht : IsLeaf P t) (hx : evE e x = .rptr t' g1 d1 i q := by simp (decide := true) only [evE, upd, cv, args0, argsFrom, List.length_map, ↓reduceIte, hE] <;> rfl) (ho : ob g1 d1 = .row t' xs := by simp (decide := true) only [updO, upd, true_and, and_true, false_and, and_false, ↓reduceIte, hE] <;> first | rfl | assumption) (hy : xs[i]? = some y) (hv : y.cells[q]? = some v) (h : Wk (m.log ⟨some (d, v), [], [(g1, d1)]⟩) ⟨P, w0, S0, nt, frs⟩ ops Q ⟨upd e d v, ob, g⟩ rest) :
    Wk m ⟨P, w0, S0, nt, frs⟩ ops Q ⟨e, ob, g⟩ (⟨some d, .load t x, ty, pos, aft, none⟩ :: rest) :=
  Wk.op (Loc.plain rfl rfl fun st' hv' ho' hg => Stp.loadRow (st := st') rfl hn rfl ht ((hv' x (by simp [Op.operands, Call.operands])).trans ((evE_eq e ob g x).trans hx)) ((ho' (g1, d1) (by simp)).trans ho) hy hv) h
theorem p_loadRowA {t t' i q g1 d1 : Nat} {x : Operand} {xs l : List V} {y : V} {z : Value} {size bytes : Nat} (hn : d < nt := by decide) (ht : IsAgg P t) (hi : TI P t z size bytes) (hx : evE e x = .rptr t' g1 d1 i q := by simp (decide := true) only [evE, upd, cv, args0, argsFrom, List.length_map, ↓reduceIte, hE] <;> rfl) (ho : ob g1 d1 = .row t' xs := by simp (decide := true) only [updO, upd, true_and, and_true, false_and, and_false, ↓reduceIte, hE] <;> first | rfl | assumption) (hy : xs[i]? = some y) (hl : (y.cells.drop q).take size = l) (hlen : l.length = size)
    (h : Wk (m.log ⟨some (d, (.agg l)), [], [(g1, d1)]⟩) ⟨P, w0, S0, nt, frs⟩ ops Q ⟨upd e d (.agg l), ob, g⟩ rest) : Wk m ⟨P, w0, S0, nt, frs⟩ ops Q ⟨e, ob, g⟩ (⟨some d, .load t x, ty, pos, aft, none⟩ :: rest) :=
  Wk.op (Loc.plain rfl rfl fun st' hv' ho' hg => Stp.loadRowAgg (st := st') rfl hn rfl ht hi ((hv' x (by simp [Op.operands, Call.operands])).trans ((evE_eq e ob g x).trans hx)) ((ho' (g1, d1) (by simp)).trans ho) hy hl hlen) h
theorem p_loadRef {t : Nat} {x : Operand} {l : List V} {v : V} (hn : d < nt := by decide) (ht : IsLeaf P t) (hx : evE e x = .ref l := by simp (decide := true) only [evE, upd, cv, args0, argsFrom, List.length_map, ↓reduceIte, hE] <;> rfl) (hv : l[0]? = some v := by exact rfl) (h : Wk (m.log ⟨some (d, v), [], []⟩) ⟨P, w0, S0, nt, frs⟩ ops Q ⟨upd e d v, ob, g⟩ rest) : Wk m ⟨P, w0, S0, nt, frs⟩ ops Q ⟨e, ob, g⟩ (⟨some d, .load t x, ty, pos, aft, none⟩ :: rest) :=
  Wk.op (Loc.plain rfl rfl fun st' hv' ho' hg => Stp.loadRef rfl hn rfl ht ((hv' x (by simp [Op.operands, Call.operands])).trans ((evE_eq e ob g x).trans hx)) hv) h
theorem p_loadRefA {t : Nat} {x : Operand} {l l' : List V} {z : Value} {size bytes : Nat} (hn : d < nt := by decide) (ht : IsAgg P t) (hi : TI P t z size bytes) (hx : evE e x = .ref l := by simp (decide := true) only [evE, upd, cv, args0, argsFrom, List.length_map, ↓reduceIte, hE] <;> rfl) (hl : l.take size = l' := by simp only [V.cells, List.drop_zero, List.drop_succ_cons, List.take_succ_cons, List.take_zero, List.take_nil, Nat.reduceAdd] <;> rfl) (hlen : l'.length = size := by exact rfl) (h : Wk (m.log ⟨some (d, (.agg l')), [], []⟩) ⟨P, w0, S0, nt, frs⟩ ops Q ⟨upd e d (.agg l'), ob, g⟩ rest) :
    Wk m ⟨P, w0, S0, nt, frs⟩ ops Q ⟨e, ob, g⟩ (⟨some d, .load t x, ty, pos, aft, none⟩ :: rest) :=
  Wk.op (Loc.plain rfl rfl fun st' hv' ho' hg => Stp.loadRefAgg rfl hn rfl ht hi ((hv' x (by simp [Op.operands, Call.operands])).trans ((evE_eq e ob g x).trans hx)) hl hlen) h
theorem p_idxSl {t t' : TypeId} {x y : Operand} {xs : List V} {k : IntKind} {i : Int} {v : V} {z : Value} {size bytes : Nat} (hn : d < nt := by decide) (ht : P.underlying t = some (.slice t')) (hi : TI P t' z size bytes) (hx : evE e x = .sl t' xs := by simp (decide := true) only [evE, upd, cv, args0, argsFrom, List.length_map, ↓reduceIte, hE] <;> rfl) (hy : evE e y = .int k i := by simp (decide := true) only [evE, upd, cv, args0, argsFrom, List.length_map, ↓reduceIte, hE] <;> rfl) (h0 : 0 ≤ i) (hv : xs[i.toNat]? = some v)
    (h : Wk (m.log ⟨some (d, (.ref v.cells)), [], []⟩) ⟨P, w0, S0, nt, frs⟩ ops Q ⟨upd e d (.ref v.cells), ob, g⟩ rest) : Wk m ⟨P, w0, S0, nt, frs⟩ ops Q ⟨e, ob, g⟩ (⟨some d, .indexAddr t x y, ty, pos, aft, none⟩ :: rest) :=
  Wk.op (Loc.plain rfl rfl fun st' hv' ho' hg => Stp.idxSl rfl hn rfl ht hi ((hv' x (by simp [Op.operands, Call.operands])).trans ((evE_eq e ob g x).trans hx)) ((hv' y (by simp [Op.operands, Call.operands])).trans ((evE_eq e ob g y).trans hy)) h0 hv) h
theorem p_idxRow {t t' g1 d1 n : Nat} {x y : Operand} {xs : List V} {k : IntKind} {i : Int} {z : Value} {size bytes : Nat} (hn : d < nt := by decide) (ht : P.underlying t = some (.slice t')) (hi : TI P t' z size bytes) (hx : evE e x = .row g1 d1 n := by simp (decide := true) only [evE, upd, cv, args0, argsFrom, List.length_map, ↓reduceIte, hE] <;> rfl) (ho : ob g1 d1 = .row t' xs := by simp (decide := true) only [updO, upd, true_and, and_true, false_and, and_false, ↓reduceIte, hE] <;> first | rfl | assumption) (hy : evE e y = .int k i := by simp (decide := true) only [evE, upd, cv, args0, argsFrom, List.length_map, ↓reduceIte, hE] <;> rfl) (h0 : 0 ≤ i) (hlt : i < n)
    (h : Wk (m.log ⟨some (d, (.rptr t' g1 d1 i.toNat 0)), [], [(g1, d1)]⟩) ⟨P, w0, S0, nt, frs⟩ ops Q ⟨upd e d (.rptr t' g1 d1 i.toNat 0), ob, g⟩ rest) : Wk m ⟨P, w0, S0, nt, frs⟩ ops Q ⟨e, ob, g⟩ (⟨some d, .indexAddr t x y, ty, pos, aft, none⟩ :: rest) :=
  Wk.op (Loc.plain rfl rfl fun st' hv' ho' hg => Stp.idxRow (st := st') rfl hn rfl ht hi ((hv' x (by simp [Op.operands, Call.operands])).trans ((evE_eq e ob g x).trans hx)) ((ho' (g1, d1) (by simp)).trans ho) ((hv' y (by simp [Op.operands, Call.operands])).trans ((evE_eq e ob g y).trans hy)) h0 hlt) h
theorem p_idxArr {t t' g1 d1 p n : Nat} {x y : Operand} {k : IntKind} {i : Int} {z : Value} {size bytes : Nat} (hn : d < nt := by decide) (ht : P.underlying t = some (.array n t')) (hi : TI P t' z size bytes) (hx : evE e x = .ptr g1 d1 p := by simp (decide := true) only [evE, upd, cv, args0, argsFrom, List.length_map, ↓reduceIte, hE] <;> rfl) (hy : evE e y = .int k i := by simp (decide := true) only [evE, upd, cv, args0, argsFrom, List.length_map, ↓reduceIte, hE] <;> rfl) (h0 : 0 ≤ i) (hlt : i < n)
    (h : Wk (m.log ⟨some (d, (.ptr g1 d1 (p + i.toNat * size))), [], []⟩) ⟨P, w0, S0, nt, frs⟩ ops Q ⟨upd e d (.ptr g1 d1 (p + i.toNat * size)), ob, g⟩ rest) : Wk m ⟨P, w0, S0, nt, frs⟩ ops Q ⟨e, ob, g⟩ (⟨some d, .indexAddr t x y, ty, pos, aft, none⟩ :: rest) :=
  Wk.op (Loc.plain rfl rfl fun st' hv' ho' hg => Stp.idxArr rfl hn rfl ht hi ((hv' x (by simp [Op.operands, Call.operands])).trans ((evE_eq e ob g x).trans hx)) ((hv' y (by simp [Op.operands, Call.operands])).trans ((evE_eq e ob g y).trans hy)) h0 hlt) h
theorem p_len {t t' n : Nat} {x : Operand} {v : V} (hn : d < nt := by decide) (ht : P.underlying t = some (.slice t')) (hx : evE e x = v := by simp (decide := true) only [evE, upd, cv, args0, argsFrom, List.length_map, ↓reduceIte, hE] <;> rfl) (hl : v.len = some n := by exact rfl) (hs : ∀ s, v ≠ .str s := by intro s h; cases h) (h : Wk (m.log ⟨some (d, (.int .i64 n)), [], []⟩) ⟨P, w0, S0, nt, frs⟩ ops Q ⟨upd e d (.int .i64 n), ob, g⟩ rest) :
    Wk m ⟨P, w0, S0, nt, frs⟩ ops Q ⟨e, ob, g⟩ (⟨some d, .call { callee := .builtin .len, args := #[x], argTypes := #[t] }, ty, pos, aft, none⟩ :: rest) :=
  Wk.op (Loc.plain rfl rfl fun st' hv' ho' hg => Stp.len rfl hn rfl ht (by rw [hv' x (by simp [Op.operands, Call.operands]), evE_eq, hx]; exact hl) (by rw [hv' x (by simp [Op.operands, Call.operands]), evE_eq, hx]; exact hs)) h
theorem p_lenStr {t : Nat} {x : Operand} {s : ByteArray} (hn : d < nt := by decide) (ht : P.underlying t = some .string) (hx : evE e x = .str s := by simp (decide := true) only [evE, upd, cv, args0, argsFrom, List.length_map, ↓reduceIte, hE] <;> rfl) (h : Wk (m.log ⟨some (d, (.int .i64 s.size)), [], []⟩) ⟨P, w0, S0, nt, frs⟩ ops Q ⟨upd e d (.int .i64 s.size), ob, g⟩ rest) :
    Wk m ⟨P, w0, S0, nt, frs⟩ ops Q ⟨e, ob, g⟩ (⟨some d, .call { callee := .builtin .len, args := #[x], argTypes := #[t] }, ty, pos, aft, none⟩ :: rest) :=
  Wk.op (Loc.plain rfl rfl fun st' hv' ho' hg => Stp.lenStr rfl hn rfl ht ((hv' x (by simp [Op.operands, Call.operands])).trans ((evE_eq e ob g x).trans hx))) h
theorem p_store {t t' p g1 d1 : Nat} {x y : Operand} {cs cs' : List V} {v : V} {z : Value} {size bytes : Nat} (hi : TI P t z size bytes) (hx : evE e x = .ptr g1 d1 p := by simp (decide := true) only [evE, upd, cv, args0, argsFrom, List.length_map, ↓reduceIte, hE] <;> rfl) (ho : ob g1 d1 = .cells t' cs := by simp (decide := true) only [updO, upd, true_and, and_true, false_and, and_false, ↓reduceIte, hE] <;> first | rfl | assumption) (hy : evE e y = v := by simp (decide := true) only [evE, upd, cv, args0, argsFrom, List.length_map, ↓reduceIte, hE] <;> rfl) (hl : v.leaf = true ∨ ∃ l, v = .agg l) (hlf : v.cells.all V.leaf = true) (hsz : v.cells.length = size) (hp : p + size ≤ cs.length) (hcs : splice cs p v.cells = cs')
    (h : Wk (m.log ⟨none, [(g1, d1, (.cells t' cs'))], [(g1, d1)]⟩) ⟨P, w0, S0, nt, frs⟩ ops Q ⟨e, updO ob g1 d1 (.cells t' cs'), g⟩ rest) : Wk m ⟨P, w0, S0, nt, frs⟩ ops Q ⟨e, ob, g⟩ (⟨none, .store t x y, ty, pos, aft, none⟩ :: rest) :=
  Wk.op (Loc.plain rfl rfl fun st' hv' ho' hg => Stp.storePtr (st := st') rfl rfl hi ((hv' x (by simp [Op.operands, Call.operands])).trans ((evE_eq e ob g x).trans hx)) ((ho' (g1, d1) (by simp)).trans ho) ((hv' y (by simp [Op.operands, Call.operands])).trans ((evE_eq e ob g y).trans hy)) hl hlf hsz hp hcs) h
theorem p_storeRow {t t' i g1 d1 : Nat} {x y : Operand} {xs : List V} {v : V} {z : Value} {size bytes : Nat} (hi : TI P t z size bytes) (hc : P.cellsOf t' = size) (hx : evE e x = .rptr t' g1 d1 i 0 := by simp (decide := true) only [evE, upd, cv, args0, argsFrom, List.length_map, ↓reduceIte, hE] <;> rfl) (ho : ob g1 d1 = .row t' xs := by simp (decide := true) only [updO, upd, true_and, and_true, false_and, and_false, ↓reduceIte, hE] <;> first | rfl | assumption) (hlt : i < xs.length) (hy : evE e y = v := by simp (decide := true) only [evE, upd, cv, args0, argsFrom, List.length_map, ↓reduceIte, hE] <;> rfl) (hl : v.leaf = true ∨ ∃ l, v = .agg l) (hro : v.ro = true) (hsz : v.cells.length = size)
    (h : Wk (m.log ⟨none, [(g1, d1, (.row t' (xs.set i v)))], [(g1, d1)]⟩) ⟨P, w0, S0, nt, frs⟩ ops Q ⟨e, updO ob g1 d1 (.row t' (xs.set i v)), g⟩ rest) : Wk m ⟨P, w0, S0, nt, frs⟩ ops Q ⟨e, ob, g⟩ (⟨none, .store t x y, ty, pos, aft, none⟩ :: rest) :=
  Wk.op (Loc.plain rfl rfl fun st' hv' ho' hg => Stp.storeRow (st := st') rfl rfl hi hc ((hv' x (by simp [Op.operands, Call.operands])).trans ((evE_eq e ob g x).trans hx)) ((ho' (g1, d1) (by simp)).trans ho) hlt ((hv' y (by simp [Op.operands, Call.operands])).trans ((evE_eq e ob g y).trans hy)) hl hro hsz) h
theorem p_make {t t' : TypeId} {x : Operand} {n : Nat} {k : IntKind} {z : Value} {bytes : Nat} {v : V} (hn : d < nt := by decide) (hf : ob g d = .none := by repeat (first | exact hf _ | with_reducible rfl | rw [updO_off (by decide)])) (ht : P.underlying t = some (.slice t')) (hi : TI P t' z 1 bytes) (hz : z.cells = #[z]) (hzv : cv z = v) (hro : v.isRL = true) (hx : evE e x = .int k n := by simp (decide := true) only [evE, upd, cv, args0, argsFrom, List.length_map, ↓reduceIte, hE] <;> rfl) (hb : bytes * n ≤ 281474976710656) (h63 : n ≤ 9223372036854775807)
    (h : Wk (m.log ⟨some (d, (.row g d n)), [(g, d, (.row t' (List.replicate n v)))], [(g, d)]⟩) ⟨P, w0, S0, nt, frs⟩ ops Q ⟨upd e d (.row g d n), updO ob g d (.row t' (List.replicate n v)), g⟩ rest) : Wk m ⟨P, w0, S0, nt, frs⟩ ops Q ⟨e, ob, g⟩ (⟨some d, .makeSlice t x x, ty, pos, aft, none⟩ :: rest) :=
  Wk.op (Loc.plain rfl rfl fun st' hv' ho' hg => by
    obtain ⟨e', ob', g'⟩ := st'
    obtain rfl : g = g' := hg.symm
    exact Stp.make (st := ⟨e', ob', g⟩) rfl hn rfl ht hi hz hzv hro ((hv' x (by simp [Op.operands, Call.operands])).trans ((evE_eq e ob g x).trans hx)) ((ho' (g, d) (by simp)).trans hf) hb h63) h
theorem p_cond {x : Operand} {p q : Code} {b : Bool} (hx : evE e x = .bool b := by simp (decide := true) only [evE, upd, cv, args0, argsFrom, List.length_map, ↓reduceIte, hE] <;> rfl) (ht : b = true → TrC ⟨P, w0, S0, nt, frs⟩ ⟨e, ob, g⟩ p Q) (hf : b = false → TrC ⟨P, w0, S0, nt, frs⟩ ⟨e, ob, g⟩ q Q) : TrC ⟨P, w0, S0, nt, frs⟩ ⟨e, ob, g⟩ (.cond x p q) Q := TrC.cond ((evE_eq e ob g x).trans hx) ht hf
theorem p_condT {x : Operand} {p q : Code} (hx : evE e x = .bool true := by simp (decide := true) only [evE, upd, cv, args0, argsFrom, List.length_map, ↓reduceIte, hE] <;> rfl) (h : TrC ⟨P, w0, S0, nt, frs⟩ ⟨e, ob, g⟩ p Q) : TrC ⟨P, w0, S0, nt, frs⟩ ⟨e, ob, g⟩ (.cond x p q) Q := p_cond hx (fun _ => h) (fun h => by cases h)
theorem p_condF {x : Operand} {p q : Code} (hx : evE e x = .bool false := by simp (decide := true) only [evE, upd, cv, args0, argsFrom, List.length_map, ↓reduceIte, hE] <;> rfl) (h : TrC ⟨P, w0, S0, nt, frs⟩ ⟨e, ob, g⟩ q Q) : TrC ⟨P, w0, S0, nt, frs⟩ ⟨e, ob, g⟩ (.cond x p q) Q := p_cond hx (fun h => by cases h) (fun _ => h)
theorem p_region {id : Nat} {l : List Oper} (h : (∀ d, ob (g + 1) d = .none) → Wk .lex ⟨P, w0, S0, nt, frs⟩ l.toArray Q ⟨e, ob, g + 1⟩ l) : TrC ⟨P, w0, S0, nt, frs⟩ ⟨e, ob, g⟩ (.region id l.toArray false) Q := TrC.region h
/-- A region that draws its order. -/
theorem p_draw {id : Nat} {l : List Oper} (hm : P.follows .mixedOrders = true) (h : (∀ d, ob (g + 1) d = .none) → Wk (.draw []) ⟨P, w0, S0, nt, frs⟩ l.toArray Q ⟨e, ob, g + 1⟩ l) : TrC ⟨P, w0, S0, nt, frs⟩ ⟨e, ob, g⟩ (.region id l.toArray true) Q := TrC.draw hm h
/-- What comes next, with the exits of blocks done. -/
theorem p_end {G : Prop} (h : G) (hK : G → Tr ⟨P, w0, S0, nt, frs⟩ ⟨e, ob, g⟩ (Q .normal) := by intro hK'; (repeat (first | with_reducible refine Tr.then_normal ?_ | with_reducible refine Tr.block_normal ?_ | with_reducible refine Tr.then_exit ?_ | with_reducible refine Tr.block_exit_same ?_ | with_reducible refine Tr.block_exit_other (by decide) ?_ | with_reducible refine Tr.then_ret ?_ | with_reducible refine Tr.block_ret ?_)); exact hK') : Wk .lex ⟨P, w0, S0, nt, frs⟩ ops Q ⟨e, ob, g⟩ [] := Tr.nil (hK h)
theorem p_endD {G : Prop} {log : List Eff} (h : G) (hc : drawOk ops (log.reverse.map Eff.sig) = true := by kernel_rfl) (hK : G → Tr ⟨P, w0, S0, nt, frs⟩ ⟨e, ob, g⟩ (Q .normal) := by intro hK'; (repeat (first | with_reducible refine Tr.then_normal ?_ | with_reducible refine Tr.block_normal ?_ | with_reducible refine Tr.then_exit ?_ | with_reducible refine Tr.block_exit_same ?_ | with_reducible refine Tr.block_exit_other (by decide) ?_ | with_reducible refine Tr.then_ret ?_ | with_reducible refine Tr.block_ret ?_)); exact hK') : Wk (.draw log) ⟨P, w0, S0, nt, frs⟩ ops Q ⟨e, ob, g⟩ [] := ⟨hc, hK h⟩
theorem p_skip {G : Prop} (h : G) (hK : G → Tr ⟨P, w0, S0, nt, frs⟩ ⟨e, ob, g⟩ (Q .normal) := by intro hK'; (repeat (first | with_reducible refine Tr.then_normal ?_ | with_reducible refine Tr.block_normal ?_ | with_reducible refine Tr.then_exit ?_ | with_reducible refine Tr.block_exit_same ?_ | with_reducible refine Tr.block_exit_other (by decide) ?_ | with_reducible refine Tr.then_ret ?_ | with_reducible refine Tr.block_ret ?_)); exact hK') : TrC ⟨P, w0, S0, nt, frs⟩ ⟨e, ob, g⟩ .skip Q := TrC.skip (hK h)
theorem p_exit {G : Prop} {id : Nat} (h : G) (hK : G → Tr ⟨P, w0, S0, nt, frs⟩ ⟨e, ob, g⟩ (Q (.exit id)) := by intro hK'; (repeat (first | with_reducible refine Tr.then_normal ?_ | with_reducible refine Tr.block_normal ?_ | with_reducible refine Tr.then_exit ?_ | with_reducible refine Tr.block_exit_same ?_ | with_reducible refine Tr.block_exit_other (by decide) ?_ | with_reducible refine Tr.then_ret ?_ | with_reducible refine Tr.block_ret ?_)); exact hK') : TrC ⟨P, w0, S0, nt, frs⟩ ⟨e, ob, g⟩ (.exit id) Q := TrC.exit (hK h)
theorem eV_ {α : Type} {a b : α} (h : a = b := by simp (decide := true) only [evE, upd, cv, args0, argsFrom, List.length_map, ↓reduceIte, hE] <;> rfl) : a = b := h
theorem oB_ {a b : Ob} (h : a = b := by simp (decide := true) only [updO, upd, true_and, and_true, false_and, and_false, ↓reduceIte, hE] <;> first | rfl | assumption) : a = b := h
theorem p_ret1 {dfs : List Dfr} {rd : Option Nat} {fn : Func} {Post : V → Prop} {x : ResultVar} {v : V} {st : St} (hres : fn.results = #[x] := by exact rfl) (h : st.res P x v := by exact ⟨eV_, rfl⟩) (hp : Post v) (htup : ∀ l, v ≠ .tup l := by intro l h; cases h) (hmk : dfs.all Dfr.isMark = true := by exact rfl) : Tr ⟨P, w0, S0, nt, ⟨[], dfs, rd⟩⟩ st (Ret P fn S0 w0 Post .ret) := Tr.ret1 hres h hp htup hmk
theorem ev_list {st' : St} {l : List Operand} {op : Op} (hv : ∀ y ∈ op.operands, st'.ev y = (⟨e, ob, g⟩ : St).ev y) (hl : ∀ y ∈ l, y ∈ op.operands) : l.map st'.ev = l.map (evE e) := List.map_congr_left fun y hy => (hv y (hl y hy)).trans (evE_eq ..)
theorem p_pick {x y z : Operand} {b : Bool} {v : V} (hn : d < nt := by decide) (hx : evE e x = .bool b := by simp (decide := true) only [evE, upd, cv, args0, argsFrom, List.length_map, ↓reduceIte, hE] <;> rfl) (hv : (if b then evE e y else evE e z) = v := by simp (decide := true) only [evE, upd, cv, args0, argsFrom, List.length_map, ↓reduceIte, hE] <;> rfl) (h : Wk (m.log ⟨some (d, v), [], []⟩) ⟨P, w0, S0, nt, frs⟩ ops Q ⟨upd e d v, ob, g⟩ rest) : Wk m ⟨P, w0, S0, nt, frs⟩ ops Q ⟨e, ob, g⟩ (⟨some d, .pick x y z, ty, pos, aft, none⟩ :: rest) :=
  Wk.op (Loc.plain rfl rfl fun st' h1 _ _ => Stp.pick rfl hn rfl ((h1 x (by simp [Op.operands])).trans ((evE_eq e ob g x).trans hx)) (by rw [h1 y (by simp [Op.operands]), h1 z (by simp [Op.operands]), evE_eq, evE_eq]; exact hv)) h
theorem p_func {f : FuncId} {caps : List Operand} {l : List V} (hn : d < nt := by decide) (hl : caps.map (evE e) = l := by simp (decide := true) only [List.map_cons, List.map_nil, List.cons_append, List.nil_append, List.append_nil, evE, upd, updO, cv, args0, List.getElem?_cons_zero, List.getElem?_cons_succ, Option.getD_some, List.length_map, ↓reduceIte, hE] <;> rfl) (h : Wk (m.log ⟨some (d, .fn f l), [], []⟩) ⟨P, w0, S0, nt, frs⟩ ops Q ⟨upd e d (.fn f l), ob, g⟩ rest) : Wk m ⟨P, w0, S0, nt, frs⟩ ops Q ⟨e, ob, g⟩ (⟨some d, .makeFunc (.func f) #[] caps.toArray, ty, pos, aft, none⟩ :: rest) :=
  Wk.op (Loc.plain rfl rfl fun st' h1 _ _ => Stp.func rfl hn rfl (by rw [← hl]; exact ev_list h1 (by simp [Op.operands]))) h
theorem p_build {t : TypeId} {parts : List (Nat × Operand)} {z : Value} {size bytes : Nat} {place : Nat → Option (Nat × Nat)} {ps : List (Nat × V)} {r : List V} (hn : d < nt := by decide) (hi : TI P t z size bytes) (hpl : Places P t place) (hps : parts.map (fun p => (p.1, evE e p.2)) = ps := by simp (decide := true) only [List.map_cons, List.map_nil, List.cons_append, List.nil_append, List.append_nil, evE, upd, updO, cv, args0, List.getElem?_cons_zero, List.getElem?_cons_succ, Option.getD_some, List.length_map, ↓reduceIte, hE] <;> rfl) (hl : ∀ p ∈ ps, p.2.leaf = true ∨ ∃ l, p.2 = .agg l := by simp only [List.forall_mem_cons, List.not_mem_nil, false_implies, implies_true, and_true] <;> and_intros <;> first | exact .inl rfl | exact .inr ⟨_, rfl⟩)
    (hr : fillV place (z.cells.toList.map cv) ps = some r := by simp [fillV, splice, V.cells, Value.cells, cv] <;> rfl) (h : Wk (m.log ⟨some (d, .agg r), [], []⟩) ⟨P, w0, S0, nt, frs⟩ ops Q ⟨upd e d (.agg r), ob, g⟩ rest) : Wk m ⟨P, w0, S0, nt, frs⟩ ops Q ⟨e, ob, g⟩ (⟨some d, .build t parts.toArray, ty, pos, aft, none⟩ :: rest) :=
  Wk.op (Loc.plain rfl rfl fun st' h1 _ _ => Stp.build rfl hn rfl hi hpl (by rw [← hps]; exact List.map_congr_left fun p hp => by rw [h1 p.2 (by simp only [Op.operands]; simpa using ⟨p.1, hp⟩), evE_eq]) hl hr) h
theorem p_buildSlice {t t' : TypeId} {n : Nat} {parts : List (Nat × Operand)} {z : Value} {size bytes : Nat} {vs : List V} (hn : d < nt := by decide) (hf : ob g d = .none := by repeat (first | exact hf _ | with_reducible rfl | rw [updO_off (by decide)])) (ht : P.underlying t = some (.slice t')) (hi : TI P t' z size bytes) (h0 : 0 < size := by decide) (hzs : z.cells.size = size := by exact rfl) (hsmall : n * size ≤ 16777216 := by decide) (hidx : parts.map (·.1) = List.range n := by exact rfl)
    (hvs : parts.map (fun p => evE e p.2) = vs := by simp (decide := true) only [List.map_cons, List.map_nil, List.cons_append, List.nil_append, List.append_nil, evE, upd, updO, cv, args0, List.getElem?_cons_zero, List.getElem?_cons_succ, Option.getD_some, List.length_map, ↓reduceIte, hE] <;> rfl) (hl : ∀ v ∈ vs, (v.leaf = true ∨ ∃ l, v = .agg l) ∧ v.ro = true ∧ v.cells.length = size := by simp only [List.forall_mem_cons, List.not_mem_nil, false_implies, implies_true, and_true]; and_intros <;> first | rfl | exact .inl rfl | exact .inr ⟨_, rfl⟩) (h : Wk (m.log ⟨some (d, .row g d n), [(g, d, .row t' vs)], [(g, d)]⟩) ⟨P, w0, S0, nt, frs⟩ ops Q ⟨upd e d (.row g d n), updO ob g d (.row t' vs), g⟩ rest) :
    Wk m ⟨P, w0, S0, nt, frs⟩ ops Q ⟨e, ob, g⟩ (⟨some d, .buildSlice t n parts.toArray, ty, pos, aft, none⟩ :: rest) :=
  Wk.op (Loc.plain rfl rfl fun st' h1 ho' hg => by
    obtain ⟨e', ob', g'⟩ := st'
    obtain rfl : g = g' := hg.symm
    exact Stp.buildSlice (st := ⟨e', ob', g⟩) rfl hn rfl ht hi h0 hzs hsmall ((ho' (g, d) (by simp)).trans hf) (by simpa using hidx) (by rw [← hvs]; exact List.map_congr_left fun p hp => by rw [h1 p.2 (by simp only [Op.operands]; simpa using ⟨p.1, hp⟩), evE_eq]) hl) h
def V.keys : V → List (Nat × Nat)
  | .row g d _ => [(g, d)]
  | _ => []
theorem rd_alike {st st' : St} {t : TypeId} {u : V} {ys : List V} (hk : ∀ k ∈ u.keys, st'.obj k.1 k.2 = st.obj k.1 k.2) (h : st.rd t u ys) : st'.rd t u ys := by
  cases u with
  | row g d n => have := hk (g, d) (by simp [V.keys]); simp only at this; simp only [St.rd] at h ⊢; rwa [this]
  | _ => exact h
theorem p_appendNil {t t' : TypeId} {x y : Operand} {u : V} {ys : List V} {z : Value} {size bytes : Nat} (hn : d < nt := by decide) (hf : ob g d = .none := by repeat (first | exact hf _ | with_reducible rfl | rw [updO_off (by decide)])) (ht : P.underlying t = some (.slice t')) (hi : TI P t' z size bytes) (hzs : z.cells.size = size := by exact rfl) (h0 : 0 < size := by decide) (hby : 0 < bytes := by decide) (hx : evE e x = .nil := by simp (decide := true) only [evE, upd, cv, args0, argsFrom, List.length_map, ↓reduceIte, hE] <;> rfl) (hu : evE e y = u := by simp (decide := true) only [evE, upd, cv, args0, argsFrom, List.length_map, ↓reduceIte, hE] <;> rfl) (hy : (⟨e, ob, g⟩ : St).rd t' u ys) (hlim : ys.length * bytes ≤ 140737488355328)
    (h : Wk (m.log ⟨some (d, .row g d ys.length), [(g, d, .row t' ys)], (g, d) :: u.keys⟩) ⟨P, w0, S0, nt, frs⟩ ops Q ⟨upd e d (.row g d ys.length), updO ob g d (.row t' ys), g⟩ rest) : Wk m ⟨P, w0, S0, nt, frs⟩ ops Q ⟨e, ob, g⟩ (⟨some d, .call { callee := .builtin .append, args := #[x, y], argTypes := #[t, t] }, ty, pos, aft, none⟩ :: rest) :=
  Wk.op (Loc.plain rfl rfl fun st' hv ho' hg => by
    obtain ⟨e', ob', g'⟩ := st'
    obtain rfl : g = g' := hg.symm
    exact Stp.appendNil (st := ⟨e', ob', g⟩) rfl hn rfl ht hi hzs h0 hby ((hv x (by simp [Op.operands, Call.operands])).trans ((evE_eq e ob g x).trans hx)) (by rw [hv y (by simp [Op.operands, Call.operands]), evE_eq, hu]; exact rd_alike (fun k hk => ho' k (List.mem_cons_of_mem _ hk)) hy) hlim ((ho' (g, d) (by simp)).trans hf)) h
theorem p_append {t t' g1 d1 n k : Nat} {x y : Operand} {u : V} {xs ys : List V} {z : Value} {size bytes : Nat} (hn : d < nt := by decide) (hf : ob g d = .none := by repeat (first | exact hf _ | with_reducible rfl | rw [updO_off (by decide)])) (ht : P.underlying t = some (.slice t')) (hi : TI P t' z size bytes) (hzs : z.cells.size = size := by exact rfl) (h0 : 0 < size := by decide) (hby : 0 < bytes := by decide) (hx : evE e x = .row g1 d1 n := by simp (decide := true) only [evE, upd, cv, args0, argsFrom, List.length_map, ↓reduceIte, hE] <;> rfl) (ho : ob g1 d1 = .row t' xs := by simp (decide := true) only [updO, upd, true_and, and_true, false_and, and_false, ↓reduceIte, hE] <;> first | rfl | assumption) (hnl : n = xs.length)
    (hu : evE e y = u := by simp (decide := true) only [evE, upd, cv, args0, argsFrom, List.length_map, ↓reduceIte, hE] <;> rfl) (hy : (⟨e, updO ob g1 d1 .dead, g⟩ : St).rd t' u ys) (hm : xs.length + ys.length = k) (hlim : k * bytes ≤ 140737488355328) (h : Wk (m.log ⟨some (d, .row g d k), [(g1, d1, .dead), (g, d, .row t' (xs ++ ys))], (g1, d1) :: (g, d) :: u.keys⟩) ⟨P, w0, S0, nt, frs⟩ ops Q ⟨upd e d (.row g d k), updO (updO ob g1 d1 .dead) g d (.row t' (xs ++ ys)), g⟩ rest) :
    Wk m ⟨P, w0, S0, nt, frs⟩ ops Q ⟨e, ob, g⟩ (⟨some d, .call { callee := .builtin .append, args := #[x, y], argTypes := #[t, t] }, ty, pos, aft, none⟩ :: rest) := by
  subst hnl hm
  refine Wk.op (Loc.plain rfl rfl fun st' hv ho' hg => ?_) h
  obtain ⟨e', ob', g'⟩ := st'
  obtain rfl : g = g' := hg.symm
  refine Stp.append (st := ⟨e', ob', g⟩) rfl hn rfl ht hi hzs h0 hby ((hv x (by simp [Op.operands, Call.operands])).trans ((evE_eq e ob g x).trans hx)) ((ho' (g1, d1) (by simp)).trans ho) ?_ hlim ((ho' (g, d) (by simp)).trans hf)
  rw [hv y (by simp [Op.operands, Call.operands]), evE_eq, hu]
  refine rd_alike (fun k hk => ?_) hy
  have := ho' k (List.mem_cons_of_mem _ (List.mem_cons_of_mem _ hk))
  simp only [St.set, updO]
  split
  · rfl
  · exact this
theorem GStp.guard {c : Ctx} {ops : Array Oper} {o : Oper} {st st' : St} {j s : Nat} {want : Bool} (hg : o.guard = none) (hj : (ops[j]?).bind (·.dst) = some s) (hn : s < c.nt) (hb : st.env s = .bool want) (h : GStp c ops o st st') : GStp c ops { o with guard := some (j, want) } st st' := fun S at_ a w hr next Q' hk => by
  have h1 := hr.env s
  rw [hb, VR, RL] at h1
  have hy : yielded ops a.tmps j = some want := by
    have hlt : s < a.tmps.size := by rw [hr.size]; exact hn
    have h2 : a.tmps[s]? = some (.bool want) := by rw [Array.getD_eq_getD_getElem?, Array.getElem?_eq_getElem hlt] at h1; rw [Array.getElem?_eq_getElem hlt]; simpa using h1
    simp [yielded, hj, h2]
  have hw : Region.wanted { o with guard := some (j, want) } (yielded ops a.tmps) = true := by simp [Region.wanted, hy]
  rw [if_pos hw]
  have h2 := h S at_ a w hr next Q' hk
  rw [if_pos (by simp [Region.wanted, hg])] at h2
  exact h2
theorem p_guardYes {op : Op} {dst : Option Nat} {j s : Nat} {want : Bool} (hj : (ops[j]?).bind (·.dst) = some s := by exact rfl) (hn : s < nt := by decide) (hb : e s = .bool want := by simp (decide := true) only [evE, upd, cv, args0, argsFrom, List.length_map, ↓reduceIte, hE] <;> rfl) (h : Wk m ⟨P, w0, S0, nt, frs⟩ ops Q ⟨e, ob, g⟩ (⟨dst, op, ty, pos, aft, none⟩ :: rest)) : Wk m ⟨P, w0, S0, nt, frs⟩ ops Q ⟨e, ob, g⟩ (⟨dst, op, ty, pos, aft, some (j, want)⟩ :: rest) := by
  cases m with
  | lex =>
    intro S at_ a w hr
    have h1 := hr.env s
    rw [show (⟨e, ob, g⟩ : St).env s = .bool want from hb, VR, RL] at h1
    have hy : yielded ops a.tmps j = some want := by
      have hlt : s < a.tmps.size := by rw [hr.size]; exact hn
      have h2 : a.tmps[s]? = some (.bool want) := by rw [Array.getD_eq_getD_getElem?, Array.getElem?_eq_getElem hlt] at h1; rw [Array.getElem?_eq_getElem hlt]; simpa using h1
      simp [yielded, hj, h2]
    have hw : Region.wanted (⟨dst, op, ty, pos, aft, some (j, want)⟩ : Oper) (yielded ops a.tmps) = true := by simp [Region.wanted, hy]
    have h2 := h S at_ a w hr
    unfold wpListIn at h2 ⊢
    rw [if_pos hw]
    rw [if_pos (by simp [Region.wanted])] at h2
    exact h2
  | draw log =>
    obtain ⟨x, hx, h2⟩ := h
    refine ⟨x, ⟨hx.dst, fun st' ha => ?_⟩, h2⟩
    refine GStp.guard (o := ⟨dst, op, ty, pos, aft, none⟩) rfl hj hn ?_ (hx.run st' ⟨fun t ht => ha.1 t ?_, ha.2⟩)
    · exact (ha.1 s (by simp only [Oper.looksAt, hj]; simp)).trans hb
    · simp only [Oper.looksAt, List.mem_append] at ht ⊢
      rcases ht with ht | ht
      · exact .inl ht
      · simp at ht
  | flo E log =>
    obtain ⟨x, hx, h2⟩ := h
    refine ⟨x, ⟨hx.dst, fun st' ha => ?_⟩, h2⟩
    refine GStp.guard (o := ⟨dst, op, ty, pos, aft, none⟩) rfl hj hn ?_ (hx.run st' ⟨fun t ht => ha.1 t ?_, ha.2⟩)
    · exact (ha.1 s (by simp only [Oper.looksAt, hj]; simp)).trans hb
    · simp only [Oper.looksAt, List.mem_append] at ht ⊢
      rcases ht with ht | ht
      · exact .inl ht
      · simp at ht
theorem VR_undef {P : Program} {w : World} {S : Nat → Prop} {at_ : At} : VR P w S at_ (.tup []) undef := by rw [VR]; exact ⟨#[], rfl, by simp [VRs]⟩
theorem undef_VR {P : Program} {w : World} {S : Nat → Prop} {at_ : At} {x : Value} (h : VR P w S at_ (.tup []) x) : x = undef := by
  rw [VR] at h
  obtain ⟨arr, rfl, h⟩ := h
  have : arr = #[] := by
    cases hl : arr.toList with
    | nil => exact Array.toList_eq_nil_iff.1 hl
    | cons _ _ => rw [hl] at h; simp [VRs] at h
  rw [this]; rfl
/-- A guarded operation that is left out. -/
theorem p_guardNo {op : Op} {j s : Nat} {want b : Bool} (hj : (ops[j]?).bind (·.dst) = some s := by exact rfl) (hn : s < nt := by decide) (hb : e s = .bool b := by simp (decide := true) only [evE, upd, cv, args0, argsFrom, List.length_map, ↓reduceIte, hE] <;> rfl) (hne : b ≠ want := by decide) (hdn : d < nt := by decide) (h : Wk (m.log ⟨some (d, .tup []), [], []⟩) ⟨P, w0, S0, nt, frs⟩ ops Q ⟨upd e d (.tup []), ob, g⟩ rest) : Wk m ⟨P, w0, S0, nt, frs⟩ ops Q ⟨e, ob, g⟩ (⟨some d, op, ty, pos, aft, some (j, want)⟩ :: rest) :=
  Wk.op ⟨rfl, fun st' ha S at_ a w hr next Q' hk => by
    have hb' : st'.env s = .bool b := (ha.1 s (by simp only [Oper.looksAt, hj]; simp)).trans hb
    have h1 := hr.env s
    rw [hb', VR, RL] at h1
    have hy : yielded ops a.tmps j = some b := by
      have hlt : s < a.tmps.size := by rw [hr.size]; exact hn
      have h2 : a.tmps[s]? = some (.bool b) := by rw [Array.getD_eq_getD_getElem?, Array.getElem?_eq_getElem hlt] at h1; rw [Array.getElem?_eq_getElem hlt]; simpa using h1
      simp [yielded, hj, h2]
    have hw : ¬ Region.wanted (⟨some d, op, ty, pos, aft, some (j, want)⟩ : Oper) (yielded ops a.tmps) = true := by simp [Region.wanted, hy, hne]
    rw [if_neg hw]
    exact hk S at_ _ w (hr.put hdn VR_undef)⟩ h
/-- One whose guard was itself left out. -/
theorem p_guardUn {op : Op} {j s : Nat} {want : Bool} (hj : (ops[j]?).bind (·.dst) = some s := by exact rfl) (hn : s < nt := by decide) (hb : e s = .tup [] := by simp (decide := true) only [evE, upd, cv, args0, argsFrom, List.length_map, ↓reduceIte, hE] <;> rfl) (hdn : d < nt := by decide) (h : Wk (m.log ⟨some (d, .tup []), [], []⟩) ⟨P, w0, S0, nt, frs⟩ ops Q ⟨upd e d (.tup []), ob, g⟩ rest) : Wk m ⟨P, w0, S0, nt, frs⟩ ops Q ⟨e, ob, g⟩ (⟨some d, op, ty, pos, aft, some (j, want)⟩ :: rest) :=
  Wk.op ⟨rfl, fun st' ha S at_ a w hr next Q' hk => by
    have hb' : st'.env s = .tup [] := (ha.1 s (by simp only [Oper.looksAt, hj]; simp)).trans hb
    have h1 := hr.env s
    rw [hb'] at h1
    have h1 := undef_VR h1
    have hy : yielded ops a.tmps j = none := by
      have hlt : s < a.tmps.size := by rw [hr.size]; exact hn
      have h2 : a.tmps[s]? = some undef := by rw [Array.getD_eq_getD_getElem?, Array.getElem?_eq_getElem hlt] at h1; rw [Array.getElem?_eq_getElem hlt]; simpa using h1
      simp [yielded, hj, h2, undef]
    have hw : ¬ Region.wanted (⟨some d, op, ty, pos, aft, some (j, want)⟩ : Oper) (yielded ops a.tmps) = true := by simp [Region.wanted, hy]
    rw [if_neg hw]
    exact hk S at_ _ w (hr.put hdn VR_undef)⟩ h
theorem Stp.call {c : Ctx} {st : St} {o : Oper} {x : Operand} {f : FuncId} {fn : Func} {code : Code} {xs : Array Operand} {ts : Array TypeId} {cap vs : List V} {v : V} (hd : o.dst = some d) (hn : d < c.nt) (hop : o.op = .call { callee := .value x, args := xs, argTypes := ts })
    (hx : st.ev x = .fn f cap) (hb : HasBody c.P f fn code) (hvs : xs.toList.map st.ev ++ cap = vs) (hro : V.outs vs = true) (hf : FnC c.P f vs fun r => r = v) : Stp c o st (st.put d v) := fun S at_ a w hr next Q hK => by
  obtain ⟨arr, h1, hrun⟩ := call_run hr hop hx hb
  have hargs : VRs c.P w S (fun _ _ => none) vs (xs.toList.map a.eval ++ arr) := by
    refine VRs.out _ _ hro (at_ := at_) ?_
    subst hvs
    refine VRs.append ?_ h1
    generalize xs.toList = l
    induction l with
    | nil => simp [VRs]
    | cons y l ih => simp only [List.map_cons]; rw [VRs]; exact ⟨hr.ev y, ih⟩
  refine wpIn_enter hop hrun ?_
  refine (hf w S _ hr.globs hr.slt hargs).mono ?_
  rintro e w' ⟨u, r, S', rfl, h1, h2, h3, h4, h5⟩
  subst h5
  rw [hd]
  exact hK S' at_ _ w' ((hr.grow h1 h2 h3).put hn h4.toVR)
theorem Stp.callFlat {c : Ctx} {st : St} {o : Oper} {x : Operand} {f : FuncId} {fn : Func} {code : Code} {xs : Array Operand} {ts : Array TypeId} {cap vs vs' : List V} {v : V} (hd : o.dst = some d) (hn : d < c.nt) (hop : o.op = .call { callee := .value x, args := xs, argTypes := ts })
    (hx : st.ev x = .fn f cap) (hb : HasBody c.P f fn code) (hvs : st.args (xs.toList.map st.ev) vs) (hcap : st.capArgs cap vs') (hf : FnC c.P f (vs ++ vs') fun r => r = v) (hflat : v.flat = true) : Stp c o st (st.put d v) := fun S at_ a w hr next Q hK => by
  obtain ⟨arr, h1, hrun⟩ := call_run hr hop hx hb
  have hargs : VRs c.P w (fun b => b < w.heap.size) (fun _ _ => none) (vs ++ vs') (xs.toList.map a.eval ++ arr) := (args_ok hr hvs).append (capArgs_ok hr hcap h1)
  refine wpIn_enter hop hrun ?_
  refine (hf w _ _ hr.globs (fun _ h => h) hargs).mono ?_
  rintro e w' ⟨u, r, S', rfl, h1, h2, h3, h4, h5⟩
  subst h5
  rw [hd]
  exact hK S at_ _ w' ((hr.grow h1 (fun _ h => h) (fun _ h => .inl h)).put hn (V.flat_RV hflat h4).toVR)
/-- A call whose result is known. -/
theorem p_call {x : Operand} {f : FuncId} {fn : Func} {code : Code} {xs : List Operand} {ts : Array TypeId} {cap vs : List V} {v : V} (hn : d < nt := by decide) (hx : evE e x = .fn f cap := by simp (decide := true) only [evE, upd, cv, args0, argsFrom, List.length_map, ↓reduceIte, hE] <;> rfl) (hb : HasBody P f fn code) (hvs : xs.map (evE e) ++ cap = vs := by simp (decide := true) only [List.map_cons, List.map_nil, List.cons_append, List.nil_append, List.append_nil, evE, upd, updO, cv, args0, List.getElem?_cons_zero, List.getElem?_cons_succ, Option.getD_some, List.length_map, ↓reduceIte, hE] <;> rfl) (hro : V.outs vs = true := by exact rfl) (hf : FnC P f vs fun r => r = v) (h : Wk (m.log ⟨some (d, v), [], []⟩) ⟨P, w0, S0, nt, frs⟩ ops Q ⟨upd e d v, ob, g⟩ rest) :
    Wk m ⟨P, w0, S0, nt, frs⟩ ops Q ⟨e, ob, g⟩ (⟨some d, .call { callee := .value x, args := xs.toArray, argTypes := ts }, ty, pos, aft, none⟩ :: rest) :=
  Wk.op (Loc.plain rfl rfl fun st' hv _ _ => Stp.call (st := st') rfl hn rfl ((hv x (by simp [Op.operands, Call.operands])).trans ((evE_eq e ob g x).trans hx)) hb (by rw [← hvs]; simp only [List.append_cancel_right_eq]; exact ev_list hv (fun y hy => by simp [Op.operands, Call.operands, hy])) hro hf) h
/-- The same, where slices and variables of the call's own are handed on, to be read; the result leads nowhere. -/
theorem p_callFlat (keys : List (Nat × Nat)) {x : Operand} {f : FuncId} {fn : Func} {code : Code} {xs : List Operand} {ts : Array TypeId} {cap us vs vs' : List V} {v : V} (hn : d < nt := by decide) (hx : evE e x = .fn f cap := by simp (decide := true) only [evE, upd, cv, args0, argsFrom, List.length_map, ↓reduceIte, hE] <;> rfl) (hb : HasBody P f fn code) (hus : xs.map (evE e) = us := by simp (decide := true) only [List.map_cons, List.map_nil, List.cons_append, List.nil_append, List.append_nil, evE, upd, updO, cv, args0, List.getElem?_cons_zero, List.getElem?_cons_succ, Option.getD_some, List.length_map, ↓reduceIte, hE] <;> rfl) (hvs : ∀ e' ob' g', (∀ k ∈ keys, ob' k.1 k.2 = ob k.1 k.2) → (⟨e', ob', g'⟩ : St).args us vs ∧ (⟨e', ob', g'⟩ : St).capArgs cap vs') (hf : FnC P f (vs ++ vs') fun r => r = v) (hflat : v.flat = true := by exact rfl)
    (h : Wk (m.log ⟨some (d, v), [], keys⟩) ⟨P, w0, S0, nt, frs⟩ ops Q ⟨upd e d v, ob, g⟩ rest) :
    Wk m ⟨P, w0, S0, nt, frs⟩ ops Q ⟨e, ob, g⟩ (⟨some d, .call { callee := .value x, args := xs.toArray, argTypes := ts }, ty, pos, aft, none⟩ :: rest) :=
  Wk.op (Loc.plain rfl rfl fun st' hv ho' _ => by
    have hk := hvs st'.env st'.obj st'.gen ho'
    refine Stp.callFlat (st := st') rfl hn rfl ((hv x (by simp [Op.operands, Call.operands])).trans ((evE_eq e ob g x).trans hx)) hb (vs := vs) (vs' := vs') ?_ hk.2 hf hflat
    have hm : xs.map st'.ev = us := (ev_list hv (fun y hy => by simp [Op.operands, Call.operands, hy])).trans hus
    have : xs.toArray.toList.map st'.ev = us := by simpa using hm
    rw [this]
    exact hk.1) h
theorem upd_self {s : Nat} {v : V} (h : e s = v) : upd e s v = e := by funext s'; simp only [upd]; split <;> simp_all
/-- Two ways: a slot holds true, or false. -/
theorem p_split {s : Nat} {b : Bool} {l : List Oper} (hs : evE e (.tmp s) = .bool b := by simp (decide := true) only [evE, upd, cv, args0, argsFrom, List.length_map, ↓reduceIte, hE] <;> rfl) (ht : b = true → Wk m ⟨P, w0, S0, nt, frs⟩ ops Q ⟨upd e s (.bool true), ob, g⟩ l) (hf : b = false → Wk m ⟨P, w0, S0, nt, frs⟩ ops Q ⟨upd e s (.bool false), ob, g⟩ l) : Wk m ⟨P, w0, S0, nt, frs⟩ ops Q ⟨e, ob, g⟩ l := by
  cases b
  · have := hf rfl; rwa [upd_self hs] at this
  · have := ht rfl; rwa [upd_self hs] at this
/-- A sum that does not overflow. -/
theorem p_add {t t' : TypeId} {x y : Operand} {p q r : Int} (hn : d < nt := by decide) (hx : evE e x = .int .i64 p := by simp (decide := true) only [evE, upd, cv, args0, argsFrom, List.length_map, ↓reduceIte, hE] <;> rfl) (hy : evE e y = .int .i64 q := by simp (decide := true) only [evE, upd, cv, args0, argsFrom, List.length_map, ↓reduceIte, hE] <;> rfl) (hr : p + q = r) (hb : -9223372036854775808 ≤ r ∧ r ≤ 9223372036854775807) (h : Wk (m.log ⟨some (d, .int .i64 r), [], []⟩) ⟨P, w0, S0, nt, frs⟩ ops Q ⟨upd e d (.int .i64 r), ob, g⟩ rest) :
    Wk m ⟨P, w0, S0, nt, frs⟩ ops Q ⟨e, ob, g⟩ (⟨some d, .binOp .add t x y t', ty, pos, aft, none⟩ :: rest) :=
  p_num hn hx hy (by simp only [numOp, hr, IntWalk.i64_in r hb]) h
def V.toN : V → Nat
  | .int _ i => i.toNat
  | _ => 0
theorem p_splitC {s : Nat} {b : Bool} {x : Code} (hs : evE e (.tmp s) = .bool b := by simp (decide := true) only [evE, upd, cv, args0, argsFrom, List.length_map, ↓reduceIte, hE] <;> rfl) (ht : b = true → TrC ⟨P, w0, S0, nt, frs⟩ ⟨upd e s (.bool true), ob, g⟩ x Q) (hf : b = false → TrC ⟨P, w0, S0, nt, frs⟩ ⟨upd e s (.bool false), ob, g⟩ x Q) : TrC ⟨P, w0, S0, nt, frs⟩ ⟨e, ob, g⟩ x Q := by
  cases b
  · have := hf rfl; rwa [upd_self hs] at this
  · have := ht rfl; rwa [upd_self hs] at this
theorem updO_off {f : Nat → Nat → Ob} {g' d' : Nat} {o : Ob} {g1 d1 : Nat} (h : d' ≠ d1) : updO f g1 d1 o g' d' = f g' d' := by simp [updO, h]
theorem p_freezeW {t g1 d1 : Nat} {xs : List V} {l : List Oper} (hm : m = .lex := by exact rfl) (ho : ob g1 d1 = .row t xs := by simp (decide := true) only [updO, upd, true_and, and_true, false_and, and_false, ↓reduceIte, hE] <;> first | rfl | assumption) (h : Wk .lex ⟨P, w0, S0, nt, frs⟩ ops Q ⟨e, updO ob g1 d1 (.froz t xs), g⟩ l) : Wk m ⟨P, w0, S0, nt, frs⟩ ops Q ⟨e, ob, g⟩ l := by
  subst hm; exact Tr.freeze (st := ⟨e, ob, g⟩) ho h
theorem p_toSlW {s t g1 d1 n : Nat} {xs : List V} {l : List Oper} (hm : m = .lex := by exact rfl) (hs : e s = .row g1 d1 n := by simp (decide := true) only [evE, upd, cv, args0, argsFrom, List.length_map, ↓reduceIte, hE] <;> rfl) (ho : ob g1 d1 = .froz t xs := by simp (decide := true) only [updO, upd, true_and, and_true, false_and, and_false, ↓reduceIte, hE] <;> first | rfl | assumption) (hn : n = xs.length) (h : Wk .lex ⟨P, w0, S0, nt, frs⟩ ops Q ⟨upd e s (.sl t xs), ob, g⟩ l) : Wk m ⟨P, w0, S0, nt, frs⟩ ops Q ⟨e, ob, g⟩ l := by
  subst hm; exact Tr.toSl (st := ⟨e, ob, g⟩) hs ho hn h
/-- A call of a function of the program's. -/
theorem p_join {x y : Code} (J : St → Prop) (h1 : TrC ⟨P, w0, S0, nt, frs⟩ ⟨e, ob, g⟩ x (Exit.then (Some ⟨P, w0, S0, nt, frs⟩ J) Q)) (h2 : ∀ e ob g, J ⟨e, ob, g⟩ → TrC ⟨P, w0, S0, nt, frs⟩ ⟨e, ob, g⟩ y Q) : TrC ⟨P, w0, S0, nt, frs⟩ ⟨e, ob, g⟩ (.seq x y) Q := TrC.join J h1 fun st => h2 st.env st.obj st.gen
theorem p_loop {body : Code} (I : St → Prop) (μ : St → Nat) (h0 : I ⟨e, ob, g⟩) (hround : ∀ e ob g, I ⟨e, ob, g⟩ → TrC ⟨P, w0, S0, nt, frs⟩ ⟨e, ob, g⟩ body (Exit.then (Some ⟨P, w0, S0, nt, frs⟩ fun st' => I st' ∧ μ st' < μ ⟨e, ob, g⟩) Q)) : TrC ⟨P, w0, S0, nt, frs⟩ ⟨e, ob, g⟩ (.loop body) Q := TrC.loop I μ h0 fun st => hround st.env st.obj st.gen
theorem p_some {I : St → Prop} (h : I ⟨e, ob, g⟩) : Tr ⟨P, w0, S0, nt, frs⟩ ⟨e, ob, g⟩ (Some ⟨P, w0, S0, nt, frs⟩ I) := Tr.one h
theorem p_store1 {t t' p g1 d1 : Nat} {x y : Operand} {cs cs' : List V} {v : V} {z : Value} {bytes : Nat} (hi : TI P t z 1 bytes) (hx : evE e x = .ptr g1 d1 p := by simp (decide := true) only [evE, upd, cv, args0, argsFrom, List.length_map, ↓reduceIte, hE] <;> rfl) (ho : ob g1 d1 = .cells t' cs := by simp (decide := true) only [updO, upd, true_and, and_true, false_and, and_false, ↓reduceIte, hE] <;> first | rfl | assumption) (hy : evE e y = v := by simp (decide := true) only [evE, upd, cv, args0, argsFrom, List.length_map, ↓reduceIte, hE] <;> rfl) (hl : v.leaf = true := by exact rfl) (hp : p < cs.length := by simp) (hcs : cs.set p v = cs' := by simp only [Nat.reduceAdd, List.set_cons_zero, List.set_cons_succ] <;> rfl)
    (h : Wk (m.log ⟨none, [(g1, d1, (.cells t' cs'))], [(g1, d1)]⟩) ⟨P, w0, S0, nt, frs⟩ ops Q ⟨e, updO ob g1 d1 (.cells t' cs'), g⟩ rest) : Wk m ⟨P, w0, S0, nt, frs⟩ ops Q ⟨e, ob, g⟩ (⟨none, .store t x y, ty, pos, aft, none⟩ :: rest) := by
  have hc : v.cells = [v] := by cases v <;> simp_all [V.leaf, V.cells]
  exact p_store hi hx ho hy (.inl hl) (by rw [hc]; simpa using hl) (by rw [hc]; rfl) hp (by rw [hc, splice_one _ _ _ hp]; exact hcs) h
theorem p_storeAll {t t' g1 d1 : Nat} {x y : Operand} {cs l : List V} {z : Value} {size bytes : Nat} (hi : TI P t z size bytes) (hx : evE e x = .ptr g1 d1 0 := by simp (decide := true) only [evE, upd, cv, args0, argsFrom, List.length_map, ↓reduceIte, hE] <;> rfl) (ho : ob g1 d1 = .cells t' cs := by simp (decide := true) only [updO, upd, true_and, and_true, false_and, and_false, ↓reduceIte, hE] <;> first | rfl | assumption) (hy : evE e y = .agg l := by simp (decide := true) only [evE, upd, cv, args0, argsFrom, List.length_map, ↓reduceIte, hE] <;> rfl) (hlf : l.all V.leaf = true := by exact rfl) (hsz : l.length = size := by exact rfl) (hp : cs.length = size := by exact rfl)
    (h : Wk (m.log ⟨none, [(g1, d1, (.cells t' l))], [(g1, d1)]⟩) ⟨P, w0, S0, nt, frs⟩ ops Q ⟨e, updO ob g1 d1 (.cells t' l), g⟩ rest) : Wk m ⟨P, w0, S0, nt, frs⟩ ops Q ⟨e, ob, g⟩ (⟨none, .store t x y, ty, pos, aft, none⟩ :: rest) :=
  p_store hi hx ho hy (.inr ⟨_, rfl⟩) hlf hsz (by omega) (by unfold splice; rw [show (V.agg l).cells = l from rfl, List.drop_of_length_le (by omega)]; simp) h
/-- A slice that is only read, of things that are told by f: an element. -/
theorem p_idxMap {α : Type} {t t' : TypeId} {x y : Operand} {l : List α} {f : α → V} {k : IntKind} {i : Int} {j : Nat} {z : Value} {size bytes : Nat} (hn : d < nt := by decide) (ht : P.underlying t = some (.slice t')) (hi : TI P t' z size bytes) (hx : evE e x = .sl t' (l.map f) := by simp (decide := true) only [evE, upd, cv, args0, argsFrom, List.length_map, ↓reduceIte, hE] <;> rfl) (hy : evE e y = .int k i := by simp (decide := true) only [evE, upd, cv, args0, argsFrom, List.length_map, ↓reduceIte, hE] <;> rfl) (hij : i = j) (hj : j < l.length)
    (h : Wk (m.log ⟨some (d, (.ref (f l[j]).cells)), [], []⟩) ⟨P, w0, S0, nt, frs⟩ ops Q ⟨upd e d (.ref (f l[j]).cells), ob, g⟩ rest) : Wk m ⟨P, w0, S0, nt, frs⟩ ops Q ⟨e, ob, g⟩ (⟨some d, .indexAddr t x y, ty, pos, aft, none⟩ :: rest) :=
  p_idxSl hn ht hi hx hy (by omega) (by subst hij; simp [hj]) h
theorem p_freeze {t g1 d1 : Nat} {xs : List V} (ho : ob g1 d1 = .row t xs := by simp (decide := true) only [updO, upd, true_and, and_true, false_and, and_false, ↓reduceIte, hE] <;> first | rfl | assumption) (h : Tr ⟨P, w0, S0, nt, frs⟩ ⟨e, updO ob g1 d1 (.froz t xs), g⟩ K) : Tr ⟨P, w0, S0, nt, frs⟩ ⟨e, ob, g⟩ K := Tr.freeze (st := ⟨e, ob, g⟩) ho h
theorem p_toSl {s t g1 d1 n : Nat} {xs : List V} (hs : e s = .row g1 d1 n := by simp (decide := true) only [evE, upd, cv, args0, argsFrom, List.length_map, ↓reduceIte, hE] <;> rfl) (ho : ob g1 d1 = .froz t xs := by simp (decide := true) only [updO, upd, true_and, and_true, false_and, and_false, ↓reduceIte, hE] <;> first | rfl | assumption) (hn : n = xs.length) (h : Tr ⟨P, w0, S0, nt, frs⟩ ⟨upd e s (.sl t xs), ob, g⟩ K) : Tr ⟨P, w0, S0, nt, frs⟩ ⟨e, ob, g⟩ K := Tr.toSl (st := ⟨e, ob, g⟩) hs ho hn h
theorem p_nilSl {s t : Nat} (hs : e s = .nil := by simp (decide := true) only [evE, upd, cv, args0, argsFrom, List.length_map, ↓reduceIte, hE] <;> rfl) (h : Tr ⟨P, w0, S0, nt, frs⟩ ⟨upd e s (.sl t []), ob, g⟩ K) : Tr ⟨P, w0, S0, nt, frs⟩ ⟨e, ob, g⟩ K :=
  Tr.slot (st := ⟨e, ob, g⟩) (s := s) (v := .sl t []) (fun S at_ a w hr x hx => by
    rw [show (⟨e, ob, g⟩ : St).env s = .nil from hs, VR, RL] at hx
    rw [VR, RL]
    exact ⟨none, 0, hx, Nat.le_refl _, .inl rfl⟩) h
end
end Go.Proofs.YtjjpmbaddpiamaaDoor
