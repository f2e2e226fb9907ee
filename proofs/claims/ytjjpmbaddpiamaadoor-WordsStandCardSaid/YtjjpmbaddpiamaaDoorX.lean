/-
  One step that does all that needs no word of the walk's: p_go goes on by the abstract machine's rules as far as they find everything by themselves.
-/
import Derived.Test.YtjjpmbaddpiamaaDoorE
set_option linter.unusedSimpArgs false
set_option linter.unusedVariables false
namespace Go.Proofs.YtjjpmbaddpiamaaDoor
open Go.RowKit
class TIC (P : Program) (t : TypeId) (z : outParam Value) (size bytes : outParam Nat) : Prop where
  h : TI P t z size bytes
class LeafC (P : Program) (t : TypeId) : Prop where
  h : IsLeaf P t
class AggC (P : Program) (t : TypeId) : Prop where
  h : IsAgg P t
class FldC (P : Program) (s i : Nat) (off : outParam Nat) : Prop where
  h : FieldAt P s i off
class SlC (P : Program) (t : TypeId) (t' : outParam TypeId) : Prop where
  h : P.underlying t = some (.slice t')
class StrC (P : Program) (t : TypeId) : Prop where
  h : P.underlying t = some .string
class PlC (P : Program) (t : TypeId) (place : outParam (Nat → Option (Nat × Nat))) : Prop where
  h : Places P t place
class MixC (P : Program) : Prop where
  h : P.follows .mixedOrders = true
/-- Operations on words of 64 bits. -/
def bvOp (op : BinOp) (x y : BitVec 64) : Option V :=
  match op with
  | .add => some (.int .u64 (x + y).toNat)
  | .sub => some (.int .u64 (x - y).toNat)
  | .mul => some (.int .u64 (x * y).toNat)
  | .and => some (.int .u64 (x &&& y).toNat)
  | .or => some (.int .u64 (x ||| y).toNat)
  | .xor => some (.int .u64 (x ^^^ y).toNat)
  | .andNot => some (.int .u64 (x &&& ~~~y).toNat)
  | .eql => some (.bool (decide (x = y)))
  | .neq => some (.bool (decide (x ≠ y)))
  | _ => none
theorem bvLit {p : Int} (h0 : 0 ≤ p) (h1 : p < 2 ^ 64) : p = ((BitVec.ofInt 64 p).toNat : Int) := by
  rw [BitVec.toNat_ofInt]; omega
theorem ofInt_toNat64 (x : BitVec 64) : BitVec.ofInt 64 (x.toNat : Int) = x := by
  apply BitVec.eq_of_toNat_eq
  rw [BitVec.toNat_ofInt]
  have := x.isLt
  omega
theorem wrapN (x : BitVec 64) : IntKind.u64.wrap ((x.toNat : Nat) : Int) = (x.toNat : Int) := by
  have := x.isLt
  simp [IntKind.wrap, IntKind.signed, IntKind.bits]
  omega
theorem bvOp_num {op : BinOp} {x y : BitVec 64} {v : V} (h : bvOp op x y = some v) : numOp op .u64 (x.toNat : Int) (y.toNat : Int) = some v := by
  have hx := x.isLt
  have hy := y.isLt
  have he : ((x.toNat : Int) = (y.toNat : Int)) ↔ x = y := ⟨fun h => BitVec.eq_of_toNat_eq (by omega), fun h => by rw [h]⟩
  cases op <;> simp only [bvOp, Option.some.injEq, reduceCtorEq] at h <;> subst h <;> simp only [numOp, ofInt_toNat64, IntKind.bits, wrapN, ne_eq, he, Option.some.injEq, V.int.injEq, true_and]
  · simp [IntKind.wrap, IntKind.signed, IntKind.bits, BitVec.toNat_add]
  · simp only [IntKind.wrap, IntKind.signed, IntKind.bits, BitVec.toNat_sub, Bool.false_and, Bool.false_eq_true, ↓reduceIte]; omega
  · simp [IntKind.wrap, IntKind.signed, IntKind.bits, BitVec.toNat_mul]
  all_goals rfl
def BinOp.isCmp : BinOp → Bool
  | .add | .sub | .mul | .quo | .rem | .shl | .shr => false
  | _ => true

section
variable {P : Program} {w0 : World} {S0 : Nat → Prop} {nt : Nat} {frs : Frs} {e : Nat → V} {ob : Nat → Nat → Ob} {g : Nat} {Q : Exit → Act → World → Prop}
variable {ops : Array Oper} {rest : List Oper} {d : Nat} {ty : TypeId} {pos : String} {aft : Array Edge} {m : Md}
theorem q_cmp {op : BinOp} {t t' : TypeId} {x y : Operand} {k : IntKind} {p q : Int} {v : V} (hc : BinOp.isCmp op = true := by exact rfl) (hn : d < nt := by decide) (hx : evE e x = .int k p := by exact eV_) (hy : evE e y = .int k q := by exact eV_) (hk : k ≠ .u64 := by decide) (hv : numOp op k p q = some v := by exact rfl) (h : Wk (m.log ⟨some (d, v), [], []⟩) ⟨P, w0, S0, nt, frs⟩ ops Q ⟨upd e d v, ob, g⟩ rest) :
    Wk m ⟨P, w0, S0, nt, frs⟩ ops Q ⟨e, ob, g⟩ (⟨some d, .binOp op t x y t', ty, pos, aft, none⟩ :: rest) := p_num hn hx hy hv h
theorem p_bv {op : BinOp} {t t' : TypeId} {x y : Operand} {p q : Int} {b1 b2 : BitVec 64} {v : V} (hn : d < nt := by decide) (hx : evE e x = .int .u64 p := by exact eV_) (hy : evE e y = .int .u64 q := by exact eV_) (hp : p = (b1.toNat : Int) := by first | exact rfl | exact bvLit (by decide) (by decide)) (hq : q = (b2.toNat : Int) := by first | exact rfl | exact bvLit (by decide) (by decide)) (hv : bvOp op b1 b2 = some v := by exact rfl) (h : Wk (m.log ⟨some (d, v), [], []⟩) ⟨P, w0, S0, nt, frs⟩ ops Q ⟨upd e d v, ob, g⟩ rest) :
    Wk m ⟨P, w0, S0, nt, frs⟩ ops Q ⟨e, ob, g⟩ (⟨some d, .binOp op t x y t', ty, pos, aft, none⟩ :: rest) := by
  subst hp; subst hq
  exact p_num hn hx hy (bvOp_num hv) h
theorem p_ari {op : BinOp} {t t' : TypeId} {x y : Operand} {k : IntKind} {p q : Int} {v : V} (hn : d < nt := by decide) (hx : evE e x = .int k p := by simp (decide := true) only [evE, upd, cv, args0, argsFrom, List.length_map, ↓reduceIte, hE] <;> rfl) (hy : evE e y = .int k q := by simp (decide := true) only [evE, upd, cv, args0, argsFrom, List.length_map, ↓reduceIte, hE] <;> rfl) (hv : numOp op k p q = some v := by exact rfl) (h : Wk (m.log ⟨some (d, v), [], []⟩) ⟨P, w0, S0, nt, frs⟩ ops Q ⟨upd e d v, ob, g⟩ rest) :
    Wk m ⟨P, w0, S0, nt, frs⟩ ops Q ⟨e, ob, g⟩ (⟨some d, .binOp op t x y t', ty, pos, aft, none⟩ :: rest) := p_num hn hx hy hv h
theorem q_fP {s i off p g1 d1 : Nat} {x : Operand} [hf : FldC P s i off] (hn : d < nt := by decide) (hx : evE e x = .ptr g1 d1 p := by exact eV_) (h : Wk (m.log ⟨some (d, (.ptr g1 d1 (p + off))), [], []⟩) ⟨P, w0, S0, nt, frs⟩ ops Q ⟨upd e d (.ptr g1 d1 (p + off)), ob, g⟩ rest) : Wk m ⟨P, w0, S0, nt, frs⟩ ops Q ⟨e, ob, g⟩ (⟨some d, .fieldAddr s x i, ty, pos, aft, none⟩ :: rest) := p_fieldPtr hn hf.h hx h
theorem q_fF {s i off : Nat} {x : Operand} {l l' : List V} [hf : FldC P s i off] (hn : d < nt := by decide) (hx : evE e x = .ref l := by exact eV_) (hl : l.drop off = l' := by simp only [V.cells, List.drop_zero, List.drop_succ_cons, List.drop_nil] <;> rfl) (h : Wk (m.log ⟨some (d, (.ref l')), [], []⟩) ⟨P, w0, S0, nt, frs⟩ ops Q ⟨upd e d (.ref l'), ob, g⟩ rest) : Wk m ⟨P, w0, S0, nt, frs⟩ ops Q ⟨e, ob, g⟩ (⟨some d, .fieldAddr s x i, ty, pos, aft, none⟩ :: rest) := p_fieldRef hn hf.h hx hl h
theorem q_fR {s i off p q t g1 d1 : Nat} {x : Operand} [hf : FldC P s i off] (hn : d < nt := by decide) (hx : evE e x = .rptr t g1 d1 p q := by exact eV_) (h : Wk (m.log ⟨some (d, (.rptr t g1 d1 p (q + off))), [], []⟩) ⟨P, w0, S0, nt, frs⟩ ops Q ⟨upd e d (.rptr t g1 d1 p (q + off)), ob, g⟩ rest) : Wk m ⟨P, w0, S0, nt, frs⟩ ops Q ⟨e, ob, g⟩ (⟨some d, .fieldAddr s x i, ty, pos, aft, none⟩ :: rest) := p_fieldRow hn hf.h hx h
theorem q_load {t t' p g1 d1 : Nat} {x : Operand} {cs : List V} {v : V} [ht : LeafC P t] (hn : d < nt := by decide) (hx : evE e x = .ptr g1 d1 p := by exact eV_) (ho : ob g1 d1 = .cells t' cs := by exact oB_) (hv : cs[p]? = some v := by exact rfl) (h : Wk (m.log ⟨some (d, v), [], [(g1, d1)]⟩) ⟨P, w0, S0, nt, frs⟩ ops Q ⟨upd e d v, ob, g⟩ rest) : Wk m ⟨P, w0, S0, nt, frs⟩ ops Q ⟨e, ob, g⟩ (⟨some d, .load t x, ty, pos, aft, none⟩ :: rest) := p_load hn ht.h hx ho hv h
theorem q_loadA {t t' p g1 d1 : Nat} {x : Operand} {cs l : List V} {z : Value} {size bytes : Nat} [ht : AggC P t] [hi : TIC P t z size bytes] (hn : d < nt := by decide) (hx : evE e x = .ptr g1 d1 p := by exact eV_) (ho : ob g1 d1 = .cells t' cs := by exact oB_) (hl : (cs.drop p).take size = l := by simp only [V.cells, List.drop_zero, List.drop_succ_cons, List.take_succ_cons, List.take_zero, List.take_nil, Nat.reduceAdd] <;> rfl) (hlen : l.length = size := by exact rfl)
    (h : Wk (m.log ⟨some (d, (.agg l)), [], [(g1, d1)]⟩) ⟨P, w0, S0, nt, frs⟩ ops Q ⟨upd e d (.agg l), ob, g⟩ rest) : Wk m ⟨P, w0, S0, nt, frs⟩ ops Q ⟨e, ob, g⟩ (⟨some d, .load t x, ty, pos, aft, none⟩ :: rest) := p_loadA hn ht.h hi.h hx ho hl hlen h
theorem q_loadF {t : Nat} {x : Operand} {l : List V} {v : V} [ht : LeafC P t] (hn : d < nt := by decide) (hx : evE e x = .ref l := by exact eV_) (hv : l[0]? = some v := by exact rfl) (h : Wk (m.log ⟨some (d, v), [], []⟩) ⟨P, w0, S0, nt, frs⟩ ops Q ⟨upd e d v, ob, g⟩ rest) : Wk m ⟨P, w0, S0, nt, frs⟩ ops Q ⟨e, ob, g⟩ (⟨some d, .load t x, ty, pos, aft, none⟩ :: rest) := p_loadRef hn ht.h hx hv h
theorem q_loadFA {t : Nat} {x : Operand} {l l' : List V} {z : Value} {size bytes : Nat} [ht : AggC P t] [hi : TIC P t z size bytes] (hn : d < nt := by decide) (hx : evE e x = .ref l := by exact eV_) (hl : l.take size = l' := by simp only [V.cells, List.drop_zero, List.drop_succ_cons, List.take_succ_cons, List.take_zero, List.take_nil, Nat.reduceAdd] <;> rfl) (hlen : l'.length = size := by exact rfl)
    (h : Wk (m.log ⟨some (d, (.agg l')), [], []⟩) ⟨P, w0, S0, nt, frs⟩ ops Q ⟨upd e d (.agg l'), ob, g⟩ rest) : Wk m ⟨P, w0, S0, nt, frs⟩ ops Q ⟨e, ob, g⟩ (⟨some d, .load t x, ty, pos, aft, none⟩ :: rest) := p_loadRefA hn ht.h hi.h hx hl hlen h
theorem q_alloc {t : TypeId} {z : Value} {size bytes : Nat} {zs : List V} [hi : TIC P t z size bytes] (hn : d < nt := by decide) (hf : ob g d = .none := by repeat (first | exact hf _ | with_reducible rfl | rw [updO_off (by decide)])) (hz : z.cells.toList.map cv = zs := by simp [Value.cells, cv] <;> rfl) (h : Wk (m.log ⟨some (d, (.ptr g d 0)), [(g, d, (.cells t zs))], [(g, d)]⟩) ⟨P, w0, S0, nt, frs⟩ ops Q ⟨upd e d (.ptr g d 0), updO ob g d (.cells t zs), g⟩ rest) :
    Wk m ⟨P, w0, S0, nt, frs⟩ ops Q ⟨e, ob, g⟩ (⟨some d, .alloc t, ty, pos, aft, none⟩ :: rest) := p_alloc hn hf hi.h hz h
theorem q_len {t t' n : Nat} {x : Operand} {v : V} [ht : SlC P t t'] (hn : d < nt := by decide) (hx : evE e x = v := by exact eV_) (hl : v.len = some n := by exact rfl) (hs : ∀ s, v ≠ .str s := by intro s h; cases h) (h : Wk (m.log ⟨some (d, (.int .i64 n)), [], []⟩) ⟨P, w0, S0, nt, frs⟩ ops Q ⟨upd e d (.int .i64 n), ob, g⟩ rest) :
    Wk m ⟨P, w0, S0, nt, frs⟩ ops Q ⟨e, ob, g⟩ (⟨some d, .call { callee := .builtin .len, args := #[x], argTypes := #[t] }, ty, pos, aft, none⟩ :: rest) := p_len hn ht.h hx hl hs h
theorem q_lenS {t : Nat} {x : Operand} {s : ByteArray} [ht : StrC P t] (hn : d < nt := by decide) (hx : evE e x = .str s := by exact eV_) (h : Wk (m.log ⟨some (d, (.int .i64 s.size)), [], []⟩) ⟨P, w0, S0, nt, frs⟩ ops Q ⟨upd e d (.int .i64 s.size), ob, g⟩ rest) :
    Wk m ⟨P, w0, S0, nt, frs⟩ ops Q ⟨e, ob, g⟩ (⟨some d, .call { callee := .builtin .len, args := #[x], argTypes := #[t] }, ty, pos, aft, none⟩ :: rest) := p_lenStr hn ht.h hx h
theorem q_st1 {t t' p g1 d1 : Nat} {x y : Operand} {cs cs' : List V} {v : V} {z : Value} {bytes : Nat} [hi : TIC P t z 1 bytes] (hx : evE e x = .ptr g1 d1 p := by exact eV_) (ho : ob g1 d1 = .cells t' cs := by exact oB_) (hy : evE e y = v := by exact eV_) (hl : v.leaf = true := by exact rfl) (hp : p < cs.length := by first | exact Nat.le_of_ble_eq_true rfl | simp) (hcs : cs.set p v = cs' := by simp only [Nat.reduceAdd, List.set_cons_zero, List.set_cons_succ] <;> rfl)
    (h : Wk (m.log ⟨none, [(g1, d1, (.cells t' cs'))], [(g1, d1)]⟩) ⟨P, w0, S0, nt, frs⟩ ops Q ⟨e, updO ob g1 d1 (.cells t' cs'), g⟩ rest) : Wk m ⟨P, w0, S0, nt, frs⟩ ops Q ⟨e, ob, g⟩ (⟨none, .store t x y, ty, pos, aft, none⟩ :: rest) := p_store1 hi.h hx ho hy hl hp hcs h
theorem q_stA {t t' g1 d1 : Nat} {x y : Operand} {cs l : List V} {z : Value} {size bytes : Nat} [hi : TIC P t z size bytes] (hx : evE e x = .ptr g1 d1 0 := by exact eV_) (ho : ob g1 d1 = .cells t' cs := by exact oB_) (hy : evE e y = .agg l := by exact eV_) (hlf : l.all V.leaf = true := by exact rfl) (hsz : l.length = size := by exact rfl) (hp : cs.length = size := by exact rfl)
    (h : Wk (m.log ⟨none, [(g1, d1, (.cells t' l))], [(g1, d1)]⟩) ⟨P, w0, S0, nt, frs⟩ ops Q ⟨e, updO ob g1 d1 (.cells t' l), g⟩ rest) : Wk m ⟨P, w0, S0, nt, frs⟩ ops Q ⟨e, ob, g⟩ (⟨none, .store t x y, ty, pos, aft, none⟩ :: rest) := p_storeAll hi.h hx ho hy hlf hsz hp h
theorem q_stB {t t' p g1 d1 : Nat} {x y : Operand} {cs cs' l : List V} {z : Value} {size bytes : Nat} [hi : TIC P t z size bytes] (hx : evE e x = .ptr g1 d1 p := by exact eV_) (ho : ob g1 d1 = .cells t' cs := by exact oB_) (hy : evE e y = .agg l := by exact eV_) (hlf : l.all V.leaf = true := by exact rfl) (hsz : l.length = size := by exact rfl) (hp : p + size ≤ cs.length := by exact Nat.le_of_ble_eq_true rfl) (hcs : splice cs p l = cs' := by simp only [splice, V.cells, List.take_succ_cons, List.take_zero, List.take_nil, List.drop_succ_cons, List.drop_zero, List.drop_nil, List.cons_append, List.nil_append, List.append_nil, List.length_cons, List.length_nil, Nat.reduceAdd] <;> rfl)
    (h : Wk (m.log ⟨none, [(g1, d1, (.cells t' cs'))], [(g1, d1)]⟩) ⟨P, w0, S0, nt, frs⟩ ops Q ⟨e, updO ob g1 d1 (.cells t' cs'), g⟩ rest) : Wk m ⟨P, w0, S0, nt, frs⟩ ops Q ⟨e, ob, g⟩ (⟨none, .store t x y, ty, pos, aft, none⟩ :: rest) :=
  p_store hi.h hx ho hy (.inr ⟨_, rfl⟩) hlf hsz hp hcs h
theorem q_draw {id : Nat} {l : List Oper} [hm : MixC P] (h : (∀ d, ob (g + 1) d = .none) → Wk (.draw []) ⟨P, w0, S0, nt, frs⟩ l.toArray Q ⟨e, ob, g + 1⟩ l) : TrC ⟨P, w0, S0, nt, frs⟩ ⟨e, ob, g⟩ (.region id l.toArray true) Q := p_draw hm.h h
/-- What a region's walk keeps in hand: its names are new. -/
theorem wk_keep {H : Prop} {st : St} {l : List Oper} {c : Ctx} (hf : H) (h : H → Wk m c ops Q st l) : Wk m c ops Q st l := h hf
theorem wk_id {st : St} {l : List Oper} {c : Ctx} (h : Wk m c ops Q st l) : Wk m c ops Q st l := h
theorem cond_id {st : St} {c : Ctx} {x : Operand} {p q : Code} (h : TrC c st (.cond x p q) Q) : TrC c st (.cond x p q) Q := h
theorem w_end (h : Tr ⟨P, w0, S0, nt, frs⟩ ⟨e, ob, g⟩ (Q .normal)) : Wk .lex ⟨P, w0, S0, nt, frs⟩ ops Q ⟨e, ob, g⟩ [] := Tr.nil h
theorem w_endD {log : List Eff} (hc : drawOk ops (log.reverse.map Eff.sig) = true) (h : Tr ⟨P, w0, S0, nt, frs⟩ ⟨e, ob, g⟩ (Q .normal)) : Wk (.draw log) ⟨P, w0, S0, nt, frs⟩ ops Q ⟨e, ob, g⟩ [] := ⟨hc, h⟩
/-! ### 'and' and 'or': the part of a region that is carried out just if the first of two holds, walked once -/
theorem wpIn_Q {F : Fence} {n : Nat} {o : Oper} {a : Act} {w : World} {K : Act → World → Prop} {Q Q' : Exit → Act → World → Prop} (h1 : ∀ ch a w, Q' (.panic ch) a w → Q (.panic ch) a w) (h2 : ∀ a w, Q' .outgrown a w → Q .outgrown a w) (h : o.wpIn F n P a w K Q') : o.wpIn F n P a w K Q := by
  have h3 : LetsOut Q' → LetsOut Q := fun ⟨a, w, hq⟩ => ⟨a, w, h2 a w hq⟩
  unfold Oper.wpIn at *
  refine ⟨h.1, ?_⟩
  have hh := h.2
  generalize (o.semAt F.round a.eval).run P w = r at *
  cases r with
  | ok x w' =>
    cases x <;> simp only [Oper.uponIn] at hh ⊢ <;>
      first
        | exact hh
        | exact ⟨hh.1, CallsIn.mono hh.2 (fun e w'' he => by cases e <;> first | exact he | exact h1 _ _ _ he | exact h3 he)⟩
        | exact ⟨hh.1, RowsIn.mono hh.2 (fun _ _ he => he)⟩
        | exact ⟨hh.1, RoundIn.mono hh.2 (fun e w'' he => by cases e <;> first | exact he | exact h1 _ _ _ he | exact h3 he)⟩
  | halt x w' => cases x <;> simp only [Oper.uponIn] at hh ⊢ <;> first | exact h1 _ _ _ hh | exact hh
theorem wpListIn_app {F : Fence} {n : Nat} {ops : Array Oper} {Q : Exit → Act → World → Prop} {r : List Oper} : ∀ (l : List Oper) (a : Act) (w : World), wpListIn F n P ops (Exit.then (wpListIn F n P ops Q r) Q) l a w → wpListIn F n P ops Q (l ++ r) a w
  | [], a, w, h => h
  | o :: l, a, w, h => by
    simp only [wpListIn, List.cons_append] at h ⊢
    split
    · rename_i hw
      rw [if_pos hw] at h
      exact Oper.wpIn_mono (fun a w => wpListIn_app l a w) (wpIn_Q (fun _ _ _ h => h) (fun _ _ h => h) h)
    · rename_i hw
      rw [if_neg hw] at h
      exact ⟨h.1, wpListIn_app l _ _ h.2⟩
def cutPick : List Oper → Option (List Oper × Oper × List Oper)
  | [] => none
  | o :: l => match o.guard with
    | none => match o.op with
      | .pick _ _ _ => some ([], o, l)
      | _ => none
    | some _ => match cutPick l with
      | some (a, b, c) => some (o :: a, b, c)
      | none => none
/-- A guarded part, up to the pick of the slot that guards it. -/
def fstSlot (ops : Array Oper) : List Oper → Option Nat
  | o :: _ => match o.guard with
    | some (j, _) => (ops[j]?).bind (·.dst)
    | none => none
  | [] => none
def isPick (s : Nat) : Op → Bool
  | .pick (.tmp t) _ _ => t == s
  | _ => false
def cutAt (s : Nat) : List Oper → Option (List Oper × Oper × List Oper)
  | [] => none
  | o :: l => if isPick s o.op then some ([], o, l) else match o.guard with
    | none => none
    | some _ => match cutAt s l with
      | some (a, b, c) => some (o :: a, b, c)
      | none => none
theorem cutAt_eq {s : Nat} : ∀ {l a c : List Oper} {b : Oper}, cutAt s l = some (a, b, c) → l = a ++ b :: c
  | [], _, _, _, h => by simp [cutAt] at h
  | o :: l, a, c, b, h => by
    rw [cutAt] at h
    split at h
    · cases h; rfl
    · split at h
      · cases h
      · split at h
        · rename_i h1
          cases h
          rw [cutAt_eq h1]; rfl
        · cases h
theorem wpListIn_mono' {F : Fence} {n : Nat} {ops : Array Oper} {Q Q' : Exit → Act → World → Prop} : ∀ (l : List Oper) (a : Act) (w : World), (∀ e a w, Q' e a w → Q e a w) → wpListIn F n P ops Q' l a w → wpListIn F n P ops Q l a w
  | [], a, w, hq, h => hq _ _ _ h
  | o :: l, a, w, hq, h => by
    simp only [wpListIn] at h ⊢
    split
    · rename_i hw
      rw [if_pos hw] at h
      exact Oper.wpIn_mono (fun a w => wpListIn_mono' l a w hq) (wpIn_Q (fun _ _ _ h => hq _ _ _ h) (fun _ _ h => hq _ _ _ h) h)
    · rename_i hw
      rw [if_neg hw] at h
      exact ⟨h.1, wpListIn_mono' l _ _ hq h.2⟩
theorem cutPick_eq : ∀ {l l1 l2 : List Oper} {o : Oper}, cutPick l = some (l1, o, l2) → l = l1 ++ o :: l2
  | [], _, _, _, h => by simp [cutPick] at h
  | o :: l, l1, l2, o', h => by
    simp only [cutPick] at h
    split at h
    · split at h
      · simp at h; obtain ⟨rfl, rfl, rfl⟩ := h; rfl
      · cases h
    · split at h
      · rename_i a b c hc
        simp at h; obtain ⟨rfl, rfl, rfl⟩ := h
        rw [cutPick_eq hc]; rfl
      · cases h
def skipOk (ops : Array Oper) (s : Nat) (want : Bool) : List Nat → List Oper → Bool
  | _, [] => true
  | un, o :: l => match o.guard, o.dst with
    | some (j, w), some d => (match (ops[j]?).bind (·.dst) with
      | some s' => ((s' == s && w == want) || un.contains s') && s != d
      | none => false) && skipOk ops s want (d :: un) l
    | _, _ => false
theorem skip_run {c : Ctx} {ops : Array Oper} {Q : Exit → Act → World → Prop} {r : List Oper} {s : Nat} {want : Bool} {S : Nat → Prop} {at_ : At} {ob : Nat → Nat → Ob} {g : Nat} (hsn : s < c.nt) : ∀ (l : List Oper) (un : List Nat) (e : Nat → V) (a : Act) (w : World), skipOk ops s want un l = true → Rel c S at_ ⟨e, ob, g⟩ a w → e s = .bool (!want) → (∀ k ∈ un, e k = .tup [] ∧ k < c.nt) → (∀ k ∈ l.filterMap (·.dst), k < c.nt) →
    (∀ a' e', Rel c S at_ ⟨e', ob, g⟩ a' w → (∀ k, k ∉ l.filterMap (·.dst) → e' k = e k) → wpListIn (Fn c.frs.rd) 0 c.P ops Q r a' w) → wpListIn (Fn c.frs.rd) 0 c.P ops Q (l ++ r) a w
  | [], un, e, a, w, _, hr, _, _, _, h => h a e hr fun _ _ => rfl
  | o :: l, un, e, a, w, hs, hr, he, hu, hd, h => by
    obtain ⟨dst, op, ty, pos, aft, gd⟩ := o
    cases gd with
    | none => simp [skipOk] at hs
    | some jw =>
      obtain ⟨j, wn⟩ := jw
      cases dst with
      | none => simp [skipOk] at hs
      | some d =>
        simp only [skipOk, Bool.and_eq_true] at hs
        obtain ⟨hs1, hs2⟩ := hs
        have hdn : d < c.nt := hd d (by simp)
        cases hj : (ops[j]?).bind (·.dst) with
        | none => rw [hj] at hs1; simp at hs1
        | some s' =>
          rw [hj] at hs1
          simp only [Bool.and_eq_true, Bool.or_eq_true, beq_iff_eq, bne_iff_ne] at hs1
          obtain ⟨hs3, hsd⟩ := hs1
          have hy : yielded ops a.tmps j ≠ some wn := by
            have key : ∀ v : Value, s' < a.tmps.size → a.tmps.getD s' undef = v → a.tmps[s']? = some v := fun v hlt hv => by
              rw [Array.getD_eq_getD_getElem?, Array.getElem?_eq_getElem hlt] at hv; rw [Array.getElem?_eq_getElem hlt]; simpa using hv
            rcases hs3 with ⟨rfl, rfl⟩ | hun
            · have h1 := hr.env s'
              rw [show (⟨e, ob, g⟩ : St).env s' = .bool (!wn) from he, VR, RL] at h1
              have h2 := key _ (by rw [hr.size]; exact hsn) h1
              simp [yielded, hj, h2]
            · obtain ⟨hk1, hk2⟩ := hu s' (by simpa using hun)
              have h1 := hr.env s'
              rw [show (⟨e, ob, g⟩ : St).env s' = .tup [] from hk1] at h1
              have h2 := key _ (by rw [hr.size]; exact hk2) (undef_VR h1)
              simp [yielded, hj, h2, undef]
          rw [List.cons_append]
          refine wpListIn_step fun K hK => ?_
          have hw : Region.wanted (⟨some d, op, ty, pos, aft, some (j, wn)⟩ : Oper) (yielded ops a.tmps) = false := by
            simp only [Region.wanted]
            simpa using hy
          rw [hw]
          refine ⟨fun _ _ => trivial, hK _ _ ?_⟩
          refine skip_run hsn l (d :: un) (upd e d (.tup [])) _ w hs2 (hr.put (d := d) hdn VR_undef) (by simp only [upd, if_neg hsd]; exact he) (fun k hk => ?_) (fun k hk => hd k (by simp; exact .inr (by simpa using hk))) fun a' e' hr' hag => h a' e' hr' fun k hk => ?_
          · rcases List.mem_cons.1 hk with rfl | hk
            · exact ⟨by simp [upd], hdn⟩
            · by_cases hkd : k = d
              · subst hkd; exact ⟨by simp [upd], hdn⟩
              · exact ⟨by simp only [upd, if_neg hkd]; exact (hu k hk).1, (hu k hk).2⟩
          · simp only [List.filterMap_cons, List.mem_cons, not_or] at hk
            rw [hag k hk.2]
            simp only [upd, if_neg hk.1]
def tops : (Nat → V) → List Nat → Nat → V
  | e, [] => e
  | e, d :: l => tops (upd e d .top) l
theorem tops_spec : ∀ (l : List Nat) (e : Nat → V) (k : Nat), (k ∈ l → tops e l k = .top) ∧ (k ∉ l → tops e l k = e k)
  | [], e, k => ⟨fun h => by simp at h, fun _ => rfl⟩
  | d :: l, e, k => by
    have ih := tops_spec l (upd e d .top) k
    by_cases hk : k ∈ l
    · exact ⟨fun _ => ih.1 hk, fun h => absurd (List.mem_cons_of_mem _ hk) h⟩
    · refine ⟨fun h => ?_, fun h => ?_⟩
      · obtain rfl : k = d := by simpa [hk] using h
        rw [tops, ih.2 hk]; simp [upd]
      · rw [tops, ih.2 hk]
        have : k ≠ d := fun e => h (e ▸ List.mem_cons_self ..)
        simp [upd, this]
/-- The end of such a part. -/
def EndK (c : Ctx) (e : Nat → V) (ob : Nat → Nat → Ob) (g s : Nat) (ds : List Nat) (x : Operand) (bs : Bool) (r : Bool) : Exit → Act → World → Prop
  | .normal, a, w => ∃ S at_ e1, Rel c S at_ ⟨e1, ob, g⟩ a w ∧ evE e1 x = .bool r ∧ e1 s = .bool bs ∧ ∀ k, k ∉ ds → k ≠ s → e1 k = e k
  | _, _, _ => False
theorem p_endK {e0 : Nat → V} {s : Nat} {ds : List Nat} {x : Operand} {r bs : Bool} (hx : evE e x = .bool r := by exact eV_) (hs : e s = .bool bs := by exact eV_) (ha : ∀ k, k ∉ ds → k ≠ s → e k = e0 k := by intro k hk hs; simp only [List.mem_cons, List.not_mem_nil, not_or, or_false, not_false_eq_true, and_true] at hk; simp only [upd, hk, hs, if_false, ↓reduceIte]) : Tr ⟨P, w0, S0, nt, frs⟩ ⟨e, ob, g⟩ (EndK ⟨P, w0, S0, nt, frs⟩ e0 ob g s ds x bs r .normal) :=
  fun S at_ a w hr => ⟨S, at_, e, hr, hx, hs, ha⟩
theorem andor {want b r : Bool} {l l1 l2 : List Oper} {s d : Nat} {ty' : TypeId} {pos' : String} {aft' : Array Edge} {x y z : Operand} {ds : List Nat} {v : V} {gd : Option (Nat × Bool)} (hc : cutAt s l = some (l1, ⟨some d, .pick (.tmp s) y z, ty', pos', aft', gd⟩, l2)) (hgd : gd = none ∨ ∃ j s' w, gd = some (j, w) ∧ (ops[j]?).bind (·.dst) = some s' ∧ s' < nt ∧ evE e (.tmp s') = .bool w ∧ (!ds.contains s' && s' != s) = true) (hb : evE e (.tmp s) = .bool b) (hsk : skipOk ops s want [] l1 = true) (hds : l1.filterMap (·.dst) = ds) (hlt : ds.all (· < nt) = true) (hdn : d < nt) (hsn : s < nt)
    (hT : b = want → ∀ e1, evE e1 x = .bool r → (if want then evE e1 y else evE e1 z) = v) (hF : b = (!want) → ∀ e1, (if !want then evE e1 y else evE e1 z) = v)
    (h1 : b = want → Wk .lex ⟨P, w0, S0, nt, frs⟩ ops (EndK ⟨P, w0, S0, nt, frs⟩ e ob g s ds x want r) ⟨upd e s (.bool want), ob, g⟩ l1)
    (h : Wk .lex ⟨P, w0, S0, nt, frs⟩ ops Q ⟨upd (tops e ds) d v, ob, g⟩ l2) : Wk .lex ⟨P, w0, S0, nt, frs⟩ ops Q ⟨e, ob, g⟩ l := by
  have hl := cutAt_eq hc
  subst hl
  have fin0 : ∀ S at_ a w e1, Rel ⟨P, w0, S0, nt, frs⟩ S at_ ⟨e1, ob, g⟩ a w → e1 s = .bool b → (if b then evE e1 y else evE e1 z) = v → (∀ k, k ∉ ds → k ≠ s → e1 k = e k) → wpListIn (Fn frs.rd) 0 P ops Q (⟨some d, .pick (.tmp s) y z, ty', pos', aft', none⟩ :: l2) a w := by
    intro S at_ a w e1 hr hs1 hv hag
    refine wpListIn_plain rfl fun K hK => ?_
    refine Stp.pick (c := ⟨P, w0, S0, nt, frs⟩) (st := ⟨e1, ob, g⟩) (o := ⟨some d, .pick (.tmp s) y z, ty', pos', aft', none⟩) (d := d) (x := .tmp s) (y := y) (z := z) (b := b) (v := v) rfl hdn rfl hs1 (by rw [evE_eq, evE_eq]; exact hv) S at_ a w hr K Q fun S' at' a' w' hr' => hK _ _ ?_
    have h2 : Tr ⟨P, w0, S0, nt, frs⟩ ⟨upd e1 d v, ob, g⟩ (wpListIn (Fn frs.rd) 0 P ops Q l2) := Tr.weaken (st := ⟨upd e1 d v, ob, g⟩) (st' := ⟨upd (tops e ds) d v, ob, g⟩) h rfl rfl fun k => by
      by_cases hkd : k = d
      · right; simp [upd, hkd]
      · simp only [upd, if_neg hkd]
        by_cases hk : k ∈ ds
        · left; exact (tops_spec ds e k).1 hk
        · right
          rw [(tops_spec ds e k).2 hk]
          by_cases hks : k = s
          · subst hks
            rw [hs1]; exact hb
          · exact (hag k hk hks).symm
    exact h2 S' at' a' w' hr'
  have fin : ∀ S at_ a w e1, Rel ⟨P, w0, S0, nt, frs⟩ S at_ ⟨e1, ob, g⟩ a w → e1 s = .bool b → (if b then evE e1 y else evE e1 z) = v → (∀ k, k ∉ ds → k ≠ s → e1 k = e k) → wpListIn (Fn frs.rd) 0 P ops Q (⟨some d, .pick (.tmp s) y z, ty', pos', aft', gd⟩ :: l2) a w := by
    intro S at_ a w e1 hr hs1 hv hag
    rcases hgd with rfl | ⟨j, s', want', rfl, hj, hn', hb', hout⟩
    · exact fin0 S at_ a w e1 hr hs1 hv hag
    · have hout' : s' ∉ ds ∧ s' ≠ s := by simpa using hout
      have h9 : Wk .lex ⟨P, w0, S0, nt, frs⟩ ops Q ⟨e1, ob, g⟩ (⟨some d, .pick (.tmp s) y z, ty', pos', aft', some (j, want')⟩ :: l2) := by
        refine p_guardYes hj hn' ?_ ?_
        · rw [hag s' hout'.1 hout'.2]; exact hb'
        · exact fun S at_ a w hr => fin0 S at_ a w e1 hr hs1 hv hag
      exact h9 S at_ a w hr
  have hall : ∀ k ∈ ds, k < nt := fun k hk => by simpa using List.all_eq_true.1 hlt k hk
  by_cases hbw : b = want
  · subst hbw
    intro S at_ a w hr
    refine wpListIn_app l1 a w ?_
    have h3 : Tr ⟨P, w0, S0, nt, frs⟩ ⟨upd e s (.bool b), ob, g⟩ (wpListIn (Fn frs.rd) 0 P ops (EndK ⟨P, w0, S0, nt, frs⟩ e ob g s ds x b r) l1) := h1 rfl
    rw [upd_self hb] at h3
    have h4 := h3 S at_ a w hr
    refine wpListIn_mono' l1 a w (fun ex a w hq => ?_) h4
    cases ex with
    | normal => obtain ⟨S', at', e1, k1, k2, k3, k4⟩ := hq; exact fin S' at' a w e1 k1 k3 (hT rfl e1 k2) k4
    | exit _ => exact hq.elim
    | goto _ => exact hq.elim
    | ret => exact hq.elim
    | panic _ => exact hq.elim
    | outgrown => exact hq.elim
  · have hbn : b = !want := by cases b <;> cases want <;> simp_all
    intro S at_ a w hr
    refine skip_run (c := ⟨P, w0, S0, nt, frs⟩) (want := want) hsn l1 [] e a w hsk hr (hb.trans (by rw [hbn])) (fun k hk => by simp at hk) (by rw [hds]; exact hall) fun a' e' hr' hag => ?_
    rw [hds] at hag
    have hsl : s ∉ ds := fun hmem => by
      have : ∀ (l : List Oper) (un : List Nat), skipOk ops s want un l = true → s ∉ l.filterMap (·.dst) := by
        intro l
        induction l with
        | nil => intro un _ hm; simp at hm
        | cons o l ih =>
          intro un hs hm
          obtain ⟨dst, op, ty, pos, aft, gd⟩ := o
          cases gd with
          | none => simp [skipOk] at hs
          | some jw =>
            cases dst with
            | none => simp [skipOk] at hs
            | some d' =>
              simp only [skipOk, Bool.and_eq_true] at hs
              simp only [List.filterMap_cons, List.mem_cons] at hm
              rcases hm with rfl | hm
              · have := hs.1; split at this <;> simp at this
              · exact ih _ hs.2 hm
      exact this l1 [] hsk (hds ▸ hmem)
    exact fin S at_ a' w e' hr' ((hag s hsl).trans hb) (by rw [hbn]; exact hF hbn e') fun k hk _ => hag k hk
theorem p_and1 {b r : Bool} {l l1 l2 : List Oper} {s d : Nat} {gd : Option (Nat × Bool)} {ty' : TypeId} {pos' : String} {aft' : Array Edge} {x : Operand} {ds : List Nat} {e' : Nat → V} (hfs : fstSlot ops l = some s := by exact rfl) (hc : cutAt s l = some (l1, ⟨some d, .pick (.tmp s) x (.const (.bool false)), ty', pos', aft', gd⟩, l2) := by exact rfl) (hm : m = .lex := by exact rfl) (hb : evE e (.tmp s) = .bool b := by exact eV_) (hsk : skipOk ops s true [] l1 = true := by exact rfl) (hds : l1.filterMap (·.dst) = ds := by simp only [List.filterMap_cons, List.filterMap_nil] <;> rfl) (hgd : gd = none ∨ ∃ j s' w, gd = some (j, w) ∧ (ops[j]?).bind (·.dst) = some s' ∧ s' < nt ∧ evE e (.tmp s') = .bool w ∧ (!ds.contains s' && s' != s) = true := by first | exact .inl rfl | exact .inr ⟨_, _, _, rfl, rfl, by decide, eV_, by decide⟩) (hlt : ds.all (· < nt) = true := by decide) (hdn : d < nt := by decide) (hsn : s < nt := by decide)
    (h1 : b = true → Wk .lex ⟨P, w0, S0, nt, frs⟩ ops (EndK ⟨P, w0, S0, nt, frs⟩ e ob g s ds x true r) ⟨upd e s (.bool true), ob, g⟩ l1 := by
    intro hb_
    repeat (first
      | ((with_reducible refine wk_id ?_)
         first
          | refine p_move (h := ?_)
          | refine p_guardYes (h := ?_)
          | refine p_guardNo (h := ?_)
          | refine p_guardUn (h := ?_)
          | refine q_fP (h := ?_)
          | refine q_load (h := ?_)
          | refine q_fF (h := ?_)
          | refine q_loadF (h := ?_)
          | refine q_cmp (h := ?_)
          | refine p_bv (h := ?_)
          | refine p_assign (h := ?_)
          | refine q_st1 (h := ?_)
          | refine q_len (h := ?_)
          | refine q_alloc (h := ?_)
          | refine p_box (h := ?_)
          | refine q_loadA (h := ?_)
          | refine q_loadFA (h := ?_)
          | refine q_stA (h := ?_)
          | refine q_stB (h := ?_)
          | refine q_fR (h := ?_)
          | refine q_lenS (h := ?_)
          | refine p_extract (h := ?_)
          | refine p_not (h := ?_)
          | refine p_pick (h := ?_)
          | refine p_func (h := ?_)
          | refine w_end ?_
          | refine w_endD (by kernel_rfl) ?_)
      | with_reducible refine p_seq (p_region fun hf => ?_)
      | with_reducible refine Tr.then_normal ?_
      | with_reducible refine Tr.block_normal ?_
      | with_reducible refine Tr.then_exit ?_
      | with_reducible refine Tr.block_exit_same ?_
      | with_reducible refine Tr.block_exit_other (by decide) ?_
      | with_reducible refine Tr.then_ret ?_
      | with_reducible refine Tr.block_ret ?_
      | with_reducible refine TrC.block ?_
      | with_reducible refine p_seq (q_draw fun hf => ?_)
      | with_reducible refine p_seq ?_
      | ((with_reducible refine cond_id ?_); first | refine p_condT (h := ?_) | refine p_condF (h := ?_))
      | with_reducible refine TrC.skip ?_
      | with_reducible refine TrC.exit ?_
      | with_reducible refine TrC.ret ?_
      | with_reducible refine p_region fun hf => ?_
      | with_reducible refine q_draw fun hf => ?_)
    exact p_endK)
    (he : tops e ds = e' := by simp only [tops] <;> rfl) (h : Wk .lex ⟨P, w0, S0, nt, frs⟩ ops Q ⟨upd e' d (.bool (b && r)), ob, g⟩ l2) : Wk m ⟨P, w0, S0, nt, frs⟩ ops Q ⟨e, ob, g⟩ l := by
  subst hm; subst he
  exact andor hc hgd hb hsk hds hlt hdn hsn (fun hb e1 hx => by subst hb; simpa using hx) (fun hb e1 => by subst hb; rfl) h1 h
theorem p_or1 {b r : Bool} {l l1 l2 : List Oper} {s d : Nat} {gd : Option (Nat × Bool)} {ty' : TypeId} {pos' : String} {aft' : Array Edge} {x : Operand} {ds : List Nat} {e' : Nat → V} (hfs : fstSlot ops l = some s := by exact rfl) (hc : cutAt s l = some (l1, ⟨some d, .pick (.tmp s) (.const (.bool true)) x, ty', pos', aft', gd⟩, l2) := by exact rfl) (hm : m = .lex := by exact rfl) (hb : evE e (.tmp s) = .bool b := by exact eV_) (hsk : skipOk ops s false [] l1 = true := by exact rfl) (hds : l1.filterMap (·.dst) = ds := by simp only [List.filterMap_cons, List.filterMap_nil] <;> rfl) (hgd : gd = none ∨ ∃ j s' w, gd = some (j, w) ∧ (ops[j]?).bind (·.dst) = some s' ∧ s' < nt ∧ evE e (.tmp s') = .bool w ∧ (!ds.contains s' && s' != s) = true := by first | exact .inl rfl | exact .inr ⟨_, _, _, rfl, rfl, by decide, eV_, by decide⟩) (hlt : ds.all (· < nt) = true := by decide) (hdn : d < nt := by decide) (hsn : s < nt := by decide)
    (h1 : b = false → Wk .lex ⟨P, w0, S0, nt, frs⟩ ops (EndK ⟨P, w0, S0, nt, frs⟩ e ob g s ds x false r) ⟨upd e s (.bool false), ob, g⟩ l1 := by
    intro hb_
    repeat (first
      | ((with_reducible refine wk_id ?_)
         first
          | refine p_move (h := ?_)
          | refine p_guardYes (h := ?_)
          | refine p_guardNo (h := ?_)
          | refine p_guardUn (h := ?_)
          | refine q_fP (h := ?_)
          | refine q_load (h := ?_)
          | refine q_fF (h := ?_)
          | refine q_loadF (h := ?_)
          | refine q_cmp (h := ?_)
          | refine p_bv (h := ?_)
          | refine p_assign (h := ?_)
          | refine q_st1 (h := ?_)
          | refine q_len (h := ?_)
          | refine q_alloc (h := ?_)
          | refine p_box (h := ?_)
          | refine q_loadA (h := ?_)
          | refine q_loadFA (h := ?_)
          | refine q_stA (h := ?_)
          | refine q_stB (h := ?_)
          | refine q_fR (h := ?_)
          | refine q_lenS (h := ?_)
          | refine p_extract (h := ?_)
          | refine p_not (h := ?_)
          | refine p_pick (h := ?_)
          | refine p_func (h := ?_)
          | refine w_end ?_
          | refine w_endD (by kernel_rfl) ?_)
      | with_reducible refine p_seq (p_region fun hf => ?_)
      | with_reducible refine Tr.then_normal ?_
      | with_reducible refine Tr.block_normal ?_
      | with_reducible refine Tr.then_exit ?_
      | with_reducible refine Tr.block_exit_same ?_
      | with_reducible refine Tr.block_exit_other (by decide) ?_
      | with_reducible refine Tr.then_ret ?_
      | with_reducible refine Tr.block_ret ?_
      | with_reducible refine TrC.block ?_
      | with_reducible refine p_seq (q_draw fun hf => ?_)
      | with_reducible refine p_seq ?_
      | ((with_reducible refine cond_id ?_); first | refine p_condT (h := ?_) | refine p_condF (h := ?_))
      | with_reducible refine TrC.skip ?_
      | with_reducible refine TrC.exit ?_
      | with_reducible refine TrC.ret ?_
      | with_reducible refine p_region fun hf => ?_
      | with_reducible refine q_draw fun hf => ?_)
    exact p_endK)
    (he : tops e ds = e' := by simp only [tops] <;> rfl) (h : Wk .lex ⟨P, w0, S0, nt, frs⟩ ops Q ⟨upd e' d (.bool (b || r)), ob, g⟩ l2) : Wk m ⟨P, w0, S0, nt, frs⟩ ops Q ⟨e, ob, g⟩ l := by
  subst hm; subst he
  exact andor hc hgd hb hsk hds hlt hdn hsn (fun hb e1 hx => by subst hb; simpa using hx) (fun hb e1 => by subst hb; rfl) h1 h
theorem p_and2 {b r : Bool} {l l1 l2 : List Oper} {s d : Nat} {gd : Option (Nat × Bool)} {ty' : TypeId} {pos' : String} {aft' : Array Edge} {x : Operand} {ds : List Nat} {e' : Nat → V} (hfs : fstSlot ops l = some s := by exact rfl) (hc : cutAt s l = some (l1, ⟨some d, .pick (.tmp s) x (.const (.bool false)), ty', pos', aft', gd⟩, l2) := by exact rfl) (hm : m = .lex := by exact rfl) (hb : evE e (.tmp s) = .bool b := by exact eV_) (hsk : skipOk ops s true [] l1 = true := by exact rfl) (hds : l1.filterMap (·.dst) = ds := by simp only [List.filterMap_cons, List.filterMap_nil] <;> rfl) (hgd : gd = none ∨ ∃ j s' w, gd = some (j, w) ∧ (ops[j]?).bind (·.dst) = some s' ∧ s' < nt ∧ evE e (.tmp s') = .bool w ∧ (!ds.contains s' && s' != s) = true := by first | exact .inl rfl | exact .inr ⟨_, _, _, rfl, rfl, by decide, eV_, by decide⟩) (hlt : ds.all (· < nt) = true := by decide) (hdn : d < nt := by decide) (hsn : s < nt := by decide)
    (h1 : b = true → Wk .lex ⟨P, w0, S0, nt, frs⟩ ops (EndK ⟨P, w0, S0, nt, frs⟩ e ob g s ds x true r) ⟨upd e s (.bool true), ob, g⟩ l1 := by
    intro hb_
    repeat (first
      | ((with_reducible refine wk_id ?_)
         first
          | refine p_move (h := ?_)
          | refine p_guardYes (h := ?_)
          | refine p_guardNo (h := ?_)
          | refine p_guardUn (h := ?_)
          | refine q_fP (h := ?_)
          | refine q_load (h := ?_)
          | refine q_fF (h := ?_)
          | refine q_loadF (h := ?_)
          | refine q_cmp (h := ?_)
          | refine p_bv (h := ?_)
          | refine p_assign (h := ?_)
          | refine q_st1 (h := ?_)
          | refine q_len (h := ?_)
          | refine q_alloc (h := ?_)
          | refine p_box (h := ?_)
          | refine q_loadA (h := ?_)
          | refine q_loadFA (h := ?_)
          | refine q_stA (h := ?_)
          | refine q_stB (h := ?_)
          | refine q_fR (h := ?_)
          | refine q_lenS (h := ?_)
          | refine p_extract (h := ?_)
          | refine p_not (h := ?_)
          | refine p_pick (h := ?_)
          | refine p_func (h := ?_)
          | refine p_and1 (h := ?_)
          | refine p_or1 (h := ?_)
          | refine w_end ?_
          | refine w_endD (by kernel_rfl) ?_)
      | with_reducible refine p_seq (p_region fun hf => ?_)
      | with_reducible refine Tr.then_normal ?_
      | with_reducible refine Tr.block_normal ?_
      | with_reducible refine Tr.then_exit ?_
      | with_reducible refine Tr.block_exit_same ?_
      | with_reducible refine Tr.block_exit_other (by decide) ?_
      | with_reducible refine Tr.then_ret ?_
      | with_reducible refine Tr.block_ret ?_
      | with_reducible refine TrC.block ?_
      | with_reducible refine p_seq (q_draw fun hf => ?_)
      | with_reducible refine p_seq ?_
      | ((with_reducible refine cond_id ?_); first | refine p_condT (h := ?_) | refine p_condF (h := ?_))
      | with_reducible refine TrC.skip ?_
      | with_reducible refine TrC.exit ?_
      | with_reducible refine TrC.ret ?_
      | with_reducible refine p_region fun hf => ?_
      | with_reducible refine q_draw fun hf => ?_)
    exact p_endK)
    (he : tops e ds = e' := by simp only [tops] <;> rfl) (h : Wk .lex ⟨P, w0, S0, nt, frs⟩ ops Q ⟨upd e' d (.bool (b && r)), ob, g⟩ l2) : Wk m ⟨P, w0, S0, nt, frs⟩ ops Q ⟨e, ob, g⟩ l := by
  subst hm; subst he
  exact andor hc hgd hb hsk hds hlt hdn hsn (fun hb e1 hx => by subst hb; simpa using hx) (fun hb e1 => by subst hb; rfl) h1 h
theorem p_or2 {b r : Bool} {l l1 l2 : List Oper} {s d : Nat} {gd : Option (Nat × Bool)} {ty' : TypeId} {pos' : String} {aft' : Array Edge} {x : Operand} {ds : List Nat} {e' : Nat → V} (hfs : fstSlot ops l = some s := by exact rfl) (hc : cutAt s l = some (l1, ⟨some d, .pick (.tmp s) (.const (.bool true)) x, ty', pos', aft', gd⟩, l2) := by exact rfl) (hm : m = .lex := by exact rfl) (hb : evE e (.tmp s) = .bool b := by exact eV_) (hsk : skipOk ops s false [] l1 = true := by exact rfl) (hds : l1.filterMap (·.dst) = ds := by simp only [List.filterMap_cons, List.filterMap_nil] <;> rfl) (hgd : gd = none ∨ ∃ j s' w, gd = some (j, w) ∧ (ops[j]?).bind (·.dst) = some s' ∧ s' < nt ∧ evE e (.tmp s') = .bool w ∧ (!ds.contains s' && s' != s) = true := by first | exact .inl rfl | exact .inr ⟨_, _, _, rfl, rfl, by decide, eV_, by decide⟩) (hlt : ds.all (· < nt) = true := by decide) (hdn : d < nt := by decide) (hsn : s < nt := by decide)
    (h1 : b = false → Wk .lex ⟨P, w0, S0, nt, frs⟩ ops (EndK ⟨P, w0, S0, nt, frs⟩ e ob g s ds x false r) ⟨upd e s (.bool false), ob, g⟩ l1 := by
    intro hb_
    repeat (first
      | ((with_reducible refine wk_id ?_)
         first
          | refine p_move (h := ?_)
          | refine p_guardYes (h := ?_)
          | refine p_guardNo (h := ?_)
          | refine p_guardUn (h := ?_)
          | refine q_fP (h := ?_)
          | refine q_load (h := ?_)
          | refine q_fF (h := ?_)
          | refine q_loadF (h := ?_)
          | refine q_cmp (h := ?_)
          | refine p_bv (h := ?_)
          | refine p_assign (h := ?_)
          | refine q_st1 (h := ?_)
          | refine q_len (h := ?_)
          | refine q_alloc (h := ?_)
          | refine p_box (h := ?_)
          | refine q_loadA (h := ?_)
          | refine q_loadFA (h := ?_)
          | refine q_stA (h := ?_)
          | refine q_stB (h := ?_)
          | refine q_fR (h := ?_)
          | refine q_lenS (h := ?_)
          | refine p_extract (h := ?_)
          | refine p_not (h := ?_)
          | refine p_pick (h := ?_)
          | refine p_func (h := ?_)
          | refine p_and1 (h := ?_)
          | refine p_or1 (h := ?_)
          | refine w_end ?_
          | refine w_endD (by kernel_rfl) ?_)
      | with_reducible refine p_seq (p_region fun hf => ?_)
      | with_reducible refine Tr.then_normal ?_
      | with_reducible refine Tr.block_normal ?_
      | with_reducible refine Tr.then_exit ?_
      | with_reducible refine Tr.block_exit_same ?_
      | with_reducible refine Tr.block_exit_other (by decide) ?_
      | with_reducible refine Tr.then_ret ?_
      | with_reducible refine Tr.block_ret ?_
      | with_reducible refine TrC.block ?_
      | with_reducible refine p_seq (q_draw fun hf => ?_)
      | with_reducible refine p_seq ?_
      | ((with_reducible refine cond_id ?_); first | refine p_condT (h := ?_) | refine p_condF (h := ?_))
      | with_reducible refine TrC.skip ?_
      | with_reducible refine TrC.exit ?_
      | with_reducible refine TrC.ret ?_
      | with_reducible refine p_region fun hf => ?_
      | with_reducible refine q_draw fun hf => ?_)
    exact p_endK)
    (he : tops e ds = e' := by simp only [tops] <;> rfl) (h : Wk .lex ⟨P, w0, S0, nt, frs⟩ ops Q ⟨upd e' d (.bool (b || r)), ob, g⟩ l2) : Wk m ⟨P, w0, S0, nt, frs⟩ ops Q ⟨e, ob, g⟩ l := by
  subst hm; subst he
  exact andor hc hgd hb hsk hds hlt hdn hsn (fun hb e1 hx => by subst hb; simpa using hx) (fun hb e1 => by subst hb; rfl) h1 h
theorem p_and3 {b r : Bool} {l l1 l2 : List Oper} {s d : Nat} {gd : Option (Nat × Bool)} {ty' : TypeId} {pos' : String} {aft' : Array Edge} {x : Operand} {ds : List Nat} {e' : Nat → V} (hfs : fstSlot ops l = some s := by exact rfl) (hc : cutAt s l = some (l1, ⟨some d, .pick (.tmp s) x (.const (.bool false)), ty', pos', aft', gd⟩, l2) := by exact rfl) (hm : m = .lex := by exact rfl) (hb : evE e (.tmp s) = .bool b := by exact eV_) (hsk : skipOk ops s true [] l1 = true := by exact rfl) (hds : l1.filterMap (·.dst) = ds := by simp only [List.filterMap_cons, List.filterMap_nil] <;> rfl) (hgd : gd = none ∨ ∃ j s' w, gd = some (j, w) ∧ (ops[j]?).bind (·.dst) = some s' ∧ s' < nt ∧ evE e (.tmp s') = .bool w ∧ (!ds.contains s' && s' != s) = true := by first | exact .inl rfl | exact .inr ⟨_, _, _, rfl, rfl, by decide, eV_, by decide⟩) (hlt : ds.all (· < nt) = true := by decide) (hdn : d < nt := by decide) (hsn : s < nt := by decide)
    (h1 : b = true → Wk .lex ⟨P, w0, S0, nt, frs⟩ ops (EndK ⟨P, w0, S0, nt, frs⟩ e ob g s ds x true r) ⟨upd e s (.bool true), ob, g⟩ l1 := by
    intro hb_
    repeat (first
      | ((with_reducible refine wk_id ?_)
         first
          | refine p_move (h := ?_)
          | refine p_guardYes (h := ?_)
          | refine p_guardNo (h := ?_)
          | refine p_guardUn (h := ?_)
          | refine q_fP (h := ?_)
          | refine q_load (h := ?_)
          | refine q_fF (h := ?_)
          | refine q_loadF (h := ?_)
          | refine q_cmp (h := ?_)
          | refine p_bv (h := ?_)
          | refine p_assign (h := ?_)
          | refine q_st1 (h := ?_)
          | refine q_len (h := ?_)
          | refine q_alloc (h := ?_)
          | refine p_box (h := ?_)
          | refine q_loadA (h := ?_)
          | refine q_loadFA (h := ?_)
          | refine q_stA (h := ?_)
          | refine q_stB (h := ?_)
          | refine q_fR (h := ?_)
          | refine q_lenS (h := ?_)
          | refine p_extract (h := ?_)
          | refine p_not (h := ?_)
          | refine p_pick (h := ?_)
          | refine p_func (h := ?_)
          | refine p_and2 (h := ?_)
          | refine p_or2 (h := ?_)
          | refine w_end ?_
          | refine w_endD (by kernel_rfl) ?_)
      | with_reducible refine p_seq (p_region fun hf => ?_)
      | with_reducible refine Tr.then_normal ?_
      | with_reducible refine Tr.block_normal ?_
      | with_reducible refine Tr.then_exit ?_
      | with_reducible refine Tr.block_exit_same ?_
      | with_reducible refine Tr.block_exit_other (by decide) ?_
      | with_reducible refine Tr.then_ret ?_
      | with_reducible refine Tr.block_ret ?_
      | with_reducible refine TrC.block ?_
      | with_reducible refine p_seq (q_draw fun hf => ?_)
      | with_reducible refine p_seq ?_
      | ((with_reducible refine cond_id ?_); first | refine p_condT (h := ?_) | refine p_condF (h := ?_))
      | with_reducible refine TrC.skip ?_
      | with_reducible refine TrC.exit ?_
      | with_reducible refine TrC.ret ?_
      | with_reducible refine p_region fun hf => ?_
      | with_reducible refine q_draw fun hf => ?_)
    exact p_endK)
    (he : tops e ds = e' := by simp only [tops] <;> rfl) (h : Wk .lex ⟨P, w0, S0, nt, frs⟩ ops Q ⟨upd e' d (.bool (b && r)), ob, g⟩ l2) : Wk m ⟨P, w0, S0, nt, frs⟩ ops Q ⟨e, ob, g⟩ l := by
  subst hm; subst he
  exact andor hc hgd hb hsk hds hlt hdn hsn (fun hb e1 hx => by subst hb; simpa using hx) (fun hb e1 => by subst hb; rfl) h1 h
theorem p_or3 {b r : Bool} {l l1 l2 : List Oper} {s d : Nat} {gd : Option (Nat × Bool)} {ty' : TypeId} {pos' : String} {aft' : Array Edge} {x : Operand} {ds : List Nat} {e' : Nat → V} (hfs : fstSlot ops l = some s := by exact rfl) (hc : cutAt s l = some (l1, ⟨some d, .pick (.tmp s) (.const (.bool true)) x, ty', pos', aft', gd⟩, l2) := by exact rfl) (hm : m = .lex := by exact rfl) (hb : evE e (.tmp s) = .bool b := by exact eV_) (hsk : skipOk ops s false [] l1 = true := by exact rfl) (hds : l1.filterMap (·.dst) = ds := by simp only [List.filterMap_cons, List.filterMap_nil] <;> rfl) (hgd : gd = none ∨ ∃ j s' w, gd = some (j, w) ∧ (ops[j]?).bind (·.dst) = some s' ∧ s' < nt ∧ evE e (.tmp s') = .bool w ∧ (!ds.contains s' && s' != s) = true := by first | exact .inl rfl | exact .inr ⟨_, _, _, rfl, rfl, by decide, eV_, by decide⟩) (hlt : ds.all (· < nt) = true := by decide) (hdn : d < nt := by decide) (hsn : s < nt := by decide)
    (h1 : b = false → Wk .lex ⟨P, w0, S0, nt, frs⟩ ops (EndK ⟨P, w0, S0, nt, frs⟩ e ob g s ds x false r) ⟨upd e s (.bool false), ob, g⟩ l1 := by
    intro hb_
    repeat (first
      | ((with_reducible refine wk_id ?_)
         first
          | refine p_move (h := ?_)
          | refine p_guardYes (h := ?_)
          | refine p_guardNo (h := ?_)
          | refine p_guardUn (h := ?_)
          | refine q_fP (h := ?_)
          | refine q_load (h := ?_)
          | refine q_fF (h := ?_)
          | refine q_loadF (h := ?_)
          | refine q_cmp (h := ?_)
          | refine p_bv (h := ?_)
          | refine p_assign (h := ?_)
          | refine q_st1 (h := ?_)
          | refine q_len (h := ?_)
          | refine q_alloc (h := ?_)
          | refine p_box (h := ?_)
          | refine q_loadA (h := ?_)
          | refine q_loadFA (h := ?_)
          | refine q_stA (h := ?_)
          | refine q_stB (h := ?_)
          | refine q_fR (h := ?_)
          | refine q_lenS (h := ?_)
          | refine p_extract (h := ?_)
          | refine p_not (h := ?_)
          | refine p_pick (h := ?_)
          | refine p_func (h := ?_)
          | refine p_and2 (h := ?_)
          | refine p_or2 (h := ?_)
          | refine w_end ?_
          | refine w_endD (by kernel_rfl) ?_)
      | with_reducible refine p_seq (p_region fun hf => ?_)
      | with_reducible refine Tr.then_normal ?_
      | with_reducible refine Tr.block_normal ?_
      | with_reducible refine Tr.then_exit ?_
      | with_reducible refine Tr.block_exit_same ?_
      | with_reducible refine Tr.block_exit_other (by decide) ?_
      | with_reducible refine Tr.then_ret ?_
      | with_reducible refine Tr.block_ret ?_
      | with_reducible refine TrC.block ?_
      | with_reducible refine p_seq (q_draw fun hf => ?_)
      | with_reducible refine p_seq ?_
      | ((with_reducible refine cond_id ?_); first | refine p_condT (h := ?_) | refine p_condF (h := ?_))
      | with_reducible refine TrC.skip ?_
      | with_reducible refine TrC.exit ?_
      | with_reducible refine TrC.ret ?_
      | with_reducible refine p_region fun hf => ?_
      | with_reducible refine q_draw fun hf => ?_)
    exact p_endK)
    (he : tops e ds = e' := by simp only [tops] <;> rfl) (h : Wk .lex ⟨P, w0, S0, nt, frs⟩ ops Q ⟨upd e' d (.bool (b || r)), ob, g⟩ l2) : Wk m ⟨P, w0, S0, nt, frs⟩ ops Q ⟨e, ob, g⟩ l := by
  subst hm; subst he
  exact andor hc hgd hb hsk hds hlt hdn hsn (fun hb e1 hx => by subst hb; simpa using hx) (fun hb e1 => by subst hb; rfl) h1 h
/-- As far as everything is found without a word. -/
theorem p_go {A B : Prop} (h : B) (s : B → A := by
    intro hh_
    repeat (first
      | ((with_reducible refine wk_id ?_)
         first
          | refine p_move (h := ?_)
          | refine p_guardYes (h := ?_)
          | refine p_guardNo (h := ?_)
          | refine p_guardUn (h := ?_)
          | refine q_fP (h := ?_)
          | refine q_load (h := ?_)
          | refine q_fF (h := ?_)
          | refine q_loadF (h := ?_)
          | refine q_cmp (h := ?_)
          | refine p_bv (h := ?_)
          | refine p_assign (h := ?_)
          | refine q_st1 (h := ?_)
          | refine q_len (h := ?_)
          | refine q_alloc (h := ?_)
          | refine p_box (h := ?_)
          | refine q_loadA (h := ?_)
          | refine q_loadFA (h := ?_)
          | refine q_stA (h := ?_)
          | refine q_stB (h := ?_)
          | refine q_fR (h := ?_)
          | refine q_lenS (h := ?_)
          | refine p_extract (h := ?_)
          | refine p_not (h := ?_)
          | refine p_pick (h := ?_)
          | refine p_func (h := ?_)
          | refine p_and3 (h := ?_)
          | refine p_or3 (h := ?_)
          | refine w_end ?_
          | refine w_endD (by kernel_rfl) ?_)
      | with_reducible refine p_seq (p_region fun hf => ?_)
      | with_reducible refine Tr.then_normal ?_
      | with_reducible refine Tr.block_normal ?_
      | with_reducible refine Tr.then_exit ?_
      | with_reducible refine Tr.block_exit_same ?_
      | with_reducible refine Tr.block_exit_other (by decide) ?_
      | with_reducible refine Tr.then_ret ?_
      | with_reducible refine Tr.block_ret ?_
      | with_reducible refine TrC.block ?_
      | with_reducible refine p_seq (q_draw fun hf => ?_)
      | with_reducible refine p_seq ?_
      | ((with_reducible refine cond_id ?_); first | refine p_condT (h := ?_) | refine p_condF (h := ?_))
      | with_reducible refine TrC.skip ?_
      | with_reducible refine TrC.exit ?_
      | with_reducible refine TrC.ret ?_
      | with_reducible refine p_region fun hf => ?_
      | with_reducible refine q_draw fun hf => ?_)
    first | exact wk_keep hf hh_ | exact hh_) : A := s h
/-- The same, where the ways of some conditions meet again. -/
theorem p_goJ {A B : Prop} (h : B) (s : B → A := by
    intro hh_
    repeat (first
      | ((with_reducible refine wk_id ?_)
         first
          | refine p_move (h := ?_)
          | refine p_guardYes (h := ?_)
          | refine p_guardNo (h := ?_)
          | refine p_guardUn (h := ?_)
          | refine q_fP (h := ?_)
          | refine q_load (h := ?_)
          | refine q_fF (h := ?_)
          | refine q_loadF (h := ?_)
          | refine q_cmp (h := ?_)
          | refine p_bv (h := ?_)
          | refine p_assign (h := ?_)
          | refine q_st1 (h := ?_)
          | refine q_len (h := ?_)
          | refine q_alloc (h := ?_)
          | refine p_box (h := ?_)
          | refine q_loadA (h := ?_)
          | refine q_loadFA (h := ?_)
          | refine q_stA (h := ?_)
          | refine q_stB (h := ?_)
          | refine q_fR (h := ?_)
          | refine q_lenS (h := ?_)
          | refine p_extract (h := ?_)
          | refine p_not (h := ?_)
          | refine p_pick (h := ?_)
          | refine p_func (h := ?_)
          | refine p_and3 (h := ?_)
          | refine p_or3 (h := ?_)
          | refine w_end ?_
          | refine w_endD (by kernel_rfl) ?_)
      | with_reducible refine p_seq (p_region fun hf => ?_)
      | with_reducible refine Tr.then_normal ?_
      | with_reducible refine Tr.block_normal ?_
      | with_reducible refine Tr.then_exit ?_
      | with_reducible refine Tr.block_exit_same ?_
      | with_reducible refine Tr.block_exit_other (by decide) ?_
      | with_reducible refine Tr.then_ret ?_
      | with_reducible refine Tr.block_ret ?_
      | with_reducible refine TrC.block ?_
      | with_reducible refine p_seq (q_draw fun hf => ?_)
      | ((with_reducible refine cond_id ?_); first | refine p_condT (h := ?_) | refine p_condF (h := ?_))
      | with_reducible refine TrC.skip ?_
      | with_reducible refine TrC.exit ?_
      | with_reducible refine TrC.ret ?_
      | with_reducible refine p_region fun hf => ?_
      | with_reducible refine q_draw fun hf => ?_)
    first | exact wk_keep hf hh_ | exact hh_) : A := s h
end
end Go.Proofs.YtjjpmbaddpiamaaDoor
