import Derived.Test.YtfpljljjjgicaaaGreatDoorSm
import Derived.Test.YtfpljljjjgicaaaGreatDoorWu
import Derived.KernelRfl
/-
  Sameness of any spaces, weights and automata: the program and the reference say alike.
-/
set_option maxHeartbeats 4000000
set_option linter.unusedSimpArgs false
set_option linter.unusedVariables false
namespace Go.Proofs.YtfpljljjjgicaaaGreatDoor
open Go.RowKit
attribute [local irreducible] Wk Tr
/-- How much of it there can be, all the way down. -/
inductive Wt.SmA : Wt → Prop
  | mk {w : Wt} (h : w.Sm) (hp : ∀ x ∈ w.parts, Wt.SmA x) : Wt.SmA w
inductive Sp.SmA : Sp → Prop
  | mk {s : Sp} (h : s.parts.length ≤ 17592186044416) (hp : ∀ x ∈ s.parts, Sp.SmA x) : Sp.SmA s
theorem Wt.SmA.sm2 {w : Wt} (h : w.SmA) : w.Sm2 := by
  cases h with
  | mk h hp => exact ⟨h, fun x hx => by cases hp x hx with | mk h _ => exact h⟩
structure Aut.SmA (a : Aut) : Prop where
  sp : a.sp.SmA
  fin : a.fin.length ≤ 17592186044416
  trs : a.trs.length ≤ 17592186044416
  w : ∀ t ∈ a.trs, t.w.SmA
theorem Sp.SmA.len {s : Sp} (h : s.SmA) : s.parts.length ≤ 17592186044416 := by cases h; assumption
theorem Aut.SmA.sm {a : Aut} (h : a.SmA) : a.Sm := ⟨h.sp.len, h.fin, h.trs, fun t ht => (h.w t ht).sm2⟩
theorem eqBy_self {α : Type} {p : α → α → Bool} : ∀ {l : List α}, (∀ x ∈ l, p x x = true) → eqBy p l l = true
  | [], _ => rfl
  | a :: l, h => by rw [eqBy, h a (by simp), eqBy_self fun x hx => h x (by simp [hx])]; rfl
def hdSp (a b : Sp) : Bool := decide (a.tag = b.tag) && decide (a.dim = b.dim)
def sameTr (q : Wt → Wt → Bool) (x y : Trn) : Bool := decide (x.frm = y.frm) && decide (x.sym = y.sym) && decide (x.to = y.to) && q x.w y.w
def sameAu (p : Bool) (q : Wt → Wt → Bool) (a b : Aut) : Bool := p && decide (a.states = b.states) && decide (a.symbols = b.symbols) && decide (a.fin = b.fin) && eqBy (sameTr q) a.trs b.trs
theorem equalFunc_sp (p : Sp → Sp → Bool) (l l' : List Sp) (hl : l.length ≤ 17592186044416) (hl' : l'.length ≤ 17592186044416) (fid : FuncId) (fn : Func) (code : Code) (hb : HasBody Tryz.prog fid fn code) (hp : ∀ x ∈ l, ∀ y ∈ l', FnC Tryz.prog fid [spA x, spA y] (fun r => r = .bool (p x y))) : FnC Tryz.prog 99 [.sl 25 (l.map spV), .sl 25 (l'.map spV), .fn fid []] (fun r => r = .bool (eqBy p l l')) := by
  refine FnC.of (fn := Tryz.f99) ⟨Tryz.func99, by kernel_rfl, rfl⟩ Tryz.ntmps99 (by simp) fun w0 S0 => ?_
  refine p_go ?_
  refine p_splitC (s := 14) (ht := fun hc14 => ?_) (hf := fun hc14 => ?_)
  · refine p_go ?_
    refine p_ret1 (hp := by have hle : l.length ≠ l'.length := (by have := hc14; simp at this; omega); rw [eqBy_len hle])
  · have hle : l.length = l'.length := (by have := hc14; simp at this; omega)
    refine p_go ?_
    refine p_loopK [1, 2, 15, 16] [] (fun st => ∃ i : Nat, (i ≤ l.length) ∧ (eqBy p l l' = eqBy p (l.drop i) (l'.drop i)) ∧ st.env 17 = iV i) (fun st => l.length - (st.env 17).toN) ?_ fun e ob g1 hK hO hI => ?_
    · exact ⟨0, by omega, rfl, eV_⟩
    · obtain ⟨i, hi, hq, e17⟩ := hI
      dsimp only at e17
      simp only [valsE, List.cons.injEq, and_true] at hK
      have hE := (⟨hK, e17⟩ : _ ∧ _)
      refine p_go ?_
      refine p_splitC (s := 18) (ht := fun hc18 => ?_) (hf := fun hc18 => ?_)
      · have hlt : i < l.length := by simpa using hc18
        have hlt' : i < l'.length := by omega
        have hd := List.drop_eq_getElem_cons hlt
        have hd' := List.drop_eq_getElem_cons hlt'
        refine p_go fun hf => ?_
        refine p_idxMap (j := i) (ht := Tryz.underlying23) (hi := F.ti25.h) (hij := rfl) (hj := hlt) (h := ?_)
        rw [spV_cells]
        refine p_go fun hf => ?_
        refine p_idxMap (j := i) (ht := Tryz.underlying23) (hi := F.ti25.h) (hij := rfl) (hj := hlt') (h := ?_)
        rw [spV_cells]
        refine p_go fun hf => ?_
        refine p_call (hb := hb) (hf := hp l[i] (List.getElem_mem hlt) l'[i] (List.getElem_mem hlt')) (h := ?_)
        refine p_go ?_
        refine p_splitC (s := 30) (ht := fun hc30 => ?_) (hf := fun hc30 => ?_)
        · refine p_go ?_
          refine p_ret1 (hp := by rw [hq, hd, hd', eqBy, bnt hc30]; rfl)
        · refine p_go fun hf => ?_
          refine p_add (r := ((i + 1 : Nat) : Int)) (hr := (by first | omega | (simp only [decide_eq_true_eq, decide_eq_false_iff_not, Bool.or_eq_false_iff, Bool.and_eq_true, Bool.not_eq_true', Bool.not_eq_false'] at *; omega))) (hb := (by first | omega | (simp only [decide_eq_true_eq, decide_eq_false_iff_not, Bool.or_eq_false_iff, Bool.and_eq_true, Bool.not_eq_true', Bool.not_eq_false'] at *; omega))) (h := ?_)
          refine p_go ?_
          refine p_some ?_
          refine ⟨⟨(by simp (decide := true) only [valsE, evE, upd, cv, args0, argsFrom, List.length_map, ↓reduceIte, hE] <;> rfl), (by simp (decide := true) only [valsO, updO, upd, true_and, and_true, false_and, and_false, ↓reduceIte, hE] <;> rfl)⟩, ⟨i + 1, hlt, by rw [hq, hd, hd', eqBy, bnf hc30]; rfl, eV_⟩, ?_⟩
          simp (decide := true) only [upd, e17, V.toN, ↓reduceIte]; omega
      · have hge : l.length ≤ i := by simpa using hc18
        refine p_go ?_
        refine p_ret1 (hp := by rw [hq, List.drop_eq_nil_of_le hge, List.drop_eq_nil_of_le (by omega)]; rfl)
theorem equalFunc_tr (p : Trn → Trn → Bool) (l l' : List Trn) (hl : l.length ≤ 17592186044416) (hl' : l'.length ≤ 17592186044416) (fid : FuncId) (fn : Func) (code : Code) (hb : HasBody Tryz.prog fid fn code) (hp : ∀ x ∈ l, ∀ y ∈ l', FnC Tryz.prog fid [trV x, trV y] (fun r => r = .bool (p x y))) : FnC Tryz.prog 73 [.sl 39 (l.map trV), .sl 39 (l'.map trV), .fn fid []] (fun r => r = .bool (eqBy p l l')) := by
  refine FnC.of (fn := Tryz.f73) ⟨Tryz.func73, by kernel_rfl, rfl⟩ Tryz.ntmps73 (by simp) fun w0 S0 => ?_
  refine p_go ?_
  refine p_splitC (s := 14) (ht := fun hc14 => ?_) (hf := fun hc14 => ?_)
  · refine p_go ?_
    refine p_ret1 (hp := by have hle : l.length ≠ l'.length := (by have := hc14; simp at this; omega); rw [eqBy_len hle])
  · have hle : l.length = l'.length := (by have := hc14; simp at this; omega)
    refine p_go ?_
    refine p_loopK [1, 2, 15, 16] [] (fun st => ∃ i : Nat, (i ≤ l.length) ∧ (eqBy p l l' = eqBy p (l.drop i) (l'.drop i)) ∧ st.env 17 = iV i) (fun st => l.length - (st.env 17).toN) ?_ fun e ob g1 hK hO hI => ?_
    · exact ⟨0, by omega, rfl, eV_⟩
    · obtain ⟨i, hi, hq, e17⟩ := hI
      dsimp only at e17
      simp only [valsE, List.cons.injEq, and_true] at hK
      have hE := (⟨hK, e17⟩ : _ ∧ _)
      refine p_go ?_
      refine p_splitC (s := 18) (ht := fun hc18 => ?_) (hf := fun hc18 => ?_)
      · have hlt : i < l.length := by simpa using hc18
        have hlt' : i < l'.length := by omega
        have hd := List.drop_eq_getElem_cons hlt
        have hd' := List.drop_eq_getElem_cons hlt'
        refine p_go fun hf => ?_
        refine p_idxMap (j := i) (ht := Tryz.underlying27) (hi := F.ti39.h) (hij := rfl) (hj := hlt) (h := ?_)
        refine p_go fun hf => ?_
        refine p_idxMap (j := i) (ht := Tryz.underlying27) (hi := F.ti39.h) (hij := rfl) (hj := hlt') (h := ?_)
        refine p_go fun hf => ?_
        refine p_call (hb := hb) (hf := hp l[i] (List.getElem_mem hlt) l'[i] (List.getElem_mem hlt')) (h := ?_)
        refine p_go ?_
        refine p_splitC (s := 30) (ht := fun hc30 => ?_) (hf := fun hc30 => ?_)
        · refine p_go ?_
          refine p_ret1 (hp := by rw [hq, hd, hd', eqBy, bnt hc30]; rfl)
        · refine p_go fun hf => ?_
          refine p_add (r := ((i + 1 : Nat) : Int)) (hr := (by first | omega | (simp only [decide_eq_true_eq, decide_eq_false_iff_not, Bool.or_eq_false_iff, Bool.and_eq_true, Bool.not_eq_true', Bool.not_eq_false'] at *; omega))) (hb := (by first | omega | (simp only [decide_eq_true_eq, decide_eq_false_iff_not, Bool.or_eq_false_iff, Bool.and_eq_true, Bool.not_eq_true', Bool.not_eq_false'] at *; omega))) (h := ?_)
          refine p_go ?_
          refine p_some ?_
          refine ⟨⟨(by simp (decide := true) only [valsE, evE, upd, cv, args0, argsFrom, List.length_map, ↓reduceIte, hE] <;> rfl), (by simp (decide := true) only [valsO, updO, upd, true_and, and_true, false_and, and_false, ↓reduceIte, hE] <;> rfl)⟩, ⟨i + 1, hlt, by rw [hq, hd, hd', eqBy, bnf hc30]; rfl, eV_⟩, ?_⟩
          simp (decide := true) only [upd, e17, V.toN, ↓reduceIte]; omega
      · have hge : l.length ≤ i := by simpa using hc18
        refine p_go ?_
        refine p_ret1 (hp := by rw [hq, List.drop_eq_nil_of_le hge, List.drop_eq_nil_of_le (by omega)]; rfl)
theorem space_gen (q : Sp → Sp → Bool) (a b : Sp) (ha : a.parts.length ≤ 17592186044416) (hb : b.parts.length ≤ 17592186044416) (hrec : ∀ x ∈ a.parts, ∀ y ∈ b.parts, FnC Tryz.prog 71 [spA x, spA y] (fun r => r = .bool (q x y))) : FnC Tryz.prog 71 [spA a, spA b] (fun r => r = .bool (hdSp a b && eqBy q a.parts b.parts)) := by
  refine FnC.of (fn := Tryz.f71) ⟨Tryz.func71, by kernel_rfl, rfl⟩ Tryz.ntmps71 (by simp) fun w0 S0 => ?_
  refine p_go fun hf => ?_
  refine p_split (s := 17) (ht := fun hb17 => ?_) (hf := fun hb17 => ?_)
  · -- slot 17 is true
    refine p_go fun hf => ?_
    refine p_call (hx := rfl) (hb := ⟨Tryz.func99, by kernel_rfl, rfl⟩) (hf := equalFunc_sp q a.parts b.parts ha hb _ _ _ ⟨Tryz.func71, by kernel_rfl, rfl⟩ hrec) (h := ?_)
    refine p_go ?_
    refine p_ret1 (hp := by rw [hdSp]; rw [show (decide (a.tag = b.tag) && decide (a.dim = b.dim)) = true from hb17]; rfl)
  · -- slot 17 is false
    refine p_go ?_
    refine p_ret1 (hp := by rw [hdSp, show (decide (a.tag = b.tag) && decide (a.dim = b.dim)) = false from hb17]; rfl)
theorem space_ne {q : Sp → Sp → Bool} {a b : Sp} (h : (decide (a.tag ≠ b.tag) || decide (a.dim ≠ b.dim) || decide ((a.parts.length : Int) ≠ b.parts.length)) = true) : (hdSp a b && eqBy q a.parts b.parts) = false := by
  simp only [Bool.or_eq_true, decide_eq_true_eq] at h
  rcases h with (h | h) | h
  · rw [hdSp, decide_eq_false h]; rfl
  · rw [hdSp, decide_eq_false h, Bool.and_false]; rfl
  · rw [eqBy_len (by omega), Bool.and_false]
theorem rspace_gen (q : Sp → Sp → Bool) (a b : Sp) (ha : a.parts.length ≤ 17592186044416) (hb : b.parts.length ≤ 17592186044416) (hrec : ∀ x ∈ a.parts, ∀ y ∈ b.parts, FnC Tryz.prog 57 [spA x, spA y] (fun r => r = .bool (q x y))) : FnC Tryz.prog 57 [spA a, spA b] (fun r => r = .bool (hdSp a b && eqBy q a.parts b.parts)) := by
  refine FnC.of (fn := Tryz.f57) ⟨Tryz.func57, by kernel_rfl, rfl⟩ Tryz.ntmps57 (by simp) fun w0 S0 => ?_
  refine p_go ?_
  refine p_splitC (s := 26) (ht := fun hc26 => ?_) (hf := fun hc26 => ?_)
  · refine p_go ?_
    refine p_ret1 (hp := by rw [space_ne hc26])
  · obtain ⟨⟨h1, h2⟩, h3⟩ : (a.tag = b.tag ∧ a.dim = b.dim) ∧ (a.parts.length : Int) = b.parts.length := by have h := hc26; simp only [Bool.or_eq_false_iff, decide_eq_false_iff_not, ne_eq, Classical.not_not] at h; exact h
    have hle : a.parts.length = b.parts.length := by omega
    have hhd : hdSp a b = true := by rw [hdSp, h1, h2]; simp
    refine p_go ?_
    refine p_loopK [2, 3] [(0 + 1, 2), (0 + 1, 3)] (fun st => ∃ i : Nat, (i ≤ a.parts.length) ∧ (eqBy q a.parts b.parts = eqBy q (a.parts.drop i) (b.parts.drop i)) ∧ st.env 5 = iV i) (fun st => a.parts.length - (st.env 5).toN) ?_ fun e ob g1 hK hO hI => ?_
    · exact ⟨0, by omega, rfl, eV_⟩
    · obtain ⟨i, hi, hq, e5⟩ := hI
      dsimp only at e5
      simp only [valsE, List.cons.injEq, and_true] at hK
      simp only [valsO, List.cons.injEq, and_true] at hO
      have hE := (⟨hK, hO, e5⟩ : _ ∧ _ ∧ _)
      refine p_go ?_
      refine p_splitC (s := 31) (ht := fun hc31 => ?_) (hf := fun hc31 => ?_)
      · have hlt : i < a.parts.length := by simpa using hc31
        have hlt' : i < b.parts.length := by omega
        have hd := List.drop_eq_getElem_cons hlt
        have hd' := List.drop_eq_getElem_cons hlt'
        refine p_go fun hf => ?_
        refine p_idxMap (j := i) (ht := Tryz.underlying23) (hi := F.ti25.h) (hij := rfl) (hj := hlt) (h := ?_)
        rw [spV_cells]
        refine p_go fun hf => ?_
        refine p_idxMap (j := i) (ht := Tryz.underlying23) (hi := F.ti25.h) (hij := rfl) (hj := hlt') (h := ?_)
        rw [spV_cells]
        refine p_go fun hf => ?_
        refine p_call (hx := rfl) (hb := ⟨Tryz.func57, by kernel_rfl, rfl⟩) (hf := hrec a.parts[i] (List.getElem_mem hlt) b.parts[i] (List.getElem_mem hlt')) (h := ?_)
        refine p_go ?_
        refine p_splitC (s := 45) (ht := fun hc45 => ?_) (hf := fun hc45 => ?_)
        · refine p_go ?_
          refine p_ret1 (hp := by rw [hhd, hq, hd, hd', eqBy, bnt hc45]; rfl)
        · refine p_go fun hf => ?_
          refine p_add (r := ((i + 1 : Nat) : Int)) (hr := (by first | omega | (simp only [decide_eq_true_eq, decide_eq_false_iff_not, Bool.or_eq_false_iff, Bool.and_eq_true, Bool.not_eq_true', Bool.not_eq_false'] at *; omega))) (hb := (by first | omega | (simp only [decide_eq_true_eq, decide_eq_false_iff_not, Bool.or_eq_false_iff, Bool.and_eq_true, Bool.not_eq_true', Bool.not_eq_false'] at *; omega))) (h := ?_)
          refine p_go ?_
          refine p_some ?_
          refine ⟨⟨(by simp (decide := true) only [valsE, evE, upd, cv, args0, argsFrom, List.length_map, ↓reduceIte, hE] <;> rfl), (by simp (decide := true) only [valsO, updO, upd, true_and, and_true, false_and, and_false, ↓reduceIte, hE] <;> rfl)⟩, ⟨i + 1, hlt, by rw [hq, hd, hd', eqBy, bnf hc45]; rfl, eV_⟩, ?_⟩
          simp (decide := true) only [upd, e5, V.toN, ↓reduceIte]; omega
      · have hge : a.parts.length ≤ i := by simpa using hc31
        refine p_go ?_
        refine p_ret1 (hp := by rw [hhd, hq, List.drop_eq_nil_of_le hge, List.drop_eq_nil_of_le (by omega)]; rfl)
theorem same1 (q : Wt → Wt → Bool) (x y : Trn) (hq : FnC Tryz.prog 67 [wtA x.w, wtA y.w] (fun r => r = .bool (q x.w y.w))) : FnC Tryz.prog 74 [trV x, trV y] (fun r => r = .bool (sameTr q x y)) := by
  refine FnC.of (fn := Tryz.f74) ⟨Tryz.func74, by kernel_rfl, rfl⟩ Tryz.ntmps74 (by simp) fun w0 S0 => ?_
  refine p_go fun hf => ?_
  refine p_split (s := 24) (ht := fun hb24 => ?_) (hf := fun hb24 => ?_)
  · -- slot 24 is true
    refine p_go fun hf => ?_
    refine p_call (hx := rfl) (hb := ⟨Tryz.func67, by kernel_rfl, rfl⟩) (hf := hq) (h := ?_)
    refine p_go ?_
    refine p_ret1 (hp := by rw [sameTr, show (decide (x.frm = y.frm) && decide (x.sym = y.sym) && decide (x.to = y.to)) = true from hb24]; rfl)
  · -- slot 24 is false
    refine p_go ?_
    refine p_ret1 (hp := by rw [sameTr, show (decide (x.frm = y.frm) && decide (x.sym = y.sym) && decide (x.to = y.to)) = false from hb24]; rfl)
theorem sameA_gen (p : Bool) (q : Wt → Wt → Bool) (a b : Aut) (ha : a.SmA) (hb : b.SmA) (hp : FnC Tryz.prog 71 [spA a.sp, spA b.sp] (fun r => r = .bool p)) (hq : ∀ x ∈ a.trs, ∀ y ∈ b.trs, FnC Tryz.prog 67 [wtA x.w, wtA y.w] (fun r => r = .bool (q x.w y.w))) : FnC Tryz.prog 28 [autV a, autV b] (fun r => r = .bool (sameAu p q a b)) := by
  refine FnC.of (fn := Tryz.f28) ⟨Tryz.func28, by kernel_rfl, rfl⟩ Tryz.ntmps28 (by simp) fun w0 S0 => ?_
  have hl1 := ha.fin
  have hl2 := ha.trs
  have hl3 := hb.fin
  have hl4 := hb.trs
  refine p_go fun hf => ?_
  refine p_call (hx := rfl) (hb := ⟨Tryz.func71, by kernel_rfl, rfl⟩) (hf := hp) (h := ?_)
  refine p_go fun hf => ?_
  refine p_split (s := 24) (ht := fun hb24 => ?_) (hf := fun hb24 => ?_)
  · -- slot 24 is true
    refine p_go fun hf => ?_
    refine p_call (hx := rfl) (hb := ⟨Tryz.func72, by kernel_rfl, rfl⟩) (hf := equal_int a.fin b.fin ha.fin hb.fin) (h := ?_)
    refine p_go fun hf => ?_
    refine p_split (s := 31) (ht := fun hb31 => ?_) (hf := fun hb31 => ?_)
    · -- slot 31 is true
      refine p_go fun hf => ?_
      refine p_call (hx := rfl) (hb := ⟨Tryz.func73, by kernel_rfl, rfl⟩) (hf := equalFunc_tr (sameTr q) a.trs b.trs ha.trs hb.trs _ _ _ ⟨Tryz.func74, by kernel_rfl, rfl⟩ (fun x hx y hy => same1 q x y (hq x hx y hy))) (h := ?_)
      refine p_go ?_
      refine p_ret1 (hp := by rw [sameAu, show (p && decide (a.states = b.states) && decide (a.symbols = b.symbols)) = true from hb24, show decide (a.fin = b.fin) = true from by simpa using hb31]; rfl)
    · -- slot 31 is false
      refine p_go ?_
      refine p_ret1 (hp := by rw [sameAu, show (p && decide (a.states = b.states) && decide (a.symbols = b.symbols)) = true from hb24, show decide (a.fin = b.fin) = false from by simpa using hb31]; rfl)
  · -- slot 24 is false
    refine p_go ?_
    refine p_ret1 (hp := by rw [sameAu, show (p && decide (a.states = b.states) && decide (a.symbols = b.symbols)) = false from hb24]; rfl)
theorem au_ne {p : Bool} {q : Wt → Wt → Bool} {a b : Aut} (h : (!p || decide (a.states ≠ b.states) || decide (a.symbols ≠ b.symbols) || decide ((a.fin.length : Int) ≠ b.fin.length) || decide ((a.trs.length : Int) ≠ b.trs.length)) = true) : sameAu p q a b = false := by
  simp only [Bool.or_eq_true, decide_eq_true_eq, Bool.not_eq_true'] at h
  unfold sameAu
  rcases h with (((h | h) | h) | h) | h
  · rw [h]; rfl
  · rw [decide_eq_false h, Bool.and_false]; rfl
  · rw [decide_eq_false h, Bool.and_false]; rfl
  · rw [decide_eq_false (p := a.fin = b.fin) (fun e => h (by rw [e])), Bool.and_false]; rfl
  · rw [eqBy_len (by omega), Bool.and_false]
theorem fin_take {l l' : List Int} (hl : l.length = l'.length) (h : ∀ j (h : j < l.length) (h' : j < l'.length), l[j] = l'[j]) : l = l' := List.ext_getElem hl fun j h1 h2 => h j h1 h2
theorem tr_ne1 {q : Wt → Wt → Bool} {x y : Trn} (h : (decide (x.frm ≠ y.frm) || decide (x.sym ≠ y.sym) || decide (x.to ≠ y.to)) = true) : sameTr q x y = false := by
  simp only [Bool.or_eq_true, decide_eq_true_eq] at h
  unfold sameTr
  rcases h with (h | h) | h
  · rw [decide_eq_false h]; rfl
  · rw [decide_eq_false h, Bool.and_false]; rfl
  · rw [decide_eq_false h, Bool.and_false]; rfl
theorem tr_ne2 {q : Wt → Wt → Bool} {x y : Trn} (h : (!q x.w y.w) = true) : sameTr q x y = false := by
  have : q x.w y.w = false := by simpa using h
  rw [sameTr, this, Bool.and_false]
theorem tr_eq {q : Wt → Wt → Bool} {x y : Trn} (h : (decide (x.frm ≠ y.frm) || decide (x.sym ≠ y.sym) || decide (x.to ≠ y.to)) = false) (h2 : (!q x.w y.w) = false) : sameTr q x y = true := by
  simp only [Bool.or_eq_false_iff, decide_eq_false_iff_not, ne_eq, Classical.not_not] at h
  have h3 : q x.w y.w = true := by simpa using h2
  rw [sameTr, h.1.1, h.1.2, h.2, h3]; simp
theorem rsameA_gen (p : Bool) (q : Wt → Wt → Bool) (a b : Aut) (ha : a.SmA) (hb : b.SmA) (hp : FnC Tryz.prog 57 [spA a.sp, spA b.sp] (fun r => r = .bool p)) (hq : ∀ x ∈ a.trs, ∀ y ∈ b.trs, FnC Tryz.prog 16 [wtA x.w, wtA y.w] (fun r => r = .bool (q x.w y.w))) : FnC Tryz.prog 22 [autV a, autV b] (fun r => r = .bool (sameAu p q a b)) := by
  refine FnC.of (fn := Tryz.f22) ⟨Tryz.func22, by kernel_rfl, rfl⟩ Tryz.ntmps22 (by simp) fun w0 S0 => ?_
  have hl1 := ha.fin
  have hl2 := ha.trs
  have hl3 := hb.fin
  have hl4 := hb.trs
  refine p_go fun hf => ?_
  refine p_call (hx := rfl) (hb := ⟨Tryz.func57, by kernel_rfl, rfl⟩) (hf := hp) (h := ?_)
  refine p_go ?_
  refine p_splitC (s := 46) (ht := fun hc46 => ?_) (hf := fun hc46 => ?_)
  · refine p_go ?_
    refine p_ret1 (hp := by rw [au_ne hc46])
  · obtain ⟨⟨⟨⟨h1, h2⟩, h3⟩, h4⟩, h5⟩ : (((p = true ∧ a.states = b.states) ∧ a.symbols = b.symbols) ∧ (a.fin.length : Int) = b.fin.length) ∧ (a.trs.length : Int) = b.trs.length := by have h := hc46; simp only [Bool.or_eq_false_iff, decide_eq_false_iff_not, ne_eq, Classical.not_not, Bool.not_eq_false'] at h; exact h
    have hle1 : a.fin.length = b.fin.length := by omega
    have hle2 : a.trs.length = b.trs.length := by omega
    refine p_go ?_
    refine p_loopK [2, 3] [(0 + 1, 2), (0 + 1, 3)] (fun st => ∃ i : Nat, (i ≤ a.fin.length) ∧ (∀ j, j < i → ∀ (h : j < a.fin.length) (h' : j < b.fin.length), a.fin[j] = b.fin[j]) ∧ st.env 5 = iV i) (fun st => a.fin.length - (st.env 5).toN) ?_ fun e ob g1 hK hO hI => ?_
    · exact ⟨0, by omega, fun j h => by omega, eV_⟩
    · obtain ⟨i, hi, hq1, e5⟩ := hI
      dsimp only at e5
      simp only [valsE, List.cons.injEq, and_true] at hK
      simp only [valsO, List.cons.injEq, and_true] at hO
      have hE := (⟨hK, hO, e5⟩ : _ ∧ _ ∧ _)
      refine p_go ?_
      refine p_splitC (s := 51) (ht := fun hc51 => ?_) (hf := fun hc51 => ?_)
      · have hlt : i < a.fin.length := by simpa using hc51
        have hlt' : i < b.fin.length := by omega
        refine p_go fun hf => ?_
        refine p_idxMap (j := i) (ht := Tryz.underlying26) (hi := F.ti3.h) (hij := rfl) (hj := hlt) (h := ?_)
        refine p_go fun hf => ?_
        refine p_idxMap (j := i) (ht := Tryz.underlying26) (hi := F.ti3.h) (hij := rfl) (hj := hlt') (h := ?_)
        refine p_go ?_
        refine p_splitC (s := 64) (ht := fun hc64 => ?_) (hf := fun hc64 => ?_)
        · refine p_go ?_
          have hne : a.fin ≠ b.fin := fun e => by have h := hc64; simp [e] at h
          refine p_ret1 (hp := by rw [sameAu, decide_eq_false hne, Bool.and_false]; rfl)
        · refine p_go fun hf => ?_
          refine p_add (r := ((i + 1 : Nat) : Int)) (hr := (by first | omega | (simp only [decide_eq_true_eq, decide_eq_false_iff_not, Bool.or_eq_false_iff, Bool.and_eq_true, Bool.not_eq_true', Bool.not_eq_false'] at *; omega))) (hb := (by first | omega | (simp only [decide_eq_true_eq, decide_eq_false_iff_not, Bool.or_eq_false_iff, Bool.and_eq_true, Bool.not_eq_true', Bool.not_eq_false'] at *; omega))) (h := ?_)
          refine p_go ?_
          refine p_some ?_
          refine ⟨⟨(by simp (decide := true) only [valsE, evE, upd, cv, args0, argsFrom, List.length_map, ↓reduceIte, hE] <;> rfl), (by simp (decide := true) only [valsO, updO, upd, true_and, and_true, false_and, and_false, ↓reduceIte, hE] <;> rfl)⟩, ⟨i + 1, hlt, fun j hj k1 k2 => (Nat.lt_succ_iff_lt_or_eq.1 hj).elim (fun h => hq1 j h k1 k2) (fun e => by subst e; simpa using hc64), eV_⟩, ?_⟩
          simp (decide := true) only [upd, e5, V.toN, ↓reduceIte]; omega
      · have hge : a.fin.length ≤ i := by simpa using hc51
        have hfin : a.fin = b.fin := fin_take hle1 fun j k1 k2 => hq1 j (by omega) k1 k2
        have hhd : (p && decide (a.states = b.states) && decide (a.symbols = b.symbols) && decide (a.fin = b.fin)) = true := by rw [h1, h2, h3, hfin]; simp
        refine p_go ?_
        refine p_loopK [2, 3] [(0 + 1, 2), (0 + 1, 3)] (fun st => ∃ i : Nat, (i ≤ a.trs.length) ∧ (eqBy (sameTr q) a.trs b.trs = eqBy (sameTr q) (a.trs.drop i) (b.trs.drop i)) ∧ st.env 6 = iV i) (fun st => a.trs.length - (st.env 6).toN) ?_ fun e ob g2 hK hO hI => ?_
        · exact ⟨0, by omega, rfl, eV_⟩
        · obtain ⟨i, hi, hq2, e6⟩ := hI
          dsimp only at e6
          simp only [valsE, List.cons.injEq, and_true] at hK
          simp only [valsO, List.cons.injEq, and_true] at hO
          have hE := (⟨hK, hO, e6⟩ : _ ∧ _ ∧ _)
          refine p_go ?_
          refine p_splitC (s := 69) (ht := fun hc69 => ?_) (hf := fun hc69 => ?_)
          · have hlt : i < a.trs.length := by simpa using hc69
            have hlt' : i < b.trs.length := by omega
            have hd := List.drop_eq_getElem_cons hlt
            have hd' := List.drop_eq_getElem_cons hlt'
            refine p_go fun hf => ?_
            refine p_idxMap (j := i) (ht := Tryz.underlying27) (hi := F.ti39.h) (hij := rfl) (hj := hlt) (h := ?_)
            refine p_go fun hf => ?_
            refine p_idxMap (j := i) (ht := Tryz.underlying27) (hi := F.ti39.h) (hij := rfl) (hj := hlt') (h := ?_)
            refine p_go fun hf => ?_
            refine p_split (s := 101) (ht := fun hb101 => ?_) (hf := fun hb101 => ?_)
            · -- slot 101 is true
              refine p_go ?_
              refine p_ret1 (hp := by rw [sameAu, hhd, hq2, hd, hd', eqBy, tr_ne1 hb101]; rfl)
            · -- slot 101 is false
              refine p_go fun hf => ?_
              refine p_call (hx := rfl) (hb := ⟨Tryz.func16, by kernel_rfl, rfl⟩) (hf := hq a.trs[i] (List.getElem_mem hlt) b.trs[i] (List.getElem_mem hlt')) (h := ?_)
              refine p_go ?_
              refine p_splitC (s := 108) (ht := fun hc108 => ?_) (hf := fun hc108 => ?_)
              · refine p_go ?_
                refine p_ret1 (hp := by rw [sameAu, hhd, hq2, hd, hd', eqBy, tr_ne2 hc108]; rfl)
              · refine p_go fun hf => ?_
                refine p_add (r := ((i + 1 : Nat) : Int)) (hr := (by first | omega | (simp only [decide_eq_true_eq, decide_eq_false_iff_not, Bool.or_eq_false_iff, Bool.and_eq_true, Bool.not_eq_true', Bool.not_eq_false'] at *; omega))) (hb := (by first | omega | (simp only [decide_eq_true_eq, decide_eq_false_iff_not, Bool.or_eq_false_iff, Bool.and_eq_true, Bool.not_eq_true', Bool.not_eq_false'] at *; omega))) (h := ?_)
                refine p_go ?_
                refine p_some ?_
                refine ⟨⟨(by simp (decide := true) only [valsE, evE, upd, cv, args0, argsFrom, List.length_map, ↓reduceIte, hE] <;> rfl), (by simp (decide := true) only [valsO, updO, upd, true_and, and_true, false_and, and_false, ↓reduceIte, hE] <;> rfl)⟩, ⟨i + 1, hlt, by rw [hq2, hd, hd', eqBy, tr_eq hb101 hc108]; rfl, eV_⟩, ?_⟩
                simp (decide := true) only [upd, e6, V.toN, ↓reduceIte]; omega
          · have hge : a.trs.length ≤ i := by simpa using hc69
            refine p_go ?_
            refine p_ret1 (hp := by rw [sameAu, hhd, hq2, List.drop_eq_nil_of_le hge, List.drop_eq_nil_of_le (by omega)]; rfl)
theorem hdSp_self (a : Sp) : hdSp a a = true := by simp [hdSp]
theorem hdEq_self (a : Wt) : hdEq a a = true := by simp [hdEq]
/-- What both say of two of them. -/
noncomputable def sameSX (x y : Sp) : Bool := @Classical.epsilon Bool ⟨true⟩ fun b => FnC Tryz.prog 71 [spA x, spA y] (fun r => r = .bool b) ∧ FnC Tryz.prog 57 [spA x, spA y] (fun r => r = .bool b)
theorem sameSX_of {x y : Sp} (h : ∃ b, FnC Tryz.prog 71 [spA x, spA y] (fun r => r = .bool b) ∧ FnC Tryz.prog 57 [spA x, spA y] (fun r => r = .bool b)) : FnC Tryz.prog 71 [spA x, spA y] (fun r => r = .bool (sameSX x y)) ∧ FnC Tryz.prog 57 [spA x, spA y] (fun r => r = .bool (sameSX x y)) := Classical.epsilon_spec (p := fun b => FnC Tryz.prog 71 [spA x, spA y] (fun r => r = .bool b) ∧ FnC Tryz.prog 57 [spA x, spA y] (fun r => r = .bool b)) h
theorem sameSX_is : ∀ {a : Sp}, a.SmA → ∀ {b : Sp}, b.SmA → FnC Tryz.prog 71 [spA a, spA b] (fun r => r = .bool (sameSX a b)) ∧ FnC Tryz.prog 57 [spA a, spA b] (fun r => r = .bool (sameSX a b)) := fun {a} ha => by
  induction ha with
  | mk h hp ih =>
    intro b hb
    cases hb with
    | mk h' hp' => exact sameSX_of ⟨_, space_gen sameSX _ _ h h' fun x hx y hy => (ih x hx (hp' y hy)).1, rspace_gen sameSX _ _ h h' fun x hx y hy => (ih x hx (hp' y hy)).2⟩
theorem sameSX_self : ∀ {a : Sp}, a.SmA → FnC Tryz.prog 71 [spA a, spA a] (fun r => r = .bool true) := fun {a} ha => by
  induction ha with
  | mk h hp ih =>
    rename_i a
    have := space_gen (fun x y => @ite _ (x = y) (Classical.propDecidable _) true (sameSX x y)) a a h h fun x hx y hy => by
      by_cases e : x = y
      · subst e; simp only [if_true]; exact ih x hx
      · simp only [if_neg e]; exact (sameSX_is (hp x hx) (hp y hy)).1
    rwa [eqBy_self fun x _ => by simp, hdSp_self, Bool.and_true] at this
theorem sameSX_selfR : ∀ {a : Sp}, a.SmA → FnC Tryz.prog 57 [spA a, spA a] (fun r => r = .bool true) := fun {a} ha => by
  induction ha with
  | mk h hp ih =>
    rename_i a
    have := rspace_gen (fun x y => @ite _ (x = y) (Classical.propDecidable _) true (sameSX x y)) a a h h fun x hx y hy => by
      by_cases e : x = y
      · subst e; simp only [if_true]; exact ih x hx
      · simp only [if_neg e]; exact (sameSX_is (hp x hx) (hp y hy)).2
    rwa [eqBy_self fun x _ => by simp, hdSp_self, Bool.and_true] at this
/-- What both say of two of them. -/
noncomputable def sameWX (x y : Wt) : Bool := @Classical.epsilon Bool ⟨true⟩ fun b => FnC Tryz.prog 67 [wtA x, wtA y] (fun r => r = .bool b) ∧ FnC Tryz.prog 16 [wtA x, wtA y] (fun r => r = .bool b)
theorem sameWX_of {x y : Wt} (h : ∃ b, FnC Tryz.prog 67 [wtA x, wtA y] (fun r => r = .bool b) ∧ FnC Tryz.prog 16 [wtA x, wtA y] (fun r => r = .bool b)) : FnC Tryz.prog 67 [wtA x, wtA y] (fun r => r = .bool (sameWX x y)) ∧ FnC Tryz.prog 16 [wtA x, wtA y] (fun r => r = .bool (sameWX x y)) := Classical.epsilon_spec (p := fun b => FnC Tryz.prog 67 [wtA x, wtA y] (fun r => r = .bool b) ∧ FnC Tryz.prog 16 [wtA x, wtA y] (fun r => r = .bool b)) h
theorem sameWX_is : ∀ {a : Wt}, a.SmA → ∀ {b : Wt}, b.SmA → FnC Tryz.prog 67 [wtA a, wtA b] (fun r => r = .bool (sameWX a b)) ∧ FnC Tryz.prog 16 [wtA a, wtA b] (fun r => r = .bool (sameWX a b)) := fun {a} ha => by
  induction ha with
  | mk h hp ih =>
    intro b hb
    cases hb with
    | mk h' hp' => exact sameWX_of ⟨_, same_gen sameWX _ _ h h' fun x hx y hy => (ih x hx (hp' y hy)).1, rsame_gen sameWX _ _ h h' fun x hx y hy => (ih x hx (hp' y hy)).2⟩
theorem sameWX_self : ∀ {a : Wt}, a.SmA → FnC Tryz.prog 67 [wtA a, wtA a] (fun r => r = .bool true) := fun {a} ha => by
  induction ha with
  | mk h hp ih =>
    rename_i a
    have := same_gen (fun x y => @ite _ (x = y) (Classical.propDecidable _) true (sameWX x y)) a a h h fun x hx y hy => by
      by_cases e : x = y
      · subst e; simp only [if_true]; exact ih x hx
      · simp only [if_neg e]; exact (sameWX_is (hp x hx) (hp y hy)).1
    rwa [eqBy_self fun x _ => by simp, hdEq_self, Bool.and_true] at this
theorem sameWX_selfR : ∀ {a : Wt}, a.SmA → FnC Tryz.prog 16 [wtA a, wtA a] (fun r => r = .bool true) := fun {a} ha => by
  induction ha with
  | mk h hp ih =>
    rename_i a
    have := rsame_gen (fun x y => @ite _ (x = y) (Classical.propDecidable _) true (sameWX x y)) a a h h fun x hx y hy => by
      by_cases e : x = y
      · subst e; simp only [if_true]; exact ih x hx
      · simp only [if_neg e]; exact (sameWX_is (hp x hx) (hp y hy)).2
    rwa [eqBy_self fun x _ => by simp, hdEq_self, Bool.and_true] at this
noncomputable def sameAX (a b : Aut) : Bool := sameAu (sameSX a.sp b.sp) sameWX a b
theorem sameAC {a b : Aut} (ha : a.SmA) (hb : b.SmA) : FnC Tryz.prog 28 [autV a, autV b] (fun r => r = .bool (sameAX a b)) :=
  sameA_gen _ _ a b ha hb (sameSX_is ha.sp hb.sp).1 fun x hx y hy => (sameWX_is (ha.w x hx) (hb.w y hy)).1
theorem rsameAC {a b : Aut} (ha : a.SmA) (hb : b.SmA) : FnC Tryz.prog 22 [autV a, autV b] (fun r => r = .bool (sameAX a b)) :=
  rsameA_gen _ _ a b ha hb (sameSX_is ha.sp hb.sp).2 fun x hx y hy => (sameWX_is (ha.w x hx) (hb.w y hy)).2
theorem sameA_self {a : Aut} (ha : a.SmA) : FnC Tryz.prog 28 [autV a, autV a] (fun r => r = .bool true) := by
  have := sameA_gen true (fun x y => @ite _ (x = y) (Classical.propDecidable _) true (sameWX x y)) a a ha ha (sameSX_self ha.sp) fun x hx y hy => by
    by_cases e : x.w = y.w
    · rw [e]; simp only [if_true]; exact sameWX_self (ha.w y hy)
    · simp only [if_neg e]; exact (sameWX_is (ha.w x hx) (ha.w y hy)).1
  rw [sameAu, eqBy_self fun x _ => by simp [sameTr]] at this
  simpa using this
theorem rsameA_self {a : Aut} (ha : a.SmA) : FnC Tryz.prog 22 [autV a, autV a] (fun r => r = .bool true) := by
  have := rsameA_gen true (fun x y => @ite _ (x = y) (Classical.propDecidable _) true (sameWX x y)) a a ha ha (sameSX_selfR ha.sp) fun x hx y hy => by
    by_cases e : x.w = y.w
    · rw [e]; simp only [if_true]; exact sameWX_selfR (ha.w y hy)
    · simp only [if_neg e]; exact (sameWX_is (ha.w x hx) (ha.w y hy)).2
  rw [sameAu, eqBy_self fun x _ => by simp [sameTr]] at this
  simpa using this
theorem isB_SmA {s : Sp} {w : Wt} (hs : spOk s = true) (h : isB s w = true) : w.SmA := by
  have h2 := isB_Sm2 hs h
  exact .mk h2.sm fun x hx => .mk (h2.parts x hx) fun y hy => by rw [isB_flat hs h x hx] at hy; cases hy
theorem canonA_SmA {a : Aut} (ha : a.SmA) : (canonA a).SmA := by
  unfold canonA
  split
  · rename_i h
    have hok := checkE10_ok h
    refine ⟨ha.sp, ha.fin, ?_, fun t ht => ?_⟩
    · have h1 : (canonT a).length ≤ (canonR a.sp a.trs).length := List.length_filter_le ..
      have h2 := canonR_len a.sp a.trs
      have h3 := ha.trs
      show (canonT a).length ≤ _
      omega
    · exact isB_SmA hok.sp (canonR_ok hok.sp hok.w t (List.mem_filter.1 ht).1)
  · exact ⟨.mk (by decide) (fun x hx => by cases hx), by decide, by decide, fun t ht => by cases ht⟩
end Go.Proofs.YtfpljljjjgicaaaGreatDoor
/-
  WfaChecks.
-/
set_option maxHeartbeats 4000000
set_option linter.unusedSimpArgs false
set_option linter.unusedVariables false
namespace Go.Proofs.YtfpljljjjgicaaaGreatDoor
open Go.RowKit
attribute [local irreducible] Wk Tr
def exA : Aut := ⟨.mk 2 9 [], 2, 1, [1], [⟨0, 0, 1, wtC 3⟩, ⟨0, -1, 0, wtC 1⟩, ⟨0, 0, 1, wtC 5⟩]⟩
/-- What a word, and all words are worth, with the answer where there is none. -/
def valueW (a : Aut) (back : Bool) (frm : Int) (w : List Int) : Wt := if askedE a [frm] w = 0 then (valV a back w).getD frm.toNat wt0 else wt0
theorem vals_at {a : Aut} {l : List Wt} {frm : Int} (hl : Vals a l) (h : 0 ≤ frm ∧ frm < a.states) : isB a.sp (l.getD frm.toNat wt0) = true := by
  have h1 := hl.len
  have h2 : frm.toNat < l.length := by omega
  rw [getD_at h2]; exact hl.ok _ (List.getElem_mem h2)
theorem valueC (a : Aut) (back : Bool) (frm : Int) (w : List Int) (ha : a.Sm) (hw : w.length ≤ 17592186044416) : FnC Tryz.prog 10 [autV a, .bool back, iV frm, .sl 3 (w.map iV)] (fun r => r = .tup [wtA (valueW a back frm w), iV (askedE a [frm] w)]) := by
  by_cases h : askedE a [frm] w = 0
  · have := value_ok a back frm w ha hw h
    obtain ⟨hok, hfr, _⟩ := askedE_ok h
    rw [either_self hok.sp (vals_at (valV_vals hok w) (hfr frm (by simp)))] at this
    rw [valueW, if_pos h, h]; exact this
  · rw [valueW, if_neg h]; exact value_bad a back frm w ha hw h
theorem growT_more {a : Aut} {back : Bool} {cnt : Trn → Bool} : ∀ (k : Nat) (l r : List Wt), growT a back cnt k l = some r → ∀ j, k ≤ j → growT a back cnt j l = some r
  | 0, _, _, h => by simp [growT] at h
  | k + 1, l, r, h => fun j hj => by
    obtain ⟨j, rfl⟩ : ∃ i, j = i + 1 := ⟨j - 1, by omega⟩
    rw [growT] at h ⊢
    split
    · rename_i h1
      rw [if_pos h1] at h
      exact growT_more k _ _ h j (by omega)
    · rename_i h1
      rw [if_neg h1] at h; exact h
theorem growV_of {a : Aut} {back : Bool} {cnt : Trn → Bool} {k : Nat} {l r : List Wt} (ha : a.Ok) (hv : Vals a l) (h : growT a back cnt k l = some r) : growV a back cnt l = r := by
  obtain ⟨h1, _⟩ := growV_is (back := back) (cnt := cnt) ha hv
  have h2 := growT_more _ _ _ h1 (max k (rankV a l + 1)) (Nat.le_max_right ..)
  have h3 := growT_more _ _ _ h (max k (rankV a l + 1)) (Nat.le_max_left ..)
  exact Option.some.inj (h2.symm.trans h3)
theorem ex_asked (frm : Int) (h : frm = 0 ∨ frm = 1) : askedE exA [frm] [0] = 0 := by
  rcases h with rfl | rfl <;> decide
theorem ex_ok : exA.Ok := (askedE_ok (ex_asked 0 (.inl rfl))).1
theorem ex_val : valV exA false [0] = [wtC 3, wtZ] := by
  have h1 : growV exA false sil (endsW exA) = [wtZ, wt0] := growV_of (k := 2) ex_ok (ends_vals ex_ok) (by kernel_rfl)
  show growV exA false sil (restW exA false 0 (growV exA false sil (endsW exA))) = _
  rw [h1]
  have hv : Vals exA [wtZ, wt0] := by rw [← h1]; exact (growV_is ex_ok (ends_vals ex_ok)).2
  exact growV_of (k := 2) ex_ok (restW_vals ex_ok hv) (by kernel_rfl)
theorem ex_sm : exA.Sm := ⟨by decide, by decide, by decide, fun t ht => by
  simp only [exA, List.mem_cons, List.not_mem_nil, or_false] at ht
  rcases ht with rfl | rfl | rfl <;> exact ⟨⟨by decide, by decide, by decide⟩, fun x hx => by cases hx⟩⟩
theorem ex_v0 : valueW exA false 0 [0] = wtC 3 := by rw [valueW, if_pos (ex_asked 0 (.inl rfl)), ex_val]; rfl
theorem ex_v1 : valueW exA false 1 [0] = wtZ := by rw [valueW, if_pos (ex_asked 1 (.inr rfl)), ex_val]; rfl
theorem exampleC  : FnC Tryz.prog 29 [] (fun r => r = autV exA) := by
  refine FnC.of (fn := Tryz.f29) ⟨Tryz.func29, by kernel_rfl, rfl⟩ Tryz.ntmps29 (by simp) fun w0 S0 => ?_
  refine p_go fun hf => ?_
  refine p_build (hi := F.ti25.h) (hpl := F.pl25.h) (h := ?_)
  refine p_buildSlice (ht := Tryz.underlying26) (hi := F.ti3.h) (h := ?_)
  refine p_build (hi := F.ti37.h) (hpl := F.pl37.h) (h := ?_)
  refine p_build (hi := F.ti39.h) (hpl := F.pl39.h) (h := ?_)
  refine p_build (hi := F.ti37.h) (hpl := F.pl37.h) (h := ?_)
  refine p_build (hi := F.ti39.h) (hpl := F.pl39.h) (h := ?_)
  refine p_build (hi := F.ti37.h) (hpl := F.pl37.h) (h := ?_)
  refine p_build (hi := F.ti39.h) (hpl := F.pl39.h) (h := ?_)
  refine p_aggNilW (s := 4) (i := 6) (el := 30) (h := ?_)
  refine p_aggNilW (s := 4) (i := 7) (el := 90) (h := ?_)
  refine p_aggNilW (s := 4) (i := 8) (el := 37) (h := ?_)
  refine p_aggNilW (s := 6) (i := 6) (el := 30) (h := ?_)
  refine p_aggNilW (s := 6) (i := 7) (el := 90) (h := ?_)
  refine p_aggNilW (s := 6) (i := 8) (el := 37) (h := ?_)
  refine p_aggNilW (s := 8) (i := 6) (el := 30) (h := ?_)
  refine p_aggNilW (s := 8) (i := 7) (el := 90) (h := ?_)
  refine p_aggNilW (s := 8) (i := 8) (el := 37) (h := ?_)
  refine p_aggNilW (s := 1) (i := 2) (el := 25) (h := ?_)
  refine p_buildSlice (ht := Tryz.underlying27) (hi := F.ti39.h) (h := ?_)
  refine p_build (hi := F.ti29.h) (hpl := F.pl29.h) (h := ?_)
  refine p_go ?_
  refine p_freeze (g1 := 0 + 1 + 1) (d1 := 2) (h := ?_)
  refine p_cellSl (g1 := 0 + 1) (d1 := 0) (i := 5) (hn := by rfl) (h := ?_)
  refine p_freeze (g1 := 0 + 1 + 1) (d1 := 9) (h := ?_)
  refine p_cellSl (g1 := 0 + 1) (d1 := 0) (i := 6) (hn := by rfl) (h := ?_)
  refine p_r1 (hp := by rfl)
theorem awakeC  : FnC Tryz.prog 8 [] (fun r => r = .bool true) := by
  refine FnC.of (fn := Tryz.f8) ⟨Tryz.func8, by kernel_rfl, rfl⟩ Tryz.ntmps8 (by simp) fun w0 S0 => ?_
  refine p_go fun hf => ?_
  refine p_call (hx := rfl) (hb := ⟨Tryz.func29, by kernel_rfl, rfl⟩) (hf := exampleC) (h := ?_)
  refine p_buildSlice (ht := Tryz.underlying26) (hi := F.ti3.h) (h := ?_)
  refine p_callRow (vs := [autV exA, .bool false, iV 0, .sl 3 ([0].map iV)]) (0 + 1 + 1) 7 (hb := ⟨Tryz.func10, by kernel_rfl, rfl⟩) (hvs := by simp [V.frz]) (hf := (by have := valueC exA false 0 [0] ex_sm (by decide); rw [ex_v0, ex_asked 0 (.inl rfl)] at this; exact this)) (h := ?_)
  refine p_go fun hf => ?_
  refine p_call (hx := rfl) (hb := ⟨Tryz.func29, by kernel_rfl, rfl⟩) (hf := exampleC) (h := ?_)
  refine p_buildSlice (ht := Tryz.underlying26) (hi := F.ti3.h) (h := ?_)
  refine p_callRow (vs := [autV exA, .bool false, iV 1, .sl 3 ([0].map iV)]) (0 + 1 + 1 + 1) 13 (hb := ⟨Tryz.func10, by kernel_rfl, rfl⟩) (hvs := by simp [V.frz]) (hf := (by have := valueC exA false 1 [0] ex_sm (by decide); rw [ex_v1, ex_asked 1 (.inr rfl)] at this; exact this)) (h := ?_)
  refine p_go ?_
  refine p_ret1 (hp := by rfl)
theorem smallC (a : Aut) (w : List Int) : FnC Tryz.prog 9 [autV a, .sl 3 (w.map iV)] (fun r => r = .bool (decide ((a.trs.length : Int) ≤ 300) && decide (a.states ≤ 300) && decide ((w.length : Int) ≤ 40))) := by
  refine FnC.of (fn := Tryz.f9) ⟨Tryz.func9, by kernel_rfl, rfl⟩ Tryz.ntmps9 (by simp) fun w0 S0 => ?_
  refine p_go ?_
  refine p_ret1 (hp := by rfl)
theorem small_nil (a : Aut) : FnC Tryz.prog 9 [autV a, .nil] (fun r => r = .bool (decide ((a.trs.length : Int) ≤ 300) && decide (a.states ≤ 300) && decide ((([] : List Int).length : Int) ≤ 40))) := fun w S cs hG hS hc => smallC a [] w S cs hG hS (by
  match cs, hc with
  | [c1, c2], hc =>
    simp only [VRs] at hc ⊢
    refine ⟨hc.1, ?_, trivial⟩
    have h3 := hc.2.1
    rw [VR, RL] at h3
    rw [VR, RL]
    exact ⟨none, 0, h3, Nat.le_refl _, .inl rfl⟩)
theorem wfaChecks (a b : Aut) (ha : a.SmA) (hb : b.SmA) : FnC Tryz.prog 7 [autV a, autV b] (fun r => r = .bool true) := by
  refine FnC.of (fn := Tryz.f7) ⟨Tryz.func7, by kernel_rfl, rfl⟩ Tryz.ntmps7 (by simp) fun w0 S0 => ?_
  have hl1 := ha.trs
  have hl2 := hb.trs
  have hC := canonA_SmA ha
  refine p_go fun hf => ?_
  refine p_call (hx := rfl) (hb := ⟨Tryz.func25, by kernel_rfl, rfl⟩) (hf := check10 a ha.sm) (h := ?_)
  refine p_go fun hf => ?_
  refine p_call (hx := rfl) (hb := ⟨Tryz.func11, by kernel_rfl, rfl⟩) (hf := rcheck10 a ha.sm) (h := ?_)
  refine p_go fun hf => ?_
  refine p_isW (s := 14) (b := false) (hc := by simp) (h := ?_)
  refine p_go fun hf => ?_
  refine p_call (hx := rfl) (hb := ⟨Tryz.func8, by kernel_rfl, rfl⟩) (hf := awakeC) (h := ?_)
  refine p_go fun hf => ?_
  refine p_call (hx := rfl) (hb := ⟨Tryz.func9, by kernel_rfl, rfl⟩) (hf := small_nil a) (h := ?_)
  refine p_go ?_
  refine p_splitC (s := 26) (ht := fun hc26 => ?_) (hf := fun hc26 => ?_)
  · refine p_go ?_
    refine p_ret1 (hp := by rfl)
  · refine p_go fun hf => ?_
    refine p_call (hx := rfl) (hb := ⟨Tryz.func26, by kernel_rfl, rfl⟩) (hf := canonC a ha.sm) (h := ?_)
    refine p_go fun hf => ?_
    refine p_call (hx := rfl) (hb := ⟨Tryz.func27, by kernel_rfl, rfl⟩) (hf := rcanonC a ha.sm) (h := ?_)
    refine p_go fun hf => ?_
    refine p_call (hx := rfl) (hb := ⟨Tryz.func22, by kernel_rfl, rfl⟩) (hf := rsameA_self hC) (h := ?_)
    refine p_go fun hf => ?_
    refine p_isW (s := 45) (b := true) (hc := by simp) (h := ?_)
    refine p_go fun hf => ?_
    refine p_call (hx := rfl) (hb := ⟨Tryz.func28, by kernel_rfl, rfl⟩) (hf := sameAC ha hb) (h := ?_)
    refine p_go fun hf => ?_
    refine p_call (hx := rfl) (hb := ⟨Tryz.func22, by kernel_rfl, rfl⟩) (hf := rsameAC ha hb) (h := ?_)
    refine p_go fun hf => ?_
    refine p_eqB (ht := Tryz.underlying4) (h := ?_)
    refine p_go fun hf => ?_
    refine p_isW (s := 54) (b := true) (hc := by simp) (h := ?_)
    refine p_go fun hf => ?_
    refine p_call (hx := rfl) (hb := ⟨Tryz.func28, by kernel_rfl, rfl⟩) (hf := sameA_self ha) (h := ?_)
    refine p_go ?_
    refine p_ret1 (hp := by rfl)
end Go.Proofs.YtfpljljjjgicaaaGreatDoor
