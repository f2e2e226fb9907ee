/-
  Slices that are equal; package cost.
-/
import Derived.Test.YtfpljljjjgicaaaGreatDoorWb
set_option maxHeartbeats 4000000
set_option linter.unusedSimpArgs false
set_option linter.unusedVariables false
namespace Go.Proofs.YtfpljljjjgicaaaGreatDoor
open Go.RowKit
attribute [local irreducible] Wk Tr
theorem cell_ints : IntStruct Tryz.prog 90 [.u64, .i64, .i64] :=
  ⟨_, Tryz.underlying90, by kernel_rfl, by kernel_rfl, rfl, rfl, Tryz.underlying30, rfl, rfl, Tryz.underlying88, rfl, rfl, Tryz.underlying2, trivial⟩
theorem cel_eq (a b : Cel) : ([(a.frm.toNat : Int), a.kind, a.k] = [(b.frm.toNat : Int), b.kind, b.k]) ↔ a = b := by
  constructor
  · intro h
    simp only [List.cons.injEq, and_true] at h
    obtain ⟨h1, h2, h3⟩ := h
    have h4 : a.frm = b.frm := BitVec.eq_of_toNat_eq (by omega)
    cases a; cases b
    simp only at h2 h3 h4
    rw [h2, h3, h4]
  · intro h; rw [h]
theorem take_snoc {α β : Type} (f : α → β) {l : List α} {i : Nat} (h : i < l.length) : (l.take (i + 1)).map f = (l.take i).map f ++ [f l[i]] := by
  rw [List.take_succ_eq_append_getElem h, List.map_append]; rfl
theorem fold_snoc {α β : Type} (f : β → α → β) (b : β) {l : List α} {i : Nat} (h : i < l.length) : (l.take (i + 1)).foldl f b = f ((l.take i).foldl f b) l[i] := by
  rw [List.take_succ_eq_append_getElem h, List.foldl_append]; rfl
theorem any_not {α : Type} {p : α → Bool} {l : List α} {i : Nat} (hi : l.length ≤ i) (h : ∀ j (hj : j < l.length), j < i → p l[j] = false) : l.any p = false := by
  rw [List.any_eq_false]
  intro x hx
  obtain ⟨j, hj, rfl⟩ := List.mem_iff_getElem.1 hx
  rw [h j hj (by omega)]; decide
theorem any_hit {α : Type} {p : α → Bool} {l : List α} {i : Nat} (hi : i < l.length) (h : p l[i] = true) : l.any p = true := List.any_eq_true.2 ⟨_, List.getElem_mem hi, h⟩
theorem none_next {α : Type} {p : α → Bool} {l : List α} {i : Nat} {hi : i < l.length} (h : p l[i] = false) (hp : ∀ j (hj : j < l.length), j < i → p l[j] = false) : ∀ j (hj : j < l.length), j < i + 1 → p l[j] = false := fun j hj h1 => by
  rcases Nat.lt_succ_iff_lt_or_eq.1 h1 with h2 | h2
  · exact hp j hj h2
  · subst h2; exact h
def capBad (m : Int) : Bool := decide (m < 0) || decide (1048576 < m)
def costBad (m c : Int) : Bool := decide (c < -1) || decide (m < c)
def checksE (m : Int) (l : List Int) : Int := if capBad m then 20 else if l.any (costBad m) then 21 else 0
def leastF (o c : Int) : Int := if o = -1 ∨ c ≠ -1 ∧ c < o then c else o
def leastL (l : List Int) : Int := l.foldl leastF (-1)
def sumL (m : Int) : Int → List Int → Int
  | n, [] => n
  | n, c :: l => if c = -1 then -1 else sumL m (min (n + c) m) l
def dimsE (n : Int) : Int := if badN n then 41 else 0
def rightC (n : Int) (c : Cel) : Bool := decide (c.frm &&& ~~~(fullB n) = 0) && (decide (c.kind = 1) || decide (c.kind = 0) && decide (c.k = 0) || decide (c = ⟨0, 2, 0⟩))
def cellsE (n : Int) (l : List Cel) : Int := if badN n then 41 else if (l.length : Int) ≠ n then 40 else if l.any (fun c => !rightC n c) then 40 else 0
def twoE (n : Int) (a b : List Cel) : Int := if cellsE n a ≠ 0 then cellsE n a else cellsE n b
def bothC (a b : Cel) : Cel := if (if a.kind = 0 then b.kind else if b.kind ≠ 0 ∧ (a.kind ≠ b.kind ∨ a.k ≠ b.k) then 2 else a.kind) = 2 then ⟨0, 2, 0⟩ else ⟨a.frm ||| b.frm, if a.kind = 0 then b.kind else a.kind, if a.kind = 0 then b.k else a.k⟩
def cel0 : Cel := ⟨0, 0, 0⟩
def behindC (a : List Cel) (c : Cel) : Cel := (List.range a.length).foldl (fun x i => if c.frm.getLsbD i then bothC x (a.getD i cel0) else x) ⟨0, c.kind, c.k⟩
def oneC (n : Int) : List Cel := (List.range n.toNat).map fun (i : Nat) => ⟨worth (i : Int), 0, 0⟩
theorem checksE_ok {m : Int} {l : List Int} (h : checksE m l = 0) : (0 ≤ m ∧ m ≤ 1048576) ∧ (∀ c ∈ l, -1 ≤ c ∧ c ≤ m) ∧ checksE m l = 0 := by
  have h0 := h
  unfold checksE at h
  split at h
  · cases h
  · split at h
    · cases h
    · rename_i h1 h2
      refine ⟨by simp [capBad] at h1; omega, fun c hc => ?_, h0⟩
      have := List.any_eq_false.1 (Bool.not_eq_true _ ▸ h2) c hc
      simp [costBad] at this; omega
theorem min_is (a b : Int) : min a b = if b < a then b else a := by omega
theorem eq_all {α : Type} {l l' : List α} (hl : l.length = l'.length) {i : Nat} (hi : l.length ≤ i) (h : ∀ j, j < i → l[j]? = l'[j]?) : l = l' := by
  refine List.ext_getElem? fun j => ?_
  by_cases hj : j < i
  · exact h j hj
  · rw [List.getElem?_eq_none (by omega), List.getElem?_eq_none (by omega)]
theorem ne_at {α : Type} {l l' : List α} {i : Nat} (hi : i < l.length) (hi' : i < l'.length) (h : l[i] ≠ l'[i]) : l ≠ l' := fun h1 => by subst h1; exact h rfl
theorem same_next {α : Type} {l l' : List α} {i : Nat} (hi : i < l.length) (hi' : i < l'.length) (h : l[i] = l'[i]) (hp : ∀ j, j < i → l[j]? = l'[j]?) : ∀ j, j < i + 1 → l[j]? = l'[j]? := fun j hj => by
  rcases Nat.lt_succ_iff_lt_or_eq.1 hj with h1 | h1
  · exact hp j h1
  · subst h1; rw [List.getElem?_eq_getElem hi, List.getElem?_eq_getElem hi', h]

theorem equal_u64 [DecidableEq (BitVec 64)] (l l' : List (BitVec 64)) (hl : l.length ≤ 17592186044416) (hl' : l'.length ≤ 17592186044416) : FnC Tryz.prog 126 [.sl 30 (l.map bV), .sl 30 (l'.map bV)] (fun r => r = .bool (decide (l = l'))) := by
  refine FnC.of (fn := Tryz.f126) ⟨Tryz.func126, by kernel_rfl, rfl⟩ Tryz.ntmps126 (by simp) fun w0 S0 => ?_
  refine p_go ?_
  refine p_splitC (s := 10) (ht := fun hc10 => ?_) (hf := fun hc10 => ?_)
  · refine p_go ?_
    refine p_ret1 (hp := by have hle : l.length ≠ l'.length := (by have := hc10; simp at this; omega); simp [show l ≠ l' from fun h => hle (by rw [h])])
  · have hle : l.length = l'.length := (by have := hc10; simp at this; omega)
    refine p_go ?_
    refine p_loopK [0, 1, 12] [] (fun st => ∃ i : Nat, (i ≤ l.length) ∧ (∀ j, j < i → l[j]? = l'[j]?) ∧ st.env 13 = iV i) (fun st => l.length - (st.env 13).toN) ?_ fun e ob g1 hK hO hI => ?_
    · exact ⟨0, by omega, fun j h => by omega, eV_⟩
    · obtain ⟨i, hi, hp, e13⟩ := hI
      dsimp only at e13
      simp only [valsE, List.cons.injEq, and_true] at hK
      have hE := (⟨hK, e13⟩ : _ ∧ _)
      refine p_go ?_
      refine p_splitC (s := 14) (ht := fun hc14 => ?_) (hf := fun hc14 => ?_)
      · have hlt : i < l.length := by simpa using hc14
        have hlt' : i < l'.length := by omega
        refine p_go fun hf => ?_
        refine p_idxMap (j := i) (ht := Tryz.underlying31) (hi := F.ti30.h) (hij := rfl) (hj := hlt) (h := ?_)
        refine p_go fun hf => ?_
        refine p_idxMap (j := i) (ht := Tryz.underlying31) (hi := F.ti30.h) (hij := rfl) (hj := hlt') (h := ?_)
        refine p_go ?_
        refine p_splitC (s := 24) (ht := fun hc24 => ?_) (hf := fun hc24 => ?_)
        · refine p_go ?_
          refine p_ret1 (hp := by simp [ne_at hlt hlt' (by simpa using hc24)])
        · refine p_go fun hf => ?_
          refine p_add (r := ((i + 1 : Nat) : Int)) (hr := (by first | omega | (simp only [decide_eq_true_eq, decide_eq_false_iff_not, Bool.or_eq_false_iff, Bool.and_eq_true, Bool.not_eq_true', Bool.not_eq_false'] at *; omega))) (hb := (by first | omega | (simp only [decide_eq_true_eq, decide_eq_false_iff_not, Bool.or_eq_false_iff, Bool.and_eq_true, Bool.not_eq_true', Bool.not_eq_false'] at *; omega))) (h := ?_)
          refine p_go ?_
          refine p_some ?_
          refine ⟨⟨(by simp (decide := true) only [valsE, evE, upd, cv, args0, argsFrom, List.length_map, ↓reduceIte, hE] <;> rfl), (by simp (decide := true) only [valsO, updO, upd, true_and, and_true, false_and, and_false, ↓reduceIte, hE] <;> rfl)⟩, ⟨i + 1, hlt, same_next hlt hlt' (by simpa using hc24) hp, eV_⟩, ?_⟩
          simp (decide := true) only [upd, e13, V.toN, ↓reduceIte]; omega
      · refine p_go ?_
        refine p_ret1 (hp := by simp [eq_all hle (show l.length ≤ i by simp at hc14; omega) hp])

theorem equal_int [DecidableEq Int] (l l' : List Int) (hl : l.length ≤ 17592186044416) (hl' : l'.length ≤ 17592186044416) : FnC Tryz.prog 72 [.sl 3 (l.map iV), .sl 3 (l'.map iV)] (fun r => r = .bool (decide (l = l'))) := by
  refine FnC.of (fn := Tryz.f72) ⟨Tryz.func72, by kernel_rfl, rfl⟩ Tryz.ntmps72 (by simp) fun w0 S0 => ?_
  refine p_go ?_
  refine p_splitC (s := 10) (ht := fun hc10 => ?_) (hf := fun hc10 => ?_)
  · refine p_go ?_
    refine p_ret1 (hp := by have hle : l.length ≠ l'.length := (by have := hc10; simp at this; omega); simp [show l ≠ l' from fun h => hle (by rw [h])])
  · have hle : l.length = l'.length := (by have := hc10; simp at this; omega)
    refine p_go ?_
    refine p_loopK [0, 1, 12] [] (fun st => ∃ i : Nat, (i ≤ l.length) ∧ (∀ j, j < i → l[j]? = l'[j]?) ∧ st.env 13 = iV i) (fun st => l.length - (st.env 13).toN) ?_ fun e ob g1 hK hO hI => ?_
    · exact ⟨0, by omega, fun j h => by omega, eV_⟩
    · obtain ⟨i, hi, hp, e13⟩ := hI
      dsimp only at e13
      simp only [valsE, List.cons.injEq, and_true] at hK
      have hE := (⟨hK, e13⟩ : _ ∧ _)
      refine p_go ?_
      refine p_splitC (s := 14) (ht := fun hc14 => ?_) (hf := fun hc14 => ?_)
      · have hlt : i < l.length := by simpa using hc14
        have hlt' : i < l'.length := by omega
        refine p_go fun hf => ?_
        refine p_idxMap (j := i) (ht := Tryz.underlying26) (hi := F.ti3.h) (hij := rfl) (hj := hlt) (h := ?_)
        refine p_go fun hf => ?_
        refine p_idxMap (j := i) (ht := Tryz.underlying26) (hi := F.ti3.h) (hij := rfl) (hj := hlt') (h := ?_)
        refine p_go ?_
        refine p_splitC (s := 24) (ht := fun hc24 => ?_) (hf := fun hc24 => ?_)
        · refine p_go ?_
          refine p_ret1 (hp := by simp [ne_at hlt hlt' (by simpa using hc24)])
        · refine p_go fun hf => ?_
          refine p_add (r := ((i + 1 : Nat) : Int)) (hr := (by first | omega | (simp only [decide_eq_true_eq, decide_eq_false_iff_not, Bool.or_eq_false_iff, Bool.and_eq_true, Bool.not_eq_true', Bool.not_eq_false'] at *; omega))) (hb := (by first | omega | (simp only [decide_eq_true_eq, decide_eq_false_iff_not, Bool.or_eq_false_iff, Bool.and_eq_true, Bool.not_eq_true', Bool.not_eq_false'] at *; omega))) (h := ?_)
          refine p_go ?_
          refine p_some ?_
          refine ⟨⟨(by simp (decide := true) only [valsE, evE, upd, cv, args0, argsFrom, List.length_map, ↓reduceIte, hE] <;> rfl), (by simp (decide := true) only [valsO, updO, upd, true_and, and_true, false_and, and_false, ↓reduceIte, hE] <;> rfl)⟩, ⟨i + 1, hlt, same_next hlt hlt' (by simpa using hc24) hp, eV_⟩, ?_⟩
          simp (decide := true) only [upd, e13, V.toN, ↓reduceIte]; omega
      · refine p_go ?_
        refine p_ret1 (hp := by simp [eq_all hle (show l.length ≤ i by simp at hc14; omega) hp])

theorem equal_cel [DecidableEq Cel] (l l' : List Cel) (hl : l.length ≤ 17592186044416) (hl' : l'.length ≤ 17592186044416) : FnC Tryz.prog 127 [.sl 90 (l.map celV), .sl 90 (l'.map celV)] (fun r => r = .bool (decide (l = l'))) := by
  refine FnC.of (fn := Tryz.f127) ⟨Tryz.func127, by kernel_rfl, rfl⟩ Tryz.ntmps127 (by simp) fun w0 S0 => ?_
  refine p_go ?_
  refine p_splitC (s := 10) (ht := fun hc10 => ?_) (hf := fun hc10 => ?_)
  · refine p_go ?_
    refine p_ret1 (hp := by have hle : l.length ≠ l'.length := (by have := hc10; simp at this; omega); simp [show l ≠ l' from fun h => hle (by rw [h])])
  · have hle : l.length = l'.length := (by have := hc10; simp at this; omega)
    refine p_go ?_
    refine p_loopK [0, 1, 12] [] (fun st => ∃ i : Nat, (i ≤ l.length) ∧ (∀ j, j < i → l[j]? = l'[j]?) ∧ st.env 13 = iV i) (fun st => l.length - (st.env 13).toN) ?_ fun e ob g1 hK hO hI => ?_
    · exact ⟨0, by omega, fun j h => by omega, eV_⟩
    · obtain ⟨i, hi, hp, e13⟩ := hI
      dsimp only at e13
      simp only [valsE, List.cons.injEq, and_true] at hK
      have hE := (⟨hK, e13⟩ : _ ∧ _)
      refine p_go ?_
      refine p_splitC (s := 14) (ht := fun hc14 => ?_) (hf := fun hc14 => ?_)
      · have hlt : i < l.length := by simpa using hc14
        have hlt' : i < l'.length := by omega
        refine p_go fun hf => ?_
        refine p_idxMap (j := i) (ht := Tryz.underlying34) (hi := F.ti90.h) (hij := rfl) (hj := hlt) (h := ?_)
        refine p_go fun hf => ?_
        refine p_idxMap (j := i) (ht := Tryz.underlying34) (hi := F.ti90.h) (hij := rfl) (hj := hlt') (h := ?_)
        refine p_go fun hf => ?_
        refine p_neIntsL (ht := cell_ints) (hb := rfl) (h := ?_)
        refine p_go ?_
        refine p_splitC (s := 24) (ht := fun hc24 => ?_) (hf := fun hc24 => ?_)
        · refine p_go ?_
          refine p_ret1 (hp := by simp [ne_at hlt hlt' (by simpa only [List.map_cons, List.map_nil, V.toI, Bool.not_eq_true', Bool.not_eq_false', decide_eq_true_eq, decide_eq_false_iff_not, cel_eq, ne_eq] using hc24)])
        · refine p_go fun hf => ?_
          refine p_add (r := ((i + 1 : Nat) : Int)) (hr := (by first | omega | (simp only [decide_eq_true_eq, decide_eq_false_iff_not, Bool.or_eq_false_iff, Bool.and_eq_true, Bool.not_eq_true', Bool.not_eq_false'] at *; omega))) (hb := (by first | omega | (simp only [decide_eq_true_eq, decide_eq_false_iff_not, Bool.or_eq_false_iff, Bool.and_eq_true, Bool.not_eq_true', Bool.not_eq_false'] at *; omega))) (h := ?_)
          refine p_go ?_
          refine p_some ?_
          refine ⟨⟨(by simp (decide := true) only [valsE, evE, upd, cv, args0, argsFrom, List.length_map, ↓reduceIte, hE] <;> rfl), (by simp (decide := true) only [valsO, updO, upd, true_and, and_true, false_and, and_false, ↓reduceIte, hE] <;> rfl)⟩, ⟨i + 1, hlt, same_next hlt hlt' (by simpa only [List.map_cons, List.map_nil, V.toI, Bool.not_eq_true', Bool.not_eq_false', decide_eq_true_eq, decide_eq_false_iff_not, cel_eq, ne_eq] using hc24) hp, eV_⟩, ?_⟩
          simp (decide := true) only [upd, e13, V.toN, ↓reduceIte]; omega
      · refine p_go ?_
        refine p_ret1 (hp := by simp [eq_all hle (show l.length ≤ i by simp at hc14; omega) hp])

theorem checks (m : Int) (l : List Int) (hl : l.length ≤ 17592186044416) : FnC Tryz.prog 159 [iV m, .sl 3 (l.map iV)] (fun r => r = iV (checksE m l)) := by
  refine FnC.of (fn := Tryz.f159) ⟨Tryz.func159, by kernel_rfl, rfl⟩ Tryz.ntmps159 (by simp) fun w0 S0 => ?_
  refine p_go ?_
  refine p_splitC (s := 12) (ht := fun hc12 => ?_) (hf := fun hc12 => ?_)
  · refine p_go ?_
    refine p_ret1 (hp := by have h1 : capBad m = true := hc12; simp [checksE, h1])
  · refine p_go ?_
    refine p_loopK [0, 13, 14] [] (fun st => ∃ i : Nat, (i ≤ l.length) ∧ (∀ j (hj : j < l.length), j < i → costBad m l[j] = false) ∧ st.env 15 = iV i) (fun st => l.length - (st.env 15).toN) ?_ fun e ob g1 hK hO hI => ?_
    · exact ⟨0, by omega, fun j hj h => by omega, eV_⟩
    · obtain ⟨i, hi, hp, e15⟩ := hI
      dsimp only at e15
      simp only [valsE, List.cons.injEq, and_true] at hK
      have hE := (⟨hK, e15⟩ : _ ∧ _)
      refine p_go ?_
      refine p_splitC (s := 16) (ht := fun hc16 => ?_) (hf := fun hc16 => ?_)
      · have hlt : i < l.length := by simpa using hc16
        refine p_go fun hf => ?_
        refine p_idxMap (j := i) (ht := Tryz.underlying26) (hi := F.ti3.h) (hij := rfl) (hj := hlt) (h := ?_)
        refine p_go ?_
        refine p_splitC (s := 25) (ht := fun hc25 => ?_) (hf := fun hc25 => ?_)
        · refine p_go ?_
          refine p_ret1 (hp := by have h1 : capBad m = false := hc12; simp [checksE, h1, any_hit (p := costBad m) hlt hc25])
        · refine p_go fun hf => ?_
          refine p_add (r := ((i + 1 : Nat) : Int)) (hr := (by first | omega | (simp only [decide_eq_true_eq, decide_eq_false_iff_not, Bool.or_eq_false_iff, Bool.and_eq_true, Bool.not_eq_true', Bool.not_eq_false'] at *; omega))) (hb := (by first | omega | (simp only [decide_eq_true_eq, decide_eq_false_iff_not, Bool.or_eq_false_iff, Bool.and_eq_true, Bool.not_eq_true', Bool.not_eq_false'] at *; omega))) (h := ?_)
          refine p_go ?_
          refine p_some ?_
          refine ⟨⟨(by simp (decide := true) only [valsE, evE, upd, cv, args0, argsFrom, List.length_map, ↓reduceIte, hE] <;> rfl), (by simp (decide := true) only [valsO, updO, upd, true_and, and_true, false_and, and_false, ↓reduceIte, hE] <;> rfl)⟩, ⟨i + 1, hlt, none_next hc25 hp, eV_⟩, ?_⟩
          simp (decide := true) only [upd, e15, V.toN, ↓reduceIte]; omega
      · refine p_go ?_
        refine p_ret1 (hp := by have h1 : capBad m = false := hc12; simp [checksE, h1, any_not (show l.length ≤ i by simp at hc16; omega) hp])

theorem costCheck (m c : Int) : FnC Tryz.prog 151 [iV m, iV c] (fun r => r = iV (checksE m [c])) := by
  refine FnC.of (fn := Tryz.f151) ⟨Tryz.func151, by kernel_rfl, rfl⟩ Tryz.ntmps151 (by simp) fun w0 S0 => ?_
  refine p_go fun hf => ?_
  refine p_buildSlice (ht := Tryz.underlying26) (hi := F.ti3.h) (h := ?_)
  refine p_callRow (vs := [iV m, .sl 3 ([c].map iV)]) (0 + 1 + 1) 7 (hb := ⟨Tryz.func159, by kernel_rfl, rfl⟩) (hvs := by simp [V.frz]) (hf := checks m [c] (by simp)) (h := ?_)
  refine p_go ?_
  refine p_ret1 (hp := by rfl)

theorem least (m : Int) (l : List Int) (hl : l.length ≤ 17592186044416) : FnC Tryz.prog 131 [iV m, .sl 3 (l.map iV)] (fun r => r = .tup [iV (if checksE m l = 0 then leastL l else 0), iV (checksE m l)]) := by
  refine FnC.of (fn := Tryz.f131) ⟨Tryz.func131, by kernel_rfl, rfl⟩ Tryz.ntmps131 (by simp) fun w0 S0 => ?_
  refine p_go fun hf => ?_
  refine p_call (hx := rfl) (hb := ⟨Tryz.func159, by kernel_rfl, rfl⟩) (hf := checks m l hl) (h := ?_)
  refine p_go ?_
  refine p_splitC (s := 14) (ht := fun hc14 => ?_) (hf := fun hc14 => ?_)
  · refine p_go ?_
    refine p_r2 (hp := by simp at hc14; simp [hc14])
  · refine p_go ?_
    refine p_loopK [16, 17] [] (fun st => ∃ i : Nat, (i ≤ l.length) ∧ st.env 7 = iV ((l.take i).foldl leastF (-1)) ∧ st.env 18 = iV i) (fun st => l.length - (st.env 18).toN) ?_ fun e ob g1 hK hO hI => ?_
    · exact ⟨0, by omega, eV_, eV_⟩
    · obtain ⟨i, hi, e7, e18⟩ := hI
      dsimp only at e7 e18
      simp only [valsE, List.cons.injEq, and_true] at hK
      have hE := (⟨hK, e7, e18⟩ : _ ∧ _ ∧ _)
      refine p_go ?_
      refine p_splitC (s := 19) (ht := fun hc19 => ?_) (hf := fun hc19 => ?_)
      · have hlt : i < l.length := by simpa using hc19
        refine p_go fun hf => ?_
        refine p_idxMap (j := i) (ht := Tryz.underlying26) (hi := F.ti3.h) (hij := rfl) (hj := hlt) (h := ?_)
        refine p_go ?_
        refine p_splitC (s := 32) (ht := fun hc32 => ?_) (hf := fun hc32 => ?_)
        · refine p_go fun hf => ?_
          refine p_add (r := ((i + 1 : Nat) : Int)) (hr := (by first | omega | (simp only [decide_eq_true_eq, decide_eq_false_iff_not, Bool.or_eq_false_iff, Bool.and_eq_true, Bool.not_eq_true', Bool.not_eq_false'] at *; omega))) (hb := (by first | omega | (simp only [decide_eq_true_eq, decide_eq_false_iff_not, Bool.or_eq_false_iff, Bool.and_eq_true, Bool.not_eq_true', Bool.not_eq_false'] at *; omega))) (h := ?_)
          refine p_go ?_
          refine p_some ?_
          refine ⟨⟨(by simp (decide := true) only [valsE, evE, upd, cv, args0, argsFrom, List.length_map, ↓reduceIte, hE] <;> rfl), (by simp (decide := true) only [valsO, updO, upd, true_and, and_true, false_and, and_false, ↓reduceIte, hE] <;> rfl)⟩, ⟨i + 1, hlt, by rw [fold_snoc _ _ hlt, leastF, if_pos (by simpa using hc32)]; exact eV_, eV_⟩, ?_⟩
          simp (decide := true) only [upd, e18, V.toN, ↓reduceIte]; omega
        · refine p_go fun hf => ?_
          refine p_add (r := ((i + 1 : Nat) : Int)) (hr := (by first | omega | (simp only [decide_eq_true_eq, decide_eq_false_iff_not, Bool.or_eq_false_iff, Bool.and_eq_true, Bool.not_eq_true', Bool.not_eq_false'] at *; omega))) (hb := (by first | omega | (simp only [decide_eq_true_eq, decide_eq_false_iff_not, Bool.or_eq_false_iff, Bool.and_eq_true, Bool.not_eq_true', Bool.not_eq_false'] at *; omega))) (h := ?_)
          refine p_go ?_
          refine p_some ?_
          refine ⟨⟨(by simp (decide := true) only [valsE, evE, upd, cv, args0, argsFrom, List.length_map, ↓reduceIte, hE] <;> rfl), (by simp (decide := true) only [valsO, updO, upd, true_and, and_true, false_and, and_false, ↓reduceIte, hE] <;> rfl)⟩, ⟨i + 1, hlt, by rw [fold_snoc _ _ hlt, leastF, if_neg (by simp at hc32; omega)]; exact eV_, eV_⟩, ?_⟩
          simp (decide := true) only [upd, e18, V.toN, ↓reduceIte]; omega
      · refine p_go ?_
        refine p_r2 (hp := by simp at hc14; simp [hc14, leastL, List.take_of_length_le (show l.length ≤ i by simp at hc19; omega)])

theorem sum (m : Int) (l : List Int) (hl : l.length ≤ 17592186044416) : FnC Tryz.prog 139 [iV m, .sl 3 (l.map iV)] (fun r => r = .tup [iV (if checksE m l = 0 then sumL m 0 l else 0), iV (checksE m l)]) := by
  refine FnC.of (fn := Tryz.f139) ⟨Tryz.func139, by kernel_rfl, rfl⟩ Tryz.ntmps139 (by simp) fun w0 S0 => ?_
  refine p_go fun hf => ?_
  refine p_call (hx := rfl) (hb := ⟨Tryz.func159, by kernel_rfl, rfl⟩) (hf := checks m l hl) (h := ?_)
  refine p_go ?_
  refine p_splitC (s := 14) (ht := fun hc14 => ?_) (hf := fun hc14 => ?_)
  · refine p_go ?_
    refine p_r2 (hp := by simp at hc14; simp [hc14])
  · have hgood := checksE_ok (by simpa using hc14)
    refine p_go ?_
    refine p_loopK [0, 16, 17] [] (fun st => ∃ (i : Nat) (n : Int), (i ≤ l.length) ∧ (0 ≤ n ∧ n ≤ m) ∧ (sumL m 0 l = sumL m n (l.drop i)) ∧ st.env 7 = iV n ∧ st.env 18 = iV i) (fun st => l.length - (st.env 18).toN) ?_ fun e ob g1 hK hO hI => ?_
    · exact ⟨0, 0, by omega, ⟨by omega, hgood.1.1⟩, rfl, eV_, eV_⟩
    · obtain ⟨i, n, hi, hn, hs, e7, e18⟩ := hI
      dsimp only at e7 e18
      simp only [valsE, List.cons.injEq, and_true] at hK
      have hE := (⟨hK, e7, e18⟩ : _ ∧ _ ∧ _)
      refine p_go ?_
      refine p_splitC (s := 19) (ht := fun hc19 => ?_) (hf := fun hc19 => ?_)
      · have hlt : i < l.length := by simpa using hc19
        have hci := hgood.2.1 _ (List.getElem_mem hlt)
        refine p_go fun hf => ?_
        refine p_idxMap (j := i) (ht := Tryz.underlying26) (hi := F.ti3.h) (hij := rfl) (hj := hlt) (h := ?_)
        refine p_go ?_
        refine p_splitC (s := 23) (ht := fun hc23 => ?_) (hf := fun hc23 => ?_)
        · refine p_go ?_
          refine p_r2 (hp := by have h0 := hgood.2.2; rw [if_pos h0, h0, hs, List.drop_eq_getElem_cons hlt, sumL, if_pos (by simpa using hc23)])
        · refine p_go fun hf => ?_
          refine p_add (r := n + l[i]) (hr := (by first | omega | (simp only [decide_eq_true_eq, decide_eq_false_iff_not, Bool.or_eq_false_iff, Bool.and_eq_true, Bool.not_eq_true', Bool.not_eq_false'] at *; omega))) (hb := (by first | omega | (simp only [decide_eq_true_eq, decide_eq_false_iff_not, Bool.or_eq_false_iff, Bool.and_eq_true, Bool.not_eq_true', Bool.not_eq_false'] at *; omega))) (h := ?_)
          refine p_go fun hf => ?_
          refine p_min (h := ?_)
          refine p_go fun hf => ?_
          refine p_add (r := ((i + 1 : Nat) : Int)) (hr := (by first | omega | (simp only [decide_eq_true_eq, decide_eq_false_iff_not, Bool.or_eq_false_iff, Bool.and_eq_true, Bool.not_eq_true', Bool.not_eq_false'] at *; omega))) (hb := (by first | omega | (simp only [decide_eq_true_eq, decide_eq_false_iff_not, Bool.or_eq_false_iff, Bool.and_eq_true, Bool.not_eq_true', Bool.not_eq_false'] at *; omega))) (h := ?_)
          refine p_go ?_
          refine p_some ?_
          have hd := List.drop_eq_getElem_cons hlt
          refine ⟨⟨(by simp (decide := true) only [valsE, evE, upd, cv, args0, argsFrom, List.length_map, ↓reduceIte, hE] <;> rfl), (by simp (decide := true) only [valsO, updO, upd, true_and, and_true, false_and, and_false, ↓reduceIte, hE] <;> rfl)⟩, ⟨i + 1, min (n + l[i]) m, hlt, by simp at hc23; omega, by rw [hs, hd, sumL, if_neg (by simpa using hc23)], by rw [min_is]; exact eV_, eV_⟩, ?_⟩
          simp (decide := true) only [upd, e18, V.toN, ↓reduceIte]; omega
      · have hge : l.length ≤ i := by simp at hc19; omega
        refine p_go ?_
        refine p_r2 (hp := by have h0 := hgood.2.2; rw [if_pos h0, h0, hs, List.drop_eq_nil_of_le hge, sumL])

end Go.Proofs.YtfpljljjjgicaaaGreatDoor
