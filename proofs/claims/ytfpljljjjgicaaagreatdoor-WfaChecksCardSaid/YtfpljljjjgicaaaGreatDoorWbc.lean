import Derived.Test.YtfpljljjjgicaaaGreatDoorWa
/-
  Words of 64 bits: functions of package bits and of its reference.
-/
set_option maxHeartbeats 4000000
set_option linter.unusedSimpArgs false
set_option linter.unusedVariables false
namespace Go.Proofs.YtfpljljjjgicaaaGreatDoor
open Go.RowKit
attribute [local irreducible] Wk Tr
def badN (n : Int) : Bool := decide (n < 0) || decide (64 < n)
/-- The first n things. -/
def fullB (n : Int) : BitVec 64 := BitVec.allOnes 64 >>> (64 - n).toNat
theorem fullB_bit (n : Int) (i : Nat) (hi : i < 64) (hn : 0 ≤ n) : (fullB n).getLsbD i = decide ((i : Int) < n) := by
  simp only [fullB, BitVec.getLsbD_ushiftRight, BitVec.getLsbD_allOnes]
  exact decide_eq_decide.2 (by omega)
theorem allOnesN : ((18446744073709551615 : Int)) = ((BitVec.allOnes 64).toNat : Int) := by decide
theorem wrapu {n : Int} (h0 : 0 ≤ n) (h1 : n ≤ 64) : IntKind.u64.wrap n = ((n.toNat : Nat) : Int) := by
  simp only [IntKind.wrap, IntKind.signed, IntKind.bits, Bool.false_and, Bool.false_eq_true, ↓reduceIte]; omega
/-- The least thing of a set. -/
def lowB (s : BitVec 64) : Nat := ((List.range 64).find? (s.getLsbD ·)).getD 64
theorem lowB_spec {s : BitVec 64} (h : s ≠ 0) : lowB s < 64 ∧ s.getLsbD (lowB s) = true ∧ ∀ j, j < lowB s → s.getLsbD j = false := by
  unfold lowB
  cases hf : (List.range 64).find? (s.getLsbD ·) with
  | none =>
    rw [List.find?_eq_none] at hf
    refine absurd (BitVec.eq_of_getLsbD_eq fun i hi => ?_) h
    have := hf i (List.mem_range.2 hi)
    simpa using this
  | some k =>
    rw [List.find?_range_eq_some] at hf
    obtain ⟨h1, h2, h3⟩ := hf
    exact ⟨List.mem_range.1 h2, h1, fun j hj => by simpa using h3 j hj⟩
theorem low_and {s : BitVec 64} (h : s ≠ 0) : s &&& -s = BitVec.twoPow 64 (lowB s) := by
  obtain ⟨h1, h2, h3⟩ := lowB_spec h
  refine BitVec.eq_of_getLsbD_eq fun i hi => ?_
  rw [BitVec.getLsbD_and, BitVec.getLsbD_neg, BitVec.getLsbD_twoPow]
  by_cases hik : i = lowB s
  · subst hik
    have : ¬ ∃ j, j < lowB s ∧ s.getLsbD j = true := fun ⟨j, h4, h5⟩ => by rw [h3 j h4] at h5; cases h5
    simp [h2, this, hi]
  · have hne : decide (lowB s = i) = false := by simp; omega
    rw [hne, Bool.and_false]
    by_cases hlt : i < lowB s
    · rw [h3 i hlt]; rfl
    · have : ∃ j, j < i ∧ s.getLsbD j = true := ⟨_, by omega, h2⟩
      simp [this, hi]
/-- A bit's worth. -/
def worth (n : Int) : BitVec 64 := 1#64 <<< n.toNat
theorem worth_step (j : Nat) : 1#64 <<< (j + 1) = (1#64 <<< j) * BitVec.ofInt 64 2 := by
  apply BitVec.eq_of_toNat_eq
  simp [BitVec.toNat_shiftLeft, BitVec.toNat_mul, Nat.shiftLeft_eq, Nat.pow_succ]
theorem worth_two (n : Int) : worth n = BitVec.twoPow 64 n.toNat := by simp [worth, BitVec.twoPow]
theorem fullB_eq (n : Nat) (h : n ≤ 64) : fullB n = (1#64 <<< n) - 1 := by
  have : ∀ k : Fin 65, fullB (k.val : Int) = (1#64 <<< k.val) - 1 := by decide
  exact this ⟨n, by omega⟩
theorem fullB_step (i : Nat) (h : i < 64) : fullB i + worth i = fullB ((i + 1 : Nat) : Int) := by
  have : ∀ k : Fin 64, fullB (k.val : Int) + worth k.val = fullB ((k.val + 1 : Nat) : Int) := by decide
  exact this ⟨i, h⟩
def deb : List Int := [0, 1, 56, 2, 57, 49, 28, 3, 61, 58, 42, 50, 38, 29, 17, 4, 62, 47, 59, 36, 45, 43, 51, 22, 53, 39, 33, 30, 24, 18, 12, 5, 63, 55, 48, 27, 60, 41, 37, 16, 46, 35, 44, 21, 52, 32, 23, 11, 54, 26, 40, 15, 34, 20, 31, 10, 25, 14, 19, 9, 13, 8, 7, 6]
theorem deb_mem {s : BitVec 64} (hs : ¬ s = BitVec.ofInt 64 0) : ((⟨0, ((((s &&& -s) * BitVec.ofInt 64 285870213051353865) >>> 58).toNat : Int).toNat, none⟩, .int .u8 (lowB s)) : Addr × Value) ∈ globTab := by
  have h : s ≠ 0 := hs
  rw [low_and h, Int.toNat_natCast]
  have h1 := (lowB_spec h).1
  have h2 : ∀ k : Fin 64, deb[((BitVec.twoPow 64 k.val * BitVec.ofInt 64 285870213051353865) >>> 58).toNat]? = some (k.val : Int) := by decide
  have h3 := h2 ⟨_, h1⟩
  have h4 : globTab = deb.mapIdx (fun i n => (⟨0, i, none⟩, .int .u8 n)) := rfl
  rw [h4, List.mem_mapIdx]
  obtain ⟨h5, h6⟩ := List.getElem?_eq_some_iff.1 h3
  exact ⟨_, h5, by rw [h6]⟩
theorem deb_lt (x : BitVec 64) : ((x >>> 58).toNat : Int) < 64 := by
  have := x.isLt
  rw [BitVec.toNat_ushiftRight, Nat.shiftRight_eq_div_pow]; omega
theorem wrap_low (s : BitVec 64) (h : s ≠ 0) : IntKind.i64.wrap (lowB s : Int) = lowB s := IntWalk.i64_in _ (by have := (lowB_spec h).1; omega)
theorem bitsFull (n : Int) (hn : -9223372036854775808 ≤ n ∧ n ≤ 9223372036854775807) : FnC Tryz.prog 164 [iV n] (fun r => r = .tup [bV (if badN n then 0 else fullB n), iV (if badN n then 10 else 0)]) := by
  refine FnC.of (fn := Tryz.f164) ⟨Tryz.func164, by kernel_rfl, rfl⟩ Tryz.ntmps164 (by simp) fun w0 S0 => ?_
  refine p_go ?_
  refine p_splitC (s := 9) (ht := fun hc9 => ?_) (hf := fun hc9 => ?_)
  · refine p_go ?_
    refine p_r2 (hp := by simp [badN, fullB, hc9])
  · refine p_go fun hf => ?_
    refine p_sub (r := 64 - n) (hr := rfl) (hb := by simp [badN] at *; omega) (h := ?_)
    refine p_conv (hs := Tryz.underlying3) (ht := Tryz.underlying123) (h := ?_)
    refine p_shrB (hp := allOnesN) (n := (64 - n).toNat) (hq := wrapu (by simp at hc9; omega) (by simp at hc9; omega)) (h := ?_)
    refine p_go ?_
    refine p_r2 (hp := by simp [badN, fullB, hc9])
theorem ctz (s : BitVec 64) : FnC Tryz.prog 181 [bV s] (fun r => r = iV (lowB s)) := by
  refine FnC.of (fn := Tryz.f181) ⟨Tryz.func181, by kernel_rfl, rfl⟩ Tryz.ntmps181 (by simp) fun w0 S0 => ?_
  refine p_go ?_
  refine p_splitC (s := 4) (ht := fun hc4 => ?_) (hf := fun hc4 => ?_)
  · refine p_go ?_
    refine p_ret1 (hp := by simp at hc4; subst hc4; rfl)
  · refine p_go fun hf => ?_
    refine p_negB (h := ?_)
    refine p_go fun hf => ?_
    refine p_shrB (n := 58) (h := ?_)
    refine p_idxGlob Tryz.underlying201 (h0 := by omega) (hlt := deb_lt _) (h := ?_)
    refine p_loadGlob (hv := deb_mem (by simpa using hc4)) (h := ?_)
    refine p_conv (hs := Tryz.underlying5) (ht := Tryz.underlying3) (h := ?_)
    refine p_go ?_
    refine p_ret1 (hp := by rw [wrap_low s (by simpa using hc4)])
theorem worth01 (n : Int) (hn : n ≤ 1000000) : FnC Tryz.prog 146 [iV n] (fun r => r = bV (worth n)) := by
  refine FnC.of (fn := Tryz.f146) ⟨Tryz.func146, by kernel_rfl, rfl⟩ Tryz.ntmps146 (by simp) fun w0 S0 => ?_
  refine p_go ?_
  refine p_loopK [] [] (fun st => ∃ j : Nat, (j ≤ n.toNat) ∧ st.env 0 = iV (n - j) ∧ st.env 3 = bV (1#64 <<< j)) (fun st => (st.env 0).toN) ?_ fun e ob g1 hK hO hI => ?_
  · exact ⟨0, by omega, by rw [Int.natCast_zero, Int.sub_zero]; exact eV_, eV_⟩
  · obtain ⟨j, hj, e0, e3⟩ := hI
    dsimp only at e0 e3
    have hE := (⟨e0, e3⟩ : _ ∧ _)
    refine p_go ?_
    refine p_splitC (s := 5) (ht := fun hc5 => ?_) (hf := fun hc5 => ?_)
    · refine p_go fun hf => ?_
      refine p_sub (p := n - j) (q := 1) (r := n - (j + 1 : Nat)) (hr := by omega) (hb := by simp at hc5; omega) (h := ?_)
      refine p_go ?_
      refine p_some ?_
      refine ⟨⟨(by simp (decide := true) only [valsE, evE, upd, cv, args0, argsFrom, List.length_map, ↓reduceIte, hE] <;> rfl), (by simp (decide := true) only [valsO, updO, upd, true_and, and_true, false_and, and_false, ↓reduceIte, hE] <;> rfl)⟩, ⟨j + 1, by simp at hc5; omega, eV_, by rw [worth_step]; exact eV_⟩, ?_⟩
      simp (decide := true) only [upd, e0, V.toN, ↓reduceIte]; simp at hc5; omega
    · refine p_go ?_
      refine p_ret1 (hp := by rw [worth, show n.toNat = j by simp at hc5; omega])
theorem full01 (n : Int) : FnC Tryz.prog 168 [iV n] (fun r => r = .tup [bV (if badN n then 0 else fullB n), iV (if badN n then 10 else 0)]) := by
  refine FnC.of (fn := Tryz.f168) ⟨Tryz.func168, by kernel_rfl, rfl⟩ Tryz.ntmps168 (by simp) fun w0 S0 => ?_
  refine p_go ?_
  refine p_splitC (s := 11) (ht := fun hc11 => ?_) (hf := fun hc11 => ?_)
  · refine p_go ?_
    refine p_r2 (hp := by simp [badN, hc11])
  · refine p_go ?_
    refine p_loopK [0] [] (fun st => ∃ i : Nat, (i ≤ n.toNat) ∧ st.env 4 = bV (fullB i) ∧ st.env 5 = iV i) (fun st => n.toNat - (st.env 5).toN) ?_ fun e ob g1 hK hO hI => ?_
    · exact ⟨0, by omega, eV_, eV_⟩
    · obtain ⟨i, hi, e4, e5⟩ := hI
      dsimp only at e4 e5
      simp only [valsE, List.cons.injEq, and_true] at hK
      have hE := (⟨hK, e4, e5⟩ : _ ∧ _ ∧ _)
      refine p_go ?_
      refine p_splitC (s := 14) (ht := fun hc14 => ?_) (hf := fun hc14 => ?_)
      · refine p_go fun hf => ?_
        refine p_call (hx := rfl) (hb := ⟨Tryz.func146, by kernel_rfl, rfl⟩) (hf := worth01 i (by first | omega | (simp only [decide_eq_true_eq, decide_eq_false_iff_not, Bool.or_eq_false_iff, Bool.and_eq_true, Bool.not_eq_true', Bool.not_eq_false'] at *; omega))) (h := ?_)
        refine p_go fun hf => ?_
        refine p_add (r := ((i + 1 : Nat) : Int)) (hr := (by first | omega | (simp only [decide_eq_true_eq, decide_eq_false_iff_not, Bool.or_eq_false_iff, Bool.and_eq_true, Bool.not_eq_true', Bool.not_eq_false'] at *; omega))) (hb := (by first | omega | (simp only [decide_eq_true_eq, decide_eq_false_iff_not, Bool.or_eq_false_iff, Bool.and_eq_true, Bool.not_eq_true', Bool.not_eq_false'] at *; omega))) (h := ?_)
        refine p_go ?_
        refine p_some ?_
        refine ⟨⟨(by simp (decide := true) only [valsE, evE, upd, cv, args0, argsFrom, List.length_map, ↓reduceIte, hE] <;> rfl), (by simp (decide := true) only [valsO, updO, upd, true_and, and_true, false_and, and_false, ↓reduceIte, hE] <;> rfl)⟩, ⟨i + 1, by simp at hc14; omega, by rw [← fullB_step i (by simp at hc14 hc11; omega)]; exact eV_, eV_⟩, ?_⟩
        simp (decide := true) only [upd, e5, V.toN, ↓reduceIte]; simp at hc14; omega
      · refine p_go ?_
        refine p_r2 (hp := by have h1 : badN n = false := hc11; simp at hc14 hc11; have h2 : ((i : Nat) : Int) = n := (by omega); simp [h1, h2])
theorem maskC (n : Int) (hn : 0 ≤ n ∧ n ≤ 64) : FnC Tryz.prog 175 [iV n] (fun r => r = bV (fullB n)) := by
  refine FnC.of (fn := Tryz.f175) ⟨Tryz.func175, by kernel_rfl, rfl⟩ Tryz.ntmps175 (by simp) fun w0 S0 => ?_
  refine p_go ?_
  refine p_splitC (s := 4) (ht := fun hc4 => ?_) (hf := fun hc4 => ?_)
  · refine p_go ?_
    refine p_ret1 (hp := by simp at hc4; rw [show n = 64 by omega]; rfl)
  · refine p_go fun hf => ?_
    refine p_shlB (n := n.toNat) (hq := by omega) (h := ?_)
    refine p_go ?_
    refine p_ret1 (hp := by rw [show fullB n = (1#64 <<< n.toNat) - 1 by rw [← fullB_eq _ (by omega), Int.toNat_of_nonneg hn.1]]; rfl)
end Go.Proofs.YtfpljljjjgicaaaGreatDoor
/-
  Slices that are equal; package cost.
-/
set_option maxHeartbeats 4000000
set_option linter.unusedSimpArgs false
set_option linter.unusedVariables false
namespace Go.Proofs.YtfpljljjjgicaaaGreatDoor
open Go.RowKit
attribute [local irreducible] Wk Tr
theorem cell_ints : IntStruct Tryz.prog 90 [.u64, .i64, .i64] :=
  ⟨_, Tryz.underlying90, by kernel_rfl, by kernel_rfl, rfl, rfl, Tryz.underlying30, rfl, rfl, Tryz.underlying88, rfl, rfl, Tryz.underlying2, trivial⟩
theorem cel_eq (a b : Cel) : ([(a.frm.toNat : Int), a.kind, a.k] = [(b.frm.toNat : Int), b.kind, b.k]) ↔ a = b := by
  constructor
  · intro h
    simp only [List.cons.injEq, and_true] at h
    obtain ⟨h1, h2, h3⟩ := h
    have h4 : a.frm = b.frm := BitVec.eq_of_toNat_eq (by omega)
    cases a; cases b
    simp only at h2 h3 h4
    rw [h2, h3, h4]
  · intro h; rw [h]
theorem take_snoc {α β : Type} (f : α → β) {l : List α} {i : Nat} (h : i < l.length) : (l.take (i + 1)).map f = (l.take i).map f ++ [f l[i]] := by
  rw [List.take_succ_eq_append_getElem h, List.map_append]; rfl
theorem fold_snoc {α β : Type} (f : β → α → β) (b : β) {l : List α} {i : Nat} (h : i < l.length) : (l.take (i + 1)).foldl f b = f ((l.take i).foldl f b) l[i] := by
  rw [List.take_succ_eq_append_getElem h, List.foldl_append]; rfl
theorem any_not {α : Type} {p : α → Bool} {l : List α} {i : Nat} (hi : l.length ≤ i) (h : ∀ j (hj : j < l.length), j < i → p l[j] = false) : l.any p = false := by
  rw [List.any_eq_false]
  intro x hx
  obtain ⟨j, hj, rfl⟩ := List.mem_iff_getElem.1 hx
  rw [h j hj (by omega)]; decide
theorem any_hit {α : Type} {p : α → Bool} {l : List α} {i : Nat} (hi : i < l.length) (h : p l[i] = true) : l.any p = true := List.any_eq_true.2 ⟨_, List.getElem_mem hi, h⟩
theorem none_next {α : Type} {p : α → Bool} {l : List α} {i : Nat} {hi : i < l.length} (h : p l[i] = false) (hp : ∀ j (hj : j < l.length), j < i → p l[j] = false) : ∀ j (hj : j < l.length), j < i + 1 → p l[j] = false := fun j hj h1 => by
  rcases Nat.lt_succ_iff_lt_or_eq.1 h1 with h2 | h2
  · exact hp j hj h2
  · subst h2; exact h
def capBad (m : Int) : Bool := decide (m < 0) || decide (1048576 < m)
def costBad (m c : Int) : Bool := decide (c < -1) || decide (m < c)
def checksE (m : Int) (l : List Int) : Int := if capBad m then 20 else if l.any (costBad m) then 21 else 0
def leastF (o c : Int) : Int := if o = -1 ∨ c ≠ -1 ∧ c < o then c else o
def leastL (l : List Int) : Int := l.foldl leastF (-1)
def sumL (m : Int) : Int → List Int → Int
  | n, [] => n
  | n, c :: l => if c = -1 then -1 else sumL m (min (n + c) m) l
def dimsE (n : Int) : Int := if badN n then 41 else 0
def rightC (n : Int) (c : Cel) : Bool := decide (c.frm &&& ~~~(fullB n) = 0) && (decide (c.kind = 1) || decide (c.kind = 0) && decide (c.k = 0) || decide (c = ⟨0, 2, 0⟩))
def cellsE (n : Int) (l : List Cel) : Int := if badN n then 41 else if (l.length : Int) ≠ n then 40 else if l.any (fun c => !rightC n c) then 40 else 0
def twoE (n : Int) (a b : List Cel) : Int := if cellsE n a ≠ 0 then cellsE n a else cellsE n b
def bothC (a b : Cel) : Cel := if (if a.kind = 0 then b.kind else if b.kind ≠ 0 ∧ (a.kind ≠ b.kind ∨ a.k ≠ b.k) then 2 else a.kind) = 2 then ⟨0, 2, 0⟩ else ⟨a.frm ||| b.frm, if a.kind = 0 then b.kind else a.kind, if a.kind = 0 then b.k else a.k⟩
def cel0 : Cel := ⟨0, 0, 0⟩
def behindC (a : List Cel) (c : Cel) : Cel := (List.range a.length).foldl (fun x i => if c.frm.getLsbD i then bothC x (a.getD i cel0) else x) ⟨0, c.kind, c.k⟩
def oneC (n : Int) : List Cel := (List.range n.toNat).map fun (i : Nat) => ⟨worth (i : Int), 0, 0⟩
theorem checksE_ok {m : Int} {l : List Int} (h : checksE m l = 0) : (0 ≤ m ∧ m ≤ 1048576) ∧ (∀ c ∈ l, -1 ≤ c ∧ c ≤ m) ∧ checksE m l = 0 := by
  have h0 := h
  unfold checksE at h
  split at h
  · cases h
  · split at h
    · cases h
    · rename_i h1 h2
      refine ⟨by simp [capBad] at h1; omega, fun c hc => ?_, h0⟩
      have := List.any_eq_false.1 (Bool.not_eq_true _ ▸ h2) c hc
      simp [costBad] at this; omega
theorem min_is (a b : Int) : min a b = if b < a then b else a := by omega
theorem eq_all {α : Type} {l l' : List α} (hl : l.length = l'.length) {i : Nat} (hi : l.length ≤ i) (h : ∀ j, j < i → l[j]? = l'[j]?) : l = l' := by
  refine List.ext_getElem? fun j => ?_
  by_cases hj : j < i
  · exact h j hj
  · rw [List.getElem?_eq_none (by omega), List.getElem?_eq_none (by omega)]
theorem ne_at {α : Type} {l l' : List α} {i : Nat} (hi : i < l.length) (hi' : i < l'.length) (h : l[i] ≠ l'[i]) : l ≠ l' := fun h1 => by subst h1; exact h rfl
theorem same_next {α : Type} {l l' : List α} {i : Nat} (hi : i < l.length) (hi' : i < l'.length) (h : l[i] = l'[i]) (hp : ∀ j, j < i → l[j]? = l'[j]?) : ∀ j, j < i + 1 → l[j]? = l'[j]? := fun j hj => by
  rcases Nat.lt_succ_iff_lt_or_eq.1 hj with h1 | h1
  · exact hp j h1
  · subst h1; rw [List.getElem?_eq_getElem hi, List.getElem?_eq_getElem hi', h]
theorem equal_u64 [DecidableEq (BitVec 64)] (l l' : List (BitVec 64)) (hl : l.length ≤ 17592186044416) (hl' : l'.length ≤ 17592186044416) : FnC Tryz.prog 126 [.sl 30 (l.map bV), .sl 30 (l'.map bV)] (fun r => r = .bool (decide (l = l'))) := by
  refine FnC.of (fn := Tryz.f126) ⟨Tryz.func126, by kernel_rfl, rfl⟩ Tryz.ntmps126 (by simp) fun w0 S0 => ?_
  refine p_go ?_
  refine p_splitC (s := 10) (ht := fun hc10 => ?_) (hf := fun hc10 => ?_)
  · refine p_go ?_
    refine p_ret1 (hp := by have hle : l.length ≠ l'.length := (by have := hc10; simp at this; omega); simp [show l ≠ l' from fun h => hle (by rw [h])])
  · have hle : l.length = l'.length := (by have := hc10; simp at this; omega)
    refine p_go ?_
    refine p_loopK [0, 1, 12] [] (fun st => ∃ i : Nat, (i ≤ l.length) ∧ (∀ j, j < i → l[j]? = l'[j]?) ∧ st.env 13 = iV i) (fun st => l.length - (st.env 13).toN) ?_ fun e ob g1 hK hO hI => ?_
    · exact ⟨0, by omega, fun j h => by omega, eV_⟩
    · obtain ⟨i, hi, hp, e13⟩ := hI
      dsimp only at e13
      simp only [valsE, List.cons.injEq, and_true] at hK
      have hE := (⟨hK, e13⟩ : _ ∧ _)
      refine p_go ?_
      refine p_splitC (s := 14) (ht := fun hc14 => ?_) (hf := fun hc14 => ?_)
      · have hlt : i < l.length := by simpa using hc14
        have hlt' : i < l'.length := by omega
        refine p_go fun hf => ?_
        refine p_idxMap (j := i) (ht := Tryz.underlying31) (hi := F.ti30.h) (hij := rfl) (hj := hlt) (h := ?_)
        refine p_go fun hf => ?_
        refine p_idxMap (j := i) (ht := Tryz.underlying31) (hi := F.ti30.h) (hij := rfl) (hj := hlt') (h := ?_)
        refine p_go ?_
        refine p_splitC (s := 24) (ht := fun hc24 => ?_) (hf := fun hc24 => ?_)
        · refine p_go ?_
          refine p_ret1 (hp := by simp [ne_at hlt hlt' (by simpa using hc24)])
        · refine p_go fun hf => ?_
          refine p_add (r := ((i + 1 : Nat) : Int)) (hr := (by first | omega | (simp only [decide_eq_true_eq, decide_eq_false_iff_not, Bool.or_eq_false_iff, Bool.and_eq_true, Bool.not_eq_true', Bool.not_eq_false'] at *; omega))) (hb := (by first | omega | (simp only [decide_eq_true_eq, decide_eq_false_iff_not, Bool.or_eq_false_iff, Bool.and_eq_true, Bool.not_eq_true', Bool.not_eq_false'] at *; omega))) (h := ?_)
          refine p_go ?_
          refine p_some ?_
          refine ⟨⟨(by simp (decide := true) only [valsE, evE, upd, cv, args0, argsFrom, List.length_map, ↓reduceIte, hE] <;> rfl), (by simp (decide := true) only [valsO, updO, upd, true_and, and_true, false_and, and_false, ↓reduceIte, hE] <;> rfl)⟩, ⟨i + 1, hlt, same_next hlt hlt' (by simpa using hc24) hp, eV_⟩, ?_⟩
          simp (decide := true) only [upd, e13, V.toN, ↓reduceIte]; omega
      · refine p_go ?_
        refine p_ret1 (hp := by simp [eq_all hle (show l.length ≤ i by simp at hc14; omega) hp])
theorem equal_int [DecidableEq Int] (l l' : List Int) (hl : l.length ≤ 17592186044416) (hl' : l'.length ≤ 17592186044416) : FnC Tryz.prog 72 [.sl 3 (l.map iV), .sl 3 (l'.map iV)] (fun r => r = .bool (decide (l = l'))) := by
  refine FnC.of (fn := Tryz.f72) ⟨Tryz.func72, by kernel_rfl, rfl⟩ Tryz.ntmps72 (by simp) fun w0 S0 => ?_
  refine p_go ?_
  refine p_splitC (s := 10) (ht := fun hc10 => ?_) (hf := fun hc10 => ?_)
  · refine p_go ?_
    refine p_ret1 (hp := by have hle : l.length ≠ l'.length := (by have := hc10; simp at this; omega); simp [show l ≠ l' from fun h => hle (by rw [h])])
  · have hle : l.length = l'.length := (by have := hc10; simp at this; omega)
    refine p_go ?_
    refine p_loopK [0, 1, 12] [] (fun st => ∃ i : Nat, (i ≤ l.length) ∧ (∀ j, j < i → l[j]? = l'[j]?) ∧ st.env 13 = iV i) (fun st => l.length - (st.env 13).toN) ?_ fun e ob g1 hK hO hI => ?_
    · exact ⟨0, by omega, fun j h => by omega, eV_⟩
    · obtain ⟨i, hi, hp, e13⟩ := hI
      dsimp only at e13
      simp only [valsE, List.cons.injEq, and_true] at hK
      have hE := (⟨hK, e13⟩ : _ ∧ _)
      refine p_go ?_
      refine p_splitC (s := 14) (ht := fun hc14 => ?_) (hf := fun hc14 => ?_)
      · have hlt : i < l.length := by simpa using hc14
        have hlt' : i < l'.length := by omega
        refine p_go fun hf => ?_
        refine p_idxMap (j := i) (ht := Tryz.underlying26) (hi := F.ti3.h) (hij := rfl) (hj := hlt) (h := ?_)
        refine p_go fun hf => ?_
        refine p_idxMap (j := i) (ht := Tryz.underlying26) (hi := F.ti3.h) (hij := rfl) (hj := hlt') (h := ?_)
        refine p_go ?_
        refine p_splitC (s := 24) (ht := fun hc24 => ?_) (hf := fun hc24 => ?_)
        · refine p_go ?_
          refine p_ret1 (hp := by simp [ne_at hlt hlt' (by simpa using hc24)])
        · refine p_go fun hf => ?_
          refine p_add (r := ((i + 1 : Nat) : Int)) (hr := (by first | omega | (simp only [decide_eq_true_eq, decide_eq_false_iff_not, Bool.or_eq_false_iff, Bool.and_eq_true, Bool.not_eq_true', Bool.not_eq_false'] at *; omega))) (hb := (by first | omega | (simp only [decide_eq_true_eq, decide_eq_false_iff_not, Bool.or_eq_false_iff, Bool.and_eq_true, Bool.not_eq_true', Bool.not_eq_false'] at *; omega))) (h := ?_)
          refine p_go ?_
          refine p_some ?_
          refine ⟨⟨(by simp (decide := true) only [valsE, evE, upd, cv, args0, argsFrom, List.length_map, ↓reduceIte, hE] <;> rfl), (by simp (decide := true) only [valsO, updO, upd, true_and, and_true, false_and, and_false, ↓reduceIte, hE] <;> rfl)⟩, ⟨i + 1, hlt, same_next hlt hlt' (by simpa using hc24) hp, eV_⟩, ?_⟩
          simp (decide := true) only [upd, e13, V.toN, ↓reduceIte]; omega
      · refine p_go ?_
        refine p_ret1 (hp := by simp [eq_all hle (show l.length ≤ i by simp at hc14; omega) hp])
theorem equal_cel [DecidableEq Cel] (l l' : List Cel) (hl : l.length ≤ 17592186044416) (hl' : l'.length ≤ 17592186044416) : FnC Tryz.prog 127 [.sl 90 (l.map celV), .sl 90 (l'.map celV)] (fun r => r = .bool (decide (l = l'))) := by
  refine FnC.of (fn := Tryz.f127) ⟨Tryz.func127, by kernel_rfl, rfl⟩ Tryz.ntmps127 (by simp) fun w0 S0 => ?_
  refine p_go ?_
  refine p_splitC (s := 10) (ht := fun hc10 => ?_) (hf := fun hc10 => ?_)
  · refine p_go ?_
    refine p_ret1 (hp := by have hle : l.length ≠ l'.length := (by have := hc10; simp at this; omega); simp [show l ≠ l' from fun h => hle (by rw [h])])
  · have hle : l.length = l'.length := (by have := hc10; simp at this; omega)
    refine p_go ?_
    refine p_loopK [0, 1, 12] [] (fun st => ∃ i : Nat, (i ≤ l.length) ∧ (∀ j, j < i → l[j]? = l'[j]?) ∧ st.env 13 = iV i) (fun st => l.length - (st.env 13).toN) ?_ fun e ob g1 hK hO hI => ?_
    · exact ⟨0, by omega, fun j h => by omega, eV_⟩
    · obtain ⟨i, hi, hp, e13⟩ := hI
      dsimp only at e13
      simp only [valsE, List.cons.injEq, and_true] at hK
      have hE := (⟨hK, e13⟩ : _ ∧ _)
      refine p_go ?_
      refine p_splitC (s := 14) (ht := fun hc14 => ?_) (hf := fun hc14 => ?_)
      · have hlt : i < l.length := by simpa using hc14
        have hlt' : i < l'.length := by omega
        refine p_go fun hf => ?_
        refine p_idxMap (j := i) (ht := Tryz.underlying34) (hi := F.ti90.h) (hij := rfl) (hj := hlt) (h := ?_)
        refine p_go fun hf => ?_
        refine p_idxMap (j := i) (ht := Tryz.underlying34) (hi := F.ti90.h) (hij := rfl) (hj := hlt') (h := ?_)
        refine p_go fun hf => ?_
        refine p_neIntsL (ht := cell_ints) (hb := rfl) (h := ?_)
        refine p_go ?_
        refine p_splitC (s := 24) (ht := fun hc24 => ?_) (hf := fun hc24 => ?_)
        · refine p_go ?_
          refine p_ret1 (hp := by simp [ne_at hlt hlt' (by simpa only [List.map_cons, List.map_nil, V.toI, Bool.not_eq_true', Bool.not_eq_false', decide_eq_true_eq, decide_eq_false_iff_not, cel_eq, ne_eq] using hc24)])
        · refine p_go fun hf => ?_
          refine p_add (r := ((i + 1 : Nat) : Int)) (hr := (by first | omega | (simp only [decide_eq_true_eq, decide_eq_false_iff_not, Bool.or_eq_false_iff, Bool.and_eq_true, Bool.not_eq_true', Bool.not_eq_false'] at *; omega))) (hb := (by first | omega | (simp only [decide_eq_true_eq, decide_eq_false_iff_not, Bool.or_eq_false_iff, Bool.and_eq_true, Bool.not_eq_true', Bool.not_eq_false'] at *; omega))) (h := ?_)
          refine p_go ?_
          refine p_some ?_
          refine ⟨⟨(by simp (decide := true) only [valsE, evE, upd, cv, args0, argsFrom, List.length_map, ↓reduceIte, hE] <;> rfl), (by simp (decide := true) only [valsO, updO, upd, true_and, and_true, false_and, and_false, ↓reduceIte, hE] <;> rfl)⟩, ⟨i + 1, hlt, same_next hlt hlt' (by simpa only [List.map_cons, List.map_nil, V.toI, Bool.not_eq_true', Bool.not_eq_false', decide_eq_true_eq, decide_eq_false_iff_not, cel_eq, ne_eq] using hc24) hp, eV_⟩, ?_⟩
          simp (decide := true) only [upd, e13, V.toN, ↓reduceIte]; omega
      · refine p_go ?_
        refine p_ret1 (hp := by simp [eq_all hle (show l.length ≤ i by simp at hc14; omega) hp])
theorem checks (m : Int) (l : List Int) (hl : l.length ≤ 17592186044416) : FnC Tryz.prog 159 [iV m, .sl 3 (l.map iV)] (fun r => r = iV (checksE m l)) := by
  refine FnC.of (fn := Tryz.f159) ⟨Tryz.func159, by kernel_rfl, rfl⟩ Tryz.ntmps159 (by simp) fun w0 S0 => ?_
  refine p_go ?_
  refine p_splitC (s := 12) (ht := fun hc12 => ?_) (hf := fun hc12 => ?_)
  · refine p_go ?_
    refine p_ret1 (hp := by have h1 : capBad m = true := hc12; simp [checksE, h1])
  · refine p_go ?_
    refine p_loopK [0, 13, 14] [] (fun st => ∃ i : Nat, (i ≤ l.length) ∧ (∀ j (hj : j < l.length), j < i → costBad m l[j] = false) ∧ st.env 15 = iV i) (fun st => l.length - (st.env 15).toN) ?_ fun e ob g1 hK hO hI => ?_
    · exact ⟨0, by omega, fun j hj h => by omega, eV_⟩
    · obtain ⟨i, hi, hp, e15⟩ := hI
      dsimp only at e15
      simp only [valsE, List.cons.injEq, and_true] at hK
      have hE := (⟨hK, e15⟩ : _ ∧ _)
      refine p_go ?_
      refine p_splitC (s := 16) (ht := fun hc16 => ?_) (hf := fun hc16 => ?_)
      · have hlt : i < l.length := by simpa using hc16
        refine p_go fun hf => ?_
        refine p_idxMap (j := i) (ht := Tryz.underlying26) (hi := F.ti3.h) (hij := rfl) (hj := hlt) (h := ?_)
        refine p_go ?_
        refine p_splitC (s := 25) (ht := fun hc25 => ?_) (hf := fun hc25 => ?_)
        · refine p_go ?_
          refine p_ret1 (hp := by have h1 : capBad m = false := hc12; simp [checksE, h1, any_hit (p := costBad m) hlt hc25])
        · refine p_go fun hf => ?_
          refine p_add (r := ((i + 1 : Nat) : Int)) (hr := (by first | omega | (simp only [decide_eq_true_eq, decide_eq_false_iff_not, Bool.or_eq_false_iff, Bool.and_eq_true, Bool.not_eq_true', Bool.not_eq_false'] at *; omega))) (hb := (by first | omega | (simp only [decide_eq_true_eq, decide_eq_false_iff_not, Bool.or_eq_false_iff, Bool.and_eq_true, Bool.not_eq_true', Bool.not_eq_false'] at *; omega))) (h := ?_)
          refine p_go ?_
          refine p_some ?_
          refine ⟨⟨(by simp (decide := true) only [valsE, evE, upd, cv, args0, argsFrom, List.length_map, ↓reduceIte, hE] <;> rfl), (by simp (decide := true) only [valsO, updO, upd, true_and, and_true, false_and, and_false, ↓reduceIte, hE] <;> rfl)⟩, ⟨i + 1, hlt, none_next hc25 hp, eV_⟩, ?_⟩
          simp (decide := true) only [upd, e15, V.toN, ↓reduceIte]; omega
      · refine p_go ?_
        refine p_ret1 (hp := by have h1 : capBad m = false := hc12; simp [checksE, h1, any_not (show l.length ≤ i by simp at hc16; omega) hp])
theorem costCheck (m c : Int) : FnC Tryz.prog 151 [iV m, iV c] (fun r => r = iV (checksE m [c])) := by
  refine FnC.of (fn := Tryz.f151) ⟨Tryz.func151, by kernel_rfl, rfl⟩ Tryz.ntmps151 (by simp) fun w0 S0 => ?_
  refine p_go fun hf => ?_
  refine p_buildSlice (ht := Tryz.underlying26) (hi := F.ti3.h) (h := ?_)
  refine p_callRow (vs := [iV m, .sl 3 ([c].map iV)]) (0 + 1 + 1) 7 (hb := ⟨Tryz.func159, by kernel_rfl, rfl⟩) (hvs := by simp [V.frz]) (hf := checks m [c] (by simp)) (h := ?_)
  refine p_go ?_
  refine p_ret1 (hp := by rfl)
theorem least (m : Int) (l : List Int) (hl : l.length ≤ 17592186044416) : FnC Tryz.prog 131 [iV m, .sl 3 (l.map iV)] (fun r => r = .tup [iV (if checksE m l = 0 then leastL l else 0), iV (checksE m l)]) := by
  refine FnC.of (fn := Tryz.f131) ⟨Tryz.func131, by kernel_rfl, rfl⟩ Tryz.ntmps131 (by simp) fun w0 S0 => ?_
  refine p_go fun hf => ?_
  refine p_call (hx := rfl) (hb := ⟨Tryz.func159, by kernel_rfl, rfl⟩) (hf := checks m l hl) (h := ?_)
  refine p_go ?_
  refine p_splitC (s := 14) (ht := fun hc14 => ?_) (hf := fun hc14 => ?_)
  · refine p_go ?_
    refine p_r2 (hp := by simp at hc14; simp [hc14])
  · refine p_go ?_
    refine p_loopK [16, 17] [] (fun st => ∃ i : Nat, (i ≤ l.length) ∧ st.env 7 = iV ((l.take i).foldl leastF (-1)) ∧ st.env 18 = iV i) (fun st => l.length - (st.env 18).toN) ?_ fun e ob g1 hK hO hI => ?_
    · exact ⟨0, by omega, eV_, eV_⟩
    · obtain ⟨i, hi, e7, e18⟩ := hI
      dsimp only at e7 e18
      simp only [valsE, List.cons.injEq, and_true] at hK
      have hE := (⟨hK, e7, e18⟩ : _ ∧ _ ∧ _)
      refine p_go ?_
      refine p_splitC (s := 19) (ht := fun hc19 => ?_) (hf := fun hc19 => ?_)
      · have hlt : i < l.length := by simpa using hc19
        refine p_go fun hf => ?_
        refine p_idxMap (j := i) (ht := Tryz.underlying26) (hi := F.ti3.h) (hij := rfl) (hj := hlt) (h := ?_)
        refine p_go ?_
        refine p_splitC (s := 32) (ht := fun hc32 => ?_) (hf := fun hc32 => ?_)
        · refine p_go fun hf => ?_
          refine p_add (r := ((i + 1 : Nat) : Int)) (hr := (by first | omega | (simp only [decide_eq_true_eq, decide_eq_false_iff_not, Bool.or_eq_false_iff, Bool.and_eq_true, Bool.not_eq_true', Bool.not_eq_false'] at *; omega))) (hb := (by first | omega | (simp only [decide_eq_true_eq, decide_eq_false_iff_not, Bool.or_eq_false_iff, Bool.and_eq_true, Bool.not_eq_true', Bool.not_eq_false'] at *; omega))) (h := ?_)
          refine p_go ?_
          refine p_some ?_
          refine ⟨⟨(by simp (decide := true) only [valsE, evE, upd, cv, args0, argsFrom, List.length_map, ↓reduceIte, hE] <;> rfl), (by simp (decide := true) only [valsO, updO, upd, true_and, and_true, false_and, and_false, ↓reduceIte, hE] <;> rfl)⟩, ⟨i + 1, hlt, by rw [fold_snoc _ _ hlt, leastF, if_pos (by simpa using hc32)]; exact eV_, eV_⟩, ?_⟩
          simp (decide := true) only [upd, e18, V.toN, ↓reduceIte]; omega
        · refine p_go fun hf => ?_
          refine p_add (r := ((i + 1 : Nat) : Int)) (hr := (by first | omega | (simp only [decide_eq_true_eq, decide_eq_false_iff_not, Bool.or_eq_false_iff, Bool.and_eq_true, Bool.not_eq_true', Bool.not_eq_false'] at *; omega))) (hb := (by first | omega | (simp only [decide_eq_true_eq, decide_eq_false_iff_not, Bool.or_eq_false_iff, Bool.and_eq_true, Bool.not_eq_true', Bool.not_eq_false'] at *; omega))) (h := ?_)
          refine p_go ?_
          refine p_some ?_
          refine ⟨⟨(by simp (decide := true) only [valsE, evE, upd, cv, args0, argsFrom, List.length_map, ↓reduceIte, hE] <;> rfl), (by simp (decide := true) only [valsO, updO, upd, true_and, and_true, false_and, and_false, ↓reduceIte, hE] <;> rfl)⟩, ⟨i + 1, hlt, by rw [fold_snoc _ _ hlt, leastF, if_neg (by simp at hc32; omega)]; exact eV_, eV_⟩, ?_⟩
          simp (decide := true) only [upd, e18, V.toN, ↓reduceIte]; omega
      · refine p_go ?_
        refine p_r2 (hp := by simp at hc14; simp [hc14, leastL, List.take_of_length_le (show l.length ≤ i by simp at hc19; omega)])
theorem sum (m : Int) (l : List Int) (hl : l.length ≤ 17592186044416) : FnC Tryz.prog 139 [iV m, .sl 3 (l.map iV)] (fun r => r = .tup [iV (if checksE m l = 0 then sumL m 0 l else 0), iV (checksE m l)]) := by
  refine FnC.of (fn := Tryz.f139) ⟨Tryz.func139, by kernel_rfl, rfl⟩ Tryz.ntmps139 (by simp) fun w0 S0 => ?_
  refine p_go fun hf => ?_
  refine p_call (hx := rfl) (hb := ⟨Tryz.func159, by kernel_rfl, rfl⟩) (hf := checks m l hl) (h := ?_)
  refine p_go ?_
  refine p_splitC (s := 14) (ht := fun hc14 => ?_) (hf := fun hc14 => ?_)
  · refine p_go ?_
    refine p_r2 (hp := by simp at hc14; simp [hc14])
  · have hgood := checksE_ok (by simpa using hc14)
    refine p_go ?_
    refine p_loopK [0, 16, 17] [] (fun st => ∃ (i : Nat) (n : Int), (i ≤ l.length) ∧ (0 ≤ n ∧ n ≤ m) ∧ (sumL m 0 l = sumL m n (l.drop i)) ∧ st.env 7 = iV n ∧ st.env 18 = iV i) (fun st => l.length - (st.env 18).toN) ?_ fun e ob g1 hK hO hI => ?_
    · exact ⟨0, 0, by omega, ⟨by omega, hgood.1.1⟩, rfl, eV_, eV_⟩
    · obtain ⟨i, n, hi, hn, hs, e7, e18⟩ := hI
      dsimp only at e7 e18
      simp only [valsE, List.cons.injEq, and_true] at hK
      have hE := (⟨hK, e7, e18⟩ : _ ∧ _ ∧ _)
      refine p_go ?_
      refine p_splitC (s := 19) (ht := fun hc19 => ?_) (hf := fun hc19 => ?_)
      · have hlt : i < l.length := by simpa using hc19
        have hci := hgood.2.1 _ (List.getElem_mem hlt)
        refine p_go fun hf => ?_
        refine p_idxMap (j := i) (ht := Tryz.underlying26) (hi := F.ti3.h) (hij := rfl) (hj := hlt) (h := ?_)
        refine p_go ?_
        refine p_splitC (s := 23) (ht := fun hc23 => ?_) (hf := fun hc23 => ?_)
        · refine p_go ?_
          refine p_r2 (hp := by have h0 := hgood.2.2; rw [if_pos h0, h0, hs, List.drop_eq_getElem_cons hlt, sumL, if_pos (by simpa using hc23)])
        · refine p_go fun hf => ?_
          refine p_add (r := n + l[i]) (hr := (by first | omega | (simp only [decide_eq_true_eq, decide_eq_false_iff_not, Bool.or_eq_false_iff, Bool.and_eq_true, Bool.not_eq_true', Bool.not_eq_false'] at *; omega))) (hb := (by first | omega | (simp only [decide_eq_true_eq, decide_eq_false_iff_not, Bool.or_eq_false_iff, Bool.and_eq_true, Bool.not_eq_true', Bool.not_eq_false'] at *; omega))) (h := ?_)
          refine p_go fun hf => ?_
          refine p_min (h := ?_)
          refine p_go fun hf => ?_
          refine p_add (r := ((i + 1 : Nat) : Int)) (hr := (by first | omega | (simp only [decide_eq_true_eq, decide_eq_false_iff_not, Bool.or_eq_false_iff, Bool.and_eq_true, Bool.not_eq_true', Bool.not_eq_false'] at *; omega))) (hb := (by first | omega | (simp only [decide_eq_true_eq, decide_eq_false_iff_not, Bool.or_eq_false_iff, Bool.and_eq_true, Bool.not_eq_true', Bool.not_eq_false'] at *; omega))) (h := ?_)
          refine p_go ?_
          refine p_some ?_
          have hd := List.drop_eq_getElem_cons hlt
          refine ⟨⟨(by simp (decide := true) only [valsE, evE, upd, cv, args0, argsFrom, List.length_map, ↓reduceIte, hE] <;> rfl), (by simp (decide := true) only [valsO, updO, upd, true_and, and_true, false_and, and_false, ↓reduceIte, hE] <;> rfl)⟩, ⟨i + 1, min (n + l[i]) m, hlt, by simp at hc23; omega, by rw [hs, hd, sumL, if_neg (by simpa using hc23)], by rw [min_is]; exact eV_, eV_⟩, ?_⟩
          simp (decide := true) only [upd, e18, V.toN, ↓reduceIte]; omega
      · have hge : l.length ≤ i := by simp at hc19; omega
        refine p_go ?_
        refine p_r2 (hp := by have h0 := hgood.2.2; rw [if_pos h0, h0, hs, List.drop_eq_nil_of_le hge, sumL])
end Go.Proofs.YtfpljljjjgicaaaGreatDoor
