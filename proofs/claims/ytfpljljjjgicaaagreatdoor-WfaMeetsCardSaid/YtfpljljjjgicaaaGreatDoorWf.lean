/-
  bits.Next and facts.makes: loops over functions.
-/
import Derived.Test.YtfpljljjjgicaaaGreatDoorWe
set_option maxHeartbeats 4000000
set_option linter.unusedSimpArgs false
set_option linter.unusedVariables false
namespace Go.Proofs.YtfpljljjjgicaaaGreatDoor
open Go.RowKit
attribute [local irreducible] Wk Tr
def upB (s : BitVec 64) (frm : Int) : BitVec 64 := (s >>> (max frm 0).toNat) <<< (max frm 0).toNat
def nextR (s : BitVec 64) (frm : Int) : Int × Bool := if 64 ≤ frm then (0, false) else if upB s frm = 0 then (0, false) else ((lowB (upB s frm) : Nat), true)
theorem max_wrap {n : Int} (h : n < 64) : IntKind.u64.wrap (if n < 0 then 0 else n) = (((max n 0).toNat : Nat) : Int) := by
  rw [wrapu (by split <;> omega) (by split <;> omega)]
  congr 2; split <;> omega

theorem upB_bit (s : BitVec 64) (k j : Nat) (hj : j < 64) : (upB s k).getLsbD j = (decide (k ≤ j) && s.getLsbD j) := by
  have h : (max (k : Int) 0).toNat = k := by omega
  rw [upB, h, BitVec.getLsbD_shiftLeft, BitVec.getLsbD_ushiftRight]
  by_cases hk : k ≤ j
  · simp [hk, hj, show ¬ j < k by omega]
  · simp [hk, hj, show j < k by omega]
theorem nextR_true {s : BitVec 64} {k : Nat} {i : Int} (h : nextR s k = (i, true)) : ∃ i' : Nat, i = i' ∧ k ≤ i' ∧ i' < 64 ∧ s.getLsbD i' = true ∧ ∀ j, k ≤ j → j < i' → s.getLsbD j = false := by
  unfold nextR at h
  split at h
  · cases h
  · split at h
    · cases h
    · rename_i h0 h1
      cases h
      obtain ⟨h2, h3, h4⟩ := lowB_spec h1
      rw [upB_bit s k _ h2, Bool.and_eq_true, decide_eq_true_eq] at h3
      refine ⟨_, rfl, h3.1, h2, h3.2, fun j hj hlt => ?_⟩
      have := h4 j hlt
      rw [upB_bit s k j (by omega)] at this
      simpa [hj] using this
theorem nextR_false {s : BitVec 64} {k : Nat} {i : Int} (h : nextR s k = (i, false)) : ∀ j, k ≤ j → s.getLsbD j = false := by
  intro j hj
  by_cases hj64 : j < 64
  · unfold nextR at h
    split at h
    · omega
    · split at h
      · rename_i h0 h1
        have := upB_bit s k j hj64
        rw [h1] at this
        simpa [hj] using this.symm
      · cases h
  · exact BitVec.getLsbD_of_ge s j (by omega)
/-- What a transformer makes of a set's things below k. -/
def foldS (f : Fct) (s : BitVec 64) (k : Nat) : BitVec 64 := (List.range k).foldl (fun o i => if s.getLsbD i = true then o ||| f.rows.getD i 0 else o) f.gen
def makesF (f : Fct) (s : BitVec 64) : BitVec 64 := foldS f s 64
theorem foldS_succ (f : Fct) (s : BitVec 64) (k : Nat) : foldS f s (k + 1) = if s.getLsbD k = true then foldS f s k ||| f.rows.getD k 0 else foldS f s k := range_fold _ _ _
theorem foldS_skip {f : Fct} {s : BitVec 64} {k i : Nat} (hki : k ≤ i) (h : ∀ j, k ≤ j → j < i → s.getLsbD j = false) : foldS f s i = foldS f s k := by
  induction i with
  | zero => rw [show k = 0 by omega]
  | succ i ih =>
    by_cases hk : k = i + 1
    · rw [hk]
    · rw [foldS_succ, h i (by omega) (by omega)]
      exact ih (by omega) fun j h1 h2 => h j h1 (by omega)
theorem foldS_all {f : Fct} {s : BitVec 64} {k : Nat} (hk : k ≤ 64) (h : ∀ j, k ≤ j → s.getLsbD j = false) : makesF f s = foldS f s k := foldS_skip hk fun j h1 _ => h j h1
def stepMu (st : St) : Nat := match st.env 4 with
  | .bool true => 65 - (st.env 3).toN
  | _ => 0
theorem stepMu_is {e : Nat → V} {ob : Nat → Nat → Ob} {g : Nat} {i : Int} {ok : Bool} (h3 : e 3 = iV i) (h4 : e 4 = .bool ok) : stepMu ⟨e, ob, g⟩ = if ok then 65 - i.toNat else 0 := by
  simp only [stepMu, h3, h4]
  cases ok <;> rfl
theorem mu_less {s : BitVec 64} {i : Nat} (hi : i < 64) : (if (nextR s ((i + 1 : Nat) : Int)).2 then 65 - (nextR s ((i + 1 : Nat) : Int)).1.toNat else 0) < 65 - i := by
  rcases h : nextR s ((i + 1 : Nat) : Int) with ⟨j, ok⟩
  cases ok with
  | false => simp; omega
  | true => obtain ⟨j', rfl, h1, _⟩ := nextR_true h; simp; omega

theorem next (s : BitVec 64) (frm : Int) : FnC Tryz.prog 177 [bV s, iV frm] (fun r => r = .tup [iV (nextR s frm).1, .bool (nextR s frm).2]) := by
  refine FnC.of (fn := Tryz.f177) ⟨Tryz.func177, by kernel_rfl, rfl⟩ Tryz.ntmps177 (by simp) fun w0 S0 => ?_
  refine p_go ?_
  refine p_splitC (s := 8) (ht := fun hc8 => ?_) (hf := fun hc8 => ?_)
  · refine p_go ?_
    refine p_r2 (hp := by simp at hc8; simp [nextR, hc8])
  · refine p_go fun hf => ?_
    refine p_max (h := ?_)
    refine p_conv (hs := Tryz.underlying3) (ht := Tryz.underlying123) (h := ?_)
    refine p_shrB (n := (max frm 0).toNat) (hq := max_wrap (by simpa using hc8)) (h := ?_)
    refine p_go fun hf => ?_
    refine p_max (h := ?_)
    refine p_conv (hs := Tryz.underlying3) (ht := Tryz.underlying123) (h := ?_)
    refine p_shlB (n := (max frm 0).toNat) (hq := max_wrap (by simpa using hc8)) (h := ?_)
    refine p_enter (hb := ⟨Tryz.func179, by kernel_rfl, rfl⟩) (hnt := Tryz.ntmps179) (h := fun a0 => ?_)
    refine p_go ?_
    refine p_retE1 (v := .fn 180 [.ptr (0 + 1 + 1 + 1 + 1) 1 0]) rfl eV_ ?_
    refine p_go ?_
    refine p_range (hb := ⟨Tryz.func180, by kernel_rfl, rfl⟩) (hnt := Tryz.ntmps180) (h := fun a1 a2 => ?_)
    refine p_go ?_
    refine p_once ?_
    refine p_go ?_
    refine p_cond (ht := fun hc => ?_) (hf := fun hc => ?_)
    · refine p_go fun hf => ?_
      refine p_call (hb := ⟨Tryz.func181, by kernel_rfl, rfl⟩) (hf := ctz _) (h := ?_)
      refine p_yield (h := fun a3 b3 => ?_)
      refine p_go ?_
      refine p_beg (h := ?_)
      refine p_go ?_
      refine p_rndR ?_
      refine p_yldK (h := ?_)
      refine p_go ?_
      refine p_retE0' rfl ?_
      refine p_rngJ (h := ?_)
      refine p_go ?_
      refine p_r2 (hp := by have h1 : ¬ (64 ≤ frm) := (by simpa using hc8); have h2 : ¬ upB s frm = 0 := (by simpa [upB] using hc); simp only [nextR, if_neg h1, if_neg h2]; rfl)
    · refine p_go ?_
      refine p_retE0 rfl ?_
      refine p_rngN (h := ?_)
      refine p_go ?_
      refine p_r2 (hp := by have h1 : ¬ (64 ≤ frm) := (by simpa using hc8); have h2 : upB s frm = 0 := (by simpa [upB] using hc); simp only [nextR, if_neg h1, if_pos h2])

theorem makes (f : Fct) (s : BitVec 64) (hl : f.rows.length ≤ 64) (hs : ∀ i, s.getLsbD i = true → i < f.rows.length) : FnC Tryz.prog 167 [fctV f, bV s] (fun r => r = bV (makesF f s)) := by
  refine FnC.of (fn := Tryz.f167) ⟨Tryz.func167, by kernel_rfl, rfl⟩ Tryz.ntmps167 (by simp) fun w0 S0 => ?_
  refine p_go fun hf => ?_
  refine p_enter (hb := ⟨Tryz.func172, by kernel_rfl, rfl⟩) (hnt := Tryz.ntmps172) (h := fun a0 => ?_)
  refine p_go ?_
  refine p_retE1 (v := .fn 176 [.ptr (0 + 1 + 1 + 1 + 1) 1 0]) rfl eV_ ?_
  refine p_go ?_
  refine p_range (hb := ⟨Tryz.func176, by kernel_rfl, rfl⟩) (hnt := Tryz.ntmps176) (h := fun a1 a2 => ?_)
  refine p_go fun hf => ?_
  refine p_call (hb := ⟨Tryz.func177, by kernel_rfl, rfl⟩) (hf := next s 0) (h := ?_)
  refine p_go ?_
  refine p_loopK [0, 1] [(0 + 1 + 1 + 1 + 1 + 1 + 1, 0), (0 + 1 + 1 + 1 + 1, 1), (0 + 1, 2)] (fun st => ∃ (k : Nat) (i : Int) (ok : Bool), k ≤ 64 ∧ nextR s k = (i, ok) ∧ st.env 3 = iV i ∧ st.env 4 = .bool ok ∧ st.obj (0 + 1 + 1) 5 = .cells 30 [bV (foldS f s k)]) stepMu ?_ fun e ob g1 hK hO hI => ?_
  · exact ⟨0, _, _, by omega, rfl, eV_, eV_, oB_⟩
  · obtain ⟨k, i, ok, hk, hnx, e3, e4, o5⟩ := hI
    dsimp only at e3 e4 o5
    simp only [valsE, List.cons.injEq, and_true] at hK
    simp only [valsO, List.cons.injEq, and_true] at hO
    have hE := (⟨hK, hO, e3, e4, o5⟩ : _ ∧ _ ∧ _ ∧ _ ∧ _)
    refine p_go ?_
    refine p_cond (ht := fun hc => ?_) (hf := fun hc => ?_)
    · subst hc
      obtain ⟨i', rfl, h1, h2, h3, h4⟩ := nextR_true hnx
      have hlt := hs i' h3
      refine p_go fun hf => ?_
      refine p_yield (h := fun a3 b3 => ?_)
      refine p_go ?_
      refine p_beg (h := ?_)
      refine p_go fun hf => ?_
      refine p_idxMap (j := i') (ht := Tryz.underlying31) (hi := F.ti30.h) (hij := rfl) (hj := hlt) (h := ?_)
      refine p_go ?_
      refine p_rndN ?_
      refine p_yldK (h := ?_)
      refine p_go fun hf => ?_
      refine p_add (r := ((i' + 1 : Nat) : Int)) (hr := by omega) (hb := by omega) (h := ?_)
      refine p_call (hb := ⟨Tryz.func177, by kernel_rfl, rfl⟩) (hf := next s ((i' + 1 : Nat) : Int)) (h := ?_)
      refine p_go ?_
      refine p_some ?_
      refine ⟨⟨(by simp (decide := true) only [valsE, evE, upd, cv, args0, argsFrom, List.length_map, ↓reduceIte, hE] <;> rfl), (by simp (decide := true) only [valsO, updO, upd, true_and, and_true, false_and, and_false, ↓reduceIte, hE] <;> rfl)⟩, ⟨i' + 1, _, _, h2, rfl, eV_, eV_, by rw [foldS_succ, if_pos h3, foldS_skip h1 h4, getD_at hlt]; exact oB_⟩, ?_⟩
      rw [stepMu_is (i := (nextR s ((i' + 1 : Nat) : Int)).1) (ok := (nextR s ((i' + 1 : Nat) : Int)).2) eV_ eV_, stepMu_is e3 e4]
      exact mu_less h2
    · subst hc
      refine p_go ?_
      refine p_retE0 rfl ?_
      refine p_rngN (h := ?_)
      refine p_go ?_
      refine p_ret1 (hp := by rw [foldS_all hk (nextR_false hnx)])

def extF (n : Int) (a b : Fct) : Fct := canonF ⟨makesF b a.gen, (List.range n.toNat).map fun i => makesF b (a.rows.getD i 0)⟩
theorem outB_bits {n : Int} {s : BitVec 64} (hn : 0 ≤ n) (h : outB n s = false) : ∀ i, s.getLsbD i = true → (i : Int) < n := by
  intro i hi
  have h1 : s &&& ~~~(fullB n) = 0 := by simpa [outB] using h
  have hi64 : i < 64 := BitVec.lt_of_getLsbD hi
  have h2 := congrArg (fun x : BitVec 64 => x.getLsbD i) h1
  simp only [BitVec.getLsbD_and, hi, BitVec.getLsbD_not, hi64, decide_true, Bool.true_and, fullB_bit n i hi64 hn] at h2
  simpa using h2

theorem fextend (n : Int) (a b : Fct) (hn : -9223372036854775808 ≤ n ∧ n ≤ 9223372036854775807) (ha : a.rows.length ≤ 17592186044416) (hb : b.rows.length ≤ 17592186044416) : FnC Tryz.prog 140 [iV n, fctV a, fctV b] (fun r => r = .tup [fctV (if checkedF n [a, b] = 0 then extF n a b else ⟨0, []⟩), iV (checkedF n [a, b])]) := by
  refine FnC.of (fn := Tryz.f140) ⟨Tryz.func140, by kernel_rfl, rfl⟩ Tryz.ntmps140 (by simp) fun w0 S0 => ?_
  refine p_go fun hf => ?_
  refine p_buildSlice (ht := Tryz.underlying194) (hi := F.ti33.h) (h := ?_)
  refine p_callRow (vs := [iV n, .sl 33 ([a, b].map fctV)]) (0 + 1 + 1) 14 (hb := ⟨Tryz.func160, by kernel_rfl, rfl⟩) (hvs := by simp [V.frz]) (hf := fchecked n [a, b] hn (by simp) (by simp; exact ⟨ha, hb⟩)) (h := ?_)
  refine p_go ?_
  refine p_splitC (s := 17) (ht := fun hc17 => ?_) (hf := fun hc17 => ?_)
  · refine p_go fun hf => ?_
    refine p_build (hi := F.ti33.h) (hpl := F.pl33.h) (h := ?_)
    refine p_go ?_
    refine p_cellNil (g1 := 0 + 1) (d1 := 6) (i := 1) (el := 30) (h := ?_)
    refine p_r2 (hp := by simp at hc17; simp [hc17])
  · have h0 : checkedF n [a, b] = 0 := by simpa using hc17
    have hA := checkF_ok (checkedF_two h0).1
    have hB := checkF_ok (checkedF_two h0).2
    have hA1 := hA.2.1
    have hB1 := hB.2.1
    have hN := hA.1
    refine p_go fun hf => ?_
    refine p_call (hx := rfl) (hb := ⟨Tryz.func167, by kernel_rfl, rfl⟩) (hf := makes b a.gen (by omega) fun i hi => by have := outB_bits hN.1 hA.2.2.1 i hi; omega) (h := ?_)
    refine p_go fun hf => ?_
    refine p_make (n := n.toNat) (ht := Tryz.underlying31) (hi := F.ti30.h) (hz := rfl) (hzv := rfl) (hro := rfl) (hx := by rw [show ((n.toNat : Nat) : Int) = n by omega]; exact eV_) (hb := by omega) (h63 := by omega) (h := ?_)
    refine p_build (hi := F.ti33.h) (hpl := F.pl33.h) (h := ?_)
    refine p_go ?_
    refine p_loopK [4, 5, 6, 9, 29] [(0 + 1, 4), (0 + 1, 5), (0 + 1, 6), (0 + 1 + 1 + 1 + 1, 9)] (fun st => ∃ i : Nat, (i ≤ n.toNat) ∧ st.env 30 = iV i ∧ st.obj (0 + 1 + 1 + 1 + 1) 25 = .row 30 ((List.range n.toNat).map fun j => bV (if j < i then makesF b (a.rows.getD j 0) else 0))) (fun st => n.toNat - (st.env 30).toN) ?_ fun e ob g1 hK hO hI => ?_
    · exact ⟨0, by omega, eV_, by refine Eq.trans oB_ ?_; exact congrArg _ (fill_start bV (fun j => makesF b (a.rows.getD j 0)) 0 _)⟩
    · obtain ⟨i, hi, e30, o25⟩ := hI
      dsimp only at e30 o25
      simp only [valsE, List.cons.injEq, and_true] at hK
      simp only [valsO, List.cons.injEq, and_true] at hO
      have hE := (⟨hK, hO, e30, o25⟩ : _ ∧ _ ∧ _ ∧ _)
      refine p_go ?_
      refine p_splitC (s := 31) (ht := fun hc31 => ?_) (hf := fun hc31 => ?_)
      · have hlt : i < n.toNat := by have := hc31; simp at this; omega
        have hla : i < a.rows.length := by omega
        refine p_go fun hf => ?_
        refine p_idxMap (j := i) (ht := Tryz.underlying31) (hi := F.ti30.h) (hij := rfl) (hj := hla) (h := ?_)
        refine p_go fun hf => ?_
        refine p_call (hx := rfl) (hb := ⟨Tryz.func167, by kernel_rfl, rfl⟩) (hf := makes b a.rows[i] (by omega) fun k hk => by have := outB_bits hN.1 (hA.2.2.2.1 _ (List.getElem_mem hla)) k hk; omega) (h := ?_)
        refine p_idxRowN (i) (ht := Tryz.underlying31) (hi := F.ti30.h) (hij := rfl) (hlt := hlt) (h := ?_)
        refine p_storeRowF (f' := fun j => bV (if j < i + 1 then makesF b (a.rows.getD j 0) else 0)) F.ti30.h (TI.cells F.ti30.h) (hlt := hlt) (hf := fun j _ => fill_next bV (fun j => makesF b (a.rows.getD j 0)) 0 i j (by simp only [getD_at hla])) (h := ?_)
        refine p_go fun hf => ?_
        refine p_add (r := ((i + 1 : Nat) : Int)) (hr := (by first | omega | (simp only [decide_eq_true_eq, decide_eq_false_iff_not, Bool.or_eq_false_iff, Bool.and_eq_true, Bool.not_eq_true', Bool.not_eq_false'] at *; omega))) (hb := (by first | omega | (simp only [decide_eq_true_eq, decide_eq_false_iff_not, Bool.or_eq_false_iff, Bool.and_eq_true, Bool.not_eq_true', Bool.not_eq_false'] at *; omega))) (h := ?_)
        refine p_go ?_
        refine p_some ?_
        refine ⟨⟨(by simp (decide := true) only [valsE, evE, upd, cv, args0, argsFrom, List.length_map, ↓reduceIte, hE] <;> rfl), (by simp (decide := true) only [valsO, updO, upd, true_and, and_true, false_and, and_false, ↓reduceIte, hE] <;> rfl)⟩, ⟨i + 1, hlt, eV_, oB_⟩, ?_⟩
        simp (decide := true) only [upd, e30, V.toN, ↓reduceIte]; omega
      · have hge : n.toNat ≤ i := by have := hc31; simp at this; omega
        refine p_freeze (g1 := (0 + 1 + 1 + 1 + 1)) (d1 := 25) (h := ?_)
        refine p_cellSl (g1 := (0 + 1 + 1 + 1 + 1)) (d1 := 9) (i := 1) (hn := by simp) (h := ?_)
        rw [fill_done bV (fun j => makesF b (a.rows.getD j 0)) 0 hge]
        refine p_go fun hf => ?_
        refine p_call (hx := rfl) (hb := ⟨Tryz.func161, by kernel_rfl, rfl⟩) (hf := canon ⟨makesF b a.gen, (List.range n.toNat).map (fun j => makesF b (a.rows.getD j 0))⟩ (by simp; omega)) (h := ?_)
        refine p_go ?_
        refine p_r2 (hp := by rw [if_pos h0, h0, extF])

end Go.Proofs.YtfpljljjjgicaaaGreatDoor
