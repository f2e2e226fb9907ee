/-
  The reference's facts answer as package facts.
-/
import Derived.Test.YtfpljljjjgicaaaGreatDoorWu
set_option maxHeartbeats 4000000
set_option linter.unusedSimpArgs false
set_option linter.unusedVariables false
namespace Go.Proofs.YtfpljljjjgicaaaGreatDoor
open Go.RowKit
attribute [local irreducible] Wk Tr
theorem not_outB {n : Int} {s : BitVec 64} : decide (s &&& ~~~(fullB n) = 0) = !outB n s := by simp [outB]
theorem shaped_30 {n : Int} {f : Fct} (hd : badN n = false) (h : shapedE n f ≠ 0) : shapedE n f = 30 := by
  have h2 : shapedE n f = if decide ((f.rows.length : Int) ≠ n) || outB n f.gen then 30 else if f.rows.any (outB n) then 30 else 0 := by rw [shapedE, hd]; rfl
  rw [h2] at h ⊢
  by_cases h1 : (decide ((f.rows.length : Int) ≠ n) || outB n f.gen) = true
  · rw [if_pos h1]
  · rw [if_neg h1] at h ⊢
    by_cases h3 : f.rows.any (outB n) = true
    · rw [if_pos h3]
    · rw [if_neg h3] at h; exact absurd rfl h
theorem full03 {n : Int} (h : badN n = false) : FnC Tryz.prog 168 [iV n] (fun r => r = .tup [bV (fullB n), iV 0]) := by
  have := full01 n
  rw [h] at this
  exact this
theorem or03 (a b : BitVec 64) : FnC Tryz.prog 129 [bV a, bV b] (fun r => r = bV (a ||| b)) := by
  refine FnC.of (fn := Tryz.f129) ⟨Tryz.func129, by kernel_rfl, rfl⟩ Tryz.ntmps129 (by simp) fun w0 S0 => ?_
  refine p_go ?_
  refine p_ret1 (hp := by rfl)
theorem inside03 (n : Int) (s : BitVec 64) (h : badN n = false) : FnC Tryz.prog 144 [iV n, bV s] (fun r => r = .bool (!outB n s)) := by
  refine FnC.of (fn := Tryz.f144) ⟨Tryz.func144, by kernel_rfl, rfl⟩ Tryz.ntmps144 (by simp) fun w0 S0 => ?_
  refine p_go fun hf => ?_
  refine p_call (hx := rfl) (hb := ⟨Tryz.func168, by kernel_rfl, rfl⟩) (hf := full03 h) (h := ?_)
  refine p_go ?_
  refine p_ret1 (hp := by rw [← not_outB]; rfl)
theorem dim03 (n : Int) : FnC Tryz.prog 142 [iV n] (fun r => r = .bool (!badN n)) := by
  refine FnC.of (fn := Tryz.f142) ⟨Tryz.func142, by kernel_rfl, rfl⟩ Tryz.ntmps142 (by simp) fun w0 S0 => ?_
  refine p_go ?_
  refine p_ret1 (hp := by rw [show (!badN n) = (decide (0 ≤ n) && decide (n ≤ 64)) by (by_cases h1 : 0 ≤ n <;> by_cases h2 : n ≤ 64 <;> simp [badN, h1, h2] <;> omega)])
theorem same03 (a b : Fct) (ha : a.rows.length ≤ 17592186044416) (hb : b.rows.length ≤ 17592186044416) : FnC Tryz.prog 48 [fctV a, fctV b] (fun r => r = .bool (decide (a = b))) := by
  refine FnC.of (fn := Tryz.f48) ⟨Tryz.func48, by kernel_rfl, rfl⟩ Tryz.ntmps48 (by simp) fun w0 S0 => ?_
  refine p_go ?_
  refine p_splitC (s := 19) (ht := fun hc19 => ?_) (hf := fun hc19 => ?_)
  · refine p_go ?_
    refine p_ret1 (hp := by cases a; cases b; simp at hc19; simp; intro h1 h2; subst h1; subst h2; simp at hc19)
  · have h19 : a.gen = b.gen ∧ a.rows.length = b.rows.length := by (simp at hc19; exact ⟨hc19.1, by omega⟩)
    refine p_go ?_
    refine p_loopK [2, 3] [(0 + 1, 2), (0 + 1, 3)] (fun st => ∃ i : Nat, (i ≤ a.rows.length) ∧ (∀ j, j < i → a.rows[j]? = b.rows[j]?) ∧ st.env 5 = iV i) (fun st => a.rows.length - (st.env 5).toN) ?_ fun e ob g1 hK hO hI => ?_
    · exact ⟨0, by omega, fun j h => absurd h (by omega), eV_⟩
    · obtain ⟨i, hi, hs, e5⟩ := hI
      dsimp only at e5
      simp only [valsE, List.cons.injEq, and_true] at hK
      simp only [valsO, List.cons.injEq, and_true] at hO
      have hE := (⟨hK, hO, e5⟩ : _ ∧ _ ∧ _)
      refine p_go ?_
      refine p_splitC (s := 24) (ht := fun hc24 => ?_) (hf := fun hc24 => ?_)
      · have hlt : i < a.rows.length := by simpa using hc24
        have hlt2 : i < b.rows.length := by omega
        refine p_go fun hf => ?_
        refine p_idxMap (j := i) (ht := Tryz.underlying31) (hi := F.ti30.h) (hij := rfl) (hj := hlt) (h := ?_)
        refine p_go fun hf => ?_
        refine p_idxMap (j := i) (ht := Tryz.underlying31) (hi := F.ti30.h) (hij := rfl) (hj := hlt2) (h := ?_)
        refine p_go ?_
        refine p_splitC (s := 37) (ht := fun hc37 => ?_) (hf := fun hc37 => ?_)
        · refine p_go ?_
          refine p_ret1 (hp := by have h37 : a.rows[i] ≠ b.rows[i] := (by simpa using hc37); have h1 : a ≠ b := (fun h => ne_at hlt hlt2 h37 (by rw [h])); simp [h1])
        · have h37 : a.rows[i] = b.rows[i] := by simpa using hc37
          refine p_go fun hf => ?_
          refine p_add (r := ((i + 1 : Nat) : Int)) (hr := (by first | omega | (simp only [decide_eq_true_eq, decide_eq_false_iff_not, Bool.or_eq_false_iff, Bool.and_eq_true, Bool.not_eq_true', Bool.not_eq_false'] at *; omega))) (hb := (by first | omega | (simp only [decide_eq_true_eq, decide_eq_false_iff_not, Bool.or_eq_false_iff, Bool.and_eq_true, Bool.not_eq_true', Bool.not_eq_false'] at *; omega))) (h := ?_)
          refine p_go ?_
          refine p_some ?_
          refine ⟨⟨(by simp (decide := true) only [valsE, evE, upd, cv, args0, argsFrom, List.length_map, ↓reduceIte, hE] <;> rfl), (by simp (decide := true) only [valsO, updO, upd, true_and, and_true, false_and, and_false, ↓reduceIte, hE] <;> rfl)⟩, ⟨i + 1, hlt, same_next hlt hlt2 h37 hs, eV_⟩, ?_⟩
          simp (decide := true) only [upd, e5, V.toN, ↓reduceIte]; omega
      · have hge : a.rows.length ≤ i := by simpa using hc24
        refine p_go ?_
        refine p_ret1 (hp := by have h1 := eq_all h19.2 hge hs; have h2 : a = b := (by cases a; cases b; simp at h19 h1; simp [h19, h1]); simp [h2])
theorem shape03 (n : Int) (f : Fct) (h : badN n = false) : FnC Tryz.prog 143 [iV n, fctV f] (fun r => r = .bool (decide (shapedE n f = 0))) := by
  refine FnC.of (fn := Tryz.f143) ⟨Tryz.func143, by kernel_rfl, rfl⟩ Tryz.ntmps143 (by simp) fun w0 S0 => ?_
  have hn : 0 ≤ n ∧ n ≤ 64 := by simp [badN] at h; omega
  refine p_go fun hf => ?_
  refine p_split (s := 11) (ht := fun hb11 => ?_) (hf := fun hb11 => ?_)
  · -- slot 11 is true
    refine p_go ?_
    refine p_ret1 (hp := by simp at hb11; simp [shapedE, h, hb11])
  · -- slot 11 is false
    refine p_go fun hf => ?_
    refine p_call (hx := rfl) (hb := ⟨Tryz.func144, by kernel_rfl, rfl⟩) (hf := inside03 n f.gen h) (h := ?_)
    refine p_go ?_
    refine p_splitC (s := 17) (ht := fun hc17 => ?_) (hf := fun hc17 => ?_)
    · refine p_go ?_
      refine p_ret1 (hp := by simp at hb11 hc17; simp [shapedE, h, hb11, hc17])
    · have h17 : (f.rows.length : Int) = n ∧ outB n f.gen = false := by simp at hb11 hc17; exact ⟨hb11, hc17⟩
      refine p_go ?_
      refine p_loopK [0, 3] [(0 + 1, 3)] (fun st => ∃ i : Nat, (i ≤ f.rows.length) ∧ (∀ j (hj : j < f.rows.length), j < i → outB n f.rows[j] = false) ∧ st.env 5 = iV i) (fun st => f.rows.length - (st.env 5).toN) ?_ fun e ob g1 hK hO hI => ?_
      · exact ⟨0, by omega, fun j hj h => absurd h (by omega), eV_⟩
      · obtain ⟨i, hi, hp, e5⟩ := hI
        dsimp only at e5
        simp only [valsE, List.cons.injEq, and_true] at hK
        simp only [valsO, List.cons.injEq, and_true] at hO
        have hE := (⟨hK, hO, e5⟩ : _ ∧ _ ∧ _)
        refine p_go ?_
        refine p_splitC (s := 20) (ht := fun hc20 => ?_) (hf := fun hc20 => ?_)
        · have hlt : i < f.rows.length := by have := hc20; simp at this; omega
          refine p_go fun hf => ?_
          refine p_idxMap (j := i) (ht := Tryz.underlying31) (hi := F.ti30.h) (hij := rfl) (hj := hlt) (h := ?_)
          refine p_go fun hf => ?_
          refine p_call (hx := rfl) (hb := ⟨Tryz.func144, by kernel_rfl, rfl⟩) (hf := inside03 n f.rows[i] h) (h := ?_)
          refine p_go ?_
          refine p_splitC (s := 30) (ht := fun hc30 => ?_) (hf := fun hc30 => ?_)
          · refine p_go ?_
            refine p_ret1 (hp := by have h1 := any_hit (p := outB n) hlt (by simpa using hc30); simp [shapedE, h, h1])
          · refine p_go fun hf => ?_
            refine p_add (r := ((i + 1 : Nat) : Int)) (hr := (by first | omega | (simp only [decide_eq_true_eq, decide_eq_false_iff_not, Bool.or_eq_false_iff, Bool.and_eq_true, Bool.not_eq_true', Bool.not_eq_false'] at *; omega))) (hb := (by first | omega | (simp only [decide_eq_true_eq, decide_eq_false_iff_not, Bool.or_eq_false_iff, Bool.and_eq_true, Bool.not_eq_true', Bool.not_eq_false'] at *; omega))) (h := ?_)
            refine p_go ?_
            refine p_some ?_
            refine ⟨⟨(by simp (decide := true) only [valsE, evE, upd, cv, args0, argsFrom, List.length_map, ↓reduceIte, hE] <;> rfl), (by simp (decide := true) only [valsO, updO, upd, true_and, and_true, false_and, and_false, ↓reduceIte, hE] <;> rfl)⟩, ⟨i + 1, hlt, none_next (by simpa using hc30) hp, eV_⟩, ?_⟩
            simp (decide := true) only [upd, e5, V.toN, ↓reduceIte]; omega
        · have hge : f.rows.length ≤ i := by have := hc20; simp at this; omega
          have hS := any_not hge hp
          refine p_go ?_
          refine p_ret1 (hp := by simp only [shapedE, h, h17.1, h17.2, hS]; simp)
theorem canon03 (f : Fct) (hl : f.rows.length ≤ 17592186044416) : FnC Tryz.prog 130 [fctV f] (fun r => r = fctV (canonF f)) := by
  refine FnC.of (fn := Tryz.f130) ⟨Tryz.func130, by kernel_rfl, rfl⟩ Tryz.ntmps130 (by simp) fun w0 S0 => ?_
  refine p_go fun hf => ?_
  refine p_build (hi := F.ti33.h) (hpl := F.pl33.h) (h := ?_)
  refine p_go ?_
  refine p_nilCell (g1 := 0 + 1 + 1) (d1 := 3) (i := 1) (el := 30) 26 (h := ?_)
  refine p_loopK [1, 2, 3] [(0 + 1, 1), (0 + 1, 2)] (fun st => ∃ (i r : Nat), (i ≤ f.rows.length) ∧ st.env 4 = iV i ∧ st.obj (0 + 1 + 1) 3 = .cells 33 [bV f.gen, .row r 26 i] ∧ st.obj r 26 = .row 30 (((f.rows.take i).map fun r => r &&& ~~~f.gen).map bV)) (fun st => f.rows.length - (st.env 4).toN) ?_ fun e ob g1 hK hO hI => ?_
  · exact ⟨0, _, by omega, eV_, oB_, oB_⟩
  · obtain ⟨i, r, hi, e4, o3, o26⟩ := hI
    dsimp only at e4 o3 o26
    simp only [valsE, List.cons.injEq, and_true] at hK
    simp only [valsO, List.cons.injEq, and_true] at hO
    have hE := (⟨hK, hO, e4, o3, o26⟩ : _ ∧ _ ∧ _ ∧ _ ∧ _)
    refine p_go ?_
    refine p_splitC (s := 12) (ht := fun hc12 => ?_) (hf := fun hc12 => ?_)
    · have hlt : i < f.rows.length := by simpa using hc12
      refine p_go fun hf => ?_
      refine p_idxMap (j := i) (ht := Tryz.underlying31) (hi := F.ti30.h) (hij := rfl) (hj := hlt) (h := ?_)
      refine p_go fun hf => ?_
      refine p_buildSlice (ht := Tryz.underlying31) (hi := F.ti30.h) (h := ?_)
      refine p_append (k := i + 1) (ht := Tryz.underlying31) (hi := F.ti30.h) (hnl := by simp; omega) (hy := by exact ⟨.inl oB_, rfl⟩) (hm := by simp; omega) (hlim := by omega) (h := ?_)
      refine p_go fun hf => ?_
      refine p_add (r := ((i + 1 : Nat) : Int)) (hr := (by first | omega | (simp only [decide_eq_true_eq, decide_eq_false_iff_not, Bool.or_eq_false_iff, Bool.and_eq_true, Bool.not_eq_true', Bool.not_eq_false'] at *; omega))) (hb := (by first | omega | (simp only [decide_eq_true_eq, decide_eq_false_iff_not, Bool.or_eq_false_iff, Bool.and_eq_true, Bool.not_eq_true', Bool.not_eq_false'] at *; omega))) (h := ?_)
      refine p_go ?_
      refine p_some ?_
      refine ⟨⟨(by simp (decide := true) only [valsE, evE, upd, cv, args0, argsFrom, List.length_map, ↓reduceIte, hE] <;> rfl), (by simp (decide := true) only [valsO, updO, upd, true_and, and_true, false_and, and_false, ↓reduceIte, hE] <;> rfl)⟩, ⟨i + 1, _, hlt, eV_, oB_, by refine Eq.trans oB_ ?_; rw [take_snoc _ hlt, List.map_append]; rfl⟩, ?_⟩
      simp (decide := true) only [upd, e4, V.toN, ↓reduceIte]; omega
    · have hge : f.rows.length ≤ i := by simpa using hc12
      obtain rfl : i = f.rows.length := by omega
      refine p_go ?_
      refine p_freeze (g1 := r) (d1 := 26) (h := ?_)
      refine p_cellSl (g1 := 0 + 1) (d1 := 2) (i := 1) (hn := by simp) (h := ?_)
      refine p_r1 (hp := by rw [List.take_of_length_le hge]; rfl)
theorem check03 (n : Int) (f : Fct) (hl : f.rows.length ≤ 17592186044416) : FnC Tryz.prog 106 [iV n, fctV f] (fun r => r = iV (checkF n f)) := by
  refine FnC.of (fn := Tryz.f106) ⟨Tryz.func106, by kernel_rfl, rfl⟩ Tryz.ntmps106 (by simp) fun w0 S0 => ?_
  refine p_go fun hf => ?_
  refine p_call (hx := rfl) (hb := ⟨Tryz.func142, by kernel_rfl, rfl⟩) (hf := dim03 n) (h := ?_)
  refine p_go ?_
  refine p_splitC (s := 7) (ht := fun hc7 => ?_) (hf := fun hc7 => ?_)
  · have hd : badN n = true := by simpa using hc7
    refine p_go ?_
    refine p_ret1 (hp := by simp [checkF, shapedE, hd])
  · have hd : badN n = false := by simpa using hc7
    refine p_go fun hf => ?_
    refine p_call (hx := rfl) (hb := ⟨Tryz.func143, by kernel_rfl, rfl⟩) (hf := shape03 n f hd) (h := ?_)
    refine p_go fun hf => ?_
    refine p_split (s := 12) (ht := fun hb12 => ?_) (hf := fun hb12 => ?_)
    · -- slot 12 is true
      refine p_go ?_
      refine p_ret1 (hp := by have h1 : shapedE n f ≠ 0 := (by simpa using hb12); rw [checkF, if_pos h1, shaped_30 hd h1])
    · -- slot 12 is false
      refine p_go fun hf => ?_
      refine p_call (hx := rfl) (hb := ⟨Tryz.func130, by kernel_rfl, rfl⟩) (hf := canon03 f hl) (h := ?_)
      refine p_go fun hf => ?_
      refine p_call (hx := rfl) (hb := ⟨Tryz.func48, by kernel_rfl, rfl⟩) (hf := same03 (canonF f) f (by simp [canonF]; omega) (by omega)) (h := ?_)
      refine p_go ?_
      refine p_splitC (s := 18) (ht := fun hc18 => ?_) (hf := fun hc18 => ?_)
      · refine p_go ?_
        refine p_ret1 (hp := by have h1 : shapedE n f = 0 := (by simpa using hb12); have h2 : ¬ canonF f = f := (by simpa using hc18); rw [checkF, if_neg (by simp [h1]), if_neg h2])
      · refine p_go ?_
        refine p_ret1 (hp := by have h1 : shapedE n f = 0 := (by simpa using hb12); have h2 : canonF f = f := (by simpa using hc18); rw [checkF, if_neg (by simp [h1]), if_pos h2])
theorem two03 (n : Int) (a b : Fct) (ha : a.rows.length ≤ 17592186044416) (hb : b.rows.length ≤ 17592186044416) : FnC Tryz.prog 128 [iV n, fctV a, fctV b] (fun r => r = iV (checkedF n [a, b])) := by
  refine FnC.of (fn := Tryz.f128) ⟨Tryz.func128, by kernel_rfl, rfl⟩ Tryz.ntmps128 (by simp) fun w0 S0 => ?_
  refine p_go fun hf => ?_
  refine p_call (hx := rfl) (hb := ⟨Tryz.func106, by kernel_rfl, rfl⟩) (hf := check03 n a ha) (h := ?_)
  refine p_go ?_
  refine p_splitC (s := 12) (ht := fun hc12 => ?_) (hf := fun hc12 => ?_)
  · refine p_go ?_
    refine p_ret1 (hp := by have h1 : checkF n a ≠ 0 := (by simpa using hc12); rw [checkedF, if_pos h1])
  · refine p_go fun hf => ?_
    refine p_call (hx := rfl) (hb := ⟨Tryz.func106, by kernel_rfl, rfl⟩) (hf := check03 n b hb) (h := ?_)
    refine p_go ?_
    refine p_ret1 (hp := by have h1 : checkF n a = 0 := (by simpa using hc12); rw [checkedF, if_neg (by simp [h1]), checkedF, checkedF]; by_cases h2 : checkF n b = 0 <;> simp [h2])
theorem combine03 (n : Int) (a b : Fct) (ha : a.rows.length ≤ 17592186044416) (hb : b.rows.length ≤ 17592186044416) : FnC Tryz.prog 97 [iV n, fctV a, fctV b] (fun r => r = .tup [fctV (if checkedF n [a, b] = 0 then combF n a b else ⟨0, []⟩), iV (checkedF n [a, b])]) := by
  refine FnC.of (fn := Tryz.f97) ⟨Tryz.func97, by kernel_rfl, rfl⟩ Tryz.ntmps97 (by simp) fun w0 S0 => ?_
  refine p_go fun hf => ?_
  refine p_call (hx := rfl) (hb := ⟨Tryz.func128, by kernel_rfl, rfl⟩) (hf := two03 n a b ha hb) (h := ?_)
  refine p_go ?_
  refine p_splitC (s := 16) (ht := fun hc16 => ?_) (hf := fun hc16 => ?_)
  · refine p_go fun hf => ?_
    refine p_build (hi := F.ti33.h) (hpl := F.pl33.h) (h := ?_)
    refine p_go ?_
    refine p_cellNil (g1 := 0 + 1) (d1 := 6) (i := 1) (el := 30) (h := ?_)
    refine p_r2 (hp := by simp at hc16; simp [hc16])
  · have h0 : checkedF n [a, b] = 0 := by simpa using hc16
    have hA := checkF_ok (checkedF_two h0).1
    have hB := checkF_ok (checkedF_two h0).2
    have hA1 := hA.2.1
    have hB1 := hB.2.1
    have hN := hA.1
    refine p_go fun hf => ?_
    refine p_call (hx := rfl) (hb := ⟨Tryz.func129, by kernel_rfl, rfl⟩) (hf := or03 a.gen b.gen) (h := ?_)
    refine p_build (hi := F.ti33.h) (hpl := F.pl33.h) (h := ?_)
    refine p_go ?_
    refine p_nilCell (g1 := 0 + 1 + 1 + 1 + 1) (d1 := 9) (i := 1) (el := 30) 44 (h := ?_)
    refine p_loopK [0, 4, 5, 6, 9] [(0 + 1, 4), (0 + 1, 5), (0 + 1, 6)] (fun st => ∃ (i r : Nat), (i ≤ n.toNat) ∧ st.env 10 = iV i ∧ st.obj (0 + 1 + 1 + 1 + 1) 9 = .cells 33 [bV (a.gen ||| b.gen), .row r 44 i] ∧ st.obj r 44 = .row 30 (((List.range i).map fun j => a.rows.getD j 0 ||| b.rows.getD j 0).map bV)) (fun st => n.toNat - (st.env 10).toN) ?_ fun e ob g1 hK hO hI => ?_
    · exact ⟨0, _, by omega, eV_, oB_, oB_⟩
    · obtain ⟨i, r, hi, e10, o9, oR⟩ := hI
      dsimp only at e10 o9 oR
      simp only [valsE, List.cons.injEq, and_true] at hK
      simp only [valsO, List.cons.injEq, and_true] at hO
      have hE := (⟨hK, hO, e10, o9, oR⟩ : _ ∧ _ ∧ _ ∧ _ ∧ _)
      refine p_go ?_
      refine p_splitC (s := 27) (ht := fun hc27 => ?_) (hf := fun hc27 => ?_)
      · have hlt : i < n.toNat := by have := hc27; simp at this; omega
        have hla : i < a.rows.length := by omega
        have hlb : i < b.rows.length := by omega
        refine p_go fun hf => ?_
        refine p_idxMap (j := i) (ht := Tryz.underlying31) (hi := F.ti30.h) (hij := rfl) (hj := hla) (h := ?_)
        refine p_go fun hf => ?_
        refine p_idxMap (j := i) (ht := Tryz.underlying31) (hi := F.ti30.h) (hij := rfl) (hj := hlb) (h := ?_)
        refine p_go fun hf => ?_
        refine p_call (hx := rfl) (hb := ⟨Tryz.func129, by kernel_rfl, rfl⟩) (hf := or03 a.rows[i] b.rows[i]) (h := ?_)
        refine p_buildSlice (ht := Tryz.underlying31) (hi := F.ti30.h) (h := ?_)
        refine p_append (k := i + 1) (ht := Tryz.underlying31) (hi := F.ti30.h) (hnl := by simp) (hy := by exact ⟨.inl oB_, rfl⟩) (hm := by simp) (hlim := by omega) (h := ?_)
        refine p_go fun hf => ?_
        refine p_add (r := ((i + 1 : Nat) : Int)) (hr := (by first | omega | (simp only [decide_eq_true_eq, decide_eq_false_iff_not, Bool.or_eq_false_iff, Bool.and_eq_true, Bool.not_eq_true', Bool.not_eq_false'] at *; omega))) (hb := (by first | omega | (simp only [decide_eq_true_eq, decide_eq_false_iff_not, Bool.or_eq_false_iff, Bool.and_eq_true, Bool.not_eq_true', Bool.not_eq_false'] at *; omega))) (h := ?_)
        refine p_go ?_
        refine p_some ?_
        refine ⟨⟨(by simp (decide := true) only [valsE, evE, upd, cv, args0, argsFrom, List.length_map, ↓reduceIte, hE] <;> rfl), (by simp (decide := true) only [valsO, updO, upd, true_and, and_true, false_and, and_false, ↓reduceIte, hE] <;> rfl)⟩, ⟨i + 1, _, hlt, eV_, oB_, by refine Eq.trans oB_ ?_; rw [List.range_succ, List.map_append, List.map_append]; simp only [List.map_cons, List.map_nil, getD_at hla, getD_at hlb]⟩, ?_⟩
        simp (decide := true) only [upd, e10, V.toN, ↓reduceIte]; omega
      · have hge : n.toNat ≤ i := by have := hc27; simp at this; omega
        obtain rfl : i = n.toNat := by omega
        refine p_freeze (g1 := r) (d1 := 44) (h := ?_)
        refine p_cellSl (g1 := 0 + 1 + 1 + 1 + 1) (d1 := 9) (i := 1) (hn := by simp) (h := ?_)
        refine p_go fun hf => ?_
        refine p_call (hx := rfl) (hb := ⟨Tryz.func130, by kernel_rfl, rfl⟩) (hf := canon03 ⟨a.gen ||| b.gen, (List.range n.toNat).map fun j => a.rows.getD j 0 ||| b.rows.getD j 0⟩ (by simp; omega)) (h := ?_)
        refine p_go ?_
        refine p_r2 (hp := by rw [if_pos h0, h0, combF])
end Go.Proofs.YtfpljljjjgicaaaGreatDoor
