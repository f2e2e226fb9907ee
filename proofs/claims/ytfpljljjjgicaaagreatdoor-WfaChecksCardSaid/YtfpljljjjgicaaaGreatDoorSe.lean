/-
  Sorting places: parting about a pivot.
-/
import Derived.Test.YtfpljljjjgicaaaGreatDoorSbd
set_option maxHeartbeats 4000000
set_option linter.unusedSimpArgs false
set_option linter.unusedVariables false
namespace Go.Proofs.YtfpljljjjgicaaaGreatDoor
open Go.RowKit
attribute [local irreducible] Wk Tr
theorem parts (c : Pl → Pl → Int) (cf : FuncId) (cfn : Func) (ccode : Code) (hcf : HasBody Tryz.prog cf cfn ccode) (hcnt : ∀ x y, FnC Tryz.prog cf [plV x, plV y] (fun r => r = iV (c x y))) (L : List Pl) (q : Nat) (a b p : Nat) (hp1 : a ≤ p) (hp2 : p < b) (hb : b ≤ L.length) (hl : L.length ≤ 17592186044416) : FnQ Tryz.prog 123 [.row q 900 L.length, iV a, iV b, iV p, .fn cf []] [(q, 900)] [.row 102 (L.map plV)] (fun r us' => ∃ (m : Nat) (w : Bool) (M : List Pl), r = .tup [iV m, .bool w] ∧ us' = [.row 102 (M.map plV)] ∧ Parted c a b m L M) := by
  refine FnQ.of (fn := Tryz.f123) ⟨Tryz.func123, by kernel_rfl, rfl⟩ Tryz.ntmps123 (by simp) fun w0 S0 l ob0 g0 K hrow hgl hK0 => ?_
  simp only [valsO, List.cons.injEq, and_true] at hrow
  simp only [List.mem_cons, List.not_mem_nil, or_false, forall_eq_or_imp, forall_eq, forall_const] at hgl
  have hE := hrow
  refine p_goJ fun hf => ?_
  refine p_idxRowN (p) (ht := Tryz.underlying100) (hi := F.ti102.h) (hij := by omega) (hlt := by omega) (h := ?_)
  refine p_loadRowAM (ht := F.agg102.h) (hi := F.ti102.h) (hj := by omega) (h := ?_)
  refine p_goJ fun hf => ?_
  refine p_idxRowN (a) (ht := Tryz.underlying100) (hi := F.ti102.h) (hij := by omega) (hlt := by omega) (h := ?_)
  refine p_loadRowAM (ht := F.agg102.h) (hi := F.ti102.h) (hj := by omega) (h := ?_)
  refine p_idxRowN (a) (ht := Tryz.underlying100) (hi := F.ti102.h) (hij := by omega) (hlt := by omega) (h := ?_)
  refine p_storeRowMA (L[p]) (hi := F.ti102.h) (hc := TI.cells F.ti102.h) (hlt := by omega) (h := ?_)
  refine p_idxRowN (p) (ht := Tryz.underlying100) (hi := F.ti102.h) (hij := by omega) (hlt := by (try simp only [List.length_set]); omega) (h := ?_)
  refine p_storeRowMA (L[a]) (hi := F.ti102.h) (hc := TI.cells F.ti102.h) (hlt := by (try simp only [List.length_set]); omega) (h := ?_)
  refine p_goJ fun hf => ?_
  refine p_add (r := ((a + 1 : Nat) : Int)) (hr := (by first | omega | (simp only [decide_eq_true_eq, decide_eq_false_iff_not, Bool.or_eq_false_iff, Bool.and_eq_true, Bool.not_eq_true', Bool.not_eq_false'] at *; omega))) (hb := (by first | omega | (simp only [decide_eq_true_eq, decide_eq_false_iff_not, Bool.or_eq_false_iff, Bool.and_eq_true, Bool.not_eq_true', Bool.not_eq_false'] at *; omega))) (h := ?_)
  refine p_goJ fun hf => ?_
  refine p_sub (r := ((b - 1 : Nat) : Int)) (hr := by omega) (hb := by omega) (h := ?_)
  refine p_goJ ?_
  obtain ⟨M0, hM0⟩ : ∃ M0, M0 = swp L a p := ⟨_, rfl⟩
  have hI : PartI c a b (a + 1) (b - 1) L M0 := by rw [hM0]; exact PartI.start (by omega) hb hp1 hp2
  have hML := hI.mix.len
  rw [swp_at (by omega) (by omega), ← hM0]
  refine p_joinK [0, 1, 4, 13] [(q, 900)] (fun st => ∃ (i : Nat), (PartI c a b i (b - 1) L M0) ∧ (a + 1 ≤ i) ∧ (i ≤ b - 1 → ¬ c (el M0 i) (el M0 a) < 0) ∧ (LowQ g0 [(q, 900)] ob0 st.obj) ∧ (g0 ≤ st.gen) ∧ st.env 12 = iV i) ?_ fun e ob gJ1 hK hO hI => ?_
  ·
    refine p_goJ ?_
    refine p_loopK [0, 1, 4, 13] [(q, 900)] (fun st => ∃ (i : Nat), (PartI c a b i (b - 1) L M0) ∧ (a + 1 ≤ i) ∧ (LowQ g0 [(q, 900)] ob0 st.obj) ∧ (g0 ≤ st.gen) ∧ st.env 12 = iV i) (fun st => b - (st.env 12).toN) ?_ fun e ob g1 hK hO hI => ?_
    · exact ⟨a + 1, hI, Nat.le_refl _, (by (try dsimp only); repeat (first | exact hlow | exact LowQ.refl | refine LowQ.up ?_ (by omega) | refine LowQ.at_ ?_ (by simp))), (by first | (dsimp only; omega) | omega), eV_⟩
    · obtain ⟨i, hI, hii, hlow, hgen, e12⟩ := hI
      dsimp only at e12
      simp only [valsE, List.cons.injEq, and_true] at hK
      simp only [valsO, List.cons.injEq, and_true] at hO
      have hE := (⟨hK, hO, e12⟩ : _ ∧ _ ∧ _)
      dsimp only at hlow hgen
      have hML := hI.mix.len
      have hi1 := hI.hi
      have hi2 := hI.hij
      have hi3 := hI.hj
      refine p_seq ?_
      refine p_goJ fun hf => ?_
      refine p_split (s := 35) (ht := fun hb35 => ?_) (hf := fun hb35 => ?_)
      · have hle : i ≤ b - 1 := by have h := hb35; simp at h; omega
        refine p_goJ fun hf => ?_
        refine p_idxRowN (i) (ht := Tryz.underlying100) (hi := F.ti102.h) (hij := by omega) (hlt := by omega) (h := ?_)
        refine p_goJ fun hf => ?_
        refine p_loadRowAM (ht := F.agg102.h) (hi := F.ti102.h) (hj := by omega) (h := ?_)
        refine p_goJ fun hf => ?_
        refine p_idxRowN (a) (ht := Tryz.underlying100) (hi := F.ti102.h) (hij := by omega) (hlt := by omega) (h := ?_)
        refine p_goJ fun hf => ?_
        refine p_loadRowAM (ht := F.agg102.h) (hi := F.ti102.h) (hj := by omega) (h := ?_)
        refine p_goJ fun hf => ?_
        refine p_call (hb := hcf) (hf := hcnt (M0[i]) (M0[a])) (h := ?_)
        refine p_goJ ?_
        refine p_splitC (s := 47) (ht := fun hc47 => ?_) (hf := fun hc47 => ?_)
        · have hless : c (el M0 (i)) (el M0 (a)) < 0 := by
            rw [el_at (L := M0) (i := i) (by omega), el_at (L := M0) (i := a) (by omega)]; simpa using hc47
          refine p_goJ fun hf => ?_
          refine p_add (r := ((i + 1 : Nat) : Int)) (hr := (by first | omega | (simp only [decide_eq_true_eq, decide_eq_false_iff_not, Bool.or_eq_false_iff, Bool.and_eq_true, Bool.not_eq_true', Bool.not_eq_false'] at *; omega))) (hb := (by first | omega | (simp only [decide_eq_true_eq, decide_eq_false_iff_not, Bool.or_eq_false_iff, Bool.and_eq_true, Bool.not_eq_true', Bool.not_eq_false'] at *; omega))) (h := ?_)
          refine p_goJ ?_
          refine p_some ?_
          refine ⟨⟨(by simp (decide := true) only [valsE, evE, upd, cv, args0, argsFrom, List.length_map, ↓reduceIte, hE] <;> rfl), (by simp (decide := true) only [valsO, updO, upd, true_and, and_true, false_and, and_false, ↓reduceIte, hE] <;> rfl)⟩, ⟨i + 1, hI.right hless hle, Nat.le_succ_of_le hii, (by (try dsimp only); repeat (first | exact hlow | exact LowQ.refl | refine LowQ.up ?_ (by omega) | refine LowQ.at_ ?_ (by simp))), (by first | (dsimp only; omega) | omega), eV_⟩, ?_⟩
          simp (decide := true) only [upd, e12, V.toN, ↓reduceIte]; omega
        · have hless : ¬ c (el M0 (i)) (el M0 (a)) < 0 := by
            rw [el_at (L := M0) (i := i) (by omega), el_at (L := M0) (i := a) (by omega)]; simpa using hc47
          refine p_goJ ?_
          refine p_some ?_
          refine ⟨⟨(by simp (decide := true) only [valsE, evE, upd, cv, args0, argsFrom, List.length_map, ↓reduceIte, hE] <;> rfl), (by simp (decide := true) only [valsO, updO, upd, true_and, and_true, false_and, and_false, ↓reduceIte, hE] <;> rfl)⟩, i, hI, hii, fun _ => hless, (by (try dsimp only); repeat (first | exact hlow | exact LowQ.refl | refine LowQ.up ?_ (by omega) | refine LowQ.at_ ?_ (by simp))), (by first | (dsimp only; omega) | omega), eV_⟩
      · have hgt : b - 1 < i := by have h := hb35; simp at h; omega
        refine p_goJ ?_
        refine p_some ?_
        refine ⟨⟨(by simp (decide := true) only [valsE, evE, upd, cv, args0, argsFrom, List.length_map, ↓reduceIte, hE] <;> rfl), (by simp (decide := true) only [valsO, updO, upd, true_and, and_true, false_and, and_false, ↓reduceIte, hE] <;> rfl)⟩, i, hI, hii, fun h => absurd h (by omega), (by (try dsimp only); repeat (first | exact hlow | exact LowQ.refl | refine LowQ.up ?_ (by omega) | refine LowQ.at_ ?_ (by simp))), (by first | (dsimp only; omega) | omega), eV_⟩
  · obtain ⟨i, hI, hii, hx, hlow, hgen, e12⟩ := hI
    dsimp only at e12
    simp only [valsE, List.cons.injEq, and_true] at hK
    simp only [valsO, List.cons.injEq, and_true] at hO
    have hE := (⟨hK, hO, e12⟩ : _ ∧ _ ∧ _)
    dsimp only at hlow hgen
    have hML := hI.mix.len
    have hi1 := hI.hi
    have hi2 := hI.hij
    have hi3 := hI.hj
    refine p_joinK [0, 1, 4, 12] [(q, 900)] (fun st => ∃ (j : Nat), (PartI c a b i j L M0) ∧ (j ≤ b - 1) ∧ (i ≤ j → c (el M0 j) (el M0 a) < 0) ∧ (LowQ g0 [(q, 900)] ob0 st.obj) ∧ (g0 ≤ st.gen) ∧ st.env 13 = iV j) ?_ fun e ob gJ2 hK hO hI => ?_
    ·
      refine p_goJ ?_
      refine p_loopK [0, 1, 4, 12] [(q, 900)] (fun st => ∃ (j : Nat), (PartI c a b i j L M0) ∧ (j ≤ b - 1) ∧ (LowQ g0 [(q, 900)] ob0 st.obj) ∧ (g0 ≤ st.gen) ∧ st.env 13 = iV j) (fun st => (st.env 13).toN) ?_ fun e ob g2 hK hO hI => ?_
      · exact ⟨b - 1, hI, Nat.le_refl _, (by (try dsimp only); repeat (first | exact hlow | exact LowQ.refl | refine LowQ.up ?_ (by omega) | refine LowQ.at_ ?_ (by simp))), (by first | (dsimp only; omega) | omega), eV_⟩
      · obtain ⟨j, hI, hjj, hlow, hgen, e13⟩ := hI
        dsimp only at e13
        simp only [valsE, List.cons.injEq, and_true] at hK
        simp only [valsO, List.cons.injEq, and_true] at hO
        have hE := (⟨hK, hO, e13⟩ : _ ∧ _ ∧ _)
        dsimp only at hlow hgen
        have hML := hI.mix.len
        have hi1 := hI.hi
        have hi2 := hI.hij
        have hi3 := hI.hj
        refine p_seq ?_
        refine p_goJ fun hf => ?_
        refine p_split (s := 53) (ht := fun hb53 => ?_) (hf := fun hb53 => ?_)
        · have hle : i ≤ j := by have h := hb53; simp at h; omega
          refine p_goJ fun hf => ?_
          refine p_idxRowN (j) (ht := Tryz.underlying100) (hi := F.ti102.h) (hij := by omega) (hlt := by omega) (h := ?_)
          refine p_goJ fun hf => ?_
          refine p_loadRowAM (ht := F.agg102.h) (hi := F.ti102.h) (hj := by omega) (h := ?_)
          refine p_goJ fun hf => ?_
          refine p_idxRowN (a) (ht := Tryz.underlying100) (hi := F.ti102.h) (hij := by omega) (hlt := by omega) (h := ?_)
          refine p_goJ fun hf => ?_
          refine p_loadRowAM (ht := F.agg102.h) (hi := F.ti102.h) (hj := by omega) (h := ?_)
          refine p_goJ fun hf => ?_
          refine p_call (hb := hcf) (hf := hcnt (M0[j]) (M0[a])) (h := ?_)
          refine p_goJ ?_
          refine p_splitC (s := 66) (ht := fun hc66 => ?_) (hf := fun hc66 => ?_)
          · have hless : ¬ c (el M0 (j)) (el M0 (a)) < 0 := by
              rw [el_at (L := M0) (i := j) (by omega), el_at (L := M0) (i := a) (by omega)]; simpa using hc66
            refine p_goJ fun hf => ?_
            refine p_sub (r := ((j - 1 : Nat) : Int)) (hr := by omega) (hb := by omega) (h := ?_)
            refine p_goJ ?_
            refine p_some ?_
            refine ⟨⟨(by simp (decide := true) only [valsE, evE, upd, cv, args0, argsFrom, List.length_map, ↓reduceIte, hE] <;> rfl), (by simp (decide := true) only [valsO, updO, upd, true_and, and_true, false_and, and_false, ↓reduceIte, hE] <;> rfl)⟩, ⟨j - 1, hI.left hless hle, by omega, (by (try dsimp only); repeat (first | exact hlow | exact LowQ.refl | refine LowQ.up ?_ (by omega) | refine LowQ.at_ ?_ (by simp))), (by first | (dsimp only; omega) | omega), eV_⟩, ?_⟩
            simp (decide := true) only [upd, e13, V.toN, ↓reduceIte]; omega
          · have hless : c (el M0 (j)) (el M0 (a)) < 0 := by
              rw [el_at (L := M0) (i := j) (by omega), el_at (L := M0) (i := a) (by omega)]; simpa using hc66
            refine p_goJ ?_
            refine p_some ?_
            refine ⟨⟨(by simp (decide := true) only [valsE, evE, upd, cv, args0, argsFrom, List.length_map, ↓reduceIte, hE] <;> rfl), (by simp (decide := true) only [valsO, updO, upd, true_and, and_true, false_and, and_false, ↓reduceIte, hE] <;> rfl)⟩, j, hI, hjj, fun _ => hless, (by (try dsimp only); repeat (first | exact hlow | exact LowQ.refl | refine LowQ.up ?_ (by omega) | refine LowQ.at_ ?_ (by simp))), (by first | (dsimp only; omega) | omega), eV_⟩
        · have hgt : j < i := by have h := hb53; simp at h; omega
          refine p_goJ ?_
          refine p_some ?_
          refine ⟨⟨(by simp (decide := true) only [valsE, evE, upd, cv, args0, argsFrom, List.length_map, ↓reduceIte, hE] <;> rfl), (by simp (decide := true) only [valsO, updO, upd, true_and, and_true, false_and, and_false, ↓reduceIte, hE] <;> rfl)⟩, j, hI, hjj, fun h => absurd h (by omega), (by (try dsimp only); repeat (first | exact hlow | exact LowQ.refl | refine LowQ.up ?_ (by omega) | refine LowQ.at_ ?_ (by simp))), (by first | (dsimp only; omega) | omega), eV_⟩
    · obtain ⟨j, hI, hjj, hy, hlow, hgen, e13⟩ := hI
      dsimp only at e13
      simp only [valsE, List.cons.injEq, and_true] at hK
      simp only [valsO, List.cons.injEq, and_true] at hO
      have hE := (⟨hK, hO, e13⟩ : _ ∧ _ ∧ _)
      dsimp only at hlow hgen
      have hML := hI.mix.len
      have hi1 := hI.hi
      have hi2 := hI.hij
      have hi3 := hI.hj
      refine p_seq ?_
      refine p_goJ ?_
      refine p_splitC (s := 71) (ht := fun hc71 => ?_) (hf := fun hc71 => ?_)
      · have hgt : j < i := by have h := hc71; simp at h; omega
        refine p_goJ fun hf => ?_
        refine p_idxRowN (a) (ht := Tryz.underlying100) (hi := F.ti102.h) (hij := by omega) (hlt := by omega) (h := ?_)
        refine p_loadRowAM (ht := F.agg102.h) (hi := F.ti102.h) (hj := by omega) (h := ?_)
        refine p_goJ fun hf => ?_
        refine p_idxRowN (j) (ht := Tryz.underlying100) (hi := F.ti102.h) (hij := by omega) (hlt := by omega) (h := ?_)
        refine p_loadRowAM (ht := F.agg102.h) (hi := F.ti102.h) (hj := by omega) (h := ?_)
        refine p_idxRowN (j) (ht := Tryz.underlying100) (hi := F.ti102.h) (hij := by omega) (hlt := by omega) (h := ?_)
        refine p_storeRowMA (M0[a]) (hi := F.ti102.h) (hc := TI.cells F.ti102.h) (hlt := by omega) (h := ?_)
        refine p_idxRowN (a) (ht := Tryz.underlying100) (hi := F.ti102.h) (hij := by omega) (hlt := by (try simp only [List.length_set]); omega) (h := ?_)
        refine p_storeRowMA (M0[j]) (hi := F.ti102.h) (hc := TI.cells F.ti102.h) (hlt := by (try simp only [List.length_set]); omega) (h := ?_)
        refine p_goJ ?_
        refine p_retE2 (v1 := iV j) (v2 := .bool true) rfl eV_ eV_ (hK0 _ _ _ (by first | (dsimp only; omega) | omega) (by (try dsimp only); repeat (first | exact hlow | exact LowQ.refl | refine LowQ.up ?_ (by omega) | refine LowQ.at_ ?_ (by simp))) (⟨j, true, swp M0 j a, rfl, by rw [← swp_at (by omega) (by omega)]; exact (by simp (decide := true) only [valsO, updO, upd, true_and, and_true, false_and, and_false, ↓reduceIte, hE] <;> rfl), hI.stop hb hgt⟩))
      · have hle : i ≤ j := by have h := hc71; simp at h; omega
        refine p_goJ fun hf => ?_
        refine p_idxRowN (j) (ht := Tryz.underlying100) (hi := F.ti102.h) (hij := by omega) (hlt := by omega) (h := ?_)
        refine p_loadRowAM (ht := F.agg102.h) (hi := F.ti102.h) (hj := by omega) (h := ?_)
        refine p_goJ fun hf => ?_
        refine p_idxRowN (i) (ht := Tryz.underlying100) (hi := F.ti102.h) (hij := by omega) (hlt := by omega) (h := ?_)
        refine p_loadRowAM (ht := F.agg102.h) (hi := F.ti102.h) (hj := by omega) (h := ?_)
        refine p_idxRowN (i) (ht := Tryz.underlying100) (hi := F.ti102.h) (hij := by omega) (hlt := by omega) (h := ?_)
        refine p_storeRowMA (M0[j]) (hi := F.ti102.h) (hc := TI.cells F.ti102.h) (hlt := by omega) (h := ?_)
        refine p_idxRowN (j) (ht := Tryz.underlying100) (hi := F.ti102.h) (hij := by omega) (hlt := by (try simp only [List.length_set]); omega) (h := ?_)
        refine p_storeRowMA (M0[i]) (hi := F.ti102.h) (hc := TI.cells F.ti102.h) (hlt := by (try simp only [List.length_set]); omega) (h := ?_)
        refine p_goJ fun hf => ?_
        refine p_add (r := ((i + 1 : Nat) : Int)) (hr := (by first | omega | (simp only [decide_eq_true_eq, decide_eq_false_iff_not, Bool.or_eq_false_iff, Bool.and_eq_true, Bool.not_eq_true', Bool.not_eq_false'] at *; omega))) (hb := (by first | omega | (simp only [decide_eq_true_eq, decide_eq_false_iff_not, Bool.or_eq_false_iff, Bool.and_eq_true, Bool.not_eq_true', Bool.not_eq_false'] at *; omega))) (h := ?_)
        refine p_goJ fun hf => ?_
        refine p_sub (r := ((j - 1 : Nat) : Int)) (hr := by omega) (hb := by omega) (h := ?_)
        refine p_goJ ?_
        refine p_seq ?_
        refine p_goJ ?_
        refine p_loopK [0, 1, 4] [] (fun st => ∃ (i0 j0 : Nat) (M : List Pl), (PartI c a b i0 j0 L M) ∧ (LowQ g0 [(q, 900)] ob0 st.obj) ∧ (g0 ≤ st.gen) ∧ st.env 12 = iV i0 ∧ st.env 13 = iV j0 ∧ st.obj q 900 = .row 102 (M.map plV)) (fun st => (st.env 13).toN + 1 - (st.env 12).toN) ?_ fun e ob g3 hK hO hI => ?_
        · exact ⟨i + 1, j - 1, swp M0 i j, hI.swap hb (hx (by omega)) (hy (by omega)) (by omega), (by (try dsimp only); repeat (first | exact hlow | exact LowQ.refl | refine LowQ.up ?_ (by omega) | refine LowQ.at_ ?_ (by simp))), (by first | (dsimp only; omega) | omega), eV_, eV_, by rw [← swp_at (by omega) (by omega)]; exact oB_⟩
        · obtain ⟨i0, j0, M, hI, hlow, hgen, e12, e13, o900⟩ := hI
          dsimp only at e12 e13 o900
          simp only [valsE, List.cons.injEq, and_true] at hK
          have hE := (⟨hK, e12, e13, o900⟩ : _ ∧ _ ∧ _ ∧ _)
          dsimp only at hlow hgen
          have m12 := e12
          have m13 := e13
          have hML := hI.mix.len
          have hi1 := hI.hi
          have hi2 := hI.hij
          have hi3 := hI.hj
          refine p_goJ ?_
          refine p_joinK [0, 1, 4, 13] [(q, 900)] (fun st => ∃ (i : Nat), (PartI c a b i j0 L M) ∧ (i0 ≤ i) ∧ (i ≤ j0 → ¬ c (el M i) (el M a) < 0) ∧ (LowQ g0 [(q, 900)] ob0 st.obj) ∧ (g0 ≤ st.gen) ∧ st.env 12 = iV i) ?_ fun e ob gJ4 hK hO hI => ?_
          ·
            refine p_goJ ?_
            refine p_loopK [0, 1, 4, 13] [(q, 900)] (fun st => ∃ (i : Nat), (PartI c a b i j0 L M) ∧ (i0 ≤ i) ∧ (LowQ g0 [(q, 900)] ob0 st.obj) ∧ (g0 ≤ st.gen) ∧ st.env 12 = iV i) (fun st => b - (st.env 12).toN) ?_ fun e ob g4 hK hO hI => ?_
            · exact ⟨i0, hI, Nat.le_refl _, (by (try dsimp only); repeat (first | exact hlow | exact LowQ.refl | refine LowQ.up ?_ (by omega) | refine LowQ.at_ ?_ (by simp))), (by first | (dsimp only; omega) | omega), eV_⟩
            · obtain ⟨i, hI, hii, hlow, hgen, e12⟩ := hI
              dsimp only at e12
              simp only [valsE, List.cons.injEq, and_true] at hK
              simp only [valsO, List.cons.injEq, and_true] at hO
              have hE := (⟨hK, hO, e12⟩ : _ ∧ _ ∧ _)
              dsimp only at hlow hgen
              have hML := hI.mix.len
              have hi1 := hI.hi
              have hi2 := hI.hij
              have hi3 := hI.hj
              refine p_seq ?_
              refine p_goJ fun hf => ?_
              refine p_split (s := 108) (ht := fun hb108 => ?_) (hf := fun hb108 => ?_)
              · have hle : i ≤ j0 := by have h := hb108; simp at h; omega
                refine p_goJ fun hf => ?_
                refine p_idxRowN (i) (ht := Tryz.underlying100) (hi := F.ti102.h) (hij := by omega) (hlt := by omega) (h := ?_)
                refine p_goJ fun hf => ?_
                refine p_loadRowAM (ht := F.agg102.h) (hi := F.ti102.h) (hj := by omega) (h := ?_)
                refine p_goJ fun hf => ?_
                refine p_idxRowN (a) (ht := Tryz.underlying100) (hi := F.ti102.h) (hij := by omega) (hlt := by omega) (h := ?_)
                refine p_goJ fun hf => ?_
                refine p_loadRowAM (ht := F.agg102.h) (hi := F.ti102.h) (hj := by omega) (h := ?_)
                refine p_goJ fun hf => ?_
                refine p_call (hb := hcf) (hf := hcnt (M[i]) (M[a])) (h := ?_)
                refine p_goJ ?_
                refine p_splitC (s := 120) (ht := fun hc120 => ?_) (hf := fun hc120 => ?_)
                · have hless : c (el M (i)) (el M (a)) < 0 := by
                    rw [el_at (L := M) (i := i) (by omega), el_at (L := M) (i := a) (by omega)]; simpa using hc120
                  refine p_goJ fun hf => ?_
                  refine p_add (r := ((i + 1 : Nat) : Int)) (hr := (by first | omega | (simp only [decide_eq_true_eq, decide_eq_false_iff_not, Bool.or_eq_false_iff, Bool.and_eq_true, Bool.not_eq_true', Bool.not_eq_false'] at *; omega))) (hb := (by first | omega | (simp only [decide_eq_true_eq, decide_eq_false_iff_not, Bool.or_eq_false_iff, Bool.and_eq_true, Bool.not_eq_true', Bool.not_eq_false'] at *; omega))) (h := ?_)
                  refine p_goJ ?_
                  refine p_some ?_
                  refine ⟨⟨(by simp (decide := true) only [valsE, evE, upd, cv, args0, argsFrom, List.length_map, ↓reduceIte, hE] <;> rfl), (by simp (decide := true) only [valsO, updO, upd, true_and, and_true, false_and, and_false, ↓reduceIte, hE] <;> rfl)⟩, ⟨i + 1, hI.right hless hle, Nat.le_succ_of_le hii, (by (try dsimp only); repeat (first | exact hlow | exact LowQ.refl | refine LowQ.up ?_ (by omega) | refine LowQ.at_ ?_ (by simp))), (by first | (dsimp only; omega) | omega), eV_⟩, ?_⟩
                  simp (decide := true) only [upd, e12, V.toN, ↓reduceIte]; omega
                · have hless : ¬ c (el M (i)) (el M (a)) < 0 := by
                    rw [el_at (L := M) (i := i) (by omega), el_at (L := M) (i := a) (by omega)]; simpa using hc120
                  refine p_goJ ?_
                  refine p_some ?_
                  refine ⟨⟨(by simp (decide := true) only [valsE, evE, upd, cv, args0, argsFrom, List.length_map, ↓reduceIte, hE] <;> rfl), (by simp (decide := true) only [valsO, updO, upd, true_and, and_true, false_and, and_false, ↓reduceIte, hE] <;> rfl)⟩, i, hI, hii, fun _ => hless, (by (try dsimp only); repeat (first | exact hlow | exact LowQ.refl | refine LowQ.up ?_ (by omega) | refine LowQ.at_ ?_ (by simp))), (by first | (dsimp only; omega) | omega), eV_⟩
              · have hgt : j0 < i := by have h := hb108; simp at h; omega
                refine p_goJ ?_
                refine p_some ?_
                refine ⟨⟨(by simp (decide := true) only [valsE, evE, upd, cv, args0, argsFrom, List.length_map, ↓reduceIte, hE] <;> rfl), (by simp (decide := true) only [valsO, updO, upd, true_and, and_true, false_and, and_false, ↓reduceIte, hE] <;> rfl)⟩, i, hI, hii, fun h => absurd h (by omega), (by (try dsimp only); repeat (first | exact hlow | exact LowQ.refl | refine LowQ.up ?_ (by omega) | refine LowQ.at_ ?_ (by simp))), (by first | (dsimp only; omega) | omega), eV_⟩
          · obtain ⟨i, hI, hii, hx, hlow, hgen, e12⟩ := hI
            dsimp only at e12
            simp only [valsE, List.cons.injEq, and_true] at hK
            simp only [valsO, List.cons.injEq, and_true] at hO
            have hE := (⟨hK, hO, e12⟩ : _ ∧ _ ∧ _)
            dsimp only at hlow hgen
            have hML := hI.mix.len
            have hi1 := hI.hi
            have hi2 := hI.hij
            have hi3 := hI.hj
            refine p_joinK [0, 1, 4, 12] [(q, 900)] (fun st => ∃ (j : Nat), (PartI c a b i j L M) ∧ (j ≤ j0) ∧ (i ≤ j → c (el M j) (el M a) < 0) ∧ (LowQ g0 [(q, 900)] ob0 st.obj) ∧ (g0 ≤ st.gen) ∧ st.env 13 = iV j) ?_ fun e ob gJ5 hK hO hI => ?_
            ·
              refine p_goJ ?_
              refine p_loopK [0, 1, 4, 12] [(q, 900)] (fun st => ∃ (j : Nat), (PartI c a b i j L M) ∧ (j ≤ j0) ∧ (LowQ g0 [(q, 900)] ob0 st.obj) ∧ (g0 ≤ st.gen) ∧ st.env 13 = iV j) (fun st => (st.env 13).toN) ?_ fun e ob g5 hK hO hI => ?_
              · exact ⟨j0, hI, Nat.le_refl _, (by (try dsimp only); repeat (first | exact hlow | exact LowQ.refl | refine LowQ.up ?_ (by omega) | refine LowQ.at_ ?_ (by simp))), (by first | (dsimp only; omega) | omega), eV_⟩
              · obtain ⟨j, hI, hjj, hlow, hgen, e13⟩ := hI
                dsimp only at e13
                simp only [valsE, List.cons.injEq, and_true] at hK
                simp only [valsO, List.cons.injEq, and_true] at hO
                have hE := (⟨hK, hO, e13⟩ : _ ∧ _ ∧ _)
                dsimp only at hlow hgen
                have hML := hI.mix.len
                have hi1 := hI.hi
                have hi2 := hI.hij
                have hi3 := hI.hj
                refine p_seq ?_
                refine p_goJ fun hf => ?_
                refine p_split (s := 126) (ht := fun hb126 => ?_) (hf := fun hb126 => ?_)
                · have hle : i ≤ j := by have h := hb126; simp at h; omega
                  refine p_goJ fun hf => ?_
                  refine p_idxRowN (j) (ht := Tryz.underlying100) (hi := F.ti102.h) (hij := by omega) (hlt := by omega) (h := ?_)
                  refine p_goJ fun hf => ?_
                  refine p_loadRowAM (ht := F.agg102.h) (hi := F.ti102.h) (hj := by omega) (h := ?_)
                  refine p_goJ fun hf => ?_
                  refine p_idxRowN (a) (ht := Tryz.underlying100) (hi := F.ti102.h) (hij := by omega) (hlt := by omega) (h := ?_)
                  refine p_goJ fun hf => ?_
                  refine p_loadRowAM (ht := F.agg102.h) (hi := F.ti102.h) (hj := by omega) (h := ?_)
                  refine p_goJ fun hf => ?_
                  refine p_call (hb := hcf) (hf := hcnt (M[j]) (M[a])) (h := ?_)
                  refine p_goJ ?_
                  refine p_splitC (s := 139) (ht := fun hc139 => ?_) (hf := fun hc139 => ?_)
                  · have hless : ¬ c (el M (j)) (el M (a)) < 0 := by
                      rw [el_at (L := M) (i := j) (by omega), el_at (L := M) (i := a) (by omega)]; simpa using hc139
                    refine p_goJ fun hf => ?_
                    refine p_sub (r := ((j - 1 : Nat) : Int)) (hr := by omega) (hb := by omega) (h := ?_)
                    refine p_goJ ?_
                    refine p_some ?_
                    refine ⟨⟨(by simp (decide := true) only [valsE, evE, upd, cv, args0, argsFrom, List.length_map, ↓reduceIte, hE] <;> rfl), (by simp (decide := true) only [valsO, updO, upd, true_and, and_true, false_and, and_false, ↓reduceIte, hE] <;> rfl)⟩, ⟨j - 1, hI.left hless hle, by omega, (by (try dsimp only); repeat (first | exact hlow | exact LowQ.refl | refine LowQ.up ?_ (by omega) | refine LowQ.at_ ?_ (by simp))), (by first | (dsimp only; omega) | omega), eV_⟩, ?_⟩
                    simp (decide := true) only [upd, e13, V.toN, ↓reduceIte]; omega
                  · have hless : c (el M (j)) (el M (a)) < 0 := by
                      rw [el_at (L := M) (i := j) (by omega), el_at (L := M) (i := a) (by omega)]; simpa using hc139
                    refine p_goJ ?_
                    refine p_some ?_
                    refine ⟨⟨(by simp (decide := true) only [valsE, evE, upd, cv, args0, argsFrom, List.length_map, ↓reduceIte, hE] <;> rfl), (by simp (decide := true) only [valsO, updO, upd, true_and, and_true, false_and, and_false, ↓reduceIte, hE] <;> rfl)⟩, j, hI, hjj, fun _ => hless, (by (try dsimp only); repeat (first | exact hlow | exact LowQ.refl | refine LowQ.up ?_ (by omega) | refine LowQ.at_ ?_ (by simp))), (by first | (dsimp only; omega) | omega), eV_⟩
                · have hgt : j < i := by have h := hb126; simp at h; omega
                  refine p_goJ ?_
                  refine p_some ?_
                  refine ⟨⟨(by simp (decide := true) only [valsE, evE, upd, cv, args0, argsFrom, List.length_map, ↓reduceIte, hE] <;> rfl), (by simp (decide := true) only [valsO, updO, upd, true_and, and_true, false_and, and_false, ↓reduceIte, hE] <;> rfl)⟩, j, hI, hjj, fun h => absurd h (by omega), (by (try dsimp only); repeat (first | exact hlow | exact LowQ.refl | refine LowQ.up ?_ (by omega) | refine LowQ.at_ ?_ (by simp))), (by first | (dsimp only; omega) | omega), eV_⟩
            · obtain ⟨j, hI, hjj, hy, hlow, hgen, e13⟩ := hI
              dsimp only at e13
              simp only [valsE, List.cons.injEq, and_true] at hK
              simp only [valsO, List.cons.injEq, and_true] at hO
              have hE := (⟨hK, hO, e13⟩ : _ ∧ _ ∧ _)
              dsimp only at hlow hgen
              have hML := hI.mix.len
              have hi1 := hI.hi
              have hi2 := hI.hij
              have hi3 := hI.hj
              refine p_seq ?_
              refine p_goJ ?_
              refine p_splitC (s := 144) (ht := fun hc144 => ?_) (hf := fun hc144 => ?_)
              · have hgt : j < i := by have h := hc144; simp at h; omega
                refine p_goJ fun hf => ?_
                refine p_idxRowN (a) (ht := Tryz.underlying100) (hi := F.ti102.h) (hij := by omega) (hlt := by omega) (h := ?_)
                refine p_loadRowAM (ht := F.agg102.h) (hi := F.ti102.h) (hj := by omega) (h := ?_)
                refine p_goJ fun hf => ?_
                refine p_idxRowN (j) (ht := Tryz.underlying100) (hi := F.ti102.h) (hij := by omega) (hlt := by omega) (h := ?_)
                refine p_loadRowAM (ht := F.agg102.h) (hi := F.ti102.h) (hj := by omega) (h := ?_)
                refine p_idxRowN (j) (ht := Tryz.underlying100) (hi := F.ti102.h) (hij := by omega) (hlt := by omega) (h := ?_)
                refine p_storeRowMA (M[a]) (hi := F.ti102.h) (hc := TI.cells F.ti102.h) (hlt := by omega) (h := ?_)
                refine p_idxRowN (a) (ht := Tryz.underlying100) (hi := F.ti102.h) (hij := by omega) (hlt := by (try simp only [List.length_set]); omega) (h := ?_)
                refine p_storeRowMA (M[j]) (hi := F.ti102.h) (hc := TI.cells F.ti102.h) (hlt := by (try simp only [List.length_set]); omega) (h := ?_)
                refine p_goJ ?_
                refine p_retE2 (v1 := iV j) (v2 := .bool false) rfl eV_ eV_ (hK0 _ _ _ (by first | (dsimp only; omega) | omega) (by (try dsimp only); repeat (first | exact hlow | exact LowQ.refl | refine LowQ.up ?_ (by omega) | refine LowQ.at_ ?_ (by simp))) (⟨j, false, swp M j a, rfl, by rw [← swp_at (by omega) (by omega)]; exact (by simp (decide := true) only [valsO, updO, upd, true_and, and_true, false_and, and_false, ↓reduceIte, hE] <;> rfl), hI.stop hb hgt⟩))
              · have hle : i ≤ j := by have h := hc144; simp at h; omega
                refine p_goJ fun hf => ?_
                refine p_idxRowN (j) (ht := Tryz.underlying100) (hi := F.ti102.h) (hij := by omega) (hlt := by omega) (h := ?_)
                refine p_loadRowAM (ht := F.agg102.h) (hi := F.ti102.h) (hj := by omega) (h := ?_)
                refine p_goJ fun hf => ?_
                refine p_idxRowN (i) (ht := Tryz.underlying100) (hi := F.ti102.h) (hij := by omega) (hlt := by omega) (h := ?_)
                refine p_loadRowAM (ht := F.agg102.h) (hi := F.ti102.h) (hj := by omega) (h := ?_)
                refine p_idxRowN (i) (ht := Tryz.underlying100) (hi := F.ti102.h) (hij := by omega) (hlt := by omega) (h := ?_)
                refine p_storeRowMA (M[j]) (hi := F.ti102.h) (hc := TI.cells F.ti102.h) (hlt := by omega) (h := ?_)
                refine p_idxRowN (j) (ht := Tryz.underlying100) (hi := F.ti102.h) (hij := by omega) (hlt := by (try simp only [List.length_set]); omega) (h := ?_)
                refine p_storeRowMA (M[i]) (hi := F.ti102.h) (hc := TI.cells F.ti102.h) (hlt := by (try simp only [List.length_set]); omega) (h := ?_)
                refine p_goJ fun hf => ?_
                refine p_add (r := ((i + 1 : Nat) : Int)) (hr := (by first | omega | (simp only [decide_eq_true_eq, decide_eq_false_iff_not, Bool.or_eq_false_iff, Bool.and_eq_true, Bool.not_eq_true', Bool.not_eq_false'] at *; omega))) (hb := (by first | omega | (simp only [decide_eq_true_eq, decide_eq_false_iff_not, Bool.or_eq_false_iff, Bool.and_eq_true, Bool.not_eq_true', Bool.not_eq_false'] at *; omega))) (h := ?_)
                refine p_goJ fun hf => ?_
                refine p_sub (r := ((j - 1 : Nat) : Int)) (hr := by omega) (hb := by omega) (h := ?_)
                refine p_goJ ?_
                refine p_some ?_
                refine ⟨⟨(by simp (decide := true) only [valsE, evE, upd, cv, args0, argsFrom, List.length_map, ↓reduceIte, hE] <;> rfl), (by simp (decide := true) only [valsO, updO, upd, true_and, and_true, false_and, and_false, ↓reduceIte, hE] <;> rfl)⟩, ⟨i + 1, j - 1, swp M i j, hI.swap hb (hx (by omega)) (hy (by omega)) (by omega), (by (try dsimp only); repeat (first | exact hlow | exact LowQ.refl | refine LowQ.up ?_ (by omega) | refine LowQ.at_ ?_ (by simp))), (by first | (dsimp only; omega) | omega), eV_, eV_, by rw [← swp_at (by omega) (by omega)]; exact oB_⟩, ?_⟩
                simp (decide := true) only [upd, e13, e12, V.toN, ↓reduceIte]; simp only [m12, m13, V.toN]; omega
theorem partEq (c : Pl → Pl → Int) (cf : FuncId) (cfn : Func) (ccode : Code) (hcf : HasBody Tryz.prog cf cfn ccode) (hcnt : ∀ x y, FnC Tryz.prog cf [plV x, plV y] (fun r => r = iV (c x y))) (hc : TotC c) (L : List Pl) (q : Nat) (a b p : Nat) (hp1 : a ≤ p) (hp2 : p < b) (hb : b ≤ L.length) (hl : L.length ≤ 17592186044416) : FnQ Tryz.prog 122 [.row q 900 L.length, iV a, iV b, iV p, .fn cf []] [(q, 900)] [.row 102 (L.map plV)] (fun r us' => ∃ (m : Nat) (M : List Pl), r = iV m ∧ us' = [.row 102 (M.map plV)] ∧ Peqed c a b p m L M) := by
  refine FnQ.of (fn := Tryz.f122) ⟨Tryz.func122, by kernel_rfl, rfl⟩ Tryz.ntmps122 (by simp) fun w0 S0 l ob0 g0 K hrow hgl hK0 => ?_
  simp only [valsO, List.cons.injEq, and_true] at hrow
  simp only [List.mem_cons, List.not_mem_nil, or_false, forall_eq_or_imp, forall_eq, forall_const] at hgl
  have hE := hrow
  refine p_goJ fun hf => ?_
  refine p_idxRowN (p) (ht := Tryz.underlying100) (hi := F.ti102.h) (hij := by omega) (hlt := by omega) (h := ?_)
  refine p_loadRowAM (ht := F.agg102.h) (hi := F.ti102.h) (hj := by omega) (h := ?_)
  refine p_goJ fun hf => ?_
  refine p_idxRowN (a) (ht := Tryz.underlying100) (hi := F.ti102.h) (hij := by omega) (hlt := by omega) (h := ?_)
  refine p_loadRowAM (ht := F.agg102.h) (hi := F.ti102.h) (hj := by omega) (h := ?_)
  refine p_idxRowN (a) (ht := Tryz.underlying100) (hi := F.ti102.h) (hij := by omega) (hlt := by omega) (h := ?_)
  refine p_storeRowMA (L[p]) (hi := F.ti102.h) (hc := TI.cells F.ti102.h) (hlt := by omega) (h := ?_)
  refine p_idxRowN (p) (ht := Tryz.underlying100) (hi := F.ti102.h) (hij := by omega) (hlt := by (try simp only [List.length_set]); omega) (h := ?_)
  refine p_storeRowMA (L[a]) (hi := F.ti102.h) (hc := TI.cells F.ti102.h) (hlt := by (try simp only [List.length_set]); omega) (h := ?_)
  refine p_goJ fun hf => ?_
  refine p_add (r := ((a + 1 : Nat) : Int)) (hr := (by first | omega | (simp only [decide_eq_true_eq, decide_eq_false_iff_not, Bool.or_eq_false_iff, Bool.and_eq_true, Bool.not_eq_true', Bool.not_eq_false'] at *; omega))) (hb := (by first | omega | (simp only [decide_eq_true_eq, decide_eq_false_iff_not, Bool.or_eq_false_iff, Bool.and_eq_true, Bool.not_eq_true', Bool.not_eq_false'] at *; omega))) (h := ?_)
  refine p_goJ fun hf => ?_
  refine p_sub (r := ((b - 1 : Nat) : Int)) (hr := by omega) (hb := by omega) (h := ?_)
  refine p_goJ ?_
  obtain ⟨M0, hM0⟩ : ∃ M0, M0 = swp L a p := ⟨_, rfl⟩
  have hI : PeqI c a b p (a + 1) (b - 1) L M0 := by rw [hM0]; exact PeqI.start (by omega) hb hp1 hp2
  have hML := hI.mix.len
  rw [swp_at (by omega) (by omega), ← hM0]
  refine p_joinK [] [] (fun st => ∃ (i : Nat) (M : List Pl), (Peqed c a b p i L M) ∧ (LowQ g0 [(q, 900)] ob0 st.obj) ∧ (g0 ≤ st.gen) ∧ st.env 11 = iV i ∧ st.obj q 900 = .row 102 (M.map plV)) ?_ fun e ob gJ1 hK hO hI => ?_
  ·
    refine p_goJ ?_
    refine p_loopK [0, 1, 4] [] (fun st => ∃ (i0 j0 : Nat) (M : List Pl), (PeqI c a b p i0 j0 L M) ∧ (LowQ g0 [(q, 900)] ob0 st.obj) ∧ (g0 ≤ st.gen) ∧ st.env 11 = iV i0 ∧ st.env 12 = iV j0 ∧ st.obj q 900 = .row 102 (M.map plV)) (fun st => (st.env 12).toN + 1 - (st.env 11).toN) ?_ fun e ob g1 hK hO hI => ?_
    · exact ⟨a + 1, b - 1, M0, hI, (by (try dsimp only); repeat (first | exact hlow | exact LowQ.refl | refine LowQ.up ?_ (by omega) | refine LowQ.at_ ?_ (by simp))), (by first | (dsimp only; omega) | omega), eV_, eV_, oB_⟩
    · obtain ⟨i0, j0, M, hI, hlow, hgen, e11, e12, o900⟩ := hI
      dsimp only at e11 e12 o900
      simp only [valsE, List.cons.injEq, and_true] at hK
      have hE := (⟨hK, e11, e12, o900⟩ : _ ∧ _ ∧ _ ∧ _)
      dsimp only at hlow hgen
      have hML := hI.mix.len
      have hi1 := hI.hi
      have hi2 := hI.hij
      have hi3 := hI.hj
      have m11 := e11
      have m12 := e12
      refine p_goJ ?_
      refine p_joinK [0, 1, 4, 12] [(q, 900)] (fun st => ∃ (i : Nat), (PeqI c a b p i j0 L M) ∧ (i0 ≤ i) ∧ (i ≤ j0 → c (el M a) (el M i) < 0) ∧ (LowQ g0 [(q, 900)] ob0 st.obj) ∧ (g0 ≤ st.gen) ∧ st.env 11 = iV i) ?_ fun e ob gJ2 hK hO hI => ?_
      ·
        refine p_goJ ?_
        refine p_loopK [0, 1, 4, 12] [(q, 900)] (fun st => ∃ (i : Nat), (PeqI c a b p i j0 L M) ∧ (i0 ≤ i) ∧ (LowQ g0 [(q, 900)] ob0 st.obj) ∧ (g0 ≤ st.gen) ∧ st.env 11 = iV i) (fun st => b - (st.env 11).toN) ?_ fun e ob g2 hK hO hI => ?_
        · exact ⟨i0, hI, Nat.le_refl _, (by (try dsimp only); repeat (first | exact hlow | exact LowQ.refl | refine LowQ.up ?_ (by omega) | refine LowQ.at_ ?_ (by simp))), (by first | (dsimp only; omega) | omega), eV_⟩
        · obtain ⟨i, hI, hii, hlow, hgen, e11⟩ := hI
          dsimp only at e11
          simp only [valsE, List.cons.injEq, and_true] at hK
          simp only [valsO, List.cons.injEq, and_true] at hO
          have hE := (⟨hK, hO, e11⟩ : _ ∧ _ ∧ _)
          dsimp only at hlow hgen
          have hML := hI.mix.len
          have hi1 := hI.hi
          have hi2 := hI.hij
          have hi3 := hI.hj
          refine p_seq ?_
          refine p_goJ fun hf => ?_
          refine p_split (s := 34) (ht := fun hb34 => ?_) (hf := fun hb34 => ?_)
          · have hle : i ≤ j0 := by have h := hb34; simp at h; omega
            refine p_goJ fun hf => ?_
            refine p_idxRowN (a) (ht := Tryz.underlying100) (hi := F.ti102.h) (hij := by omega) (hlt := by (try simp only [List.length_set]); omega) (h := ?_)
            refine p_goJ fun hf => ?_
            refine p_loadRowAM (ht := F.agg102.h) (hi := F.ti102.h) (hj := by (try simp only [List.length_set]); omega) (h := ?_)
            refine p_goJ fun hf => ?_
            refine p_idxRowN (i) (ht := Tryz.underlying100) (hi := F.ti102.h) (hij := by omega) (hlt := by (try simp only [List.length_set]); omega) (h := ?_)
            refine p_goJ fun hf => ?_
            refine p_loadRowAM (ht := F.agg102.h) (hi := F.ti102.h) (hj := by (try simp only [List.length_set]); omega) (h := ?_)
            refine p_goJ fun hf => ?_
            refine p_call (hb := hcf) (hf := hcnt (M[a]) (M[i])) (h := ?_)
            refine p_goJ ?_
            refine p_splitC (s := 47) (ht := fun hc47 => ?_) (hf := fun hc47 => ?_)
            · have hless : ¬ c (el M (a)) (el M (i)) < 0 := by
                rw [el_at (L := M) (i := a) (by omega), el_at (L := M) (i := i) (by omega)]; simpa using hc47
              refine p_goJ fun hf => ?_
              refine p_add (r := ((i + 1 : Nat) : Int)) (hr := (by first | omega | (simp only [decide_eq_true_eq, decide_eq_false_iff_not, Bool.or_eq_false_iff, Bool.and_eq_true, Bool.not_eq_true', Bool.not_eq_false'] at *; omega))) (hb := (by first | omega | (simp only [decide_eq_true_eq, decide_eq_false_iff_not, Bool.or_eq_false_iff, Bool.and_eq_true, Bool.not_eq_true', Bool.not_eq_false'] at *; omega))) (h := ?_)
              refine p_goJ ?_
              refine p_some ?_
              refine ⟨⟨(by simp (decide := true) only [valsE, evE, upd, cv, args0, argsFrom, List.length_map, ↓reduceIte, hE] <;> rfl), (by simp (decide := true) only [valsO, updO, upd, true_and, and_true, false_and, and_false, ↓reduceIte, hE] <;> rfl)⟩, ⟨i + 1, hI.right hless hle, Nat.le_succ_of_le hii, (by (try dsimp only); repeat (first | exact hlow | exact LowQ.refl | refine LowQ.up ?_ (by omega) | refine LowQ.at_ ?_ (by simp))), (by first | (dsimp only; omega) | omega), eV_⟩, ?_⟩
              simp (decide := true) only [upd, e11, V.toN, ↓reduceIte]; omega
            · have hless : c (el M (a)) (el M (i)) < 0 := by
                rw [el_at (L := M) (i := a) (by omega), el_at (L := M) (i := i) (by omega)]; simpa using hc47
              refine p_goJ ?_
              refine p_some ?_
              refine ⟨⟨(by simp (decide := true) only [valsE, evE, upd, cv, args0, argsFrom, List.length_map, ↓reduceIte, hE] <;> rfl), (by simp (decide := true) only [valsO, updO, upd, true_and, and_true, false_and, and_false, ↓reduceIte, hE] <;> rfl)⟩, i, hI, hii, fun _ => hless, (by (try dsimp only); repeat (first | exact hlow | exact LowQ.refl | refine LowQ.up ?_ (by omega) | refine LowQ.at_ ?_ (by simp))), (by first | (dsimp only; omega) | omega), eV_⟩
          · have hgt : j0 < i := by have h := hb34; simp at h; omega
            refine p_goJ ?_
            refine p_some ?_
            refine ⟨⟨(by simp (decide := true) only [valsE, evE, upd, cv, args0, argsFrom, List.length_map, ↓reduceIte, hE] <;> rfl), (by simp (decide := true) only [valsO, updO, upd, true_and, and_true, false_and, and_false, ↓reduceIte, hE] <;> rfl)⟩, i, hI, hii, fun h => absurd h (by omega), (by (try dsimp only); repeat (first | exact hlow | exact LowQ.refl | refine LowQ.up ?_ (by omega) | refine LowQ.at_ ?_ (by simp))), (by first | (dsimp only; omega) | omega), eV_⟩
      · obtain ⟨i, hI, hii, hx, hlow, hgen, e11⟩ := hI
        dsimp only at e11
        simp only [valsE, List.cons.injEq, and_true] at hK
        simp only [valsO, List.cons.injEq, and_true] at hO
        have hE := (⟨hK, hO, e11⟩ : _ ∧ _ ∧ _)
        dsimp only at hlow hgen
        have hML := hI.mix.len
        have hi1 := hI.hi
        have hi2 := hI.hij
        have hi3 := hI.hj
        refine p_joinK [0, 1, 4, 11] [(q, 900)] (fun st => ∃ (j : Nat), (PeqI c a b p i j L M) ∧ (j ≤ j0) ∧ (i ≤ j → ¬ c (el M a) (el M j) < 0) ∧ (LowQ g0 [(q, 900)] ob0 st.obj) ∧ (g0 ≤ st.gen) ∧ st.env 12 = iV j) ?_ fun e ob gJ3 hK hO hI => ?_
        ·
          refine p_goJ ?_
          refine p_loopK [0, 1, 4, 11] [(q, 900)] (fun st => ∃ (j : Nat), (PeqI c a b p i j L M) ∧ (j ≤ j0) ∧ (LowQ g0 [(q, 900)] ob0 st.obj) ∧ (g0 ≤ st.gen) ∧ st.env 12 = iV j) (fun st => (st.env 12).toN) ?_ fun e ob g3 hK hO hI => ?_
          · exact ⟨j0, hI, Nat.le_refl _, (by (try dsimp only); repeat (first | exact hlow | exact LowQ.refl | refine LowQ.up ?_ (by omega) | refine LowQ.at_ ?_ (by simp))), (by first | (dsimp only; omega) | omega), eV_⟩
          · obtain ⟨j, hI, hjj, hlow, hgen, e12⟩ := hI
            dsimp only at e12
            simp only [valsE, List.cons.injEq, and_true] at hK
            simp only [valsO, List.cons.injEq, and_true] at hO
            have hE := (⟨hK, hO, e12⟩ : _ ∧ _ ∧ _)
            dsimp only at hlow hgen
            have hML := hI.mix.len
            have hi1 := hI.hi
            have hi2 := hI.hij
            have hi3 := hI.hj
            refine p_seq ?_
            refine p_goJ fun hf => ?_
            refine p_split (s := 53) (ht := fun hb53 => ?_) (hf := fun hb53 => ?_)
            · have hle : i ≤ j := by have h := hb53; simp at h; omega
              refine p_goJ fun hf => ?_
              refine p_idxRowN (a) (ht := Tryz.underlying100) (hi := F.ti102.h) (hij := by omega) (hlt := by (try simp only [List.length_set]); omega) (h := ?_)
              refine p_goJ fun hf => ?_
              refine p_loadRowAM (ht := F.agg102.h) (hi := F.ti102.h) (hj := by (try simp only [List.length_set]); omega) (h := ?_)
              refine p_goJ fun hf => ?_
              refine p_idxRowN (j) (ht := Tryz.underlying100) (hi := F.ti102.h) (hij := by omega) (hlt := by (try simp only [List.length_set]); omega) (h := ?_)
              refine p_goJ fun hf => ?_
              refine p_loadRowAM (ht := F.agg102.h) (hi := F.ti102.h) (hj := by (try simp only [List.length_set]); omega) (h := ?_)
              refine p_goJ fun hf => ?_
              refine p_call (hb := hcf) (hf := hcnt (M[a]) (M[j])) (h := ?_)
              refine p_goJ ?_
              refine p_splitC (s := 65) (ht := fun hc65 => ?_) (hf := fun hc65 => ?_)
              · have hless : c (el M (a)) (el M (j)) < 0 := by
                  rw [el_at (L := M) (i := a) (by omega), el_at (L := M) (i := j) (by omega)]; simpa using hc65
                refine p_goJ fun hf => ?_
                refine p_sub (r := ((j - 1 : Nat) : Int)) (hr := by omega) (hb := by omega) (h := ?_)
                refine p_goJ ?_
                refine p_some ?_
                refine ⟨⟨(by simp (decide := true) only [valsE, evE, upd, cv, args0, argsFrom, List.length_map, ↓reduceIte, hE] <;> rfl), (by simp (decide := true) only [valsO, updO, upd, true_and, and_true, false_and, and_false, ↓reduceIte, hE] <;> rfl)⟩, ⟨j - 1, hI.left hless hle, by omega, (by (try dsimp only); repeat (first | exact hlow | exact LowQ.refl | refine LowQ.up ?_ (by omega) | refine LowQ.at_ ?_ (by simp))), (by first | (dsimp only; omega) | omega), eV_⟩, ?_⟩
                simp (decide := true) only [upd, e12, V.toN, ↓reduceIte]; omega
              · have hless : ¬ c (el M (a)) (el M (j)) < 0 := by
                  rw [el_at (L := M) (i := a) (by omega), el_at (L := M) (i := j) (by omega)]; simpa using hc65
                refine p_goJ ?_
                refine p_some ?_
                refine ⟨⟨(by simp (decide := true) only [valsE, evE, upd, cv, args0, argsFrom, List.length_map, ↓reduceIte, hE] <;> rfl), (by simp (decide := true) only [valsO, updO, upd, true_and, and_true, false_and, and_false, ↓reduceIte, hE] <;> rfl)⟩, j, hI, hjj, fun _ => hless, (by (try dsimp only); repeat (first | exact hlow | exact LowQ.refl | refine LowQ.up ?_ (by omega) | refine LowQ.at_ ?_ (by simp))), (by first | (dsimp only; omega) | omega), eV_⟩
            · have hgt : j < i := by have h := hb53; simp at h; omega
              refine p_goJ ?_
              refine p_some ?_
              refine ⟨⟨(by simp (decide := true) only [valsE, evE, upd, cv, args0, argsFrom, List.length_map, ↓reduceIte, hE] <;> rfl), (by simp (decide := true) only [valsO, updO, upd, true_and, and_true, false_and, and_false, ↓reduceIte, hE] <;> rfl)⟩, j, hI, hjj, fun h => absurd h (by omega), (by (try dsimp only); repeat (first | exact hlow | exact LowQ.refl | refine LowQ.up ?_ (by omega) | refine LowQ.at_ ?_ (by simp))), (by first | (dsimp only; omega) | omega), eV_⟩
        · obtain ⟨j, hI, hjj, hy, hlow, hgen, e12⟩ := hI
          dsimp only at e12
          simp only [valsE, List.cons.injEq, and_true] at hK
          simp only [valsO, List.cons.injEq, and_true] at hO
          have hE := (⟨hK, hO, e12⟩ : _ ∧ _ ∧ _)
          dsimp only at hlow hgen
          have hML := hI.mix.len
          have hi1 := hI.hi
          have hi2 := hI.hij
          have hi3 := hI.hj
          refine p_seq ?_
          refine p_goJ ?_
          refine p_splitC (s := 70) (ht := fun hc70 => ?_) (hf := fun hc70 => ?_)
          · have hgt : j < i := by have h := hc70; simp at h; omega
            refine p_goJ ?_
            refine p_some ?_
            refine ⟨⟨(by simp (decide := true) only [valsE, evE, upd, cv, args0, argsFrom, List.length_map, ↓reduceIte, hE] <;> rfl), (by simp (decide := true) only [valsO, updO, upd, true_and, and_true, false_and, and_false, ↓reduceIte, hE] <;> rfl)⟩, i, M, hI.stop hc hgt, (by (try dsimp only); repeat (first | exact hlow | exact LowQ.refl | refine LowQ.up ?_ (by omega) | refine LowQ.at_ ?_ (by simp))), (by first | (dsimp only; omega) | omega), eV_, oB_⟩
          · have hle : i ≤ j := by have h := hc70; simp at h; omega
            refine p_goJ fun hf => ?_
            refine p_idxRowN (j) (ht := Tryz.underlying100) (hi := F.ti102.h) (hij := by omega) (hlt := by (try simp only [List.length_set]); omega) (h := ?_)
            refine p_loadRowAM (ht := F.agg102.h) (hi := F.ti102.h) (hj := by (try simp only [List.length_set]); omega) (h := ?_)
            refine p_goJ fun hf => ?_
            refine p_idxRowN (i) (ht := Tryz.underlying100) (hi := F.ti102.h) (hij := by omega) (hlt := by (try simp only [List.length_set]); omega) (h := ?_)
            refine p_loadRowAM (ht := F.agg102.h) (hi := F.ti102.h) (hj := by (try simp only [List.length_set]); omega) (h := ?_)
            refine p_idxRowN (i) (ht := Tryz.underlying100) (hi := F.ti102.h) (hij := by omega) (hlt := by (try simp only [List.length_set]); omega) (h := ?_)
            refine p_storeRowMA (M[j]) (hi := F.ti102.h) (hc := TI.cells F.ti102.h) (hlt := by (try simp only [List.length_set]); omega) (h := ?_)
            refine p_idxRowN (j) (ht := Tryz.underlying100) (hi := F.ti102.h) (hij := by omega) (hlt := by (try simp only [List.length_set]); omega) (h := ?_)
            refine p_storeRowMA (M[i]) (hi := F.ti102.h) (hc := TI.cells F.ti102.h) (hlt := by (try simp only [List.length_set]); omega) (h := ?_)
            refine p_goJ fun hf => ?_
            refine p_add (r := ((i + 1 : Nat) : Int)) (hr := (by first | omega | (simp only [decide_eq_true_eq, decide_eq_false_iff_not, Bool.or_eq_false_iff, Bool.and_eq_true, Bool.not_eq_true', Bool.not_eq_false'] at *; omega))) (hb := (by first | omega | (simp only [decide_eq_true_eq, decide_eq_false_iff_not, Bool.or_eq_false_iff, Bool.and_eq_true, Bool.not_eq_true', Bool.not_eq_false'] at *; omega))) (h := ?_)
            refine p_goJ fun hf => ?_
            refine p_sub (r := ((j - 1 : Nat) : Int)) (hr := by omega) (hb := by omega) (h := ?_)
            refine p_goJ ?_
            refine p_some ?_
            refine ⟨⟨(by simp (decide := true) only [valsE, evE, upd, cv, args0, argsFrom, List.length_map, ↓reduceIte, hE] <;> rfl), (by simp (decide := true) only [valsO, updO, upd, true_and, and_true, false_and, and_false, ↓reduceIte, hE] <;> rfl)⟩, ⟨i + 1, j - 1, swp M i j, hI.swap hb (hx (by omega)) (hy (by omega)) (by omega), (by (try dsimp only); repeat (first | exact hlow | exact LowQ.refl | refine LowQ.up ?_ (by omega) | refine LowQ.at_ ?_ (by simp))), (by first | (dsimp only; omega) | omega), eV_, eV_, by rw [← swp_at (by omega) (by omega)]; exact oB_⟩, ?_⟩
            simp (decide := true) only [upd, e12, e11, V.toN, ↓reduceIte]; simp only [m11, m12, V.toN]; omega
  · obtain ⟨i, M, hP, hlow, hgen, e11, o900⟩ := hI
    dsimp only at e11 o900
    have hE := (⟨e11, o900⟩ : _ ∧ _)
    dsimp only at hlow hgen
    refine p_goJ ?_
    refine p_retE1 (v := iV i) rfl eV_ (hK0 _ _ _ (by first | (dsimp only; omega) | omega) (by (try dsimp only); repeat (first | exact hlow | exact LowQ.refl | refine LowQ.up ?_ (by omega) | refine LowQ.at_ ?_ (by simp))) (⟨i, M, rfl, (by simp (decide := true) only [valsO, updO, upd, true_and, and_true, false_and, and_false, ↓reduceIte, hE] <;> rfl), hP⟩))
theorem reverse (c : Pl → Pl → Int) (cf : FuncId) (cfn : Func) (ccode : Code) (hcf : HasBody Tryz.prog cf cfn ccode) (hcnt : ∀ x y, FnC Tryz.prog cf [plV x, plV y] (fun r => r = iV (c x y))) (L : List Pl) (q : Nat) (a b : Nat) (hab : a ≤ b) (hb : b ≤ L.length) (hl : L.length ≤ 17592186044416) (hlt0 : a < b) : FnQ Tryz.prog 120 [.row q 900 L.length, iV a, iV b, .fn cf []] [(q, 900)] [.row 102 (L.map plV)] (fun r us' => ∃ M, us' = [.row 102 (M.map plV)] ∧ Mix a b L M) := by
  refine FnQ.of (fn := Tryz.f120) ⟨Tryz.func120, by kernel_rfl, rfl⟩ Tryz.ntmps120 (by simp) fun w0 S0 l ob0 g0 K hrow hgl hK0 => ?_
  simp only [valsO, List.cons.injEq, and_true] at hrow
  simp only [List.mem_cons, List.not_mem_nil, or_false, forall_eq_or_imp, forall_eq, forall_const] at hgl
  have hE := hrow
  refine p_go fun hf => ?_
  refine p_sub (r := ((b - 1 : Nat) : Int)) (hr := by omega) (hb := by omega) (h := ?_)
  refine p_go ?_
  refine p_loopK [0] [] (fun st => ∃ (i j : Nat) (M : List Pl), (a ≤ i) ∧ (j < b) ∧ (Mix a b L M) ∧ (LowQ g0 [(q, 900)] ob0 st.obj) ∧ (g0 ≤ st.gen) ∧ st.env 8 = iV i ∧ st.env 9 = iV j ∧ st.obj q 900 = .row 102 (M.map plV)) (fun st => (st.env 9).toN - (st.env 8).toN) ?_ fun e ob g1 hK hO hI => ?_
  · exact ⟨a, b - 1, L, Nat.le_refl _, by omega, Mix.refl, (by (try dsimp only); repeat (first | exact hlow | exact LowQ.refl | refine LowQ.up ?_ (by omega) | refine LowQ.at_ ?_ (by simp))), (by first | (dsimp only; omega) | omega), eV_, eV_, oB_⟩
  · obtain ⟨i, j, M, hai, hjb, hmx, hlow, hgen, e8, e9, o900⟩ := hI
    dsimp only at e8 e9 o900
    simp only [valsE, List.cons.injEq, and_true] at hK
    have hE := (⟨hK, e8, e9, o900⟩ : _ ∧ _ ∧ _ ∧ _)
    dsimp only at hlow hgen
    have hML := hmx.len
    refine p_go ?_
    refine p_splitC (s := 15) (ht := fun hc15 => ?_) (hf := fun hc15 => ?_)
    · have hlt : i < j := by simpa using hc15
      refine p_go fun hf => ?_
      refine p_idxRowN (j) (ht := Tryz.underlying100) (hi := F.ti102.h) (hij := by omega) (hlt := by (try simp only [List.length_set]); omega) (h := ?_)
      refine p_loadRowAM (ht := F.agg102.h) (hi := F.ti102.h) (hj := by (try simp only [List.length_set]); omega) (h := ?_)
      refine p_go fun hf => ?_
      refine p_idxRowN (i) (ht := Tryz.underlying100) (hi := F.ti102.h) (hij := by omega) (hlt := by (try simp only [List.length_set]); omega) (h := ?_)
      refine p_loadRowAM (ht := F.agg102.h) (hi := F.ti102.h) (hj := by (try simp only [List.length_set]); omega) (h := ?_)
      refine p_idxRowN (i) (ht := Tryz.underlying100) (hi := F.ti102.h) (hij := by omega) (hlt := by (try simp only [List.length_set]); omega) (h := ?_)
      refine p_storeRowMA (M[j]) (hi := F.ti102.h) (hc := TI.cells F.ti102.h) (hlt := by (try simp only [List.length_set]); omega) (h := ?_)
      refine p_idxRowN (j) (ht := Tryz.underlying100) (hi := F.ti102.h) (hij := by omega) (hlt := by (try simp only [List.length_set]); omega) (h := ?_)
      refine p_storeRowMA (M[i]) (hi := F.ti102.h) (hc := TI.cells F.ti102.h) (hlt := by (try simp only [List.length_set]); omega) (h := ?_)
      refine p_go fun hf => ?_
      refine p_add (r := ((i + 1 : Nat) : Int)) (hr := (by first | omega | (simp only [decide_eq_true_eq, decide_eq_false_iff_not, Bool.or_eq_false_iff, Bool.and_eq_true, Bool.not_eq_true', Bool.not_eq_false'] at *; omega))) (hb := (by first | omega | (simp only [decide_eq_true_eq, decide_eq_false_iff_not, Bool.or_eq_false_iff, Bool.and_eq_true, Bool.not_eq_true', Bool.not_eq_false'] at *; omega))) (h := ?_)
      refine p_go fun hf => ?_
      refine p_sub (r := ((j - 1 : Nat) : Int)) (hr := by omega) (hb := by omega) (h := ?_)
      refine p_go ?_
      refine p_some ?_
      refine ⟨⟨(by simp (decide := true) only [valsE, evE, upd, cv, args0, argsFrom, List.length_map, ↓reduceIte, hE] <;> rfl), (by simp (decide := true) only [valsO, updO, upd, true_and, and_true, false_and, and_false, ↓reduceIte, hE] <;> rfl)⟩, ⟨i + 1, j - 1, swp M i j, by omega, by omega, hmx.swp hb ⟨by omega, by omega⟩ ⟨by omega, by omega⟩, (by (try dsimp only); repeat (first | exact hlow | exact LowQ.refl | refine LowQ.up ?_ (by omega) | refine LowQ.at_ ?_ (by simp))), (by first | (dsimp only; omega) | omega), eV_, eV_, by rw [← swp_at (by omega) (by omega)]; exact oB_⟩, ?_⟩
      simp (decide := true) only [upd, e9, e8, V.toN, ↓reduceIte]; omega
    · refine p_go ?_
      refine p_retE0 rfl (hK0 _ _ _ (by first | (dsimp only; omega) | omega) (by (try dsimp only); repeat (first | exact hlow | exact LowQ.refl | refine LowQ.up ?_ (by omega) | refine LowQ.at_ ?_ (by simp))) (⟨M, (by simp (decide := true) only [valsO, updO, upd, true_and, and_true, false_and, and_false, ↓reduceIte, hE] <;> rfl), hmx⟩))
end Go.Proofs.YtfpljljjjgicaaaGreatDoor
