import Derived.Test.YtfpljljjjgicaaaGreatDoorSf
/-
  Sorting places: heaps.
-/
set_option maxHeartbeats 4000000
set_option linter.unusedSimpArgs false
set_option linter.unusedVariables false
namespace Go.Proofs.YtfpljljjjgicaaaGreatDoor
open Go.RowKit
attribute [local irreducible] Wk Tr
def V.toM : V → Nat
  | .int _ i => (i + 1).toNat
  | _ => 0
theorem siftDown (c : Pl → Pl → Int) (cf : FuncId) (cfn : Func) (ccode : Code) (hcf : HasBody Tryz.prog cf cfn ccode) (hcnt : ∀ x y, FnC Tryz.prog cf [plV x, plV y] (fun r => r = iV (c x y))) (hc : TotC c) (L : List Pl) (q : Nat) (lo hi f : Nat) (hlh : lo ≤ hi) (hb : f + hi ≤ L.length) (hl : L.length ≤ 17592186044416) (hh : HeapFrom c f (lo + 1) hi L) : FnQ Tryz.prog 154 [.row q 900 L.length, iV lo, iV hi, iV f, .fn cf []] [(q, 900)] [.row 102 (L.map plV)] (fun r us' => ∃ M, us' = [.row 102 (M.map plV)] ∧ Mix (f + lo) (f + hi) L M ∧ HeapFrom c f lo hi M) := by
  refine FnQ.of (fn := Tryz.f154) ⟨Tryz.func154, by kernel_rfl, rfl⟩ Tryz.ntmps154 (by simp) fun w0 S0 l ob0 g0 K hrow hgl hK0 => ?_
  simp only [valsO, List.cons.injEq, and_true] at hrow
  simp only [List.mem_cons, List.not_mem_nil, or_false, forall_eq_or_imp, forall_eq, forall_const] at hgl
  have hE := hrow
  refine p_goJ ?_
  refine p_loopK [0, 2, 3, 4] [] (fun st => ∃ (rt : Nat) (M : List Pl), (SiftI c f lo hi rt L M) ∧ (rt ≤ hi) ∧ (LowQ g0 [(q, 900)] ob0 st.obj) ∧ (g0 ≤ st.gen) ∧ st.env 10 = iV rt ∧ st.obj q 900 = .row 102 (M.map plV)) (fun st => hi - (st.env 10).toN) ?_ fun e ob g1 hK hO hI => ?_
  · exact ⟨lo, L, SiftI.start hh, hlh, (by (try dsimp only); repeat (first | exact hlow | exact LowQ.refl | refine LowQ.up ?_ (by omega) | refine LowQ.at_ ?_ (by simp))), (by first | (dsimp only; omega) | omega), eV_, oB_⟩
  · obtain ⟨rt, M, hI, hrt, hlow, hgen, e10, o900⟩ := hI
    dsimp only at e10 o900
    simp only [valsE, List.cons.injEq, and_true] at hK
    have hE := (⟨hK, e10, o900⟩ : _ ∧ _ ∧ _)
    dsimp only at hlow hgen
    have hML := hI.mix.len
    refine p_goJ fun hf => ?_
    refine p_mul (r := ((2 * rt : Nat) : Int)) (hr := by omega) (hb := by omega) (h := ?_)
    refine p_add (r := ((2 * rt + 1 : Nat) : Int)) (hr := (by first | omega | (simp only [decide_eq_true_eq, decide_eq_false_iff_not, Bool.or_eq_false_iff, Bool.and_eq_true, Bool.not_eq_true', Bool.not_eq_false'] at *; omega))) (hb := (by first | omega | (simp only [decide_eq_true_eq, decide_eq_false_iff_not, Bool.or_eq_false_iff, Bool.and_eq_true, Bool.not_eq_true', Bool.not_eq_false'] at *; omega))) (h := ?_)
    refine p_goJ ?_
    refine p_seq ?_
    refine p_goJ ?_
    refine p_splitC (s := 18) (ht := fun hc18 => ?_) (hf := fun hc18 => ?_)
    · have hge : hi ≤ 2 * rt + 1 := by have h := hc18; simp at h; omega
      refine p_goJ ?_
      refine p_retE0 rfl (hK0 _ _ _ (by first | (dsimp only; omega) | omega) (by (try dsimp only); repeat (first | exact hlow | exact LowQ.refl | refine LowQ.up ?_ (by omega) | refine LowQ.at_ ?_ (by simp))) (⟨M, (by simp (decide := true) only [valsO, updO, upd, true_and, and_true, false_and, and_false, ↓reduceIte, hE] <;> rfl), hI.mix, hI.stop1 hge⟩))
    · have hlt1 : 2 * rt + 1 < hi := by have h := hc18; simp at h; omega
      refine p_goJ ?_
      refine p_joinK [0, 2, 3, 4, 10] [(q, 900)] (fun st => ∃ (ch : Nat), (ch = 2 * rt + 1 ∨ ch = 2 * rt + 2) ∧ (ch < hi) ∧ (∀ k, (k = 2 * rt + 1 ∨ k = 2 * rt + 2) → k < hi → ¬ c (el M (f + ch)) (el M (f + k)) < 0) ∧ (LowQ g0 [(q, 900)] ob0 st.obj) ∧ (g0 ≤ st.gen) ∧ st.env 11 = iV ch) ?_ fun e ob gS2 hK hO hI => ?_
      ·
        refine p_goJ fun hf => ?_
        refine p_add (r := ((2 * rt + 2 : Nat) : Int)) (hr := (by first | omega | (simp only [decide_eq_true_eq, decide_eq_false_iff_not, Bool.or_eq_false_iff, Bool.and_eq_true, Bool.not_eq_true', Bool.not_eq_false'] at *; omega))) (hb := (by first | omega | (simp only [decide_eq_true_eq, decide_eq_false_iff_not, Bool.or_eq_false_iff, Bool.and_eq_true, Bool.not_eq_true', Bool.not_eq_false'] at *; omega))) (h := ?_)
        refine p_goJ fun hf => ?_
        refine p_split (s := 23) (ht := fun hb23 => ?_) (hf := fun hb23 => ?_)
        · have hlt2 : 2 * rt + 2 < hi := by have h := hb23; simp at h; omega
          refine p_goJ fun hf => ?_
          refine p_add (r := ((f + (2 * rt + 1) : Nat) : Int)) (hr := (by first | omega | (simp only [decide_eq_true_eq, decide_eq_false_iff_not, Bool.or_eq_false_iff, Bool.and_eq_true, Bool.not_eq_true', Bool.not_eq_false'] at *; omega))) (hb := (by first | omega | (simp only [decide_eq_true_eq, decide_eq_false_iff_not, Bool.or_eq_false_iff, Bool.and_eq_true, Bool.not_eq_true', Bool.not_eq_false'] at *; omega))) (h := ?_)
          refine p_goJ fun hf => ?_
          refine p_idxRowN (f + (2 * rt + 1)) (ht := Tryz.underlying100) (hi := F.ti102.h) (hij := by omega) (hlt := by (try simp only [List.length_set]); omega) (h := ?_)
          refine p_goJ fun hf => ?_
          refine p_loadRowAM (ht := F.agg102.h) (hi := F.ti102.h) (hj := by (try simp only [List.length_set]); omega) (h := ?_)
          refine p_goJ fun hf => ?_
          refine p_add (r := ((f + (2 * rt + 1) : Nat) : Int)) (hr := (by first | omega | (simp only [decide_eq_true_eq, decide_eq_false_iff_not, Bool.or_eq_false_iff, Bool.and_eq_true, Bool.not_eq_true', Bool.not_eq_false'] at *; omega))) (hb := (by first | omega | (simp only [decide_eq_true_eq, decide_eq_false_iff_not, Bool.or_eq_false_iff, Bool.and_eq_true, Bool.not_eq_true', Bool.not_eq_false'] at *; omega))) (h := ?_)
          refine p_goJ fun hf => ?_
          refine p_add (r := ((f + (2 * rt + 2) : Nat) : Int)) (hr := (by first | omega | (simp only [decide_eq_true_eq, decide_eq_false_iff_not, Bool.or_eq_false_iff, Bool.and_eq_true, Bool.not_eq_true', Bool.not_eq_false'] at *; omega))) (hb := (by first | omega | (simp only [decide_eq_true_eq, decide_eq_false_iff_not, Bool.or_eq_false_iff, Bool.and_eq_true, Bool.not_eq_true', Bool.not_eq_false'] at *; omega))) (h := ?_)
          refine p_goJ fun hf => ?_
          refine p_idxRowN (f + (2 * rt + 2)) (ht := Tryz.underlying100) (hi := F.ti102.h) (hij := by omega) (hlt := by (try simp only [List.length_set]); omega) (h := ?_)
          refine p_goJ fun hf => ?_
          refine p_loadRowAM (ht := F.agg102.h) (hi := F.ti102.h) (hj := by (try simp only [List.length_set]); omega) (h := ?_)
          refine p_goJ fun hf => ?_
          refine p_call (hb := hcf) (hf := hcnt (M[f + (2 * rt + 1)]) (M[f + (2 * rt + 2)])) (h := ?_)
          refine p_goJ ?_
          refine p_splitC (s := 40) (ht := fun hc40 => ?_) (hf := fun hc40 => ?_)
          · have hless : c (el M (f + (2 * rt + 1))) (el M (f + (2 * rt + 2))) < 0 := by
              rw [el_at (L := M) (i := f + (2 * rt + 1)) (by omega), el_at (L := M) (i := f + (2 * rt + 2)) (by omega)]; simpa using hc40
            refine p_goJ fun hf => ?_
            refine p_add (r := ((2 * rt + 2 : Nat) : Int)) (hr := (by first | omega | (simp only [decide_eq_true_eq, decide_eq_false_iff_not, Bool.or_eq_false_iff, Bool.and_eq_true, Bool.not_eq_true', Bool.not_eq_false'] at *; omega))) (hb := (by first | omega | (simp only [decide_eq_true_eq, decide_eq_false_iff_not, Bool.or_eq_false_iff, Bool.and_eq_true, Bool.not_eq_true', Bool.not_eq_false'] at *; omega))) (h := ?_)
            refine p_goJ ?_
            refine p_some ?_
            refine ⟨⟨(by simp (decide := true) only [valsE, evE, upd, cv, args0, argsFrom, List.length_map, ↓reduceIte, hE] <;> rfl), (by simp (decide := true) only [valsO, updO, upd, true_and, and_true, false_and, and_false, ↓reduceIte, hE] <;> rfl)⟩, 2 * rt + 2, .inr rfl, hlt2, (fun k hk _ => by rcases hk with rfl | rfl; exact hc.asy _ _ hless; exact hc.irr _), (by (try dsimp only); repeat (first | exact hlow | exact LowQ.refl | refine LowQ.up ?_ (by omega) | refine LowQ.at_ ?_ (by simp))), (by first | (dsimp only; omega) | omega), eV_⟩
          · have hless : ¬ c (el M (f + (2 * rt + 1))) (el M (f + (2 * rt + 2))) < 0 := by
              rw [el_at (L := M) (i := f + (2 * rt + 1)) (by omega), el_at (L := M) (i := f + (2 * rt + 2)) (by omega)]; simpa using hc40
            refine p_goJ ?_
            refine p_some ?_
            refine ⟨⟨(by simp (decide := true) only [valsE, evE, upd, cv, args0, argsFrom, List.length_map, ↓reduceIte, hE] <;> rfl), (by simp (decide := true) only [valsO, updO, upd, true_and, and_true, false_and, and_false, ↓reduceIte, hE] <;> rfl)⟩, 2 * rt + 1, .inl rfl, hlt1, (fun k hk _ => by rcases hk with rfl | rfl; exact hc.irr _; exact hless), (by (try dsimp only); repeat (first | exact hlow | exact LowQ.refl | refine LowQ.up ?_ (by omega) | refine LowQ.at_ ?_ (by simp))), (by first | (dsimp only; omega) | omega), eV_⟩
        · have hge2 : hi ≤ 2 * rt + 2 := by have h := hb23; simp at h; omega
          refine p_goJ ?_
          refine p_some ?_
          refine ⟨⟨(by simp (decide := true) only [valsE, evE, upd, cv, args0, argsFrom, List.length_map, ↓reduceIte, hE] <;> rfl), (by simp (decide := true) only [valsO, updO, upd, true_and, and_true, false_and, and_false, ↓reduceIte, hE] <;> rfl)⟩, 2 * rt + 1, .inl rfl, hlt1, (fun k hk hk2 => by rcases hk with rfl | rfl; exact hc.irr _; omega), (by (try dsimp only); repeat (first | exact hlow | exact LowQ.refl | refine LowQ.up ?_ (by omega) | refine LowQ.at_ ?_ (by simp))), (by first | (dsimp only; omega) | omega), eV_⟩
      · obtain ⟨ch, hch, hclt, hbig, hlow, hgen, e11⟩ := hI
        dsimp only at e11
        simp only [valsE, List.cons.injEq, and_true] at hK
        simp only [valsO, List.cons.injEq, and_true] at hO
        have hE := (⟨hK, hO, e11⟩ : _ ∧ _ ∧ _)
        dsimp only at hlow hgen
        refine p_seq ?_
        refine p_goJ fun hf => ?_
        refine p_add (r := ((f + rt : Nat) : Int)) (hr := (by first | omega | (simp only [decide_eq_true_eq, decide_eq_false_iff_not, Bool.or_eq_false_iff, Bool.and_eq_true, Bool.not_eq_true', Bool.not_eq_false'] at *; omega))) (hb := (by first | omega | (simp only [decide_eq_true_eq, decide_eq_false_iff_not, Bool.or_eq_false_iff, Bool.and_eq_true, Bool.not_eq_true', Bool.not_eq_false'] at *; omega))) (h := ?_)
        refine p_idxRowN (f + rt) (ht := Tryz.underlying100) (hi := F.ti102.h) (hij := by omega) (hlt := by (try simp only [List.length_set]); omega) (h := ?_)
        refine p_loadRowAM (ht := F.agg102.h) (hi := F.ti102.h) (hj := by (try simp only [List.length_set]); omega) (h := ?_)
        refine p_goJ fun hf => ?_
        refine p_add (r := ((f + ch : Nat) : Int)) (hr := (by first | omega | (simp only [decide_eq_true_eq, decide_eq_false_iff_not, Bool.or_eq_false_iff, Bool.and_eq_true, Bool.not_eq_true', Bool.not_eq_false'] at *; omega))) (hb := (by first | omega | (simp only [decide_eq_true_eq, decide_eq_false_iff_not, Bool.or_eq_false_iff, Bool.and_eq_true, Bool.not_eq_true', Bool.not_eq_false'] at *; omega))) (h := ?_)
        refine p_idxRowN (f + ch) (ht := Tryz.underlying100) (hi := F.ti102.h) (hij := by omega) (hlt := by (try simp only [List.length_set]); omega) (h := ?_)
        refine p_loadRowAM (ht := F.agg102.h) (hi := F.ti102.h) (hj := by (try simp only [List.length_set]); omega) (h := ?_)
        refine p_call (hb := hcf) (hf := hcnt (M[f + rt]) (M[f + ch])) (h := ?_)
        refine p_goJ ?_
        refine p_splitC (s := 58) (ht := fun hc58 => ?_) (hf := fun hc58 => ?_)
        · have hless : ¬ c (el M (f + rt)) (el M (f + ch)) < 0 := by
            rw [el_at (L := M) (i := f + rt) (by omega), el_at (L := M) (i := f + ch) (by omega)]; simpa using hc58
          refine p_goJ ?_
          refine p_retE0' rfl (hK0 _ _ _ (by first | (dsimp only; omega) | omega) (by (try dsimp only); repeat (first | exact hlow | exact LowQ.refl | refine LowQ.up ?_ (by omega) | refine LowQ.at_ ?_ (by simp))) (⟨M, (by simp (decide := true) only [valsO, updO, upd, true_and, and_true, false_and, and_false, ↓reduceIte, hE] <;> rfl), hI.mix, hI.stop2 hc hbig hless⟩))
        · have hless : c (el M (f + rt)) (el M (f + ch)) < 0 := by
            rw [el_at (L := M) (i := f + rt) (by omega), el_at (L := M) (i := f + ch) (by omega)]; simpa using hc58
          refine p_goJ fun hf => ?_
          refine p_add (r := ((f + rt : Nat) : Int)) (hr := (by first | omega | (simp only [decide_eq_true_eq, decide_eq_false_iff_not, Bool.or_eq_false_iff, Bool.and_eq_true, Bool.not_eq_true', Bool.not_eq_false'] at *; omega))) (hb := (by first | omega | (simp only [decide_eq_true_eq, decide_eq_false_iff_not, Bool.or_eq_false_iff, Bool.and_eq_true, Bool.not_eq_true', Bool.not_eq_false'] at *; omega))) (h := ?_)
          refine p_goJ fun hf => ?_
          refine p_add (r := ((f + ch : Nat) : Int)) (hr := (by first | omega | (simp only [decide_eq_true_eq, decide_eq_false_iff_not, Bool.or_eq_false_iff, Bool.and_eq_true, Bool.not_eq_true', Bool.not_eq_false'] at *; omega))) (hb := (by first | omega | (simp only [decide_eq_true_eq, decide_eq_false_iff_not, Bool.or_eq_false_iff, Bool.and_eq_true, Bool.not_eq_true', Bool.not_eq_false'] at *; omega))) (h := ?_)
          refine p_goJ fun hf => ?_
          refine p_add (r := ((f + ch : Nat) : Int)) (hr := (by first | omega | (simp only [decide_eq_true_eq, decide_eq_false_iff_not, Bool.or_eq_false_iff, Bool.and_eq_true, Bool.not_eq_true', Bool.not_eq_false'] at *; omega))) (hb := (by first | omega | (simp only [decide_eq_true_eq, decide_eq_false_iff_not, Bool.or_eq_false_iff, Bool.and_eq_true, Bool.not_eq_true', Bool.not_eq_false'] at *; omega))) (h := ?_)
          refine p_idxRowN (f + ch) (ht := Tryz.underlying100) (hi := F.ti102.h) (hij := by omega) (hlt := by (try simp only [List.length_set]); omega) (h := ?_)
          refine p_loadRowAM (ht := F.agg102.h) (hi := F.ti102.h) (hj := by (try simp only [List.length_set]); omega) (h := ?_)
          refine p_goJ fun hf => ?_
          refine p_add (r := ((f + rt : Nat) : Int)) (hr := (by first | omega | (simp only [decide_eq_true_eq, decide_eq_false_iff_not, Bool.or_eq_false_iff, Bool.and_eq_true, Bool.not_eq_true', Bool.not_eq_false'] at *; omega))) (hb := (by first | omega | (simp only [decide_eq_true_eq, decide_eq_false_iff_not, Bool.or_eq_false_iff, Bool.and_eq_true, Bool.not_eq_true', Bool.not_eq_false'] at *; omega))) (h := ?_)
          refine p_idxRowN (f + rt) (ht := Tryz.underlying100) (hi := F.ti102.h) (hij := by omega) (hlt := by (try simp only [List.length_set]); omega) (h := ?_)
          refine p_loadRowAM (ht := F.agg102.h) (hi := F.ti102.h) (hj := by (try simp only [List.length_set]); omega) (h := ?_)
          refine p_idxRowN (f + rt) (ht := Tryz.underlying100) (hi := F.ti102.h) (hij := by omega) (hlt := by (try simp only [List.length_set]); omega) (h := ?_)
          refine p_storeRowMA (M[f + ch]) (hi := F.ti102.h) (hc := TI.cells F.ti102.h) (hlt := by (try simp only [List.length_set]); omega) (h := ?_)
          refine p_idxRowN (f + ch) (ht := Tryz.underlying100) (hi := F.ti102.h) (hij := by omega) (hlt := by (try simp only [List.length_set]); omega) (h := ?_)
          refine p_storeRowMA (M[f + rt]) (hi := F.ti102.h) (hc := TI.cells F.ti102.h) (hlt := by (try simp only [List.length_set]); omega) (h := ?_)
          refine p_goJ ?_
          refine p_some ?_
          refine ⟨⟨(by simp (decide := true) only [valsE, evE, upd, cv, args0, argsFrom, List.length_map, ↓reduceIte, hE] <;> rfl), (by simp (decide := true) only [valsO, updO, upd, true_and, and_true, false_and, and_false, ↓reduceIte, hE] <;> rfl)⟩, ⟨ch, swp M (f + rt) (f + ch), hI.step hc hb hch hclt hbig hless, by omega, (by (try dsimp only); repeat (first | exact hlow | exact LowQ.refl | refine LowQ.up ?_ (by omega) | refine LowQ.at_ ?_ (by simp))), (by first | (dsimp only; omega) | omega), eV_, by rw [← swp_at (by omega) (by omega)]; exact oB_⟩, ?_⟩
          simp (decide := true) only [upd, e10, V.toN, ↓reduceIte]; omega
theorem heapSort (c : Pl → Pl → Int) (cf : FuncId) (cfn : Func) (ccode : Code) (hcf : HasBody Tryz.prog cf cfn ccode) (hcnt : ∀ x y, FnC Tryz.prog cf [plV x, plV y] (fun r => r = iV (c x y))) (hc : TotC c) (L : List Pl) (q : Nat) (a b : Nat) (hab : a ≤ b) (hb : b ≤ L.length) (hl : L.length ≤ 17592186044416) (hlt : a < b) : FnQ Tryz.prog 117 [.row q 900 L.length, iV a, iV b, .fn cf []] [(q, 900)] [.row 102 (L.map plV)] (fun r us' => ∃ M, us' = [.row 102 (M.map plV)] ∧ Mix a b L M ∧ SortedOn c a b M) := by
  refine FnQ.of (fn := Tryz.f117) ⟨Tryz.func117, by kernel_rfl, rfl⟩ Tryz.ntmps117 (by simp) fun w0 S0 l ob0 g0 K hrow hgl hK0 => ?_
  simp only [valsO, List.cons.injEq, and_true] at hrow
  simp only [List.mem_cons, List.not_mem_nil, or_false, forall_eq_or_imp, forall_eq, forall_const] at hgl
  have hE := hrow
  refine p_go fun hf => ?_
  refine p_sub (r := (((b - a : Nat) : Int))) (hr := by omega) (hb := by omega) (h := ?_)
  refine p_go fun hf => ?_
  refine p_sub (r := (((b - a - 1 : Nat) : Int))) (hr := by omega) (hb := by omega) (h := ?_)
  refine p_quo (r := ((((b - a - 1) / 2 : Nat) : Int))) (by decide) eV_ eV_ (by omega) (by omega) ?_
  refine p_go ?_
  refine p_loopK [0, 3, 8, 9, 10] [] (fun st => ∃ (i : Int) (M : List Pl), (-1 ≤ i) ∧ (i < b - a) ∧ (Mix a b L M) ∧ (HeapFrom c a (i + 1).toNat (b - a) M) ∧ (LowQ g0 [(q, 900)] ob0 st.obj) ∧ (g0 ≤ st.gen) ∧ st.env 11 = iV i ∧ st.obj q 900 = .row 102 (M.map plV)) (fun st => (st.env 11).toM) ?_ fun e ob g1 hK hO hI => ?_
  · exact ⟨((b - a - 1) / 2 : Nat), L, by omega, by omega, Mix.refl, fun j hj k hk hk2 => by omega, (by (try dsimp only); repeat (first | exact hlow | exact LowQ.refl | refine LowQ.up ?_ (by omega) | refine LowQ.at_ ?_ (by simp))), (by first | (dsimp only; omega) | omega), eV_, oB_⟩
  · obtain ⟨i, M, hi1, hi2, hmx, hhp, hlow, hgen, e11, o900⟩ := hI
    dsimp only at e11 o900
    simp only [valsE, List.cons.injEq, and_true] at hK
    have hE := (⟨hK, e11, o900⟩ : _ ∧ _ ∧ _)
    dsimp only at hlow hgen
    have hML := hmx.len
    refine p_go ?_
    refine p_splitC (s := 21) (ht := fun hc21 => ?_) (hf := fun hc21 => ?_)
    · obtain ⟨k, rfl⟩ : ∃ k : Nat, i = k := ⟨i.toNat, by have h := hc21; simp at h; omega⟩
      have hpk : HeapFrom c a (k + 1) (b - a) M := by rw [show k + 1 = ((k : Int) + 1).toNat by omega]; exact hhp
      refine p_go fun hf => ?_
      refine p_callQ ([]) (hf := by have h := siftDown c cf cfn ccode hcf hcnt hc M q k (b - a) a (by omega) (by omega) (by omega) (hpk); rw [hML] at h; exact h) (hg := by simp; omega) (hos := by simp) (h := fun r o1 h1 hg1 hlw1 hos1 hR1 => ?_)
      obtain ⟨M1, hM1, hmx1, hhp1⟩ := hR1
      have hlow : LowQ g0 [(q, 900)] ob0 o1 := LowQ.trans (by (try dsimp only); repeat (first | exact hlow | exact LowQ.refl | refine LowQ.up ?_ (by omega) | refine LowQ.at_ ?_ (by simp))) hlw1 (by first | (dsimp only; omega) | omega) (fun k hk => .inl hk)
      simp only [valsO, List.cons.injEq, and_true] at hos1 hM1
      have hE := (⟨hK, e11, hM1⟩ : _ ∧ _ ∧ _)
      refine p_go fun hf => ?_
      refine p_sub (r := (k : Int) - 1) (hr := rfl) (hb := by omega) (h := ?_)
      refine p_go ?_
      refine p_some ?_
      have hmx1' : Mix a b M M1 := hmx1.wide (by omega) (by omega)
      refine ⟨⟨(by simp (decide := true) only [valsE, evE, upd, cv, args0, argsFrom, List.length_map, ↓reduceIte, hE] <;> rfl), (by simp (decide := true) only [valsO, updO, upd, true_and, and_true, false_and, and_false, ↓reduceIte, hE] <;> rfl)⟩, ⟨(k : Int) - 1, M1, by omega, by omega, hmx.trans hmx1', by rw [show ((k : Int) - 1 + 1).toNat = k by omega]; exact hhp1, (by (try dsimp only); repeat (first | exact hlow | exact LowQ.refl | refine LowQ.up ?_ (by omega) | refine LowQ.at_ ?_ (by simp))), (by first | (dsimp only; omega) | omega), eV_, oB_⟩, ?_⟩
      simp (decide := true) only [upd, e11, V.toN, V.toM, ↓reduceIte]; omega
    · have hi0 : i = -1 := by have h := hc21; simp at h; omega
      subst hi0
      refine p_go fun hf => ?_
      refine p_sub (r := (((b - a - 1 : Nat) : Int))) (hr := by omega) (hb := by omega) (h := ?_)
      refine p_go ?_
      refine p_loopK [0, 3, 8, 9] [] (fun st => ∃ (i : Int) (M : List Pl), (-1 ≤ i) ∧ (i < b - a) ∧ (PopI c a b (i + 1).toNat L M) ∧ (LowQ g0 [(q, 900)] ob0 st.obj) ∧ (g0 ≤ st.gen) ∧ st.env 12 = iV i ∧ st.obj q 900 = .row 102 (M.map plV)) (fun st => (st.env 12).toM) ?_ fun e ob g2 hK hO hI => ?_
      · exact ⟨((b - a - 1 : Nat) : Int), M, by omega, by omega, PopI.start hmx (by rw [show (((b - a - 1 : Nat) : Int) + 1).toNat = b - a by omega]; exact hhp) (by omega), (by (try dsimp only); repeat (first | exact hlow | exact LowQ.refl | refine LowQ.up ?_ (by omega) | refine LowQ.at_ ?_ (by simp))), (by first | (dsimp only; omega) | omega), eV_, oB_⟩
      · obtain ⟨i, M, hi1, hi2, hP, hlow, hgen, e12, o900⟩ := hI
        dsimp only at e12 o900
        simp only [valsE, List.cons.injEq, and_true] at hK
        have hE := (⟨hK, e12, o900⟩ : _ ∧ _ ∧ _)
        dsimp only at hlow hgen
        have hML := hP.mix.len
        refine p_go ?_
        refine p_splitC (s := 33) (ht := fun hc33 => ?_) (hf := fun hc33 => ?_)
        · obtain ⟨k, rfl⟩ : ∃ k : Nat, i = k := ⟨i.toNat, by have h := hc33; simp at h; omega⟩
          have hPI : PopI c a b (k + 1) L M := by rw [show k + 1 = ((k : Int) + 1).toNat by omega]; exact hP
          have hPn := hPI.hn
          have hsl := swp_len M a (a + k)
          refine p_go fun hf => ?_
          refine p_add (r := ((a + k : Nat) : Int)) (hr := (by first | omega | (simp only [decide_eq_true_eq, decide_eq_false_iff_not, Bool.or_eq_false_iff, Bool.and_eq_true, Bool.not_eq_true', Bool.not_eq_false'] at *; omega))) (hb := (by first | omega | (simp only [decide_eq_true_eq, decide_eq_false_iff_not, Bool.or_eq_false_iff, Bool.and_eq_true, Bool.not_eq_true', Bool.not_eq_false'] at *; omega))) (h := ?_)
          refine p_go fun hf => ?_
          refine p_add (r := ((a + k : Nat) : Int)) (hr := (by first | omega | (simp only [decide_eq_true_eq, decide_eq_false_iff_not, Bool.or_eq_false_iff, Bool.and_eq_true, Bool.not_eq_true', Bool.not_eq_false'] at *; omega))) (hb := (by first | omega | (simp only [decide_eq_true_eq, decide_eq_false_iff_not, Bool.or_eq_false_iff, Bool.and_eq_true, Bool.not_eq_true', Bool.not_eq_false'] at *; omega))) (h := ?_)
          refine p_idxRowN (a + k) (ht := Tryz.underlying100) (hi := F.ti102.h) (hij := by omega) (hlt := by (try simp only [List.length_set]); omega) (h := ?_)
          refine p_loadRowAM (ht := F.agg102.h) (hi := F.ti102.h) (hj := by (try simp only [List.length_set]); omega) (h := ?_)
          refine p_go fun hf => ?_
          refine p_idxRowN (a) (ht := Tryz.underlying100) (hi := F.ti102.h) (hij := by omega) (hlt := by (try simp only [List.length_set]); omega) (h := ?_)
          refine p_loadRowAM (ht := F.agg102.h) (hi := F.ti102.h) (hj := by (try simp only [List.length_set]); omega) (h := ?_)
          refine p_idxRowN (a) (ht := Tryz.underlying100) (hi := F.ti102.h) (hij := by omega) (hlt := by (try simp only [List.length_set]); omega) (h := ?_)
          refine p_storeRowMA (M[a + k]) (hi := F.ti102.h) (hc := TI.cells F.ti102.h) (hlt := by (try simp only [List.length_set]); omega) (h := ?_)
          refine p_idxRowN (a + k) (ht := Tryz.underlying100) (hi := F.ti102.h) (hij := by omega) (hlt := by (try simp only [List.length_set]); omega) (h := ?_)
          refine p_storeRowMA (M[a]) (hi := F.ti102.h) (hc := TI.cells F.ti102.h) (hlt := by (try simp only [List.length_set]); omega) (h := ?_)
          refine p_go fun hf => ?_
          have hsw := swp_at (L := M) (i := a) (j := a + k) (by omega) (by omega)
          rw [hsw]
          refine p_callQ ([]) (hf := by have h := siftDown c cf cfn ccode hcf hcnt hc (swp M a (a + k)) q 0 k a (by omega) (by omega) (by omega) (hPI.heap1 hb); rw [hsl, hML] at h; exact h) (hg := by simp; omega) (hos := by simp) (h := fun r o2 h2 hg2 hlw2 hos2 hR2 => ?_)
          obtain ⟨M2, hM2, hmx2, hhp2⟩ := hR2
          have hlow : LowQ g0 [(q, 900)] ob0 o2 := LowQ.trans (by (try dsimp only); repeat (first | exact hlow | exact LowQ.refl | refine LowQ.up ?_ (by omega) | refine LowQ.at_ ?_ (by simp))) hlw2 (by first | (dsimp only; omega) | omega) (fun k hk => .inl hk)
          simp only [valsO, List.cons.injEq, and_true] at hos2 hM2
          have hE := (⟨hK, e12, hM2⟩ : _ ∧ _ ∧ _)
          refine p_go fun hf => ?_
          refine p_sub (r := (k : Int) - 1) (hr := rfl) (hb := by omega) (h := ?_)
          refine p_go ?_
          refine p_some ?_
          have hmx2' : Mix a (a + k) (swp M a (a + k)) M2 := hmx2
          refine ⟨⟨(by simp (decide := true) only [valsE, evE, upd, cv, args0, argsFrom, List.length_map, ↓reduceIte, hE] <;> rfl), (by simp (decide := true) only [valsO, updO, upd, true_and, and_true, false_and, and_false, ↓reduceIte, hE] <;> rfl)⟩, ⟨(k : Int) - 1, M2, by omega, by omega, by rw [show ((k : Int) - 1 + 1).toNat = k by omega]; exact hPI.step hc hb hmx2' hhp2, (by (try dsimp only); repeat (first | exact hlow | exact LowQ.refl | refine LowQ.up ?_ (by omega) | refine LowQ.at_ ?_ (by simp))), (by first | (dsimp only; omega) | omega), eV_, oB_⟩, ?_⟩
          simp (decide := true) only [upd, e12, V.toN, V.toM, ↓reduceIte]; omega
        · have hi0 : i = -1 := by have h := hc33; simp at h; omega
          subst hi0
          refine p_go ?_
          refine p_retE0 rfl (hK0 _ _ _ (by first | (dsimp only; omega) | omega) (by (try dsimp only); repeat (first | exact hlow | exact LowQ.refl | refine LowQ.up ?_ (by omega) | refine LowQ.at_ ?_ (by simp))) (⟨M, (by simp (decide := true) only [valsO, updO, upd, true_and, and_true, false_and, and_false, ↓reduceIte, hE] <;> rfl), hP.mix, hP.srt⟩))
end Go.Proofs.YtfpljljjjgicaaaGreatDoor
/-
  Sorting places: partial insertion.
-/
set_option maxHeartbeats 4000000
set_option linter.unusedSimpArgs false
set_option linter.unusedVariables false
namespace Go.Proofs.YtfpljljjjgicaaaGreatDoor
open Go.RowKit
attribute [local irreducible] Wk Tr
theorem SortedOn.swp_out {c : Pl → Pl → Int} {a i x y : Nat} {M : List Pl} (h : SortedOn c a i M) (hx : i ≤ x) (hy : i ≤ y) (h1 : x < M.length) (h2 : y < M.length) : SortedOn c a i (swp M x y) := fun p r k1 k2 k3 => by
  rw [swp_el h1 h2, swp_el h1 h2, if_neg (by omega), if_neg (by omega), if_neg (by omega), if_neg (by omega)]
  exact h p r k1 k2 k3
theorem SortedOn.less {c : Pl → Pl → Int} {a i i' : Nat} {M : List Pl} (h : SortedOn c a i M) (hi : i' ≤ i) : SortedOn c a i' M := fun p r k1 k2 k3 => h p r k1 k2 (by omega)
theorem partIns (c : Pl → Pl → Int) (cf : FuncId) (cfn : Func) (ccode : Code) (hcf : HasBody Tryz.prog cf cfn ccode) (hcnt : ∀ x y, FnC Tryz.prog cf [plV x, plV y] (fun r => r = iV (c x y))) (hc : TotC c) (L : List Pl) (q : Nat) (a b : Nat) (hab : a ≤ b) (hb : b ≤ L.length) (hl : L.length ≤ 17592186044416) (hlt0 : a < b) (hlo : LeftOk c a b L) : FnQ Tryz.prog 121 [.row q 900 L.length, iV a, iV b, .fn cf []] [(q, 900)] [.row 102 (L.map plV)] (fun r us' => ∃ (w : Bool) (M : List Pl), r = .bool w ∧ us' = [.row 102 (M.map plV)] ∧ Mix a b L M ∧ (w = true → SortedOn c a b M)) := by
  refine FnQ.of (fn := Tryz.f121) ⟨Tryz.func121, by kernel_rfl, rfl⟩ Tryz.ntmps121 (by simp) fun w0 S0 l ob0 g0 K hrow hgl hK0 => ?_
  simp only [valsO, List.cons.injEq, and_true] at hrow
  simp only [List.mem_cons, List.not_mem_nil, or_false, forall_eq_or_imp, forall_eq, forall_const] at hgl
  have hE := hrow
  refine p_goJ fun hf => ?_
  refine p_add (r := ((a + 1 : Nat) : Int)) (hr := (by first | omega | (simp only [decide_eq_true_eq, decide_eq_false_iff_not, Bool.or_eq_false_iff, Bool.and_eq_true, Bool.not_eq_true', Bool.not_eq_false'] at *; omega))) (hb := (by first | omega | (simp only [decide_eq_true_eq, decide_eq_false_iff_not, Bool.or_eq_false_iff, Bool.and_eq_true, Bool.not_eq_true', Bool.not_eq_false'] at *; omega))) (h := ?_)
  refine p_goJ ?_
  refine p_seq ?_
  refine p_goJ ?_
  refine p_loopK [0, 1, 2, 3] [] (fun st => ∃ (i0 j : Nat) (M : List Pl), (a + 1 ≤ i0) ∧ (i0 ≤ b) ∧ (j ≤ 5) ∧ (Mix a b L M) ∧ (SortedOn c a i0 M) ∧ (LowQ g0 [(q, 900)] ob0 st.obj) ∧ (g0 ≤ st.gen) ∧ st.env 9 = iV i0 ∧ st.env 10 = iV j ∧ st.obj q 900 = .row 102 (M.map plV)) (fun st => 5 - (st.env 10).toN) ?_ fun e ob g1 hK hO hI => ?_
  · exact ⟨a + 1, 0, L, Nat.le_refl _, by omega, by omega, Mix.refl, fun _ _ h1 h2 h3 => by omega, (by (try dsimp only); repeat (first | exact hlow | exact LowQ.refl | refine LowQ.up ?_ (by omega) | refine LowQ.at_ ?_ (by simp))), (by first | (dsimp only; omega) | omega), eV_, eV_, oB_⟩
  · obtain ⟨i0, j, M, hi, hib, hj, hmx, hsr, hlow, hgen, e9, e10, o900⟩ := hI
    dsimp only at e9 e10 o900
    simp only [valsE, List.cons.injEq, and_true] at hK
    have hE := (⟨hK, e9, e10, o900⟩ : _ ∧ _ ∧ _ ∧ _)
    dsimp only at hlow hgen
    have hML := hmx.len
    refine p_seq ?_
    refine p_goJ ?_
    refine p_splitC (s := 16) (ht := fun hc16 => ?_) (hf := fun hc16 => ?_)
    · have hj5 : j < 5 := by have h := hc16; simp at h; omega
      refine p_goJ ?_
      refine p_seq ?_
      refine p_goJ ?_
      refine p_joinK [0, 1, 2, 3, 10] [(q, 900)] (fun st => ∃ (i : Nat), (a + 1 ≤ i) ∧ (i ≤ b) ∧ (SortedOn c a i M) ∧ (i < b → c (el M i) (el M (i - 1)) < 0) ∧ (LowQ g0 [(q, 900)] ob0 st.obj) ∧ (g0 ≤ st.gen) ∧ st.env 9 = iV i) ?_ fun e ob gJ2 hK hO hI => ?_
      ·
        refine p_goJ ?_
        refine p_loopK [0, 1, 2, 3, 10] [(q, 900)] (fun st => ∃ (i : Nat), (a + 1 ≤ i) ∧ (i ≤ b) ∧ (SortedOn c a i M) ∧ (LowQ g0 [(q, 900)] ob0 st.obj) ∧ (g0 ≤ st.gen) ∧ st.env 9 = iV i) (fun st => b - (st.env 9).toN) ?_ fun e ob g2 hK hO hI => ?_
        · exact ⟨i0, hi, hib, hsr, (by (try dsimp only); repeat (first | exact hlow | exact LowQ.refl | refine LowQ.up ?_ (by omega) | refine LowQ.at_ ?_ (by simp))), (by first | (dsimp only; omega) | omega), eV_⟩
        · obtain ⟨i, hi, hib, hsr, hlow, hgen, e9⟩ := hI
          dsimp only at e9
          simp only [valsE, List.cons.injEq, and_true] at hK
          simp only [valsO, List.cons.injEq, and_true] at hO
          have hE := (⟨hK, hO, e9⟩ : _ ∧ _ ∧ _)
          dsimp only at hlow hgen
          refine p_seq ?_
          refine p_goJ fun hf => ?_
          refine p_split (s := 22) (ht := fun hb22 => ?_) (hf := fun hb22 => ?_)
          · have hib2 : i < b := by have h := hb22; simp at h; omega
            refine p_goJ fun hf => ?_
            refine p_idxRowN (i) (ht := Tryz.underlying100) (hi := F.ti102.h) (hij := by omega) (hlt := by (try simp only [List.length_set]); omega) (h := ?_)
            refine p_goJ fun hf => ?_
            refine p_loadRowAM (ht := F.agg102.h) (hi := F.ti102.h) (hj := by (try simp only [List.length_set]); omega) (h := ?_)
            refine p_goJ fun hf => ?_
            refine p_sub (r := (((i - 1 : Nat) : Int))) (hr := by omega) (hb := by omega) (h := ?_)
            refine p_goJ fun hf => ?_
            refine p_idxRowN (i - 1) (ht := Tryz.underlying100) (hi := F.ti102.h) (hij := by omega) (hlt := by (try simp only [List.length_set]); omega) (h := ?_)
            refine p_goJ fun hf => ?_
            refine p_loadRowAM (ht := F.agg102.h) (hi := F.ti102.h) (hj := by (try simp only [List.length_set]); omega) (h := ?_)
            refine p_goJ fun hf => ?_
            refine p_call (hb := hcf) (hf := hcnt (M[i]) (M[i - 1])) (h := ?_)
            refine p_goJ ?_
            refine p_splitC (s := 36) (ht := fun hc36 => ?_) (hf := fun hc36 => ?_)
            · have hless : ¬ c (el M (i)) (el M (i - 1)) < 0 := by
                rw [el_at (L := M) (i := i) (by omega), el_at (L := M) (i := i - 1) (by omega)]; simpa using hc36
              refine p_goJ fun hf => ?_
              refine p_add (r := ((i + 1 : Nat) : Int)) (hr := (by first | omega | (simp only [decide_eq_true_eq, decide_eq_false_iff_not, Bool.or_eq_false_iff, Bool.and_eq_true, Bool.not_eq_true', Bool.not_eq_false'] at *; omega))) (hb := (by first | omega | (simp only [decide_eq_true_eq, decide_eq_false_iff_not, Bool.or_eq_false_iff, Bool.and_eq_true, Bool.not_eq_true', Bool.not_eq_false'] at *; omega))) (h := ?_)
              refine p_goJ ?_
              refine p_some ?_
              refine ⟨⟨(by simp (decide := true) only [valsE, evE, upd, cv, args0, argsFrom, List.length_map, ↓reduceIte, hE] <;> rfl), (by simp (decide := true) only [valsO, updO, upd, true_and, and_true, false_and, and_false, ↓reduceIte, hE] <;> rfl)⟩, ⟨i + 1, by omega, by omega, (InsAt.start hsr).stop hc (.inr ⟨by omega, hless⟩), (by (try dsimp only); repeat (first | exact hlow | exact LowQ.refl | refine LowQ.up ?_ (by omega) | refine LowQ.at_ ?_ (by simp))), (by first | (dsimp only; omega) | omega), eV_⟩, ?_⟩
              simp (decide := true) only [upd, e9, V.toN, ↓reduceIte]; omega
            · have hless : c (el M (i)) (el M (i - 1)) < 0 := by
                rw [el_at (L := M) (i := i) (by omega), el_at (L := M) (i := i - 1) (by omega)]; simpa using hc36
              refine p_goJ ?_
              refine p_some ?_
              refine ⟨⟨(by simp (decide := true) only [valsE, evE, upd, cv, args0, argsFrom, List.length_map, ↓reduceIte, hE] <;> rfl), (by simp (decide := true) only [valsO, updO, upd, true_and, and_true, false_and, and_false, ↓reduceIte, hE] <;> rfl)⟩, i, hi, hib, hsr, fun _ => hless, (by (try dsimp only); repeat (first | exact hlow | exact LowQ.refl | refine LowQ.up ?_ (by omega) | refine LowQ.at_ ?_ (by simp))), (by first | (dsimp only; omega) | omega), eV_⟩
          · have hib2 : b ≤ i := by have h := hb22; simp at h; omega
            refine p_goJ ?_
            refine p_some ?_
            refine ⟨⟨(by simp (decide := true) only [valsE, evE, upd, cv, args0, argsFrom, List.length_map, ↓reduceIte, hE] <;> rfl), (by simp (decide := true) only [valsO, updO, upd, true_and, and_true, false_and, and_false, ↓reduceIte, hE] <;> rfl)⟩, i, hi, hib, hsr, fun h => absurd h (by omega), (by (try dsimp only); repeat (first | exact hlow | exact LowQ.refl | refine LowQ.up ?_ (by omega) | refine LowQ.at_ ?_ (by simp))), (by first | (dsimp only; omega) | omega), eV_⟩
      · obtain ⟨i, hi, hib, hsr, hx, hlow, hgen, e9⟩ := hI
        dsimp only at e9
        simp only [valsE, List.cons.injEq, and_true] at hK
        simp only [valsO, List.cons.injEq, and_true] at hO
        have hE := (⟨hK, hO, e9⟩ : _ ∧ _ ∧ _)
        dsimp only at hlow hgen
        refine p_seq ?_
        refine p_goJ ?_
        refine p_splitC (s := 41) (ht := fun hc41 => ?_) (hf := fun hc41 => ?_)
        · have hie : i = b := by have h := hc41; simp at h; omega
          refine p_goJ ?_
          refine p_retE1 (v := .bool true) rfl eV_ (hK0 _ _ _ (by first | (dsimp only; omega) | omega) (by (try dsimp only); repeat (first | exact hlow | exact LowQ.refl | refine LowQ.up ?_ (by omega) | refine LowQ.at_ ?_ (by simp))) (⟨true, M, rfl, (by simp (decide := true) only [valsO, updO, upd, true_and, and_true, false_and, and_false, ↓reduceIte, hE] <;> rfl), hmx, fun _ => hie ▸ hsr⟩))
        · have hib2 : i < b := by have h := hc41; simp at h; omega
          have hless := hx hib2
          refine p_goJ ?_
          refine p_seq ?_
          refine p_goJ fun hf => ?_
          refine p_sub (r := (((b - a : Nat) : Int))) (hr := by omega) (hb := by omega) (h := ?_)
          refine p_goJ ?_
          refine p_splitC (s := 45) (ht := fun hc45 => ?_) (hf := fun hc45 => ?_)
          · refine p_goJ ?_
            refine p_retE1 (v := .bool false) rfl eV_ (hK0 _ _ _ (by first | (dsimp only; omega) | omega) (by (try dsimp only); repeat (first | exact hlow | exact LowQ.refl | refine LowQ.up ?_ (by omega) | refine LowQ.at_ ?_ (by simp))) (⟨false, M, rfl, (by simp (decide := true) only [valsO, updO, upd, true_and, and_true, false_and, and_false, ↓reduceIte, hE] <;> rfl), hmx, fun h => by cases h⟩))
          · refine p_goJ fun hf => ?_
            refine p_sub (r := (((i - 1 : Nat) : Int))) (hr := by omega) (hb := by omega) (h := ?_)
            refine p_goJ fun hf => ?_
            refine p_sub (r := (((i - 1 : Nat) : Int))) (hr := by omega) (hb := by omega) (h := ?_)
            refine p_idxRowN (i - 1) (ht := Tryz.underlying100) (hi := F.ti102.h) (hij := by omega) (hlt := by (try simp only [List.length_set]); omega) (h := ?_)
            refine p_loadRowAM (ht := F.agg102.h) (hi := F.ti102.h) (hj := by (try simp only [List.length_set]); omega) (h := ?_)
            refine p_goJ fun hf => ?_
            refine p_idxRowN (i) (ht := Tryz.underlying100) (hi := F.ti102.h) (hij := by omega) (hlt := by (try simp only [List.length_set]); omega) (h := ?_)
            refine p_loadRowAM (ht := F.agg102.h) (hi := F.ti102.h) (hj := by (try simp only [List.length_set]); omega) (h := ?_)
            refine p_idxRowN (i) (ht := Tryz.underlying100) (hi := F.ti102.h) (hij := by omega) (hlt := by (try simp only [List.length_set]); omega) (h := ?_)
            refine p_storeRowMA (M[i - 1]) (hi := F.ti102.h) (hc := TI.cells F.ti102.h) (hlt := by (try simp only [List.length_set]); omega) (h := ?_)
            refine p_idxRowN (i - 1) (ht := Tryz.underlying100) (hi := F.ti102.h) (hij := by omega) (hlt := by (try simp only [List.length_set]); omega) (h := ?_)
            refine p_storeRowMA (M[i]) (hi := F.ti102.h) (hc := TI.cells F.ti102.h) (hlt := by (try simp only [List.length_set]); omega) (h := ?_)
            refine p_goJ ?_
            obtain ⟨M1, hM1⟩ : ∃ M1, M1 = swp M i (i - 1) := ⟨_, rfl⟩
            have hin : InsAt c a i (i - 1) M1 := by rw [hM1]; exact (InsAt.start hsr).step hc (by omega) (by omega) (Nat.le_refl _) hless
            have hmx1 : Mix a b L M1 := by rw [hM1]; exact hmx.swp hb ⟨by omega, by omega⟩ ⟨by omega, by omega⟩
            have hML1 := hmx1.len
            rw [swp_at (by omega) (by omega), ← hM1]
            refine p_joinK [0, 1, 2, 3, 9, 10] [] (fun st => ∃ (M : List Pl), (Mix a b L M) ∧ (SortedOn c a i M) ∧ (LowQ g0 [(q, 900)] ob0 st.obj) ∧ (g0 ≤ st.gen) ∧ st.obj q 900 = .row 102 (M.map plV)) ?_ fun e ob gS7 hK hO hI => ?_
            ·
              refine p_goJ fun hf => ?_
              refine p_sub (r := (((i - a : Nat) : Int))) (hr := by omega) (hb := by omega) (h := ?_)
              refine p_goJ ?_
              refine p_splitC (s := 65) (ht := fun hc65 => ?_) (hf := fun hc65 => ?_)
              · have hge2 : a + 2 ≤ i := by have h := hc65; simp at h; omega
                refine p_goJ fun hf => ?_
                refine p_sub (r := (((i - 1 : Nat) : Int))) (hr := by omega) (hb := by omega) (h := ?_)
                refine p_goJ ?_
                refine p_loopK [0, 1, 2, 3, 9, 10] [] (fun st => ∃ (jj : Nat) (M : List Pl), (a ≤ jj) ∧ (jj ≤ i) ∧ (Mix a b L M) ∧ (InsAt c a i jj M) ∧ (LowQ g0 [(q, 900)] ob0 st.obj) ∧ (g0 ≤ st.gen) ∧ st.env 11 = iV jj ∧ st.obj q 900 = .row 102 (M.map plV)) (fun st => (st.env 11).toN) ?_ fun e ob g3 hK hO hI => ?_
                · exact ⟨i - 1, M1, by omega, by omega, hmx1, hin, (by (try dsimp only); repeat (first | exact hlow | exact LowQ.refl | refine LowQ.up ?_ (by omega) | refine LowQ.at_ ?_ (by simp))), (by first | (dsimp only; omega) | omega), eV_, oB_⟩
                · obtain ⟨jj, M, haj, hji, hmx, hin, hlow, hgen, e11, o900⟩ := hI
                  dsimp only at e11 o900
                  simp only [valsE, List.cons.injEq, and_true] at hK
                  have hE := (⟨hK, e11, o900⟩ : _ ∧ _ ∧ _)
                  dsimp only at hlow hgen
                  have hML := hmx.len
                  refine p_seq ?_
                  refine p_goJ ?_
                  refine p_splitC (s := 69) (ht := fun hc69 => ?_) (hf := fun hc69 => ?_)
                  · have hj1 : 1 ≤ jj := by have h := hc69; simp at h; omega
                    refine p_goJ ?_
                    refine p_seq ?_
                    refine p_goJ ?_
                    refine p_seq ?_
                    refine p_goJ fun hf => ?_
                    refine p_idxRowN (jj) (ht := Tryz.underlying100) (hi := F.ti102.h) (hij := by omega) (hlt := by (try simp only [List.length_set]); omega) (h := ?_)
                    refine p_loadRowAM (ht := F.agg102.h) (hi := F.ti102.h) (hj := by (try simp only [List.length_set]); omega) (h := ?_)
                    refine p_goJ fun hf => ?_
                    refine p_sub (r := (((jj - 1 : Nat) : Int))) (hr := by omega) (hb := by omega) (h := ?_)
                    refine p_idxRowN (jj - 1) (ht := Tryz.underlying100) (hi := F.ti102.h) (hij := by omega) (hlt := by (try simp only [List.length_set]); omega) (h := ?_)
                    refine p_loadRowAM (ht := F.agg102.h) (hi := F.ti102.h) (hj := by (try simp only [List.length_set]); omega) (h := ?_)
                    refine p_call (hb := hcf) (hf := hcnt (M[jj]) (M[jj - 1])) (h := ?_)
                    refine p_goJ ?_
                    refine p_splitC (s := 84) (ht := fun hc84 => ?_) (hf := fun hc84 => ?_)
                    · have hless : ¬ c (el M (jj)) (el M (jj - 1)) < 0 := by
                        rw [el_at (L := M) (i := jj) (by omega), el_at (L := M) (i := jj - 1) (by omega)]; simpa using hc84
                      refine p_goJ ?_
                      refine p_some ?_
                      refine ⟨⟨(by simp (decide := true) only [valsE, evE, upd, cv, args0, argsFrom, List.length_map, ↓reduceIte, hE] <;> rfl), (by simp (decide := true) only [valsO, updO, upd, true_and, and_true, false_and, and_false, ↓reduceIte, hE] <;> rfl)⟩, M, hmx, (hin.stop hc (by by_cases h : jj = a; exact .inl h; exact .inr ⟨by omega, hless⟩)).less (by omega), (by (try dsimp only); repeat (first | exact hlow | exact LowQ.refl | refine LowQ.up ?_ (by omega) | refine LowQ.at_ ?_ (by simp))), (by first | (dsimp only; omega) | omega), oB_⟩
                    · have hless : c (el M (jj)) (el M (jj - 1)) < 0 := by
                        rw [el_at (L := M) (i := jj) (by omega), el_at (L := M) (i := jj - 1) (by omega)]; simpa using hc84
                      have hja : a < jj := by
                        rcases Nat.lt_or_ge a jj with h | h
                        · exact h
                        · exact absurd hless ((hlo.mix hmx hb) (jj - 1) jj (by omega) (by omega) (by omega))
                      refine p_goJ fun hf => ?_
                      refine p_sub (r := (((jj - 1 : Nat) : Int))) (hr := by omega) (hb := by omega) (h := ?_)
                      refine p_goJ fun hf => ?_
                      refine p_sub (r := (((jj - 1 : Nat) : Int))) (hr := by omega) (hb := by omega) (h := ?_)
                      refine p_idxRowN (jj - 1) (ht := Tryz.underlying100) (hi := F.ti102.h) (hij := by omega) (hlt := by (try simp only [List.length_set]); omega) (h := ?_)
                      refine p_loadRowAM (ht := F.agg102.h) (hi := F.ti102.h) (hj := by (try simp only [List.length_set]); omega) (h := ?_)
                      refine p_goJ fun hf => ?_
                      refine p_idxRowN (jj) (ht := Tryz.underlying100) (hi := F.ti102.h) (hij := by omega) (hlt := by (try simp only [List.length_set]); omega) (h := ?_)
                      refine p_loadRowAM (ht := F.agg102.h) (hi := F.ti102.h) (hj := by (try simp only [List.length_set]); omega) (h := ?_)
                      refine p_idxRowN (jj) (ht := Tryz.underlying100) (hi := F.ti102.h) (hij := by omega) (hlt := by (try simp only [List.length_set]); omega) (h := ?_)
                      refine p_storeRowMA (M[jj - 1]) (hi := F.ti102.h) (hc := TI.cells F.ti102.h) (hlt := by (try simp only [List.length_set]); omega) (h := ?_)
                      refine p_idxRowN (jj - 1) (ht := Tryz.underlying100) (hi := F.ti102.h) (hij := by omega) (hlt := by (try simp only [List.length_set]); omega) (h := ?_)
                      refine p_storeRowMA (M[jj]) (hi := F.ti102.h) (hc := TI.cells F.ti102.h) (hlt := by (try simp only [List.length_set]); omega) (h := ?_)
                      refine p_goJ fun hf => ?_
                      refine p_sub (r := (((jj - 1 : Nat) : Int))) (hr := by omega) (hb := by omega) (h := ?_)
                      refine p_goJ ?_
                      refine p_some ?_
                      refine ⟨⟨(by simp (decide := true) only [valsE, evE, upd, cv, args0, argsFrom, List.length_map, ↓reduceIte, hE] <;> rfl), (by simp (decide := true) only [valsO, updO, upd, true_and, and_true, false_and, and_false, ↓reduceIte, hE] <;> rfl)⟩, ⟨jj - 1, swp M jj (jj - 1), by omega, by omega, hmx.swp hb ⟨by omega, by omega⟩ ⟨by omega, by omega⟩, hin.step hc (by omega) hja hji hless, (by (try dsimp only); repeat (first | exact hlow | exact LowQ.refl | refine LowQ.up ?_ (by omega) | refine LowQ.at_ ?_ (by simp))), (by first | (dsimp only; omega) | omega), eV_, by rw [← swp_at (by omega) (by omega)]; exact oB_⟩, ?_⟩
                      simp (decide := true) only [upd, e11, V.toN, ↓reduceIte]; omega
                  · have hj1 : jj = 0 := by have h := hc69; simp at h; omega
                    refine p_goJ ?_
                    refine p_some ?_
                    refine ⟨⟨(by simp (decide := true) only [valsE, evE, upd, cv, args0, argsFrom, List.length_map, ↓reduceIte, hE] <;> rfl), (by simp (decide := true) only [valsO, updO, upd, true_and, and_true, false_and, and_false, ↓reduceIte, hE] <;> rfl)⟩, M, hmx, (hin.stop hc (.inl (by omega))).less (by omega), (by (try dsimp only); repeat (first | exact hlow | exact LowQ.refl | refine LowQ.up ?_ (by omega) | refine LowQ.at_ ?_ (by simp))), (by first | (dsimp only; omega) | omega), oB_⟩
              · have hge2 : i = a + 1 := by have h := hc65; simp at h; omega
                refine p_goJ ?_
                refine p_some ?_
                refine ⟨⟨(by simp (decide := true) only [valsE, evE, upd, cv, args0, argsFrom, List.length_map, ↓reduceIte, hE] <;> rfl), (by simp (decide := true) only [valsO, updO, upd, true_and, and_true, false_and, and_false, ↓reduceIte, hE] <;> rfl)⟩, M1, hmx1, (hin.stop hc (.inl (by omega))).less (by omega), (by (try dsimp only); repeat (first | exact hlow | exact LowQ.refl | refine LowQ.up ?_ (by omega) | refine LowQ.at_ ?_ (by simp))), (by first | (dsimp only; omega) | omega), oB_⟩
            · obtain ⟨M, hmx, hsr, hlow, hgen, o900⟩ := hI
              dsimp only at o900
              simp only [valsE, List.cons.injEq, and_true] at hK
              have hE := (⟨hK, o900⟩ : _ ∧ _)
              dsimp only at hlow hgen
              have hML := hmx.len
              refine p_goJ fun hf => ?_
              refine p_sub (r := (((b - i : Nat) : Int))) (hr := by omega) (hb := by omega) (h := ?_)
              refine p_goJ ?_
              refine p_splitC (s := 104) (ht := fun hc104 => ?_) (hf := fun hc104 => ?_)
              · refine p_goJ fun hf => ?_
                refine p_add (r := ((i + 1 : Nat) : Int)) (hr := (by first | omega | (simp only [decide_eq_true_eq, decide_eq_false_iff_not, Bool.or_eq_false_iff, Bool.and_eq_true, Bool.not_eq_true', Bool.not_eq_false'] at *; omega))) (hb := (by first | omega | (simp only [decide_eq_true_eq, decide_eq_false_iff_not, Bool.or_eq_false_iff, Bool.and_eq_true, Bool.not_eq_true', Bool.not_eq_false'] at *; omega))) (h := ?_)
                refine p_goJ ?_
                refine p_loopK [0, 1, 2, 3, 9, 10] [] (fun st => ∃ (j2 : Nat) (M : List Pl), (i + 1 ≤ j2) ∧ (Mix a b L M) ∧ (SortedOn c a i M) ∧ (LowQ g0 [(q, 900)] ob0 st.obj) ∧ (g0 ≤ st.gen) ∧ st.env 12 = iV j2 ∧ st.obj q 900 = .row 102 (M.map plV)) (fun st => b - (st.env 12).toN) ?_ fun e ob g4 hK hO hI => ?_
                · exact ⟨i + 1, M, Nat.le_refl _, hmx, hsr, (by (try dsimp only); repeat (first | exact hlow | exact LowQ.refl | refine LowQ.up ?_ (by omega) | refine LowQ.at_ ?_ (by simp))), (by first | (dsimp only; omega) | omega), eV_, oB_⟩
                · obtain ⟨j2, M, hj2, hmx, hsr, hlow, hgen, e12, o900⟩ := hI
                  dsimp only at e12 o900
                  simp only [valsE, List.cons.injEq, and_true] at hK
                  have hE := (⟨hK, e12, o900⟩ : _ ∧ _ ∧ _)
                  dsimp only at hlow hgen
                  have hML := hmx.len
                  refine p_seq ?_
                  refine p_goJ ?_
                  refine p_splitC (s := 109) (ht := fun hc109 => ?_) (hf := fun hc109 => ?_)
                  · have hj2b : j2 < b := by have h := hc109; simp at h; omega
                    refine p_goJ ?_
                    refine p_seq ?_
                    refine p_goJ ?_
                    refine p_seq ?_
                    refine p_goJ fun hf => ?_
                    refine p_idxRowN (j2) (ht := Tryz.underlying100) (hi := F.ti102.h) (hij := by omega) (hlt := by (try simp only [List.length_set]); omega) (h := ?_)
                    refine p_loadRowAM (ht := F.agg102.h) (hi := F.ti102.h) (hj := by (try simp only [List.length_set]); omega) (h := ?_)
                    refine p_goJ fun hf => ?_
                    refine p_sub (r := (((j2 - 1 : Nat) : Int))) (hr := by omega) (hb := by omega) (h := ?_)
                    refine p_idxRowN (j2 - 1) (ht := Tryz.underlying100) (hi := F.ti102.h) (hij := by omega) (hlt := by (try simp only [List.length_set]); omega) (h := ?_)
                    refine p_loadRowAM (ht := F.agg102.h) (hi := F.ti102.h) (hj := by (try simp only [List.length_set]); omega) (h := ?_)
                    refine p_call (hb := hcf) (hf := hcnt (M[j2]) (M[j2 - 1])) (h := ?_)
                    refine p_goJ ?_
                    refine p_splitC (s := 124) (ht := fun hc124 => ?_) (hf := fun hc124 => ?_)
                    · refine p_goJ fun hf => ?_
                      refine p_add (r := ((j + 1 : Nat) : Int)) (hr := (by first | omega | (simp only [decide_eq_true_eq, decide_eq_false_iff_not, Bool.or_eq_false_iff, Bool.and_eq_true, Bool.not_eq_true', Bool.not_eq_false'] at *; omega))) (hb := (by first | omega | (simp only [decide_eq_true_eq, decide_eq_false_iff_not, Bool.or_eq_false_iff, Bool.and_eq_true, Bool.not_eq_true', Bool.not_eq_false'] at *; omega))) (h := ?_)
                      refine p_goJ ?_
                      refine p_some ?_
                      refine ⟨⟨(by simp (decide := true) only [valsE, evE, upd, cv, args0, argsFrom, List.length_map, ↓reduceIte, hE] <;> rfl), (by simp (decide := true) only [valsO, updO, upd, true_and, and_true, false_and, and_false, ↓reduceIte, hE] <;> rfl)⟩, ⟨i, j + 1, M, hi, hib, by omega, hmx, hsr, (by (try dsimp only); repeat (first | exact hlow | exact LowQ.refl | refine LowQ.up ?_ (by omega) | refine LowQ.at_ ?_ (by simp))), (by first | (dsimp only; omega) | omega), eV_, eV_, oB_⟩, ?_⟩
                      simp (decide := true) only [upd, e10, V.toN, ↓reduceIte]; omega
                    · refine p_goJ fun hf => ?_
                      refine p_sub (r := (((j2 - 1 : Nat) : Int))) (hr := by omega) (hb := by omega) (h := ?_)
                      refine p_goJ fun hf => ?_
                      refine p_sub (r := (((j2 - 1 : Nat) : Int))) (hr := by omega) (hb := by omega) (h := ?_)
                      refine p_idxRowN (j2 - 1) (ht := Tryz.underlying100) (hi := F.ti102.h) (hij := by omega) (hlt := by (try simp only [List.length_set]); omega) (h := ?_)
                      refine p_loadRowAM (ht := F.agg102.h) (hi := F.ti102.h) (hj := by (try simp only [List.length_set]); omega) (h := ?_)
                      refine p_goJ fun hf => ?_
                      refine p_idxRowN (j2) (ht := Tryz.underlying100) (hi := F.ti102.h) (hij := by omega) (hlt := by (try simp only [List.length_set]); omega) (h := ?_)
                      refine p_loadRowAM (ht := F.agg102.h) (hi := F.ti102.h) (hj := by (try simp only [List.length_set]); omega) (h := ?_)
                      refine p_idxRowN (j2) (ht := Tryz.underlying100) (hi := F.ti102.h) (hij := by omega) (hlt := by (try simp only [List.length_set]); omega) (h := ?_)
                      refine p_storeRowMA (M[j2 - 1]) (hi := F.ti102.h) (hc := TI.cells F.ti102.h) (hlt := by (try simp only [List.length_set]); omega) (h := ?_)
                      refine p_idxRowN (j2 - 1) (ht := Tryz.underlying100) (hi := F.ti102.h) (hij := by omega) (hlt := by (try simp only [List.length_set]); omega) (h := ?_)
                      refine p_storeRowMA (M[j2]) (hi := F.ti102.h) (hc := TI.cells F.ti102.h) (hlt := by (try simp only [List.length_set]); omega) (h := ?_)
                      refine p_goJ fun hf => ?_
                      refine p_add (r := ((j2 + 1 : Nat) : Int)) (hr := (by first | omega | (simp only [decide_eq_true_eq, decide_eq_false_iff_not, Bool.or_eq_false_iff, Bool.and_eq_true, Bool.not_eq_true', Bool.not_eq_false'] at *; omega))) (hb := (by first | omega | (simp only [decide_eq_true_eq, decide_eq_false_iff_not, Bool.or_eq_false_iff, Bool.and_eq_true, Bool.not_eq_true', Bool.not_eq_false'] at *; omega))) (h := ?_)
                      refine p_goJ ?_
                      refine p_some ?_
                      refine ⟨⟨(by simp (decide := true) only [valsE, evE, upd, cv, args0, argsFrom, List.length_map, ↓reduceIte, hE] <;> rfl), (by simp (decide := true) only [valsO, updO, upd, true_and, and_true, false_and, and_false, ↓reduceIte, hE] <;> rfl)⟩, ⟨j2 + 1, swp M j2 (j2 - 1), by omega, hmx.swp hb ⟨by omega, by omega⟩ ⟨by omega, by omega⟩, hsr.swp_out (by omega) (by omega) (by omega) (by omega), (by (try dsimp only); repeat (first | exact hlow | exact LowQ.refl | refine LowQ.up ?_ (by omega) | refine LowQ.at_ ?_ (by simp))), (by first | (dsimp only; omega) | omega), eV_, by rw [← swp_at (by omega) (by omega)]; exact oB_⟩, ?_⟩
                      simp (decide := true) only [upd, e12, V.toN, ↓reduceIte]; omega
                  · refine p_goJ fun hf => ?_
                    refine p_add (r := ((j + 1 : Nat) : Int)) (hr := (by first | omega | (simp only [decide_eq_true_eq, decide_eq_false_iff_not, Bool.or_eq_false_iff, Bool.and_eq_true, Bool.not_eq_true', Bool.not_eq_false'] at *; omega))) (hb := (by first | omega | (simp only [decide_eq_true_eq, decide_eq_false_iff_not, Bool.or_eq_false_iff, Bool.and_eq_true, Bool.not_eq_true', Bool.not_eq_false'] at *; omega))) (h := ?_)
                    refine p_goJ ?_
                    refine p_some ?_
                    refine ⟨⟨(by simp (decide := true) only [valsE, evE, upd, cv, args0, argsFrom, List.length_map, ↓reduceIte, hE] <;> rfl), (by simp (decide := true) only [valsO, updO, upd, true_and, and_true, false_and, and_false, ↓reduceIte, hE] <;> rfl)⟩, ⟨i, j + 1, M, hi, hib, by omega, hmx, hsr, (by (try dsimp only); repeat (first | exact hlow | exact LowQ.refl | refine LowQ.up ?_ (by omega) | refine LowQ.at_ ?_ (by simp))), (by first | (dsimp only; omega) | omega), eV_, eV_, oB_⟩, ?_⟩
                    simp (decide := true) only [upd, e10, V.toN, ↓reduceIte]; omega
              · refine p_goJ fun hf => ?_
                refine p_add (r := ((j + 1 : Nat) : Int)) (hr := (by first | omega | (simp only [decide_eq_true_eq, decide_eq_false_iff_not, Bool.or_eq_false_iff, Bool.and_eq_true, Bool.not_eq_true', Bool.not_eq_false'] at *; omega))) (hb := (by first | omega | (simp only [decide_eq_true_eq, decide_eq_false_iff_not, Bool.or_eq_false_iff, Bool.and_eq_true, Bool.not_eq_true', Bool.not_eq_false'] at *; omega))) (h := ?_)
                refine p_goJ ?_
                refine p_some ?_
                refine ⟨⟨(by simp (decide := true) only [valsE, evE, upd, cv, args0, argsFrom, List.length_map, ↓reduceIte, hE] <;> rfl), (by simp (decide := true) only [valsO, updO, upd, true_and, and_true, false_and, and_false, ↓reduceIte, hE] <;> rfl)⟩, ⟨i, j + 1, M, hi, hib, by omega, hmx, hsr, (by (try dsimp only); repeat (first | exact hlow | exact LowQ.refl | refine LowQ.up ?_ (by omega) | refine LowQ.at_ ?_ (by simp))), (by first | (dsimp only; omega) | omega), eV_, eV_, oB_⟩, ?_⟩
                simp (decide := true) only [upd, e10, V.toN, ↓reduceIte]; omega
    · refine p_goJ ?_
      refine p_retE1 (v := .bool false) rfl eV_ (hK0 _ _ _ (by first | (dsimp only; omega) | omega) (by (try dsimp only); repeat (first | exact hlow | exact LowQ.refl | refine LowQ.up ?_ (by omega) | refine LowQ.at_ ?_ (by simp))) (⟨false, M, rfl, (by simp (decide := true) only [valsO, updO, upd, true_and, and_true, false_and, and_false, ↓reduceIte, hE] <;> rfl), hmx, fun h => by cases h⟩))
end Go.Proofs.YtfpljljjjgicaaaGreatDoor
