/-
  The reference's weights: Either, Then.
-/
import Derived.Test.YtfpljljjjgicaaaGreatDoorWy
set_option maxHeartbeats 4000000
set_option linter.unusedSimpArgs false
set_option linter.unusedVariables false
namespace Go.Proofs.YtfpljljjjgicaaaGreatDoor
open Go.RowKit
attribute [local irreducible] Wk Tr
theorem nz_cases {s : Sp} {w : Wt} (hs : leafOk s = true) (h : isL s w = true) (hz : w.zero = false) : (s.tag = 2 → w.cost ≠ -1 ∧ checksE s.dim [w.cost] = 0) ∧ (s.tag = 3 → checkF s.dim (fct w) = 0) ∧ (s.tag = 4 → cellsE s.dim w.cells = 0) := by
  rcases isL_cases hs h with rfl | ⟨_, ⟨h1, _⟩ | ⟨h1, _, h2⟩ | ⟨h1, _, h2⟩ | ⟨h1, _, h2⟩⟩
  · cases hz
  · exact ⟨by omega, by omega, by omega⟩
  · exact ⟨fun _ => h2, by omega, by omega⟩
  · exact ⟨by omega, fun _ => h2, by omega⟩
  · exact ⟨by omega, by omega, fun _ => h2⟩
theorem eitherR_2 {s : Sp} {a b : Wt} (hs : leafOk s = true) (ha : isL s a = true) (hb : isL s b = true) (hza : a.zero = false) (hzb : b.zero = false) (h : s.tag = 2) : eitherL s a b = wtC (min a.cost b.cost) := by
  obtain ⟨h1, h2⟩ := (nz_cases hs ha hza).1 h
  obtain ⟨h3, h4⟩ := (nz_cases hs hb hzb).1 h
  have h5 := cost_ok h2 h1
  have h6 := cost_ok h4 h3
  rw [eitherL_2 hza hzb h, if_pos (checksE_of h5.1 (by simp; omega)), least_two h5.2.1 h6.2.1]
theorem eitherR_3 {s : Sp} {a b : Wt} (hs : leafOk s = true) (ha : isL s a = true) (hb : isL s b = true) (hza : a.zero = false) (hzb : b.zero = false) (h : s.tag = 3) : eitherL s a b = wtF (combF s.dim (fct a) (fct b)) ∧ checkedF s.dim [fct a, fct b] = 0 := by
  have h0 := checkedF_of ((nz_cases hs ha hza).2.1 h) ((nz_cases hs hb hzb).2.1 h)
  exact ⟨by rw [eitherL_3 hza hzb h, if_pos h0], h0⟩
theorem eitherR_4 {s : Sp} {a b : Wt} (hs : leafOk s = true) (ha : isL s a = true) (hb : isL s b = true) (hza : a.zero = false) (hzb : b.zero = false) (h : s.tag = 4) : eitherL s a b = wtK (List.zipWith bothC a.cells b.cells) ∧ cellsE s.dim a.cells = 0 ∧ cellsE s.dim b.cells = 0 := by
  have h1 := (nz_cases hs ha hza).2.2 h
  have h2 := (nz_cases hs hb hzb).2.2 h
  exact ⟨by rw [eitherL_4 hza hzb h, if_pos (twoE_of h1 h2)], h1, h2⟩
theorem reither_leaf (s : Sp) (a b : Wt) (hs : leafOk s = true) (ha : isL s a = true) (hb : isL s b = true) : FnC Tryz.prog 69 [spA s, wtA a, wtA b] (fun r => r = wtA (eitherL s a b)) := by
  refine FnC.of (fn := Tryz.f69) ⟨Tryz.func69, by kernel_rfl, rfl⟩ Tryz.ntmps69 (by simp) fun w0 S0 => ?_
  obtain ⟨hd, h5, _, _, _, h64⟩ := leafOk_dim hs
  have hsa := isL_Sm hs ha
  have hsb := isL_Sm hs hb
  have har := hsa.rows
  have hbr := hsb.rows
  refine p_go ?_
  refine p_splitC (s := 10) (ht := fun hc10 => ?_) (hf := fun hc10 => ?_)
  · refine p_go ?_
    refine p_r1 (hp := by rw [eitherL, if_pos hc10])
  · have hza := hc10
    refine p_go ?_
    refine p_splitC (s := 13) (ht := fun hc13 => ?_) (hf := fun hc13 => ?_)
    · refine p_go ?_
      refine p_r1 (hp := by rw [eitherL, if_neg (by rw [hc10]; decide), if_pos hc13])
    · have hzb := hc13
      refine p_go fun hf => ?_
      refine p_build (hi := F.ti37.h) (hpl := F.pl37.h) (h := ?_)
      refine p_go ?_
      refine p_splitC (s := 18) (ht := fun hc18 => ?_) (hf := fun hc18 => ?_)
      · have h2 : s.tag = 2 := by simpa using hc18
        have he2 := eitherR_2 hs ha hb hza hzb h2
        refine p_go fun hf => ?_
        refine p_min (h := ?_)
        refine p_go ?_
        refine p_cellNil (g1 := 0 + 1) (d1 := 6) (i := 3) (el := 30) (h := ?_)
        refine p_cellNil (g1 := 0 + 1) (d1 := 6) (i := 4) (el := 90) (h := ?_)
        refine p_cellNil (g1 := 0 + 1) (d1 := 6) (i := 5) (el := 37) (h := ?_)
        refine p_r1 (hp := by rw [he2]; first | rfl | (rw [min_is]; rfl))
      · refine p_go ?_
        refine p_splitC (s := 26) (ht := fun hc26 => ?_) (hf := fun hc26 => ?_)
        · have h3 : s.tag = 3 := by simpa using hc26
          obtain ⟨he3, hck⟩ := eitherR_3 hs ha hb hza hzb h3
          refine p_go fun hf => ?_
          refine p_call (hx := rfl) (hb := ⟨Tryz.func97, by kernel_rfl, rfl⟩) (hf := combine03 s.dim (fct a) (fct b) har hbr) (h := ?_)
          refine p_go ?_
          refine p_cellNil (g1 := 0 + 1) (d1 := 6) (i := 4) (el := 90) (h := ?_)
          refine p_cellNil (g1 := 0 + 1) (d1 := 6) (i := 5) (el := 37) (h := ?_)
          refine p_r1 (hp := by rw [he3, if_pos hck]; rfl)
        · refine p_go ?_
          refine p_splitC (s := 39) (ht := fun hc39 => ?_) (hf := fun hc39 => ?_)
          · have h4 : s.tag = 4 := by simpa using hc39
            obtain ⟨he4, hca, hcb⟩ := eitherR_4 hs ha hb hza hzb h4
            obtain ⟨hA, hla, hra, _⟩ := cellsE_ok hca
            obtain ⟨_, hlb, hrb, _⟩ := cellsE_ok hcb
            refine p_go ?_
            refine p_nilCell (g1 := 0 + 1 + 1 + 1 + 1) (d1 := 7) (i := 4) (el := 90) 61 (h := ?_)
            refine p_loopK [3, 4, 5, 6, 7] [(0 + 1, 3), (0 + 1, 4), (0 + 1, 5), (0 + 1, 6)] (fun st => ∃ (i r : Nat), (i ≤ s.dim.toNat) ∧ st.env 8 = iV i ∧ st.obj (0 + 1 + 1 + 1 + 1) 7 = .cells 37 [.bool false, iV 0, bV 0, .nil, .row r 61 i, .nil] ∧ st.obj r 61 = .row 90 (((List.zipWith bothC a.cells b.cells).take i).map celV)) (fun st => s.dim.toNat - (st.env 8).toN) ?_ fun e ob g1 hK hO hI => ?_
            · exact ⟨0, _, by omega, eV_, oB_, oB_⟩
            · obtain ⟨i, r, hi, e8, o7, o61⟩ := hI
              dsimp only at e8 o7 o61
              simp only [valsE, List.cons.injEq, and_true] at hK
              simp only [valsO, List.cons.injEq, and_true] at hO
              have hE := (⟨hK, hO, e8, o7, o61⟩ : _ ∧ _ ∧ _ ∧ _ ∧ _)
              refine p_go ?_
              refine p_splitC (s := 44) (ht := fun hc44 => ?_) (hf := fun hc44 => ?_)
              · have hlt : i < s.dim.toNat := by have := hc44; simp at this; omega
                have hia : i < a.cells.length := by omega
                have hib : i < b.cells.length := by omega
                refine p_go fun hf => ?_
                refine p_idxMap (j := i) (ht := Tryz.underlying34) (hi := F.ti90.h) (hij := rfl) (hj := hia) (h := ?_)
                refine p_go fun hf => ?_
                refine p_idxMap (j := i) (ht := Tryz.underlying34) (hi := F.ti90.h) (hij := rfl) (hj := hib) (h := ?_)
                refine p_go fun hf => ?_
                refine p_call (hx := rfl) (hb := ⟨Tryz.func98, by kernel_rfl, rfl⟩) (hf := rjoined a.cells[i] b.cells[i] (kOk_right (hra _ (List.getElem_mem hia))) (kOk_right (hrb _ (List.getElem_mem hib)))) (h := ?_)
                refine p_buildSlice (ht := Tryz.underlying34) (hi := F.ti90.h) (h := ?_)
                refine p_append (k := i + 1) (ht := Tryz.underlying34) (hi := F.ti90.h) (hnl := by simp; omega) (hy := by exact ⟨.inl oB_, rfl⟩) (hm := by simp; omega) (hlim := by omega) (h := ?_)
                refine p_go fun hf => ?_
                refine p_add (r := ((i + 1 : Nat) : Int)) (hr := (by first | omega | (simp only [decide_eq_true_eq, decide_eq_false_iff_not, Bool.or_eq_false_iff, Bool.and_eq_true, Bool.not_eq_true', Bool.not_eq_false'] at *; omega))) (hb := (by first | omega | (simp only [decide_eq_true_eq, decide_eq_false_iff_not, Bool.or_eq_false_iff, Bool.and_eq_true, Bool.not_eq_true', Bool.not_eq_false'] at *; omega))) (h := ?_)
                refine p_go ?_
                refine p_some ?_
                refine ⟨⟨(by simp (decide := true) only [valsE, evE, upd, cv, args0, argsFrom, List.length_map, ↓reduceIte, hE] <;> rfl), (by simp (decide := true) only [valsO, updO, upd, true_and, and_true, false_and, and_false, ↓reduceIte, hE] <;> rfl)⟩, ⟨i + 1, _, hlt, eV_, oB_, by refine Eq.trans oB_ ?_; rw [zipTake _ hia hib, List.map_append]; rfl⟩, ?_⟩
                simp (decide := true) only [upd, e8, V.toN, ↓reduceIte]; omega
              · have hge : s.dim.toNat ≤ i := by have := hc44; simp at this; omega
                refine p_go ?_
                refine p_freeze (g1 := r) (d1 := 61) (h := ?_)
                refine p_cellSl (g1 := 0 + 1) (d1 := 6) (i := 4) (hn := by simp; omega) (h := ?_)
                refine p_cellNil (g1 := 0 + 1) (d1 := 6) (i := 3) (el := 30) (h := ?_)
                refine p_cellNil (g1 := 0 + 1) (d1 := 6) (i := 5) (el := 37) (h := ?_)
                refine p_r1 (hp := by rw [he4, List.take_of_length_le (by simp; omega)]; rfl)
          · refine p_go ?_
            refine p_isC (s := 63) (b := false) (hc := by simp [h5]) (h := ?_)
            refine p_go ?_
            refine p_cellNil (g1 := 0 + 1) (d1 := 6) (i := 3) (el := 30) (h := ?_)
            refine p_cellNil (g1 := 0 + 1) (d1 := 6) (i := 4) (el := 90) (h := ?_)
            refine p_cellNil (g1 := 0 + 1) (d1 := 6) (i := 5) (el := 37) (h := ?_)
            refine p_r1 (hp := by rw [eitherL_0 hza hzb (by simpa using hc18) (by simpa using hc26) (by simpa using hc39)]; rfl)
theorem reither_pair (p q : Sp) (a0 a1 b0 b1 : Wt) (hp : leafOk p = true) (hq : leafOk q = true) (ha0 : isL p a0 = true) (ha1 : isL q a1 = true) (hb0 : isL p b0 = true) (hb1 : isL q b1 = true) : FnC Tryz.prog 69 [pairA p q, wpA a0 a1, wpA b0 b1] (fun r => r = wpA (eitherL p a0 b0) (eitherL q a1 b1)) := by
  refine FnC.of (fn := Tryz.f69) ⟨Tryz.func69, by kernel_rfl, rfl⟩ Tryz.ntmps69 (by simp) fun w0 S0 => ?_
  refine p_go fun hf => ?_
  refine p_build (hi := F.ti37.h) (hpl := F.pl37.h) (h := ?_)
  refine p_go fun hf => ?_
  refine p_idxSl (ht := Tryz.underlying23) (hi := F.ti25.h) (h0 := by decide) (hv := by rfl) (h := ?_)
  rw [spV_cells]
  refine p_go fun hf => ?_
  refine p_idxSl (ht := Tryz.underlying35) (hi := F.ti37.h) (h0 := by decide) (hv := by rfl) (h := ?_)
  rw [wtV_cells]
  refine p_go fun hf => ?_
  refine p_idxSl (ht := Tryz.underlying35) (hi := F.ti37.h) (h0 := by decide) (hv := by rfl) (h := ?_)
  rw [wtV_cells]
  refine p_go fun hf => ?_
  refine p_call (hx := rfl) (hb := ⟨Tryz.func69, by kernel_rfl, rfl⟩) (hf := reither_leaf p a0 b0 hp ha0 hb0) (h := ?_)
  refine p_go fun hf => ?_
  refine p_idxSl (ht := Tryz.underlying23) (hi := F.ti25.h) (h0 := by decide) (hv := by rfl) (h := ?_)
  rw [spV_cells]
  refine p_go fun hf => ?_
  refine p_idxSl (ht := Tryz.underlying35) (hi := F.ti37.h) (h0 := by decide) (hv := by rfl) (h := ?_)
  rw [wtV_cells]
  refine p_go fun hf => ?_
  refine p_idxSl (ht := Tryz.underlying35) (hi := F.ti37.h) (h0 := by decide) (hv := by rfl) (h := ?_)
  rw [wtV_cells]
  refine p_go fun hf => ?_
  refine p_call (hx := rfl) (hb := ⟨Tryz.func69, by kernel_rfl, rfl⟩) (hf := reither_leaf q a1 b1 hq ha1 hb1) (h := ?_)
  refine p_buildSlice (ht := Tryz.underlying35) (hi := F.ti37.h) (h := ?_)
  refine p_go ?_
  refine p_freeze (g1 := 0 + 1 + 1 + 1 + 1 + 1 + 1 + 1 + 1 + 1 + 1) (d1 := 91) (h := ?_)
  refine p_cellSl (g1 := 0 + 1) (d1 := 6) (i := 5) (hn := by simp) (h := ?_)
  refine p_cellNil (g1 := 0 + 1) (d1 := 6) (i := 3) (el := 30) (h := ?_)
  refine p_cellNil (g1 := 0 + 1) (d1 := 6) (i := 4) (el := 90) (h := ?_)
  refine p_r1 (hp := by simp only [wpA, wtV_eq]; rfl)
theorem reitherC {s : Sp} {a b : Wt} (hs : spOk s = true) (ha : isB s a = true) (hb : isB s b = true) : FnC Tryz.prog 69 [spA s, wtA a, wtA b] (fun r => r = wtA (eitherW s a b)) := by
  rcases spOk_cases hs with ⟨hl, h5⟩ | ⟨p, q, rfl, hp, hq⟩
  · rw [isB_leaf h5] at ha hb
    rw [eitherW, if_neg h5]; exact reither_leaf s a b hl ha hb
  · obtain ⟨a0, a1, rfl, h1, h2⟩ := isB_pair ha
    obtain ⟨b0, b1, rfl, h3, h4⟩ := isB_pair hb
    exact reither_pair p q a0 a1 b0 b1 hp hq h1 h2 h3 h4
end Go.Proofs.YtfpljljjjgicaaaGreatDoor
