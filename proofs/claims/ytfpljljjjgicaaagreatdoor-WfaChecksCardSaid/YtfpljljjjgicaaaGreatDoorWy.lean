/-
  The reference's weights: units, cells as one, which are alike.
-/
import Derived.Test.YtfpljljjjgicaaaGreatDoorWx
set_option maxHeartbeats 4000000
set_option linter.unusedSimpArgs false
set_option linter.unusedVariables false
namespace Go.Proofs.YtfpljljjjgicaaaGreatDoor
open Go.RowKit
attribute [local irreducible] Wk Tr
def kOk (c : Cel) : Prop := c.kind = 0 ∨ c.kind = 1 ∨ c.kind = 2
theorem kOk_right {n : Int} {c : Cel} (h : rightC n c = true) : kOk c := by
  rcases (right_is.1 h).2 with h | h | h
  · exact .inr (.inl h)
  · exact .inl h.1
  · rw [h]; exact .inr (.inr rfl)
theorem both_many {a b : Cel} (ha : kOk a) (hb : kOk b) (h : (decide (a.kind = 2) || decide (b.kind = 2)) = true) : bothC a b = ⟨0, 2, 0⟩ := by
  simp only [kOk, Bool.or_eq_true, decide_eq_true_eq] at *
  unfold bothC
  rw [if_pos]
  split
  · omega
  · split
    · rfl
    · rename_i h1 h2
      rcases h with h | h
      · exact h
      · exact Classical.byContradiction fun h3 => h2 ⟨by omega, .inl (by omega)⟩
theorem hd_f1 {a b : Wt} (h : (!(a.zero == b.zero) || decide (a.cost ≠ b.cost)) = true) : hdEq a b = false := by
  simp only [hdEq]
  cases h1 : (a.zero == b.zero) with
  | false => rfl
  | true => rw [h1] at h; simp at h; simp [h]
theorem hd_f2 {a b : Wt} {q : Wt → Wt → Bool} (h : (!decide (fct a = fct b) || decide ((a.cells.length : Int) ≠ (b.cells.length : Int)) || decide ((a.parts.length : Int) ≠ (b.parts.length : Int))) = true) : (hdEq a b && eqBy q a.parts b.parts) = false := by
  by_cases h3 : a.parts.length = b.parts.length
  · by_cases h2 : a.cells.length = b.cells.length
    · by_cases h1 : fct a = fct b
      · simp [h1, h2, h3] at h
      · simp [hdEq, h1]
    · have : ¬ a.cells = b.cells := fun e => h2 (by rw [e])
      simp [hdEq, this]
  · rw [eqBy_len h3, Bool.and_false]
theorem hd_f3 {a b : Wt} (h : ¬ a.cells = b.cells) : hdEq a b = false := by simp [hdEq, h]
theorem hd_t {a b : Wt} (h : (!(a.zero == b.zero) || decide (a.cost ≠ b.cost)) = false) (h1 : fct a = fct b) (h2 : a.cells = b.cells) : hdEq a b = true := by
  simp only [Bool.or_eq_false_iff, Bool.not_eq_false', decide_eq_false_iff_not, ne_eq, Classical.not_not] at h
  simp [hdEq, h.1, h.2, h1, h2]
theorem eqBy_drop {α : Type} {p : α → α → Bool} {l l' : List α} {i : Nat} (h : i < l.length) (h' : i < l'.length) : eqBy p (l.drop i) (l'.drop i) = (p l[i] l'[i] && eqBy p (l.drop (i + 1)) (l'.drop (i + 1))) := by
  rw [List.drop_eq_getElem_cons h, List.drop_eq_getElem_cons h', eqBy]
theorem rzero_leaf (s : Sp) (h5 : ¬ s.tag = 5) : FnC Tryz.prog 81 [spA s] (fun r => r = wtA wtZ) := by
  refine FnC.of (fn := Tryz.f81) ⟨Tryz.func81, by kernel_rfl, rfl⟩ Tryz.ntmps81 (by simp) fun w0 S0 => ?_
  refine p_go ?_
  refine p_isC (s := 5) (b := false) (hc := by simp [h5]) (h := ?_)
  refine p_go fun hf => ?_
  refine p_build (hi := F.ti37.h) (hpl := F.pl37.h) (h := ?_)
  refine p_go ?_
  refine p_cellNil (g1 := 0 + 1) (d1 := 2) (i := 3) (el := 30) (h := ?_)
  refine p_cellNil (g1 := 0 + 1) (d1 := 2) (i := 4) (el := 90) (h := ?_)
  refine p_cellNil (g1 := 0 + 1) (d1 := 2) (i := 5) (el := 37) (h := ?_)
  refine p_r1 (hp := by rfl)
theorem rzero_pair (p q : Sp) (hp : ¬ p.tag = 5) (hq : ¬ q.tag = 5) : FnC Tryz.prog 81 [pairA p q] (fun r => r = wpA wtZ wtZ) := by
  refine FnC.of (fn := Tryz.f81) ⟨Tryz.func81, by kernel_rfl, rfl⟩ Tryz.ntmps81 (by simp) fun w0 S0 => ?_
  refine p_go fun hf => ?_
  refine p_idxSl (ht := Tryz.underlying23) (hi := F.ti25.h) (h0 := by decide) (hv := by rfl) (h := ?_)
  rw [spV_cells]
  refine p_go fun hf => ?_
  refine p_call (hx := rfl) (hb := ⟨Tryz.func81, by kernel_rfl, rfl⟩) (hf := rzero_leaf p hp) (h := ?_)
  refine p_go fun hf => ?_
  refine p_idxSl (ht := Tryz.underlying23) (hi := F.ti25.h) (h0 := by decide) (hv := by rfl) (h := ?_)
  rw [spV_cells]
  refine p_go fun hf => ?_
  refine p_call (hx := rfl) (hb := ⟨Tryz.func81, by kernel_rfl, rfl⟩) (hf := rzero_leaf q hq) (h := ?_)
  refine p_buildSlice (ht := Tryz.underlying35) (hi := F.ti37.h) (h := ?_)
  refine p_build (hi := F.ti37.h) (hpl := F.pl37.h) (h := ?_)
  refine p_go ?_
  refine p_freeze (g1 := 0 + 1 + 1 + 1) (d1 := 16) (h := ?_)
  refine p_cellSl (g1 := 0 + 1) (d1 := 2) (i := 5) (hn := by simp) (h := ?_)
  refine p_cellNil (g1 := 0 + 1) (d1 := 2) (i := 3) (el := 30) (h := ?_)
  refine p_cellNil (g1 := 0 + 1) (d1 := 2) (i := 4) (el := 90) (h := ?_)
  refine p_r1 (hp := by simp only [wpA, wtV_eq]; rfl)
theorem rzeroC (s : Sp) (hs : spOk s = true) : FnC Tryz.prog 81 [spA s] (fun r => r = wtA (zeroW s)) := by
  rcases spOk_cases hs with ⟨hl, h5⟩ | ⟨p, q, rfl, hp, hq⟩
  · have := rzero_leaf s h5
    rwa [zeroW, if_neg h5]
  · exact rzero_pair p q (leafOk_dim hp).2.1 (leafOk_dim hq).2.1
theorem rZeroC (s : Sp) (hs : spOk s = true) (hsp : s.parts.length ≤ 17592186044416) : FnC Tryz.prog 58 [spA s] (fun r => r = .tup [wtA (zeroW s), iV 0]) := by
  refine FnC.of (fn := Tryz.f58) ⟨Tryz.func58, by kernel_rfl, rfl⟩ Tryz.ntmps58 (by simp) fun w0 S0 => ?_
  refine p_go fun hf => ?_
  refine p_call (hx := rfl) (hb := ⟨Tryz.func39, by kernel_rfl, rfl⟩) (hf := rspace s hsp) (h := ?_)
  refine p_go ?_
  refine p_isC (s := 6) (b := false) (hc := by simp [spE, hs]) (h := ?_)
  refine p_go fun hf => ?_
  refine p_call (hx := rfl) (hb := ⟨Tryz.func81, by kernel_rfl, rfl⟩) (hf := rzeroC s hs) (h := ?_)
  refine p_go ?_
  refine p_r2 (hp := by rfl)
theorem rjoined (a b : Cel) (ha : kOk a) (hb : kOk b) : FnC Tryz.prog 98 [celV a, celV b] (fun r => r = celV (bothC a b)) := by
  refine FnC.of (fn := Tryz.f98) ⟨Tryz.func98, by kernel_rfl, rfl⟩ Tryz.ntmps98 (by simp) fun w0 S0 => ?_
  refine p_go ?_
  refine p_splitC (s := 13) (ht := fun hc13 => ?_) (hf := fun hc13 => ?_)
  · refine p_go fun hf => ?_
    refine p_build (hi := F.ti90.h) (hpl := F.pl90.h) (h := ?_)
    refine p_go ?_
    refine p_r1 (hp := by rw [both_many ha hb hc13]; rfl)
  · have h13 : ¬ a.kind = 2 ∧ ¬ b.kind = 2 := by simpa using hc13
    simp only [kOk] at ha hb
    refine p_go fun hf => ?_
    refine p_build (hi := F.ti90.h) (hpl := F.pl90.h) (h := ?_)
    refine p_go ?_
    refine p_splitC (s := 25) (ht := fun hc25 => ?_) (hf := fun hc25 => ?_)
    · refine p_go ?_
      refine p_r1 (hp := by rw [bothC_none (by simpa using hc25), if_neg h13.2]; simp)
    · refine p_go ?_
      refine p_splitC (s := 35) (ht := fun hc35 => ?_) (hf := fun hc35 => ?_)
      · refine p_go fun hf => ?_
        refine p_build (hi := F.ti90.h) (hpl := F.pl90.h) (h := ?_)
        refine p_go ?_
        refine p_r1 (hp := by rw [bothC_many (by simpa using hc25) (by simp at hc35; exact ⟨by omega, .inr hc35.2⟩)]; rfl)
      · refine p_go ?_
        refine p_r1 (hp := by have h25 : ¬ a.kind = 0 := (by simpa using hc25); rw [bothC_same h25 (by simp at hc35; rintro ⟨h1, h2⟩; rcases h2 with h2 | h2 <;> omega), if_neg h13.1]; simp)
theorem rsame_gen (q : Wt → Wt → Bool) (a b : Wt) (ha : a.Sm) (hb : b.Sm) (hrec : ∀ x ∈ a.parts, ∀ y ∈ b.parts, FnC Tryz.prog 16 [wtA x, wtA y] (fun r => r = .bool (q x y))) : FnC Tryz.prog 16 [wtA a, wtA b] (fun r => r = .bool (hdEq a b && eqBy q a.parts b.parts)) := by
  refine FnC.of (fn := Tryz.f16) ⟨Tryz.func16, by kernel_rfl, rfl⟩ Tryz.ntmps16 (by simp) fun w0 S0 => ?_
  have har := ha.rows
  have hac := ha.cells
  have hap := ha.parts
  have hbr := hb.rows
  have hbc := hb.cells
  have hbp := hb.parts
  refine p_go fun hf => ?_
  refine p_neB (ht := Tryz.underlying4) (h := ?_)
  refine p_go fun hf => ?_
  refine p_split (s := 19) (ht := fun hb19 => ?_) (hf := fun hb19 => ?_)
  · -- slot 19 is true
    refine p_go ?_
    refine p_ret1 (hp := by rw [hd_f1 hb19]; rfl)
  · -- slot 19 is false
    refine p_go fun hf => ?_
    refine p_call (hx := rfl) (hb := ⟨Tryz.func48, by kernel_rfl, rfl⟩) (hf := same03 (fct a) (fct b) har hbr) (h := ?_)
    refine p_go ?_
    refine p_splitC (s := 44) (ht := fun hc44 => ?_) (hf := fun hc44 => ?_)
    · refine p_go ?_
      refine p_ret1 (hp := by rw [hd_f2 hc44])
    · have h44 : fct a = fct b ∧ a.cells.length = b.cells.length ∧ a.parts.length = b.parts.length := by (simp at hc44; exact ⟨hc44.1.1, by omega, by omega⟩)
      refine p_go ?_
      refine p_loopK [2, 3] [(0 + 1, 2), (0 + 1, 3)] (fun st => ∃ i : Nat, (i ≤ a.cells.length) ∧ (∀ j, j < i → a.cells[j]? = b.cells[j]?) ∧ st.env 5 = iV i) (fun st => a.cells.length - (st.env 5).toN) ?_ fun e ob g1 hK hO hI => ?_
      · exact ⟨0, by omega, fun j h => absurd h (by omega), eV_⟩
      · obtain ⟨i, hi, hs, e5⟩ := hI
        dsimp only at e5
        simp only [valsE, List.cons.injEq, and_true] at hK
        simp only [valsO, List.cons.injEq, and_true] at hO
        have hE := (⟨hK, hO, e5⟩ : _ ∧ _ ∧ _)
        refine p_go ?_
        refine p_splitC (s := 49) (ht := fun hc49 => ?_) (hf := fun hc49 => ?_)
        · have hlt : i < a.cells.length := by simpa using hc49
          have hlt2 : i < b.cells.length := by omega
          refine p_go fun hf => ?_
          refine p_idxMap (j := i) (ht := Tryz.underlying34) (hi := F.ti90.h) (hij := rfl) (hj := hlt) (h := ?_)
          refine p_go fun hf => ?_
          refine p_idxMap (j := i) (ht := Tryz.underlying34) (hi := F.ti90.h) (hij := rfl) (hj := hlt2) (h := ?_)
          refine p_go fun hf => ?_
          refine p_neIntsL (ht := cell_ints) (hb := rfl) (h := ?_)
          refine p_go ?_
          refine p_splitC (s := 62) (ht := fun hc62 => ?_) (hf := fun hc62 => ?_)
          · refine p_go ?_
            refine p_ret1 (hp := by rw [hd_f3 (fun h => absurd (List.getElem_of_eq h hlt) (by simpa only [List.map_cons, List.map_nil, V.toI, Bool.not_eq_true', Bool.not_eq_false', decide_eq_true_eq, decide_eq_false_iff_not, cel_eq, ne_eq] using hc62))]; rfl)
          · have h62 : a.cells[i] = b.cells[i] := by simpa only [List.map_cons, List.map_nil, V.toI, Bool.not_eq_true', Bool.not_eq_false', decide_eq_true_eq, decide_eq_false_iff_not, cel_eq, ne_eq] using hc62
            refine p_go fun hf => ?_
            refine p_add (r := ((i + 1 : Nat) : Int)) (hr := (by first | omega | (simp only [decide_eq_true_eq, decide_eq_false_iff_not, Bool.or_eq_false_iff, Bool.and_eq_true, Bool.not_eq_true', Bool.not_eq_false'] at *; omega))) (hb := (by first | omega | (simp only [decide_eq_true_eq, decide_eq_false_iff_not, Bool.or_eq_false_iff, Bool.and_eq_true, Bool.not_eq_true', Bool.not_eq_false'] at *; omega))) (h := ?_)
            refine p_go ?_
            refine p_some ?_
            refine ⟨⟨(by simp (decide := true) only [valsE, evE, upd, cv, args0, argsFrom, List.length_map, ↓reduceIte, hE] <;> rfl), (by simp (decide := true) only [valsO, updO, upd, true_and, and_true, false_and, and_false, ↓reduceIte, hE] <;> rfl)⟩, ⟨i + 1, hlt, same_next hlt hlt2 h62 hs, eV_⟩, ?_⟩
            simp (decide := true) only [upd, e5, V.toN, ↓reduceIte]; omega
        · have hge : a.cells.length ≤ i := by simpa using hc49
          have hcl := eq_all h44.2.1 hge hs
          refine p_go ?_
          refine p_loopK [2, 3] [(0 + 1, 2), (0 + 1, 3)] (fun st => ∃ i : Nat, (i ≤ a.parts.length) ∧ (eqBy q a.parts b.parts = eqBy q (a.parts.drop i) (b.parts.drop i)) ∧ st.env 6 = iV i) (fun st => a.parts.length - (st.env 6).toN) ?_ fun e ob g2 hK hO hI => ?_
          · exact ⟨0, by omega, rfl, eV_⟩
          · obtain ⟨i, hi2, hq, e6⟩ := hI
            dsimp only at e6
            simp only [valsE, List.cons.injEq, and_true] at hK
            simp only [valsO, List.cons.injEq, and_true] at hO
            have hE := (⟨hK, hO, e6⟩ : _ ∧ _ ∧ _)
            refine p_go ?_
            refine p_splitC (s := 67) (ht := fun hc67 => ?_) (hf := fun hc67 => ?_)
            · have hlt : i < a.parts.length := by simpa using hc67
              have hlt2 : i < b.parts.length := by omega
              refine p_go fun hf => ?_
              refine p_idxMap (j := i) (ht := Tryz.underlying35) (hi := F.ti37.h) (hij := rfl) (hj := hlt) (h := ?_)
              rw [wtV_cells]
              refine p_go fun hf => ?_
              refine p_idxMap (j := i) (ht := Tryz.underlying35) (hi := F.ti37.h) (hij := rfl) (hj := hlt2) (h := ?_)
              rw [wtV_cells]
              refine p_go fun hf => ?_
              refine p_call (hx := rfl) (hb := ⟨Tryz.func16, by kernel_rfl, rfl⟩) (hf := hrec a.parts[i] (List.getElem_mem hlt) b.parts[i] (List.getElem_mem hlt2)) (h := ?_)
              refine p_go ?_
              refine p_splitC (s := 81) (ht := fun hc81 => ?_) (hf := fun hc81 => ?_)
              · refine p_go ?_
                refine p_ret1 (hp := by rw [hq, eqBy_drop hlt hlt2, show q a.parts[i] b.parts[i] = false from bnt hc81, Bool.false_and, Bool.and_false])
              · refine p_go fun hf => ?_
                refine p_add (r := ((i + 1 : Nat) : Int)) (hr := (by first | omega | (simp only [decide_eq_true_eq, decide_eq_false_iff_not, Bool.or_eq_false_iff, Bool.and_eq_true, Bool.not_eq_true', Bool.not_eq_false'] at *; omega))) (hb := (by first | omega | (simp only [decide_eq_true_eq, decide_eq_false_iff_not, Bool.or_eq_false_iff, Bool.and_eq_true, Bool.not_eq_true', Bool.not_eq_false'] at *; omega))) (h := ?_)
                refine p_go ?_
                refine p_some ?_
                refine ⟨⟨(by simp (decide := true) only [valsE, evE, upd, cv, args0, argsFrom, List.length_map, ↓reduceIte, hE] <;> rfl), (by simp (decide := true) only [valsO, updO, upd, true_and, and_true, false_and, and_false, ↓reduceIte, hE] <;> rfl)⟩, ⟨i + 1, hlt, by rw [hq, eqBy_drop hlt hlt2, show q a.parts[i] b.parts[i] = true from bnf hc81, Bool.true_and], eV_⟩, ?_⟩
                simp (decide := true) only [upd, e6, V.toN, ↓reduceIte]; omega
            · have hge2 : a.parts.length ≤ i := by simpa using hc67
              refine p_go ?_
              refine p_ret1 (hp := by rw [hq, List.drop_eq_nil_of_le hge2, List.drop_eq_nil_of_le (by omega), hd_t hb19 h44.1 hcl]; rfl)
theorem rsame_leaf (a b : Wt) (ha : a.Sm) (hb : b.Sm) (pa : a.parts = []) (pb : b.parts = []) : FnC Tryz.prog 16 [wtA a, wtA b] (fun r => r = .bool (hdEq a b)) := by
  have := rsame_gen (fun _ _ => true) a b ha hb (fun x hx => by rw [pa] at hx; cases hx)
  rw [pa, pb] at this
  simpa [eqBy] using this
theorem rsameC (a b : Wt) (ha : a.Sm2) (hb : b.Sm2) (pa : ∀ x ∈ a.parts, x.parts = []) (pb : ∀ x ∈ b.parts, x.parts = []) : FnC Tryz.prog 16 [wtA a, wtA b] (fun r => r = .bool (sameW a b)) :=
  rsame_gen hdEq a b ha.sm hb.sm fun x hx y hy => rsame_leaf x y (ha.parts x hx) (hb.parts y hy) (pa x hx) (pb y hy)
theorem rsameB {s : Sp} {a b : Wt} (hs : spOk s = true) (ha : isB s a = true) (hb : isB s b = true) : FnC Tryz.prog 16 [wtA a, wtA b] (fun r => r = .bool (sameW a b)) :=
  rsameC a b (isB_Sm2 hs ha) (isB_Sm2 hs hb) (isB_flat hs ha) (isB_flat hs hb)
end Go.Proofs.YtfpljljjjgicaaaGreatDoor
