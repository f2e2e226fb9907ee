/-
  Package cells.
-/
import Derived.Test.YtfpljljjjgicaaaGreatDoorWbc
set_option maxHeartbeats 4000000
set_option linter.unusedSimpArgs false
set_option linter.unusedVariables false
namespace Go.Proofs.YtfpljljjjgicaaaGreatDoor
open Go.RowKit
attribute [local irreducible] Wk Tr
theorem cel_z (c : Cel) : (c = ⟨0, 2, 0⟩) ↔ ([(c.frm.toNat : Int), c.kind, c.k] = [0, 2, 0]) := (cel_eq c ⟨0, 2, 0⟩).symm
theorem cellsE_ok {n : Int} {l : List Cel} (h : cellsE n l = 0) : (0 ≤ n ∧ n ≤ 64) ∧ (l.length : Int) = n ∧ (∀ c ∈ l, rightC n c = true) ∧ badN n = false := by
  unfold cellsE at h
  split at h
  · cases h
  · rename_i h0
    split at h
    · cases h
    · rename_i h1
      split at h
      · cases h
      · rename_i h2
        refine ⟨by simp [badN] at h0; omega, by simpa using h1, fun c hc => ?_, by simpa using h0⟩
        have := List.any_eq_false.1 (Bool.not_eq_true _ ▸ h2) c hc
        simpa using this
theorem twoE_ok {n : Int} {a b : List Cel} (h : twoE n a b = 0) : cellsE n a = 0 ∧ cellsE n b = 0 := by
  unfold twoE at h
  split at h
  · contradiction
  · rename_i h1; exact ⟨by simpa using h1, h⟩
theorem zipTake {α β γ : Type} (f : α → β → γ) {a : List α} {b : List β} {i : Nat} (h : i < a.length) (h' : i < b.length) : (List.zipWith f a b).take (i + 1) = (List.zipWith f a b).take i ++ [f a[i] b[i]] := by
  have h1 : i < (List.zipWith f a b).length := by simp; omega
  rw [List.take_succ_eq_append_getElem h1, List.getElem_zipWith]
theorem range_fold {β : Type} (f : β → Nat → β) (b : β) (i : Nat) : (List.range (i + 1)).foldl f b = f ((List.range i).foldl f b) i := by
  rw [List.range_succ, List.foldl_append]; rfl
theorem rightC_bad {n : Int} {c : Cel} (h : ¬ c.frm &&& ~~~(fullB n) = BitVec.ofInt 64 0) : rightC n c = false := by
  have h' : ¬ c.frm &&& ~~~(fullB n) = 0 := h
  simp only [rightC, decide_eq_false h', Bool.false_and]
theorem rightC_one {n : Int} {c : Cel} (h : c.frm &&& ~~~(fullB n) = BitVec.ofInt 64 0) (h1 : c.kind = 1) : rightC n c = true := by
  have h' : c.frm &&& ~~~(fullB n) = 0 := h
  simp [rightC, h', h1]
theorem rightC_none {n : Int} {c : Cel} (h : c.frm &&& ~~~(fullB n) = BitVec.ofInt 64 0) (h1 : c.kind = 0) : rightC n c = decide (c.k = 0) := by
  have h' : c.frm &&& ~~~(fullB n) = 0 := h
  have h2 : decide (c = ⟨0, 2, 0⟩) = false := decide_eq_false fun h3 => by rw [h3] at h1; cases h1
  rw [rightC, h2]; simp [h', h1]
theorem rightC_many {n : Int} {c : Cel} (h : c.frm &&& ~~~(fullB n) = BitVec.ofInt 64 0) (h1 : c.kind = 2) : rightC n c = decide (c = ⟨0, 2, 0⟩) := by
  have h' : c.frm &&& ~~~(fullB n) = 0 := h
  simp [rightC, h', h1]
theorem rightC_else {n : Int} {c : Cel} (h : ¬ c.kind = 1) (h1 : ¬ c.kind = 0) (h2 : ¬ c.kind = 2) : rightC n c = false := by
  have h3 : decide (c = ⟨0, 2, 0⟩) = false := decide_eq_false fun h3 => by rw [h3] at h2; exact h2 rfl
  rw [rightC, h3]; simp [h, h1]
theorem bothC_none {a b : Cel} (h : a.kind = 0) : bothC a b = if b.kind = 2 then ⟨0, 2, 0⟩ else ⟨a.frm ||| b.frm, b.kind, b.k⟩ := by
  simp [bothC, h]
theorem bothC_many {a b : Cel} (h : ¬ a.kind = 0) (h2 : b.kind ≠ 0 ∧ (a.kind ≠ b.kind ∨ a.k ≠ b.k)) : bothC a b = ⟨0, 2, 0⟩ := by
  simp only [bothC, if_neg h, if_pos h2, ↓reduceIte]
theorem bothC_same {a b : Cel} (h : ¬ a.kind = 0) (h2 : ¬ (b.kind ≠ 0 ∧ (a.kind ≠ b.kind ∨ a.k ≠ b.k))) : bothC a b = if a.kind = 2 then ⟨0, 2, 0⟩ else ⟨a.frm ||| b.frm, a.kind, a.k⟩ := by
  simp only [bothC, if_neg h, if_neg h2]
theorem cone_next (i j : Nat) : celV (if j < i + 1 then ⟨worth (j : Int), 0, 0⟩ else cel0) = if j = i then .agg ([bV (if i < i then (⟨worth (i : Int), 0, 0⟩ : Cel) else cel0).frm, iV (if i < i then (⟨worth (i : Int), 0, 0⟩ : Cel) else cel0).kind, iV (if i < i then (⟨worth (i : Int), 0, 0⟩ : Cel) else cel0).k].set 0 (bV (1#64 <<< i))) else celV (if j < i then ⟨worth (j : Int), 0, 0⟩ else cel0) := by
  by_cases h : j = i
  · subst h; simp [worth, cel0]
  · by_cases h1 : j < i
    · simp [h, h1, show j < i + 1 by omega]
    · simp [h, h1, show ¬ j < i + 1 by omega]
theorem cone_done (n : Int) {i : Nat} (h : n.toNat ≤ i) : ((List.range n.toNat).map fun j : Nat => celV (if j < i then ⟨worth (j : Int), 0, 0⟩ else cel0)) = (oneC n).map celV := by
  rw [oneC, List.map_map]
  refine List.map_congr_left fun j hj => ?_
  rw [List.mem_range] at hj
  simp only [show j < i by omega, ↓reduceIte]; rfl
theorem replicate_range {α : Type} {v : α} (n : Nat) : List.replicate n v = (List.range n).map fun _ => v := by
  rw [List.map_const', List.length_range]
theorem getD_at {α : Type} {l : List α} {i : Nat} {d : α} (h : i < l.length) : l.getD i d = l[i] := by rw [List.getD_eq_getElem?_getD, List.getElem?_eq_getElem h]; rfl
abbrev celL (c : Cel) : List V := [bV c.frm, iV c.kind, iV c.k]
def behindStep (a : List Cel) (c x : Cel) (i : Nat) : Cel := if c.frm.getLsbD i = true then bothC x (a.getD i cel0) else x
theorem behindC_is (a : List Cel) (c : Cel) : behindC a c = (List.range a.length).foldl (behindStep a c) ⟨0, c.kind, c.k⟩ := rfl
theorem bit_is (x : BitVec 64) (i : Nat) : decide (x >>> i &&& BitVec.ofInt 64 1 = BitVec.ofInt 64 1) = x.getLsbD i := by
  have h : (x >>> i &&& BitVec.ofInt 64 1 = BitVec.ofInt 64 1) ↔ x.getLsbD i = true := by
    constructor
    · intro h
      have := congrArg (fun y : BitVec 64 => y.getLsbD 0) h
      simpa [BitVec.getLsbD_and, BitVec.getLsbD_ushiftRight] using this
    · intro h
      refine BitVec.eq_of_getLsbD_eq fun j hj => ?_
      rw [BitVec.getLsbD_and, BitVec.getLsbD_ushiftRight]
      have h1 : (BitVec.ofInt 64 1).getLsbD j = decide (j = 0) := by
        have : ∀ k : Fin 64, (BitVec.ofInt 64 1).getLsbD k.val = decide (k.val = 0) := by decide
        exact this ⟨j, hj⟩
      rw [h1]
      by_cases hj0 : j = 0
      · subst hj0; simpa using h
      · simp [hj0]
  cases hx : x.getLsbD i
  · rw [decide_eq_false_iff_not, h, hx]; decide
  · rw [decide_eq_true_eq, h, hx]
theorem cdims (n : Int) : FnC Tryz.prog 165 [iV n] (fun r => r = iV (dimsE n)) := by
  refine FnC.of (fn := Tryz.f165) ⟨Tryz.func165, by kernel_rfl, rfl⟩ Tryz.ntmps165 (by simp) fun w0 S0 => ?_
  refine p_go ?_
  refine p_splitC (s := 8) (ht := fun hc8 => ?_) (hf := fun hc8 => ?_)
  · refine p_go ?_
    refine p_ret1 (hp := by have h1 : badN n = true := hc8; simp [dimsE, h1])
  · refine p_go ?_
    refine p_ret1 (hp := by have h1 : badN n = false := hc8; simp [dimsE, h1])
theorem right (n : Int) (c : Cel) (hn : 0 ≤ n ∧ n ≤ 64) : FnC Tryz.prog 170 [iV n, celV c] (fun r => r = .bool (rightC n c)) := by
  refine FnC.of (fn := Tryz.f170) ⟨Tryz.func170, by kernel_rfl, rfl⟩ Tryz.ntmps170 (by simp) fun w0 S0 => ?_
  refine p_go fun hf => ?_
  refine p_call (hx := rfl) (hb := ⟨Tryz.func175, by kernel_rfl, rfl⟩) (hf := maskC n hn) (h := ?_)
  refine p_go ?_
  refine p_splitC (s := 10) (ht := fun hc10 => ?_) (hf := fun hc10 => ?_)
  · refine p_go ?_
    refine p_ret1 (hp := by rw [rightC_bad (by simpa using hc10)])
  · refine p_go ?_
    refine p_splitC (s := 13) (ht := fun hc13 => ?_) (hf := fun hc13 => ?_)
    · refine p_go ?_
      refine p_ret1 (hp := by rw [rightC_one (by simpa using hc10) (by simpa using hc13)])
    · refine p_go ?_
      refine p_splitC (s := 15) (ht := fun hc15 => ?_) (hf := fun hc15 => ?_)
      · refine p_go ?_
        refine p_ret1 (hp := by rw [rightC_none (by simpa using hc10) (by simpa using hc15)])
      · refine p_go ?_
        refine p_splitC (s := 20) (ht := fun hc20 => ?_) (hf := fun hc20 => ?_)
        · refine p_go fun hf => ?_
          refine p_build (hi := F.ti90.h) (hpl := F.pl90.h) (h := ?_)
          refine p_eqIntsL (ht := cell_ints) (hb := rfl) (h := ?_)
          refine p_go ?_
          refine p_ret1 (hp := by rw [rightC_many (by simpa using hc10) (by simpa using hc20)]; simp only [List.map_cons, List.map_nil, V.toI, cel_z])
        · refine p_go ?_
          refine p_ret1 (hp := by rw [rightC_else (by simpa using hc13) (by simpa using hc15) (by simpa using hc20)])
theorem cellsCheck (n : Int) (l : List Cel) (hl : l.length ≤ 17592186044416) : FnC Tryz.prog 153 [iV n, .sl 90 (l.map celV)] (fun r => r = iV (cellsE n l)) := by
  refine FnC.of (fn := Tryz.f153) ⟨Tryz.func153, by kernel_rfl, rfl⟩ Tryz.ntmps153 (by simp) fun w0 S0 => ?_
  refine p_go fun hf => ?_
  refine p_call (hx := rfl) (hb := ⟨Tryz.func165, by kernel_rfl, rfl⟩) (hf := cdims n) (h := ?_)
  refine p_go ?_
  refine p_splitC (s := 11) (ht := fun hc11 => ?_) (hf := fun hc11 => ?_)
  · refine p_go ?_
    refine p_ret1 (hp := by have h1 : badN n = true := (by cases h : badN n with | true => rfl | false => simp [dimsE, h] at hc11); simp [cellsE, dimsE, h1])
  · have hd0 : badN n = false := by cases h : badN n with | false => rfl | true => simp [dimsE, h] at hc11
    have hn : 0 ≤ n ∧ n ≤ 64 := by simp [badN] at hd0; omega
    refine p_go ?_
    refine p_splitC (s := 16) (ht := fun hc16 => ?_) (hf := fun hc16 => ?_)
    · refine p_go ?_
      refine p_ret1 (hp := by have h1 : (l.length : Int) ≠ n := (by simpa using hc16); simp [cellsE, hd0, h1])
    · have hlen : (l.length : Int) = n := by simpa using hc16
      refine p_go ?_
      refine p_loopK [0, 17, 18] [] (fun st => ∃ i : Nat, (i ≤ l.length) ∧ (∀ j (hj : j < l.length), j < i → (fun c => !rightC n c) l[j] = false) ∧ st.env 19 = iV i) (fun st => l.length - (st.env 19).toN) ?_ fun e ob g1 hK hO hI => ?_
      · exact ⟨0, by omega, fun j hj h => by omega, eV_⟩
      · obtain ⟨i, hi, hp, e19⟩ := hI
        dsimp only at e19
        simp only [valsE, List.cons.injEq, and_true] at hK
        have hE := (⟨hK, e19⟩ : _ ∧ _)
        refine p_go ?_
        refine p_splitC (s := 20) (ht := fun hc20 => ?_) (hf := fun hc20 => ?_)
        · have hlt : i < l.length := by simpa using hc20
          refine p_go fun hf => ?_
          refine p_idxMap (j := i) (ht := Tryz.underlying34) (hi := F.ti90.h) (hij := rfl) (hj := hlt) (h := ?_)
          refine p_go fun hf => ?_
          refine p_call (hx := rfl) (hb := ⟨Tryz.func170, by kernel_rfl, rfl⟩) (hf := right n l[i] hn) (h := ?_)
          refine p_go ?_
          refine p_splitC (s := 26) (ht := fun hc26 => ?_) (hf := fun hc26 => ?_)
          · refine p_go ?_
            refine p_ret1 (hp := by simp only [cellsE, hd0, hlen, ne_eq, not_true_eq_false, any_hit (p := fun c => !rightC n c) hlt hc26]; rfl)
          · refine p_go fun hf => ?_
            refine p_add (r := ((i + 1 : Nat) : Int)) (hr := (by first | omega | (simp only [decide_eq_true_eq, decide_eq_false_iff_not, Bool.or_eq_false_iff, Bool.and_eq_true, Bool.not_eq_true', Bool.not_eq_false'] at *; omega))) (hb := (by first | omega | (simp only [decide_eq_true_eq, decide_eq_false_iff_not, Bool.or_eq_false_iff, Bool.and_eq_true, Bool.not_eq_true', Bool.not_eq_false'] at *; omega))) (h := ?_)
            refine p_go ?_
            refine p_some ?_
            refine ⟨⟨(by simp (decide := true) only [valsE, evE, upd, cv, args0, argsFrom, List.length_map, ↓reduceIte, hE] <;> rfl), (by simp (decide := true) only [valsO, updO, upd, true_and, and_true, false_and, and_false, ↓reduceIte, hE] <;> rfl)⟩, ⟨i + 1, hlt, none_next (p := fun c => !rightC n c) hc26 hp, eV_⟩, ?_⟩
            simp (decide := true) only [upd, e19, V.toN, ↓reduceIte]; omega
        · refine p_go ?_
          refine p_ret1 (hp := by simp only [cellsE, hd0, hlen, ne_eq, not_true_eq_false, any_not (p := fun c => !rightC n c) (show l.length ≤ i by simp at hc20; omega) hp]; rfl)
theorem ctwo (n : Int) (a b : List Cel) (ha : a.length ≤ 17592186044416) (hb : b.length ≤ 17592186044416) : FnC Tryz.prog 162 [iV n, .sl 90 (a.map celV), .sl 90 (b.map celV)] (fun r => r = iV (twoE n a b)) := by
  refine FnC.of (fn := Tryz.f162) ⟨Tryz.func162, by kernel_rfl, rfl⟩ Tryz.ntmps162 (by simp) fun w0 S0 => ?_
  refine p_go fun hf => ?_
  refine p_call (hx := rfl) (hb := ⟨Tryz.func153, by kernel_rfl, rfl⟩) (hf := cellsCheck n a ha) (h := ?_)
  refine p_go ?_
  refine p_splitC (s := 12) (ht := fun hc12 => ?_) (hf := fun hc12 => ?_)
  · refine p_go ?_
    refine p_ret1 (hp := by simp at hc12; simp [twoE, hc12])
  · refine p_go fun hf => ?_
    refine p_call (hx := rfl) (hb := ⟨Tryz.func153, by kernel_rfl, rfl⟩) (hf := cellsCheck n b hb) (h := ?_)
    refine p_go ?_
    refine p_ret1 (hp := by simp at hc12; simp [twoE, hc12])
theorem cboth (a b : Cel) : FnC Tryz.prog 163 [celV a, celV b] (fun r => r = celV (bothC a b)) := by
  refine FnC.of (fn := Tryz.f163) ⟨Tryz.func163, by kernel_rfl, rfl⟩ Tryz.ntmps163 (by simp) fun w0 S0 => ?_
  refine p_go fun hf => ?_
  refine p_build (hi := F.ti90.h) (hpl := F.pl90.h) (h := ?_)
  refine p_go ?_
  refine p_splitC (s := 18) (ht := fun hc18 => ?_) (hf := fun hc18 => ?_)
  · refine p_go ?_
    refine p_splitC (s := 45) (ht := fun hc45 => ?_) (hf := fun hc45 => ?_)
    · refine p_go fun hf => ?_
      refine p_build (hi := F.ti90.h) (hpl := F.pl90.h) (h := ?_)
      refine p_go ?_
      refine p_r1 (hp := by rw [bothC_none (by simpa using hc18), if_pos (by simpa using hc45)]; rfl)
    · refine p_go ?_
      refine p_r1 (hp := by rw [bothC_none (by simpa using hc18), if_neg (by simpa using hc45)]; simp)
  · refine p_go ?_
    refine p_splitC (s := 41) (ht := fun hc41 => ?_) (hf := fun hc41 => ?_)
    · refine p_go fun hf => ?_
      refine p_build (hi := F.ti90.h) (hpl := F.pl90.h) (h := ?_)
      refine p_go ?_
      refine p_r1 (hp := by rw [bothC_many (by simpa using hc18) (by simpa using hc41)]; rfl)
    · refine p_go ?_
      refine p_splitC (s := 45) (ht := fun hc45 => ?_) (hf := fun hc45 => ?_)
      · refine p_go fun hf => ?_
        refine p_build (hi := F.ti90.h) (hpl := F.pl90.h) (h := ?_)
        refine p_go ?_
        refine p_r1 (hp := by rw [bothC_same (by simpa using hc18) (by rw [← Bool.not_eq_true] at hc41; simpa using hc41), if_pos (by simpa using hc45)]; rfl)
      · refine p_go ?_
        refine p_r1 (hp := by rw [bothC_same (by simpa using hc18) (by rw [← Bool.not_eq_true] at hc41; simpa using hc41), if_neg (by simpa using hc45)]; simp)
theorem cboths (n : Int) (a b : List Cel) (ha : a.length ≤ 17592186044416) (hb : b.length ≤ 17592186044416) : FnC Tryz.prog 133 [iV n, .sl 90 (a.map celV), .sl 90 (b.map celV)] (fun r => r = .tup [.sl 90 ((if twoE n a b = 0 then List.zipWith bothC a b else []).map celV), iV (twoE n a b)]) := by
  refine FnC.of (fn := Tryz.f133) ⟨Tryz.func133, by kernel_rfl, rfl⟩ Tryz.ntmps133 (by simp) fun w0 S0 => ?_
  refine p_go fun hf => ?_
  refine p_call (hx := rfl) (hb := ⟨Tryz.func162, by kernel_rfl, rfl⟩) (hf := ctwo n a b ha hb) (h := ?_)
  refine p_go ?_
  refine p_splitC (s := 16) (ht := fun hc16 => ?_) (hf := fun hc16 => ?_)
  · refine p_go ?_
    refine p_nilSl (s := 6) (t := 90) (h := ?_)
    refine p_r2 (hp := by simp at hc16; simp [hc16])
  · have h0 : twoE n a b = 0 := by simpa using hc16
    have hA := cellsE_ok (twoE_ok h0).1
    have hB := cellsE_ok (twoE_ok h0).2
    refine p_go ?_
    refine p_nilSlot (s := 9) (el := 90) 33 (h := ?_)
    refine p_loopK [1, 2, 18] [] (fun st => ∃ (i q : Nat), (i ≤ a.length ∧ i ≤ b.length) ∧ st.env 9 = .row q 33 i ∧ st.env 19 = iV i ∧ st.obj q 33 = .row 90 (((List.zipWith bothC a b).take i).map celV)) (fun st => n.toNat - (st.env 19).toN) ?_ fun e ob g1 hK hO hI => ?_
    · exact ⟨0, _, by omega, eV_, eV_, oB_⟩
    · obtain ⟨i, q, hi, e9, e19, o33⟩ := hI
      dsimp only at e9 e19 o33
      simp only [valsE, List.cons.injEq, and_true] at hK
      have hE := (⟨hK, e9, e19, o33⟩ : _ ∧ _ ∧ _ ∧ _)
      refine p_go ?_
      refine p_splitC (s := 20) (ht := fun hc20 => ?_) (hf := fun hc20 => ?_)
      · have hlt : i < a.length := by have := hA.2.1; simp at hc20; omega
        have hlt' : i < b.length := by have := hA.2.1; have := hB.2.1; omega
        refine p_go fun hf => ?_
        refine p_idxMap (j := i) (ht := Tryz.underlying34) (hi := F.ti90.h) (hij := rfl) (hj := hlt) (h := ?_)
        refine p_go fun hf => ?_
        refine p_idxMap (j := i) (ht := Tryz.underlying34) (hi := F.ti90.h) (hij := rfl) (hj := hlt') (h := ?_)
        refine p_go fun hf => ?_
        refine p_call (hx := rfl) (hb := ⟨Tryz.func163, by kernel_rfl, rfl⟩) (hf := cboth a[i] b[i]) (h := ?_)
        refine p_buildSlice (ht := Tryz.underlying34) (hi := F.ti90.h) (h := ?_)
        refine p_append (k := i + 1) (hnl := by simp; omega) (ht := Tryz.underlying34) (hi := F.ti90.h) (hy := by exact ⟨.inl oB_, rfl⟩) (hm := by simp; omega) (hlim := by omega) (h := ?_)
        refine p_go fun hf => ?_
        refine p_add (r := ((i + 1 : Nat) : Int)) (hr := (by first | omega | (simp only [decide_eq_true_eq, decide_eq_false_iff_not, Bool.or_eq_false_iff, Bool.and_eq_true, Bool.not_eq_true', Bool.not_eq_false'] at *; omega))) (hb := (by first | omega | (simp only [decide_eq_true_eq, decide_eq_false_iff_not, Bool.or_eq_false_iff, Bool.and_eq_true, Bool.not_eq_true', Bool.not_eq_false'] at *; omega))) (h := ?_)
        refine p_go ?_
        refine p_some ?_
        refine ⟨⟨(by simp (decide := true) only [valsE, evE, upd, cv, args0, argsFrom, List.length_map, ↓reduceIte, hE] <;> rfl), (by simp (decide := true) only [valsO, updO, upd, true_and, and_true, false_and, and_false, ↓reduceIte, hE] <;> rfl)⟩, ⟨i + 1, _, by omega, eV_, eV_, by refine Eq.trans oB_ ?_; rw [zipTake bothC hlt hlt', List.map_append]; rfl⟩, ?_⟩
        simp (decide := true) only [upd, e19, V.toN, ↓reduceIte]; simp at hc20; omega
      · have hge : (List.zipWith bothC a b).length ≤ i := by have := hA.2.1; have := hB.2.1; simp at hc20 ⊢; omega
        refine p_go ?_
        refine p_freeze (g1 := q) (d1 := 33) (h := ?_)
        refine p_toSl (s := 6) (hn := by simp; omega) (h := ?_)
        refine p_r2 (hp := by rw [if_pos h0, h0, List.take_of_length_le hge])
theorem csame (a b : List Cel) (ha : a.length ≤ 17592186044416) (hb : b.length ≤ 17592186044416) : FnC Tryz.prog 95 [.sl 90 (a.map celV), .sl 90 (b.map celV)] (fun r => r = .bool (decide (a = b))) := by
  refine FnC.of (fn := Tryz.f95) ⟨Tryz.func95, by kernel_rfl, rfl⟩ Tryz.ntmps95 (by simp) fun w0 S0 => ?_
  refine p_go fun hf => ?_
  refine p_call (hx := rfl) (hb := ⟨Tryz.func127, by kernel_rfl, rfl⟩) (hf := equal_cel a b ha hb) (h := ?_)
  refine p_go ?_
  refine p_ret1 (hp := by rfl)
theorem cone (n : Int) (hn : 0 ≤ n ∧ n ≤ 64) : FnC Tryz.prog 166 [iV n] (fun r => r = .sl 90 ((oneC n).map celV)) := by
  refine FnC.of (fn := Tryz.f166) ⟨Tryz.func166, by kernel_rfl, rfl⟩ Tryz.ntmps166 (by simp) fun w0 S0 => ?_
  refine p_go fun hf => ?_
  refine p_makeA (n := n.toNat) (by decide) (by repeat (first | exact hf _ | with_reducible rfl | rw [updO_off (by decide)])) Tryz.underlying34 F.ti90.h rfl (by decide) (by simp [Value.cells, cv] <;> rfl) rfl (by rw [show ((n.toNat : Nat) : Int) = n by omega]; exact eV_) (by omega) (by omega) ?_
  refine p_go ?_
  refine p_loopK [3, 7] [] (fun st => ∃ i : Nat, (i ≤ n.toNat) ∧ st.env 8 = iV i ∧ st.obj (0 + 1 + 1) 6 = .row 90 ((List.range n.toNat).map fun j => celV (if j < i then ⟨worth (j : Int), 0, 0⟩ else cel0))) (fun st => n.toNat - (st.env 8).toN) ?_ fun e ob g1 hK hO hI => ?_
  · exact ⟨0, by omega, eV_, by refine Eq.trans oB_ ?_; rw [replicate_range]; rfl⟩
  · obtain ⟨i, hi, e8, o6⟩ := hI
    dsimp only at e8 o6
    simp only [valsE, List.cons.injEq, and_true] at hK
    have hE := (⟨hK, e8, o6⟩ : _ ∧ _ ∧ _)
    refine p_go ?_
    refine p_splitC (s := 9) (ht := fun hc9 => ?_) (hf := fun hc9 => ?_)
    · have hlt : i < n.toNat := by simp at hc9; omega
      refine p_go fun hf => ?_
      refine p_shlB (n := i) (h := ?_)
      refine p_idxRowN (i) (ht := Tryz.underlying34) (hi := F.ti90.h) (hij := rfl) (hlt := hlt) (h := ?_)
      refine p_go fun hf => ?_
      refine p_storePartF (f' := fun j => celV (if j < i + 1 then ⟨worth (j : Int), 0, 0⟩ else cel0)) F.ti30.h eV_ oB_ (hlt) rfl eV_ rfl (by simp) (fun j _ => cone_next i j) ?_
      refine p_go fun hf => ?_
      refine p_add (r := ((i + 1 : Nat) : Int)) (hr := (by first | omega | (simp only [decide_eq_true_eq, decide_eq_false_iff_not, Bool.or_eq_false_iff, Bool.and_eq_true, Bool.not_eq_true', Bool.not_eq_false'] at *; omega))) (hb := (by first | omega | (simp only [decide_eq_true_eq, decide_eq_false_iff_not, Bool.or_eq_false_iff, Bool.and_eq_true, Bool.not_eq_true', Bool.not_eq_false'] at *; omega))) (h := ?_)
      refine p_go ?_
      refine p_some ?_
      refine ⟨⟨(by simp (decide := true) only [valsE, evE, upd, cv, args0, argsFrom, List.length_map, ↓reduceIte, hE] <;> rfl), (by simp (decide := true) only [valsO, updO, upd, true_and, and_true, false_and, and_false, ↓reduceIte, hE] <;> rfl)⟩, ⟨i + 1, hlt, eV_, oB_⟩, ?_⟩
      simp (decide := true) only [upd, e8, V.toN, ↓reduceIte]; omega
    · refine p_go ?_
      refine p_freeze (g1 := 0 + 1 + 1) (d1 := 6) (h := ?_)
      refine p_toSl (s := 2) (hn := by simp) (h := ?_)
      refine p_ret1 (hp := by rw [cone_done n (by simp at hc9; omega)])
theorem cOne (n : Int) (hn : 0 ≤ n ∧ n ≤ 64) : FnC Tryz.prog 138 [iV n] (fun r => r = .tup [.sl 90 ((oneC n).map celV), iV 0]) := by
  refine FnC.of (fn := Tryz.f138) ⟨Tryz.func138, by kernel_rfl, rfl⟩ Tryz.ntmps138 (by simp) fun w0 S0 => ?_
  refine p_go fun hf => ?_
  refine p_call (hx := rfl) (hb := ⟨Tryz.func165, by kernel_rfl, rfl⟩) (hf := cdims n) (h := ?_)
  refine p_go ?_
  refine p_isC (s := 8) (b := false) (hc := by simp [dimsE, show badN n = false by simp [badN]; omega]) (h := ?_)
  refine p_go fun hf => ?_
  refine p_call (hx := rfl) (hb := ⟨Tryz.func166, by kernel_rfl, rfl⟩) (hf := cone n hn) (h := ?_)
  refine p_go ?_
  refine p_r2 (hp := by rfl)
theorem cthen (n : Int) (a b : List Cel) (ha : a.length ≤ 17592186044416) (hb : b.length ≤ 17592186044416) : FnC Tryz.prog 141 [iV n, .sl 90 (a.map celV), .sl 90 (b.map celV)] (fun r => r = .tup [.sl 90 ((if twoE n a b = 0 then b.map (behindC a) else []).map celV), iV (twoE n a b)]) := by
  refine FnC.of (fn := Tryz.f141) ⟨Tryz.func141, by kernel_rfl, rfl⟩ Tryz.ntmps141 (by simp) fun w0 S0 => ?_
  refine p_go fun hf => ?_
  refine p_call (hx := rfl) (hb := ⟨Tryz.func162, by kernel_rfl, rfl⟩) (hf := ctwo n a b ha hb) (h := ?_)
  refine p_go ?_
  refine p_splitC (s := 19) (ht := fun hc19 => ?_) (hf := fun hc19 => ?_)
  · refine p_go ?_
    refine p_nilSl (s := 6) (t := 90) (h := ?_)
    refine p_r2 (hp := by simp at hc19; simp [hc19])
  · have h0 : twoE n a b = 0 := by simpa using hc19
    have hA := cellsE_ok (twoE_ok h0).1
    have hB := cellsE_ok (twoE_ok h0).2
    refine p_go ?_
    refine p_nilSlot (s := 9) (el := 90) 52 (h := ?_)
    refine p_loopK [0, 1, 21, 22] [] (fun st => ∃ (i q : Nat), (i ≤ b.length) ∧ st.env 9 = .row q 52 i ∧ st.env 23 = iV i ∧ st.obj q 52 = .row 90 ((b.take i).map fun c => celV (behindC a c))) (fun st => b.length - (st.env 23).toN) ?_ fun e ob g1 hK hO hI => ?_
    · exact ⟨0, _, by omega, eV_, eV_, oB_⟩
    · obtain ⟨i, q, hi, e9, e23, o52⟩ := hI
      dsimp only at e9 e23 o52
      simp only [valsE, List.cons.injEq, and_true] at hK
      have hE := (⟨hK, e9, e23, o52⟩ : _ ∧ _ ∧ _ ∧ _)
      refine p_go ?_
      refine p_splitC (s := 24) (ht := fun hc24 => ?_) (hf := fun hc24 => ?_)
      · have hlt : i < b.length := by simpa using hc24
        refine p_go fun hf => ?_
        refine p_idxMap (j := i) (ht := Tryz.underlying34) (hi := F.ti90.h) (hij := rfl) (hj := hlt) (h := ?_)
        refine p_go fun hf => ?_
        refine p_build (hi := F.ti90.h) (hpl := F.pl90.h) (h := ?_)
        refine p_go ?_
        refine p_loopK [0, 1, 9, 11, 12, 21, 22, 23, 32] [(q, 52), (g1 + 1 + 1, 11)] (fun st => ∃ k : Nat, (k ≤ a.length) ∧ st.env 33 = iV k ∧ st.obj (g1 + 1 + 1 + 1) 12 = .cells 90 (celL ((List.range k).foldl (behindStep a b[i]) ⟨0, b[i].kind, b[i].k⟩))) (fun st => a.length - (st.env 33).toN) ?_ fun e ob g2 hK hO hI => ?_
        · exact ⟨0, by omega, eV_, oB_⟩
        · obtain ⟨k, hk, e33, o12⟩ := hI
          dsimp only at e33 o12
          simp only [valsE, List.cons.injEq, and_true] at hK
          simp only [valsO, List.cons.injEq, and_true] at hO
          have hE := (⟨hK, hO, e33, o12⟩ : _ ∧ _ ∧ _ ∧ _)
          refine p_go ?_
          refine p_splitC (s := 34) (ht := fun hc34 => ?_) (hf := fun hc34 => ?_)
          · have hka : k < a.length := by have := hA.2.1; simp at hc34; omega
            refine p_go fun hf => ?_
            refine p_shrB (n := k) (h := ?_)
            refine p_go ?_
            refine p_splitC (s := 41) (ht := fun hc41 => ?_) (hf := fun hc41 => ?_)
            · refine p_go fun hf => ?_
              refine p_idxMap (j := k) (ht := Tryz.underlying34) (hi := F.ti90.h) (hij := rfl) (hj := hka) (h := ?_)
              refine p_go fun hf => ?_
              refine p_call (hx := rfl) (hb := ⟨Tryz.func163, by kernel_rfl, rfl⟩) (hf := cboth ((List.range k).foldl (behindStep a b[i]) ⟨0, b[i].kind, b[i].k⟩) a[k]) (h := ?_)
              refine p_go fun hf => ?_
              refine p_add (r := ((k + 1 : Nat) : Int)) (hr := (by first | omega | (simp only [decide_eq_true_eq, decide_eq_false_iff_not, Bool.or_eq_false_iff, Bool.and_eq_true, Bool.not_eq_true', Bool.not_eq_false'] at *; omega))) (hb := (by first | omega | (simp only [decide_eq_true_eq, decide_eq_false_iff_not, Bool.or_eq_false_iff, Bool.and_eq_true, Bool.not_eq_true', Bool.not_eq_false'] at *; omega))) (h := ?_)
              refine p_go ?_
              refine p_some ?_
              refine ⟨⟨(by simp (decide := true) only [valsE, evE, upd, cv, args0, argsFrom, List.length_map, ↓reduceIte, hE] <;> rfl), (by simp (decide := true) only [valsO, updO, upd, true_and, and_true, false_and, and_false, ↓reduceIte, hE] <;> rfl)⟩, ⟨k + 1, hka, eV_, by rw [range_fold, behindStep, if_pos (by rw [← bit_is]; exact hc41), getD_at hka]; exact oB_⟩, ?_⟩
              simp (decide := true) only [upd, e33, V.toN, ↓reduceIte]; omega
            · refine p_go fun hf => ?_
              refine p_add (r := ((k + 1 : Nat) : Int)) (hr := (by first | omega | (simp only [decide_eq_true_eq, decide_eq_false_iff_not, Bool.or_eq_false_iff, Bool.and_eq_true, Bool.not_eq_true', Bool.not_eq_false'] at *; omega))) (hb := (by first | omega | (simp only [decide_eq_true_eq, decide_eq_false_iff_not, Bool.or_eq_false_iff, Bool.and_eq_true, Bool.not_eq_true', Bool.not_eq_false'] at *; omega))) (h := ?_)
              refine p_go ?_
              refine p_some ?_
              refine ⟨⟨(by simp (decide := true) only [valsE, evE, upd, cv, args0, argsFrom, List.length_map, ↓reduceIte, hE] <;> rfl), (by simp (decide := true) only [valsO, updO, upd, true_and, and_true, false_and, and_false, ↓reduceIte, hE] <;> rfl)⟩, ⟨k + 1, hka, eV_, by rw [range_fold, behindStep, if_neg (by rw [← bit_is, hc41]; decide)]; exact oB_⟩, ?_⟩
              simp (decide := true) only [upd, e33, V.toN, ↓reduceIte]; omega
          · have hk' : k = a.length := by have := hA.2.1; simp at hc34; omega
            refine p_go fun hf => ?_
            refine p_buildSlice (ht := Tryz.underlying34) (hi := F.ti90.h) (h := ?_)
            refine p_append (k := i + 1) (hnl := by simp; omega) (ht := Tryz.underlying34) (hi := F.ti90.h) (hy := by exact ⟨.inl oB_, rfl⟩) (hm := by simp; omega) (hlim := by omega) (h := ?_)
            refine p_go fun hf => ?_
            refine p_add (r := ((i + 1 : Nat) : Int)) (hr := (by first | omega | (simp only [decide_eq_true_eq, decide_eq_false_iff_not, Bool.or_eq_false_iff, Bool.and_eq_true, Bool.not_eq_true', Bool.not_eq_false'] at *; omega))) (hb := (by first | omega | (simp only [decide_eq_true_eq, decide_eq_false_iff_not, Bool.or_eq_false_iff, Bool.and_eq_true, Bool.not_eq_true', Bool.not_eq_false'] at *; omega))) (h := ?_)
            refine p_go ?_
            refine p_some ?_
            refine ⟨⟨(by simp (decide := true) only [valsE, evE, upd, cv, args0, argsFrom, List.length_map, ↓reduceIte, hE] <;> rfl), (by simp (decide := true) only [valsO, updO, upd, true_and, and_true, false_and, and_false, ↓reduceIte, hE] <;> rfl)⟩, ⟨i + 1, _, hlt, eV_, eV_, by refine Eq.trans oB_ ?_; rw [take_snoc (fun c => celV (behindC a c)) hlt, behindC_is, ← hk']⟩, ?_⟩
            simp (decide := true) only [upd, e23, V.toN, ↓reduceIte]; omega
      · have hge : b.length ≤ i := by simpa using hc24
        refine p_go ?_
        refine p_freeze (g1 := q) (d1 := 52) (h := ?_)
        refine p_toSl (s := 6) (hn := by simp; omega) (h := ?_)
        refine p_r2 (hp := by rw [if_pos h0, h0, List.take_of_length_le hge, List.map_map]; rfl)
end Go.Proofs.YtfpljljjjgicaaaGreatDoor
