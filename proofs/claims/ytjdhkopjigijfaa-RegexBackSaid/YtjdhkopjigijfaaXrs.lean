import Derived.Test.YtjdhkopjigijfaaXq
/-
  The reference's parser: letters, blanks, what comes, faults; expressions joined.
-/
set_option linter.unusedSimpArgs false
set_option linter.unusedVariables false
set_option maxHeartbeats 4000000
namespace Go.Proofs.Ytjdhkopjigijfaa
open Go.RowKit
attribute [local irreducible] Wk Tr
/-- A text's cells; b: where it is none, or less than 0. -/
abbrev txL (s : ByteArray) (i : Nat) (b : Int) (o : Nat) (d : Bool) : List V := [.str s, inV i, iV b, inV o, .bool d]
/-- The byte that comes; 0: there is none. -/
def byB (s : ByteArray) (i : Nat) (b : Int) : Int := if b < 0 then bt s i else 0

theorem failR (q : Nat) (s : ByteArray) (i op : Nat) (b : Int) (dp : Bool) (hi : i ≤ s.size) (hs : s.size ≤ 1000000) : FnX Try.prog 32 [.ptr q 13 0] [(q, 13)] [.cells 72 (txL s i b op dp)] (fun g r o g' => r = .tup [] ∧ o q 13 = .cells 72 (txL s i (if b < 0 then (i : Int) else b) op dp)) := by
  refine FnX.of (fn := Try.f32) ⟨Try.func32, by kernel_rfl, rfl⟩ Try.ntmps32 (by simp) fun w0 S0 l ob0 g0 K hrow hgl hK0 => ?_
  simp only [valsO, List.cons.injEq, and_true] at hrow
  simp only [List.mem_cons, List.not_mem_nil, or_false, forall_eq_or_imp, forall_eq, forall_const] at hgl
  have hE := hrow
  refine p_go fun hf => ?_
  refine p_nilChk (h := ?_)
  refine p_go ?_
  refine p_splitC (s := 6) (ht := fun hc6 => ?_) (hf := fun hc6 => ?_)
  · have hb : b < 0 := by simpa using hc6
    refine p_go fun hf => ?_
    refine p_nilChk (h := ?_)
    refine p_go fun hf => ?_
    refine p_nilChk (h := ?_)
    refine p_go ?_
    refine p_retE0 rfl (hK0 _ _ _ (by first | (dsimp only; omega) | omega) (by (try dsimp only); repeat (first | exact hlow | exact LowQ.refl | refine LowQ.or_ ?_ (by assumption) | refine LowQ.up ?_ (by omega) | refine LowQ.at_ ?_ (by simp))) (⟨rfl, by rw [if_pos hb]; exact oB_⟩))
  · have hb : ¬ b < 0 := by simpa using hc6
    refine p_go ?_
    refine p_retE0 rfl (hK0 _ _ _ (by first | (dsimp only; omega) | omega) (by (try dsimp only); repeat (first | exact hlow | exact LowQ.refl | refine LowQ.or_ ?_ (by assumption) | refine LowQ.up ?_ (by omega) | refine LowQ.at_ ?_ (by simp))) (⟨rfl, by rw [if_neg hb]; exact oB_⟩))

theorem blanksR (q : Nat) (s : ByteArray) (i op : Nat) (b : Int) (dp : Bool) (hi : i ≤ s.size) (hs : s.size ≤ 1000000) : FnX Try.prog 81 [.ptr q 13 0] [(q, 13)] [.cells 72 (txL s i b op dp)] (fun g r o g' => r = .tup [] ∧ o q 13 = .cells 72 (txL s (bl s i) (b) op dp)) := by
  refine FnX.of (fn := Try.f81) ⟨Try.func81, by kernel_rfl, rfl⟩ Try.ntmps81 (by simp) fun w0 S0 l ob0 g0 K hrow hgl hK0 => ?_
  simp only [valsO, List.cons.injEq, and_true] at hrow
  simp only [List.mem_cons, List.not_mem_nil, or_false, forall_eq_or_imp, forall_eq, forall_const] at hgl
  have hE := hrow
  refine p_go ?_
  refine p_loopK [0] [] (fun st => ∃ j : Nat, (j ≤ s.size) ∧ (bl s j = bl s i) ∧ (g0 ≤ st.gen) ∧ (LowQ g0 [(q, 13)] ob0 st.obj) ∧ st.obj q 13 = .cells 72 (txL s j b op dp)) (fun st => s.size - rdI (st.obj q 13)) ?_ fun e ob g1 hK hO hI => ?_
  · exact ⟨i, hi, rfl, by (try dsimp only); omega, (by (try dsimp only); repeat (first | exact hlow | exact LowQ.refl | refine LowQ.or_ ?_ (by assumption) | refine LowQ.up ?_ (by omega) | refine LowQ.at_ ?_ (by simp))), oB_⟩
  · obtain ⟨j, hj, hbl, hgen1, hlow, hcl⟩ := hI
    dsimp only at hcl
    simp only [valsE, List.cons.injEq, and_true] at hK
    have hE := (⟨hK, hcl⟩ : _ ∧ _)
    dsimp only at hgen1 hlow
    refine p_go fun hf => ?_
    refine p_nilChk (h := ?_)
    refine p_go fun hf => ?_
    refine p_nilChk (h := ?_)
    refine p_go fun hf => ?_
    refine p_split (s := 12) (ht := fun hb12 => ?_) (hf := fun hb12 => ?_)
    · have hlt : j < s.size := by simpa using hb12
      refine p_go fun hf => ?_
      refine p_nilChk (h := ?_)
      refine p_go fun hf => ?_
      refine p_nilChk (h := ?_)
      refine p_go fun hf => ?_
      refine p_idxB (j) (hj := hlt) (h := ?_)
      refine p_go fun hf => ?_
      refine p_split (s := 23) (ht := fun hb23 => ?_) (hf := fun hb23 => ?_)
      · have hbj : isBl (bt s j) = true := by have h : bt s j = 9 := (by simpa using hb23); rw [isBl, h]; rfl
        refine p_go fun hf => ?_
        refine p_nilChk (h := ?_)
        refine p_go fun hf => ?_
        refine p_add (r := ((j + 1 : Nat) : Int)) (hr := (by first | omega | (simp only [decide_eq_true_eq, decide_eq_false_iff_not, Bool.or_eq_false_iff, Bool.and_eq_true, Bool.not_eq_true', Bool.not_eq_false'] at *; omega))) (hb := (by first | omega | (simp only [decide_eq_true_eq, decide_eq_false_iff_not, Bool.or_eq_false_iff, Bool.and_eq_true, Bool.not_eq_true', Bool.not_eq_false'] at *; omega))) (h := ?_)
        refine p_nilChk (h := ?_)
        refine p_go ?_
        refine p_some ?_
        refine ⟨⟨(by simp (decide := true) only [valsE, evE, upd, cv, args0, argsFrom, List.length_map, ↓reduceIte, hE] <;> rfl), (by simp (decide := true) only [valsO, updO, upd, true_and, and_true, false_and, and_false, ↓reduceIte, hE] <;> rfl)⟩, ⟨j + 1, by omega, by rw [← hbl, ← bl_step hlt hbj], by (try dsimp only); omega, (by (try dsimp only); repeat (first | exact hlow | exact LowQ.refl | refine LowQ.or_ ?_ (by assumption) | refine LowQ.up ?_ (by omega) | refine LowQ.at_ ?_ (by simp))), oB_⟩, ?_⟩
        simp (decide := true) only [updO, hcl, rdI, and_self, and_true, true_and, ↓reduceIte, List.set_cons_succ, List.set_cons_zero]; omega
      · have n9 : ¬ bt s j = 9 := by simpa using hb23
        refine p_go fun hf => ?_
        refine p_nilChk (h := ?_)
        refine p_go fun hf => ?_
        refine p_nilChk (h := ?_)
        refine p_go fun hf => ?_
        refine p_idxB (j) (hj := hlt) (h := ?_)
        refine p_go fun hf => ?_
        refine p_split (s := 35) (ht := fun hb35 => ?_) (hf := fun hb35 => ?_)
        · have hbj : isBl (bt s j) = true := by have h : bt s j = 10 := (by simpa using hb35); rw [isBl, h]; rfl
          refine p_go fun hf => ?_
          refine p_nilChk (h := ?_)
          refine p_go fun hf => ?_
          refine p_add (r := ((j + 1 : Nat) : Int)) (hr := (by first | omega | (simp only [decide_eq_true_eq, decide_eq_false_iff_not, Bool.or_eq_false_iff, Bool.and_eq_true, Bool.not_eq_true', Bool.not_eq_false'] at *; omega))) (hb := (by first | omega | (simp only [decide_eq_true_eq, decide_eq_false_iff_not, Bool.or_eq_false_iff, Bool.and_eq_true, Bool.not_eq_true', Bool.not_eq_false'] at *; omega))) (h := ?_)
          refine p_nilChk (h := ?_)
          refine p_go ?_
          refine p_some ?_
          refine ⟨⟨(by simp (decide := true) only [valsE, evE, upd, cv, args0, argsFrom, List.length_map, ↓reduceIte, hE] <;> rfl), (by simp (decide := true) only [valsO, updO, upd, true_and, and_true, false_and, and_false, ↓reduceIte, hE] <;> rfl)⟩, ⟨j + 1, by omega, by rw [← hbl, ← bl_step hlt hbj], by (try dsimp only); omega, (by (try dsimp only); repeat (first | exact hlow | exact LowQ.refl | refine LowQ.or_ ?_ (by assumption) | refine LowQ.up ?_ (by omega) | refine LowQ.at_ ?_ (by simp))), oB_⟩, ?_⟩
          simp (decide := true) only [updO, hcl, rdI, and_self, and_true, true_and, ↓reduceIte, List.set_cons_succ, List.set_cons_zero]; omega
        · have n10 : ¬ bt s j = 10 := by simpa using hb35
          refine p_go fun hf => ?_
          refine p_nilChk (h := ?_)
          refine p_go fun hf => ?_
          refine p_nilChk (h := ?_)
          refine p_go fun hf => ?_
          refine p_idxB (j) (hj := hlt) (h := ?_)
          refine p_go fun hf => ?_
          refine p_split (s := 47) (ht := fun hb47 => ?_) (hf := fun hb47 => ?_)
          · have hbj : isBl (bt s j) = true := by have h : bt s j = 13 := (by simpa using hb47); rw [isBl, h]; rfl
            refine p_go fun hf => ?_
            refine p_nilChk (h := ?_)
            refine p_go fun hf => ?_
            refine p_add (r := ((j + 1 : Nat) : Int)) (hr := (by first | omega | (simp only [decide_eq_true_eq, decide_eq_false_iff_not, Bool.or_eq_false_iff, Bool.and_eq_true, Bool.not_eq_true', Bool.not_eq_false'] at *; omega))) (hb := (by first | omega | (simp only [decide_eq_true_eq, decide_eq_false_iff_not, Bool.or_eq_false_iff, Bool.and_eq_true, Bool.not_eq_true', Bool.not_eq_false'] at *; omega))) (h := ?_)
            refine p_nilChk (h := ?_)
            refine p_go ?_
            refine p_some ?_
            refine ⟨⟨(by simp (decide := true) only [valsE, evE, upd, cv, args0, argsFrom, List.length_map, ↓reduceIte, hE] <;> rfl), (by simp (decide := true) only [valsO, updO, upd, true_and, and_true, false_and, and_false, ↓reduceIte, hE] <;> rfl)⟩, ⟨j + 1, by omega, by rw [← hbl, ← bl_step hlt hbj], by (try dsimp only); omega, (by (try dsimp only); repeat (first | exact hlow | exact LowQ.refl | refine LowQ.or_ ?_ (by assumption) | refine LowQ.up ?_ (by omega) | refine LowQ.at_ ?_ (by simp))), oB_⟩, ?_⟩
            simp (decide := true) only [updO, hcl, rdI, and_self, and_true, true_and, ↓reduceIte, List.set_cons_succ, List.set_cons_zero]; omega
          · have n13 : ¬ bt s j = 13 := by simpa using hb47
            refine p_go fun hf => ?_
            refine p_nilChk (h := ?_)
            refine p_go fun hf => ?_
            refine p_nilChk (h := ?_)
            refine p_go fun hf => ?_
            refine p_idxB (j) (hj := hlt) (h := ?_)
            refine p_go ?_
            refine p_splitC (s := 59) (ht := fun hc59 => ?_) (hf := fun hc59 => ?_)
            · have hbj : isBl (bt s j) = true := by have h : bt s j = 32 := (by simpa using hc59); rw [isBl, h]; rfl
              refine p_go fun hf => ?_
              refine p_nilChk (h := ?_)
              refine p_go fun hf => ?_
              refine p_add (r := ((j + 1 : Nat) : Int)) (hr := (by first | omega | (simp only [decide_eq_true_eq, decide_eq_false_iff_not, Bool.or_eq_false_iff, Bool.and_eq_true, Bool.not_eq_true', Bool.not_eq_false'] at *; omega))) (hb := (by first | omega | (simp only [decide_eq_true_eq, decide_eq_false_iff_not, Bool.or_eq_false_iff, Bool.and_eq_true, Bool.not_eq_true', Bool.not_eq_false'] at *; omega))) (h := ?_)
              refine p_nilChk (h := ?_)
              refine p_go ?_
              refine p_some ?_
              refine ⟨⟨(by simp (decide := true) only [valsE, evE, upd, cv, args0, argsFrom, List.length_map, ↓reduceIte, hE] <;> rfl), (by simp (decide := true) only [valsO, updO, upd, true_and, and_true, false_and, and_false, ↓reduceIte, hE] <;> rfl)⟩, ⟨j + 1, by omega, by rw [← hbl, ← bl_step hlt hbj], by (try dsimp only); omega, (by (try dsimp only); repeat (first | exact hlow | exact LowQ.refl | refine LowQ.or_ ?_ (by assumption) | refine LowQ.up ?_ (by omega) | refine LowQ.at_ ?_ (by simp))), oB_⟩, ?_⟩
              simp (decide := true) only [updO, hcl, rdI, and_self, and_true, true_and, ↓reduceIte, List.set_cons_succ, List.set_cons_zero]; omega
            · have n32 : ¬ bt s j = 32 := by simpa using hc59
              have hst : bl s j = j := bl_stop (fun h => by have h2 := h.2; simp [isBl, n9, n10, n13, n32] at h2)
              refine p_go ?_
              refine p_retE0 rfl (hK0 _ _ _ (by first | (dsimp only; omega) | omega) (by (try dsimp only); repeat (first | exact hlow | exact LowQ.refl | refine LowQ.or_ ?_ (by assumption) | refine LowQ.up ?_ (by omega) | refine LowQ.at_ ?_ (by simp))) (⟨rfl, by rw [← hbl, hst]; exact oB_⟩))
    · have hge : ¬ j < s.size := by simpa using hb12
      have hst : bl s j = j := bl_stop (fun h => hge h.1)
      refine p_go ?_
      refine p_retE0 rfl (hK0 _ _ _ (by first | (dsimp only; omega) | omega) (by (try dsimp only); repeat (first | exact hlow | exact LowQ.refl | refine LowQ.or_ ?_ (by assumption) | refine LowQ.up ?_ (by omega) | refine LowQ.at_ ?_ (by simp))) (⟨rfl, by rw [← hbl, hst]; exact oB_⟩))

theorem byteR (q : Nat) (s : ByteArray) (i op : Nat) (b : Int) (dp : Bool) (hi : i ≤ s.size) (hs : s.size ≤ 1000000) : FnX Try.prog 59 [.ptr q 13 0] [(q, 13)] [.cells 72 (txL s i b op dp)] (fun g r o g' => r = .int .u8 (byB s i b) ∧ o q 13 = .cells 72 (txL s i (b) op dp)) := by
  refine FnX.of (fn := Try.f59) ⟨Try.func59, by kernel_rfl, rfl⟩ Try.ntmps59 (by simp) fun w0 S0 l ob0 g0 K hrow hgl hK0 => ?_
  simp only [valsO, List.cons.injEq, and_true] at hrow
  simp only [List.mem_cons, List.not_mem_nil, or_false, forall_eq_or_imp, forall_eq, forall_const] at hgl
  have hE := hrow
  refine p_go fun hf => ?_
  refine p_nilChk (h := ?_)
  refine p_go fun hf => ?_
  refine p_split (s := 8) (ht := fun hb8 => ?_) (hf := fun hb8 => ?_)
  · have hb : b < 0 := by simpa using hb8
    refine p_go fun hf => ?_
    refine p_nilChk (h := ?_)
    refine p_go fun hf => ?_
    refine p_nilChk (h := ?_)
    refine p_go ?_
    refine p_splitC (s := 19) (ht := fun hc19 => ?_) (hf := fun hc19 => ?_)
    · have hlt : i < s.size := by simpa using hc19
      refine p_go fun hf => ?_
      refine p_nilChk (h := ?_)
      refine p_go fun hf => ?_
      refine p_nilChk (h := ?_)
      refine p_go fun hf => ?_
      refine p_idxB (i) (hj := hlt) (h := ?_)
      refine p_go ?_
      refine p_retE1 (v := .int .u8 (bt s i)) rfl eV_ (hK0 _ _ _ (by first | (dsimp only; omega) | omega) (by (try dsimp only); repeat (first | exact hlow | exact LowQ.refl | refine LowQ.or_ ?_ (by assumption) | refine LowQ.up ?_ (by omega) | refine LowQ.at_ ?_ (by simp))) (⟨by rw [byB, if_pos hb], oB_⟩))
    · have hge : ¬ i < s.size := by simpa using hc19
      have hb0 : bt s i = 0 := bt_ge (by omega)
      refine p_go ?_
      refine p_retE1 (v := .int .u8 0) rfl eV_ (hK0 _ _ _ (by first | (dsimp only; omega) | omega) (by (try dsimp only); repeat (first | exact hlow | exact LowQ.refl | refine LowQ.or_ ?_ (by assumption) | refine LowQ.up ?_ (by omega) | refine LowQ.at_ ?_ (by simp))) (⟨by rw [byB, if_pos hb, hb0], oB_⟩))
  · have hb : ¬ b < 0 := by simpa using hb8
    refine p_go ?_
    refine p_retE1 (v := .int .u8 0) rfl eV_ (hK0 _ _ _ (by first | (dsimp only; omega) | omega) (by (try dsimp only); repeat (first | exact hlow | exact LowQ.refl | refine LowQ.or_ ?_ (by assumption) | refine LowQ.up ?_ (by omega) | refine LowQ.at_ ?_ (by simp))) (⟨by rw [byB, if_neg hb], oB_⟩))

def bgT (c : Int) : Bool := decide (c ≠ 0) && (letB c || isSg c)

theorem beginsR (q : Nat) (s : ByteArray) (i op : Nat) (b : Int) (dp : Bool) (hi : i ≤ s.size) (hs : s.size ≤ 1000000) : FnX Try.prog 83 [.ptr q 13 0] [(q, 13)] [.cells 72 (txL s i b op dp)] (fun g r o g' => r = .bool (bgT (byB s i b)) ∧ o q 13 = .cells 72 (txL s i (b) op dp)) := by
  refine FnX.of (fn := Try.f83) ⟨Try.func83, by kernel_rfl, rfl⟩ Try.ntmps83 (by simp) fun w0 S0 l ob0 g0 K hrow hgl hK0 => ?_
  simp only [valsO, List.cons.injEq, and_true] at hrow
  simp only [List.mem_cons, List.not_mem_nil, or_false, forall_eq_or_imp, forall_eq, forall_const] at hgl
  have hE := hrow
  refine p_go fun hf => ?_
  refine p_callX ([]) (hf := byteR q s i op b dp hi hs) (hg := by simp; omega) (hos := by simp <;> omega) (h := fun r o1 h1 hg1 hlw1 hos1 hR1 => ?_)
  obtain ⟨rfl, hcl⟩ := hR1
  simp only [valsO, List.cons.injEq, and_true] at hos1
  have hlow : LowQ g0 [(q, 13)] ob0 o1 := LowQ.trans (by (try dsimp only); repeat (first | exact hlow | exact LowQ.refl | refine LowQ.or_ ?_ (by assumption) | refine LowQ.up ?_ (by omega) | refine LowQ.at_ ?_ (by simp))) hlw1 (by first | (dsimp only; omega) | omega) (fun k hk => .inl hk)
  have hE := hcl
  refine p_go fun hf => ?_
  refine p_split (s := 8) (ht := fun hb8 => ?_) (hf := fun hb8 => ?_)
  · have h0 : byB s i b ≠ 0 := by simpa using hb8
    refine p_go fun hf => ?_
    refine p_call (hx := rfl) (hb := ⟨Try.func105, by kernel_rfl, rfl⟩) (hf := letterR (byB s i b)) (h := ?_)
    refine p_go ?_
    refine p_retE1 (v := .bool (letB (byB s i b) || decide (byB s i b = 46) || decide (byB s i b = 37) || decide (byB s i b = 35) || decide (byB s i b = 40) || decide (byB s i b = 33))) rfl eV_ (hK0 _ _ _ (by first | (dsimp only; omega) | omega) (by (try dsimp only); repeat (first | exact hlow | exact LowQ.refl | refine LowQ.or_ ?_ (by assumption) | refine LowQ.up ?_ (by omega) | refine LowQ.at_ ?_ (by simp))) (⟨by rw [bgT, decide_eq_true h0, isSg]; simp only [Bool.true_and, Bool.or_assoc], oB_⟩))
  · have h0 : byB s i b = 0 := by simpa using hb8
    refine p_go ?_
    refine p_retE1 (v := .bool false) rfl eV_ (hK0 _ _ _ (by first | (dsimp only; omega) | omega) (by (try dsimp only); repeat (first | exact hlow | exact LowQ.refl | refine LowQ.or_ ?_ (by assumption) | refine LowQ.up ?_ (by omega) | refine LowQ.at_ ?_ (by simp))) (⟨by rw [bgT, h0]; rfl, oB_⟩))

theorem joinedR (op : Int) (l : List Rx) (hl : l.length ≤ 1000000) (hb : (jkL op l).length ≤ 1000000) : FnC Try.prog 53 [iV op, .sl 25 (l.map rxV)] (fun r => r = rxA (joinR op l)) := by
  refine FnC.of (fn := Try.f53) ⟨Try.func53, by kernel_rfl, rfl⟩ Try.ntmps53 (by simp) fun w0 S0 => ?_
  refine p_go ?_
  refine p_splitC (s := 9) (ht := fun hc9 => ?_) (hf := fun hc9 => ?_)
  · have h1 : l.length = 1 := by have h := hc9; simp at h; omega
    have hlt : 0 < l.length := by omega
    refine p_go fun hf => ?_
    refine p_idxMap (j := 0) (ht := Try.underlying23) (hi := F.ti25.h) (hij := rfl) (hj := hlt) (h := ?_)
    rw [rxV_cells]
    refine p_go ?_
    refine p_r1 (hp := by rw [joinR_one hlt h1])
  · have h1 : l.length ≠ 1 := by have h := hc9; simp at h; omega
    refine p_go ?_
    refine p_splitC (s := 15) (ht := fun hc15 => ?_) (hf := fun hc15 => ?_)
    · have h0 : l.length = 0 := by have h := hc15; simp at h; simp [h]
      refine p_go ?_
      refine p_splitC (s := 17) (ht := fun hc17 => ?_) (hf := fun hc17 => ?_)
      · have h5 : op = 5 := by simpa using hc17
        refine p_go fun hf => ?_
        refine p_build (hi := F.ti25.h) (hpl := F.pl25.h) (h := ?_)
        refine p_storeAll F.ti25.h (h := ?_)
        refine p_end ?_
        refine TrC.ret ?_
        refine p_cellNil (g1 := 0 + 1) (d1 := 4) (i := 2) (el := 25) (h := ?_)
        refine p_r1 (hp := by rw [joinR_nil h0, if_pos h5]; rfl)
      · have h5 : ¬ op = 5 := by simpa using hc17
        refine p_go fun hf => ?_
        refine p_build (hi := F.ti25.h) (hpl := F.pl25.h) (h := ?_)
        refine p_storeAll F.ti25.h (h := ?_)
        refine p_end ?_
        refine TrC.ret ?_
        refine p_cellNil (g1 := 0 + 1) (d1 := 4) (i := 2) (el := 25) (h := ?_)
        refine p_r1 (hp := by rw [joinR_nil h0, if_neg h5]; rfl)
    · have h0 : l.length ≠ 0 := by have h := hc15; simp at h; simpa using h
      refine p_go fun hf => ?_
      refine p_build (hi := F.ti25.h) (hpl := F.pl25.h) (h := ?_)
      refine p_go ?_
      refine p_fresh fun hf => ?_
      refine p_nilCell (g1 := 0 + 1 + 1 + 1 + 1) (d1 := 5) (i := 2) (el := 25) 900 (h := ?_)
      refine p_loopK [0, 1, 4, 5] [(0 + 1, 4)] (fun st => ∃ (i c1 : Nat), (i ≤ l.length) ∧ (0 + 1 + 1 + 1 + 1 < c1) ∧ (c1 ≤ st.gen) ∧ st.env 6 = inV i ∧ st.obj (0 + 1 + 1 + 1 + 1) 5 = .cells 25 [iV op, .str ⟨#[]⟩, .row c1 900 (jkL op (l.take i)).length] ∧ st.obj c1 900 = .row 25 ((jkL op (l.take i)).map rxV)) (fun st => l.length - (st.env 6).toN) ?_ fun e ob g1 hK hO hI => ?_
      · exact ⟨0, _, by omega, by (try dsimp only); omega, Nat.le_refl _, eV_, oB_, oB_⟩
      · obtain ⟨i, c1, hi, hc1, hcg1, e6, hcl, hrw⟩ := hI
        dsimp only at e6 hcl hrw
        simp only [valsE, List.cons.injEq, and_true] at hK
        simp only [valsO, List.cons.injEq, and_true] at hO
        have hE := (⟨hK, hO, e6, hcl, hrw⟩ : _ ∧ _ ∧ _ ∧ _ ∧ _)
        dsimp only at hcg1
        refine p_go ?_
        refine p_splitC (s := 25) (ht := fun hc25 => ?_) (hf := fun hc25 => ?_)
        · have hlt : i < l.length := by simpa using hc25
          have hpr := jkL_pre (op := op) (l := l) (i + 1)
          have hst := jkL_step (op := op) hlt
          refine p_go fun hf => ?_
          refine p_idxMap (j := i) (ht := Try.underlying23) (hi := F.ti25.h) (hij := rfl) (hj := hlt) (h := ?_)
          rw [rxV_cells]
          refine p_go ?_
          refine p_splitC (s := 34) (ht := fun hc34 => ?_) (hf := fun hc34 => ?_)
          · have hop : l[i].op = op := by simpa using hc34
            rw [if_pos hop] at hst
            have hlim : ((jkL op (l.take i)).length + l[i].kids.length) * 48 ≤ 140737488355328 := by rw [hst, List.length_append] at hpr; omega
            refine p_go fun hf => ?_
            refine p_idxMap (j := i) (ht := Try.underlying23) (hi := F.ti25.h) (hij := rfl) (hj := hlt) (h := ?_)
            rw [rxV_cells]
            refine p_go fun hf => ?_
            refine p_append (ht := Try.underlying23) (hi := F.ti25.h) (hu := eV_) (u := .sl 25 (l[i].kids.map rxV)) (ys := l[i].kids.map rxV) (hy := .inl ⟨rfl, rfl⟩) (hnl := by simp) (k := (jkL op (l.take i)).length + l[i].kids.length) (hm := by simp) (hlim := hlim) (h := ?_)
            (first | refine p_fieldPtr (hf := F.fld25_2.h) (h := ?_) | refine p_fieldRef (hf := F.fld25_2.h) (h := ?_) | refine p_fieldRow (hf := F.fld25_2.h) (h := ?_))
            refine p_store1 F.ti23.h (h := ?_)
            refine p_endD ?_
            refine p_region fun hf => ?_
            refine p_move (h := ?_)
            refine p_bare ?_
            refine p_renCell (g1 := 0 + 1 + 1 + 1 + 1) (d1 := 5) (i := 2) 900 (h := ?_)
            refine p_lastOp (h := ?_)
            refine p_add (r := ((i + 1 : Nat) : Int)) (hr := (by first | omega | (simp only [decide_eq_true_eq, decide_eq_false_iff_not, Bool.or_eq_false_iff, Bool.and_eq_true, Bool.not_eq_true', Bool.not_eq_false'] at *; omega))) (hb := (by first | omega | (simp only [decide_eq_true_eq, decide_eq_false_iff_not, Bool.or_eq_false_iff, Bool.and_eq_true, Bool.not_eq_true', Bool.not_eq_false'] at *; omega))) (h := ?_)
            refine p_go ?_
            refine p_some ?_
            refine ⟨⟨(by simp (decide := true) only [valsE, evE, upd, cv, args0, argsFrom, List.length_map, ↓reduceIte, hE] <;> rfl), (by simp (decide := true) only [valsO, updO, upd, true_and, and_true, false_and, and_false, ↓reduceIte, hE] <;> rfl)⟩, ⟨i + 1, _, hlt, by (try dsimp only); omega, Nat.le_refl _, eV_, by rw [hst, List.length_append]; exact oB_, by rw [hst, List.map_append]; exact oB_⟩, ?_⟩
            simp (decide := true) only [upd, e6, V.toN, ↓reduceIte]; omega
          · have hop : ¬ l[i].op = op := by simpa using hc34
            rw [if_neg hop] at hst
            have hlim : ((jkL op (l.take i)).length + 1) * 48 ≤ 140737488355328 := by rw [hst, List.length_append] at hpr; simp at hpr; omega
            refine p_go fun hf => ?_
            refine p_idxMap (j := i) (ht := Try.underlying23) (hi := F.ti25.h) (hij := rfl) (hj := hlt) (h := ?_)
            rw [rxV_cells]
            refine p_go fun hf => ?_
            refine p_buildSlice (ht := Try.underlying23) (hi := F.ti25.h) (h := ?_)
            refine p_append (ht := Try.underlying23) (hi := F.ti25.h) (u := .row _ 50 1) (ys := [rxA l[i]]) (hy := ⟨.inl oB_, rfl⟩) (hnl := by simp) (k := (jkL op (l.take i)).length + 1) (hm := by simp) (hlim := hlim) (h := ?_)
            (first | refine p_fieldPtr (hf := F.fld25_2.h) (h := ?_) | refine p_fieldRef (hf := F.fld25_2.h) (h := ?_) | refine p_fieldRow (hf := F.fld25_2.h) (h := ?_))
            refine p_store1 F.ti23.h (h := ?_)
            refine p_endD ?_
            refine p_region fun hf => ?_
            refine p_move (h := ?_)
            refine p_bare ?_
            refine p_renCell (g1 := 0 + 1 + 1 + 1 + 1) (d1 := 5) (i := 2) 900 (h := ?_)
            refine p_lastOp (h := ?_)
            refine p_add (r := ((i + 1 : Nat) : Int)) (hr := (by first | omega | (simp only [decide_eq_true_eq, decide_eq_false_iff_not, Bool.or_eq_false_iff, Bool.and_eq_true, Bool.not_eq_true', Bool.not_eq_false'] at *; omega))) (hb := (by first | omega | (simp only [decide_eq_true_eq, decide_eq_false_iff_not, Bool.or_eq_false_iff, Bool.and_eq_true, Bool.not_eq_true', Bool.not_eq_false'] at *; omega))) (h := ?_)
            refine p_go ?_
            refine p_some ?_
            refine ⟨⟨(by simp (decide := true) only [valsE, evE, upd, cv, args0, argsFrom, List.length_map, ↓reduceIte, hE] <;> rfl), (by simp (decide := true) only [valsO, updO, upd, true_and, and_true, false_and, and_false, ↓reduceIte, hE] <;> rfl)⟩, ⟨i + 1, _, hlt, by (try dsimp only); omega, Nat.le_refl _, eV_, by rw [hst, List.length_append]; exact oB_, by rw [hst, List.map_append, List.map_singleton, rxV_eq]; exact oB_⟩, ?_⟩
            simp (decide := true) only [upd, e6, V.toN, ↓reduceIte]; omega
        · have hge : ¬ i < l.length := by simpa using hc25
          have htk : l.take i = l := List.take_of_length_le (by omega)
          rw [htk] at hcl hrw
          have hE := (⟨hK, hO, e6, hcl, hrw⟩ : _ ∧ _ ∧ _ ∧ _ ∧ _)
          refine p_condF (h := ?_)
          refine p_exit ?_
          refine p_freeze (g1 := c1) (d1 := 900) (h := ?_)
          refine p_cellSl (g1 := 0 + 1 + 1 + 1 + 1) (d1 := 5) (i := 2) (g2 := c1) (d2 := 900) (hn := by simp) (h := ?_)
          refine p_go ?_
          refine p_r1 (hp := by rw [joinR_more h1 h0]; rfl)

/-- Are two expressions the same? -/
noncomputable def eqB (x y : Rx) : Bool := @decide (x = y) (Classical.propDecidable _)
theorem eqB_true {x y : Rx} : eqB x y = true ↔ x = y := by unfold eqB; exact @decide_eq_true_iff _ (Classical.propDecidable _)
theorem eqB_self (x : Rx) : eqB x x = true := eqB_true.2 rfl
theorem eqB_false {x y : Rx} (h : x ≠ y) : eqB x y = false := by
  cases hb : eqB x y with
  | false => rfl
  | true => exact absurd (eqB_true.1 hb) h
theorem rx_ext {x y : Rx} (h1 : x.op = y.op) (h2 : x.name = y.name) (h3 : x.kids = y.kids) : x = y := by
  cases x; cases y
  simp only [Rx.op, Rx.name, Rx.kids] at h1 h2 h3
  subst h1; subst h2; subst h3; rfl

theorem same_gen (x y : Rx) (hx : x.kids.length ≤ 17592186044416) (hy : y.kids.length ≤ 17592186044416) (hrec : ∀ k ∈ x.kids, ∀ m ∈ y.kids, FnC Try.prog 11 [rxA k, rxA m] (fun r => r = .bool (eqB k m))) : FnC Try.prog 11 [rxA x, rxA y] (fun r => r = .bool (eqB x y)) := by
  refine FnC.of (fn := Try.f11) ⟨Try.func11, by kernel_rfl, rfl⟩ Try.ntmps11 (by simp) fun w0 S0 => ?_
  refine p_go fun hf => ?_
  refine p_split (s := 11) (ht := fun hb11 => ?_) (hf := fun hb11 => ?_)
  · have h1 : x.op ≠ y.op := by simpa using hb11
    have hne : x ≠ y := fun h => h1 (by rw [h])
    refine p_go ?_
    refine p_ret1 (hp := by rw [eqB_false hne])
  · have h1 : x.op = y.op := by simpa using hb11
    refine p_go fun hf => ?_
    refine p_strOp (h := ?_)
    refine p_go ?_
    refine p_splitC (s := 26) (ht := fun hc26 => ?_) (hf := fun hc26 => ?_)
    · have h23 : x.name ≠ y.name ∨ x.kids.length ≠ y.kids.length := by have h := hc26; simp at h; exact h.imp id (fun h e => h (by omega))
      have hne : x ≠ y := fun h => h23.elim (fun h1 => h1 (by rw [h])) fun h1 => h1 (by rw [h])
      refine p_go ?_
      refine p_ret1 (hp := by rw [eqB_false hne])
    · have h23 : x.name = y.name ∧ x.kids.length = y.kids.length := by have h := hc26; simp at h; exact ⟨h.1, by omega⟩
      refine p_go ?_
      refine p_loopK [2, 3] [(0 + 1, 2), (0 + 1, 3)] (fun st => ∃ i : Nat, (i ≤ x.kids.length) ∧ (∀ j (hj : j < x.kids.length) (hj2 : j < y.kids.length), j < i → x.kids[j] = y.kids[j]) ∧ st.env 5 = inV i) (fun st => x.kids.length - (st.env 5).toN) ?_ fun e ob g1 hK hO hI => ?_
      · exact ⟨0, by omega, fun _ _ _ h => by omega, eV_⟩
      · obtain ⟨i, hi, hall, e5⟩ := hI
        dsimp only at e5
        simp only [valsE, List.cons.injEq, and_true] at hK
        simp only [valsO, List.cons.injEq, and_true] at hO
        have hE := (⟨hK, hO, e5⟩ : _ ∧ _ ∧ _)
        refine p_go ?_
        refine p_splitC (s := 31) (ht := fun hc31 => ?_) (hf := fun hc31 => ?_)
        · have hlt : i < x.kids.length := by simpa using hc31
          have hlt2 : i < y.kids.length := by omega
          refine p_go fun hf => ?_
          refine p_idxMap (j := i) (ht := Try.underlying23) (hi := F.ti25.h) (hij := rfl) (hj := hlt) (h := ?_)
          rw [rxV_cells]
          refine p_go fun hf => ?_
          refine p_idxMap (j := i) (ht := Try.underlying23) (hi := F.ti25.h) (hij := rfl) (hj := hlt2) (h := ?_)
          rw [rxV_cells]
          refine p_go fun hf => ?_
          refine p_call (hx := rfl) (hb := ⟨Try.func11, by kernel_rfl, rfl⟩) (hf := hrec x.kids[i] (List.getElem_mem hlt) y.kids[i] (List.getElem_mem hlt2)) (h := ?_)
          refine p_go ?_
          refine p_splitC (s := 45) (ht := fun hc45 => ?_) (hf := fun hc45 => ?_)
          · have hd : eqB x.kids[i] y.kids[i] = false := by simpa using hc45
            have hne : x ≠ y := fun h => by subst h; rw [eqB_self] at hd; cases hd
            refine p_go ?_
            refine p_ret1 (hp := by rw [eqB_false hne])
          · have hd : x.kids[i] = y.kids[i] := eqB_true.1 (by simpa using hc45)
            refine p_go fun hf => ?_
            refine p_add (r := ((i + 1 : Nat) : Int)) (hr := (by first | omega | (simp only [decide_eq_true_eq, decide_eq_false_iff_not, Bool.or_eq_false_iff, Bool.and_eq_true, Bool.not_eq_true', Bool.not_eq_false'] at *; omega))) (hb := (by first | omega | (simp only [decide_eq_true_eq, decide_eq_false_iff_not, Bool.or_eq_false_iff, Bool.and_eq_true, Bool.not_eq_true', Bool.not_eq_false'] at *; omega))) (h := ?_)
            refine p_go ?_
            refine p_some ?_
            refine ⟨⟨(by simp (decide := true) only [valsE, evE, upd, cv, args0, argsFrom, List.length_map, ↓reduceIte, hE] <;> rfl), (by simp (decide := true) only [valsO, updO, upd, true_and, and_true, false_and, and_false, ↓reduceIte, hE] <;> rfl)⟩, ⟨i + 1, hlt, fun j hj hj2 h => (Nat.lt_succ_iff_lt_or_eq.1 h).elim (hall j hj hj2) (fun h => by subst h; exact hd), eV_⟩, ?_⟩
            simp (decide := true) only [upd, e5, V.toN, ↓reduceIte]; omega
        · have hge : ¬ i < x.kids.length := by simpa using hc31
          have heq : x = y := rx_ext h1 h23.1 (List.ext_getElem h23.2 fun j hj hj2 => hall j hj hj2 (by omega))
          refine p_go ?_
          refine p_ret1 (hp := by rw [heq, eqB_self])

theorem sameR (x : Rx) (hx : x.Sm) : ∀ y : Rx, y.Sm → FnC Try.prog 11 [rxA x, rxA y] (fun r => r = .bool (eqB x y)) := by
  induction x using Rx.ind with
  | _ x ih => exact fun y hy => same_gen x y hx.len hy.len fun k hk m hm => ih k hk (hx.kids k hk) m (hy.kids m hm)

end Go.Proofs.Ytjdhkopjigijfaa
/-
  What a text means: places behind blanks.
-/
set_option maxHeartbeats 4000000
set_option linter.unusedSimpArgs false
set_option linter.unusedVariables false
namespace Go.Proofs.Ytjdhkopjigijfaa
open Go.RowKit
attribute [local irreducible] Wk Tr
theorem blN_end (s : ByteArray) : ∀ n i, s.size - i ≤ n → ¬ (blN s n i < s.size ∧ isBl (bt s (blN s n i)) = true)
  | 0, i, h => fun h1 => by rw [blN] at h1; omega
  | n + 1, i, h => by
    rw [blN]
    split
    · exact blN_end s n (i + 1) (by omega)
    · assumption
theorem bl_idem (s : ByteArray) (i : Nat) : bl s (bl s i) = bl s i := bl_stop (blN_end s _ i (Nat.le_refl _))
theorem tkI_bl {s : ByteArray} {i : Nat} {c : Int} (h : bl s i = i) : bl s (tkI s i c) = tkI s i c := by
  unfold tkI
  split
  · exact bl_idem ..
  · exact h
theorem tkN_bl {s : ByteArray} {c : Int} : ∀ n i, bl s i = i → bl s (tkN s c n i).2 = (tkN s c n i).2
  | 0, i, h => h
  | n + 1, i, h => by
    rw [tkN]
    split
    · exact tkN_bl n _ (tkI_bl h)
    · exact h
theorem tks_bl {s : ByteArray} {c : Int} {i : Nat} (h : bl s i = i) : bl s (tks s c i).2 = (tks s c i).2 := tkN_bl _ i h
/-- A row's part ends behind blanks. -/
theorem pFac_bl {s : ByteArray} {f i o : Nat} {d : Bool} {x : Rx} {j : Nat} {e : Bool} (h : pFac s f i o d = .ok x j e) : bl s j = j := by
  cases f with
  | zero => rw [pFac] at h; cases h
  | succ f =>
    rw [pFac] at h
    split at h
    · cases h
    · cases h
      exact tks_bl (bl_idem ..)
theorem pAlt_bl (s : ByteArray) (f i o : Nat) (d : Bool) : pAlt s (f + 1) (bl s i) o d = pAlt s (f + 1) i o d := by
  rw [pAlt, pAlt, bl_idem]
theorem tkB_bt {s : ByteArray} {i : Nat} {c : Int} (h0 : c ≠ 0) (h : bt s i = c) : tkB s i c = true := by
  have hlt : i < s.size := by
    rcases Nat.lt_or_ge i s.size with h1 | h1
    · exact h1
    · rw [bt_ge h1] at h; exact absurd h.symm h0
  simp [tkB, hlt, h]
theorem tkB_nbt {s : ByteArray} {i : Nat} {c : Int} (h : bt s i ≠ c) : tkB s i c = false := by simp [tkB, h]
theorem byB_neg {s : ByteArray} {i : Nat} {b : Int} (h : b < 0) : byB s i b = bt s i := if_pos h
theorem byB_pos {s : ByteArray} {i : Nat} {b : Int} (h : ¬ b < 0) : byB s i b = 0 := if_neg h
/-- How a part of the reference's parser ends. -/
def EndT (p : PR) (Z : Nat → Nat → Prop) (y : Rx) (j : Nat) (b : Int) (o' o : Nat) (e : Bool) : Prop := (b = -1 ∧ (∃ k, p = .ok y k e ∧ Z j k) ∧ o' = o) ∨ ∃ a : Nat, b = a ∧ p = .bad a
theorem EndT.cases {p : PR} {Z : Nat → Nat → Prop} {y : Rx} {j : Nat} {b : Int} {o' o : Nat} {e : Bool} (h : EndT p Z y j b o' o e) : (b = -1 ∧ (∃ k, p = .ok y k e ∧ Z j k) ∧ o' = o) ∨ ∃ a : Nat, b = a ∧ p = .bad a := h
/-- Where a part of the reference's parser leaves a text. -/
def PostT (s : ByteArray) (i o : Nat) (p : PR) (Z : Nat → Nat → Prop) (r : V) (u : Ob) : Prop :=
  ∃ y j b o' e, r = rxA y ∧ u = .cells 72 (txL s j b o' e) ∧ i ≤ j ∧ j ≤ s.size ∧ y.sz + 1 ≤ 2 * (j - i) + 2 ∧ EndT p Z y j b o' o e
def TxtC (fid : FuncId) (s : ByteArray) (q i o : Nat) (d : Bool) (p : PR) (Z : Nat → Nat → Prop) : Prop := FnX Try.prog fid [.ptr q 13 0] [(q, 13)] [.cells 72 (txL s i (-1) o d)] (fun g r ob g' => PostT s i o p Z r (ob q 13))
end Go.Proofs.Ytjdhkopjigijfaa
