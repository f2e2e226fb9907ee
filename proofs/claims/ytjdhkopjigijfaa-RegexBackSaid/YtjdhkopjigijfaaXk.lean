/-
  The parser: letters, blanks, what comes.
-/
import Derived.Test.YtjdhkopjigijfaaXj
set_option linter.unusedSimpArgs false
set_option linter.unusedVariables false
set_option maxHeartbeats 4000000
namespace Go.Proofs.Ytjdhkopjigijfaa
open Go.RowKit
attribute [local irreducible] Wk Tr
/-- A reader's cells. -/
abbrev rdL (s : ByteArray) (i o : Nat) (d : Bool) : List V := [.str s, inV i, inV o, .bool d]
def isBl (c : Int) : Bool := decide (c = 32) || decide (c = 9) || decide (c = 10) || decide (c = 13)
def isSg (c : Int) : Bool := decide (c = 46) || decide (c = 37) || decide (c = 35) || decide (c = 40) || decide (c = 33)
def rdI : Ob → Nat
  | .cells _ (_ :: .int _ k :: _) => k.toNat
  | _ => 0
/-- The place behind blanks. -/
def blN (s : ByteArray) : Nat → Nat → Nat
  | 0, i => i
  | n + 1, i => if i < s.size ∧ isBl (bt s i) = true then blN s n (i + 1) else i
def bl (s : ByteArray) (i : Nat) : Nat := blN s (s.size - i) i
theorem bl_step {s : ByteArray} {i : Nat} (hi : i < s.size) (h : isBl (bt s i) = true) : bl s i = bl s (i + 1) := by
  unfold bl
  rw [show s.size - i = (s.size - (i + 1)) + 1 by omega, blN, if_pos ⟨hi, h⟩]
theorem bl_stop {s : ByteArray} {i : Nat} (h : ¬ (i < s.size ∧ isBl (bt s i) = true)) : bl s i = i := by
  unfold bl
  cases hn : s.size - i with
  | zero => rw [blN]
  | succ n => rw [blN, if_neg h]
theorem blN_le (s : ByteArray) : ∀ n i, i ≤ s.size → i ≤ blN s n i ∧ blN s n i ≤ s.size
  | 0, i, h => ⟨Nat.le_refl _, h⟩
  | n + 1, i, h => by
    rw [blN]
    split
    · rename_i h1
      have := blN_le s n (i + 1) h1.1
      omega
    · exact ⟨Nat.le_refl _, h⟩
theorem bl_le {s : ByteArray} {i : Nat} (h : i ≤ s.size) : i ≤ bl s i ∧ bl s i ≤ s.size := blN_le s _ i h
theorem byte_eq {b : Int} (h0 : 0 ≤ b) (h : b < 256) (k : UInt8) : ((k == b.toNat.toUInt8) = true) ↔ b = (k.toNat : Int) := by
  have hb : b.toNat.toUInt8.toNat = b.toNat := by simp [Nat.toUInt8]; omega
  rw [beq_iff_eq]
  constructor
  · rintro rfl; rw [hb]; omega
  · rintro rfl
    apply UInt8.toNat_inj.1
    rw [hb]; omega
theorem indexByte_nonneg (c : UInt8) : ∀ l : List UInt8, (0 ≤ Lib.indexByte l c) ↔ c ∈ l
  | [] => by simp [Lib.indexByte]
  | b :: l => by
    have h1 := Lib.indexByte_ge l c
    have h2 := indexByte_nonneg c l
    rw [Lib.indexByte, List.mem_cons]
    split
    · rename_i h; simp at h; simp [h]
    · rename_i h
      have hne : ¬ c = b := fun e => h (by simp [e])
      simp only [hne, false_or, ← h2]
      split
      · rename_i h3; simp at h3; omega
      · rename_i h3; simp at h3; omega
theorem bl_dec (s : ByteArray) (i : Nat) : decide (0 ≤ Lib.indexByte [32, 9, 10, 13] (bt s i).toNat.toUInt8) = isBl (bt s i) := by
  obtain ⟨h0, h1⟩ := bt_range s i
  rw [Bool.eq_iff_iff, decide_eq_true_eq, indexByte_nonneg]
  have e : ∀ k : UInt8, (bt s i).toNat.toUInt8 = k ↔ bt s i = (k.toNat : Int) := fun k => by
    rw [← byte_eq h0 h1 k, beq_iff_eq]; exact eq_comm
  simp only [List.mem_cons, List.not_mem_nil, or_false, e, isBl, Bool.or_eq_true, decide_eq_true_eq]
  simp [or_assoc]
theorem sg_dec (s : ByteArray) (i : Nat) : decide (0 ≤ Lib.indexByte [46, 37, 35, 40, 33] (bt s i).toNat.toUInt8) = isSg (bt s i) := by
  obtain ⟨h0, h1⟩ := bt_range s i
  rw [Bool.eq_iff_iff, decide_eq_true_eq, indexByte_nonneg]
  have e : ∀ k : UInt8, (bt s i).toNat.toUInt8 = k ↔ bt s i = (k.toNat : Int) := fun k => by
    rw [← byte_eq h0 h1 k, beq_iff_eq]; exact eq_comm
  simp only [List.mem_cons, List.not_mem_nil, or_false, e, isSg, Bool.or_eq_true, decide_eq_true_eq]
  simp [or_assoc]

theorem indexByteS (s : ByteArray) (b : Int) : FnC Try.prog 102 [.str s, .int .u8 b] (fun r => r = iV (Lib.indexByte s.data.toList b.toNat.toUInt8)) := by
  refine FnC.of (fn := Try.f102) ⟨Try.func102, by kernel_rfl, rfl⟩ Try.ntmps102 (by simp) fun w0 S0 => ?_
  refine p_go fun hf => ?_
  refine p_ext (hf := Try.func115) (hr := ext_indexByte) (h := ?_)
  refine p_go ?_
  refine p_ret1 (hp := by simp)

theorem indexByte (s : ByteArray) (b : Int) : FnC Try.prog 77 [.str s, .int .u8 b] (fun r => r = iV (Lib.indexByte s.data.toList b.toNat.toUInt8)) := by
  refine FnC.of (fn := Try.f77) ⟨Try.func77, by kernel_rfl, rfl⟩ Try.ntmps77 (by simp) fun w0 S0 => ?_
  refine p_go fun hf => ?_
  refine p_call (hx := rfl) (hb := ⟨Try.func102, by kernel_rfl, rfl⟩) (hf := indexByteS s b) (h := ?_)
  refine p_go ?_
  refine p_ret1 (hp := by simp)

theorem blanksP (q : Nat) (s : ByteArray) (i op : Nat) (dp : Bool) (hi : i ≤ s.size) (hs : s.size ≤ 1000000) : FnX Try.prog 55 [.ptr q 15 0] [(q, 15)] [.cells 68 (rdL s i op dp)] (fun g r o g' => r = .tup [] ∧ o q 15 = .cells 68 (rdL s (bl s i) op dp)) := by
  refine FnX.of (fn := Try.f55) ⟨Try.func55, by kernel_rfl, rfl⟩ Try.ntmps55 (by simp) fun w0 S0 l ob0 g0 K hrow hgl hK0 => ?_
  simp only [valsO, List.cons.injEq, and_true] at hrow
  simp only [List.mem_cons, List.not_mem_nil, or_false, forall_eq_or_imp, forall_eq, forall_const] at hgl
  have hE := hrow
  refine p_go ?_
  refine p_loopK [0] [] (fun st => ∃ j : Nat, (j ≤ s.size) ∧ (bl s j = bl s i) ∧ (g0 ≤ st.gen) ∧ (LowQ g0 [(q, 15)] ob0 st.obj) ∧ st.obj q 15 = .cells 68 (rdL s j op dp)) (fun st => s.size - rdI (st.obj q 15)) ?_ fun e ob g1 hK hO hI => ?_
  · exact ⟨i, hi, rfl, by (try dsimp only); omega, (by (try dsimp only); repeat (first | exact hlow | exact LowQ.refl | refine LowQ.or_ ?_ (by assumption) | refine LowQ.up ?_ (by omega) | refine LowQ.at_ ?_ (by simp))), oB_⟩
  · obtain ⟨j, hj, hbl, hgen1, hlow, hcl⟩ := hI
    dsimp only at hcl
    simp only [valsE, List.cons.injEq, and_true] at hK
    have hE := (⟨hK, hcl⟩ : _ ∧ _)
    dsimp only at hgen1 hlow
    refine p_go fun hf => ?_
    refine p_nilChk (h := ?_)
    refine p_go fun hf => ?_
    refine p_nilChk (h := ?_)
    refine p_go fun hf => ?_
    refine p_split (s := 12) (ht := fun hb12 => ?_) (hf := fun hb12 => ?_)
    · have hlt : j < s.size := by simpa using hb12
      refine p_go fun hf => ?_
      refine p_nilChk (h := ?_)
      refine p_go fun hf => ?_
      refine p_nilChk (h := ?_)
      refine p_go fun hf => ?_
      refine p_idxB (j) (hj := hlt) (h := ?_)
      refine p_go fun hf => ?_
      refine p_call (hx := rfl) (hb := ⟨Try.func77, by kernel_rfl, rfl⟩) (hf := indexByte ⟨#[32, 9, 10, 13]⟩ (bt s j)) (h := ?_)
      refine p_go ?_
      refine p_splitC (s := 24) (ht := fun hc24 => ?_) (hf := fun hc24 => ?_)
      · have hbj : isBl (bt s j) = true := by rw [← bl_dec]; exact hc24
        refine p_go fun hf => ?_
        refine p_nilChk (h := ?_)
        refine p_go fun hf => ?_
        refine p_add (r := ((j + 1 : Nat) : Int)) (hr := (by first | omega | (simp only [decide_eq_true_eq, decide_eq_false_iff_not, Bool.or_eq_false_iff, Bool.and_eq_true, Bool.not_eq_true', Bool.not_eq_false'] at *; omega))) (hb := (by first | omega | (simp only [decide_eq_true_eq, decide_eq_false_iff_not, Bool.or_eq_false_iff, Bool.and_eq_true, Bool.not_eq_true', Bool.not_eq_false'] at *; omega))) (h := ?_)
        refine p_nilChk (h := ?_)
        refine p_go ?_
        refine p_some ?_
        refine ⟨⟨(by simp (decide := true) only [valsE, evE, upd, cv, args0, argsFrom, List.length_map, ↓reduceIte, hE] <;> rfl), (by simp (decide := true) only [valsO, updO, upd, true_and, and_true, false_and, and_false, ↓reduceIte, hE] <;> rfl)⟩, ⟨j + 1, by omega, by rw [← hbl, ← bl_step hlt hbj], by (try dsimp only); omega, (by (try dsimp only); repeat (first | exact hlow | exact LowQ.refl | refine LowQ.or_ ?_ (by assumption) | refine LowQ.up ?_ (by omega) | refine LowQ.at_ ?_ (by simp))), oB_⟩, ?_⟩
        simp (decide := true) only [updO, hcl, rdI, and_self, and_true, true_and, ↓reduceIte, List.set_cons_succ, List.set_cons_zero]; omega
      · have hst : bl s j = j := bl_stop (fun h => by have h2 := h.2; rw [← bl_dec] at h2; rw [show decide _ = false from hc24] at h2; cases h2)
        refine p_go ?_
        refine p_retE0 rfl (hK0 _ _ _ (by first | (dsimp only; omega) | omega) (by (try dsimp only); repeat (first | exact hlow | exact LowQ.refl | refine LowQ.or_ ?_ (by assumption) | refine LowQ.up ?_ (by omega) | refine LowQ.at_ ?_ (by simp))) (⟨rfl, by rw [← hbl, hst]; exact oB_⟩))
    · have hge : ¬ j < s.size := by simpa using hb12
      have hst : bl s j = j := bl_stop (fun h => hge h.1)
      refine p_go ?_
      refine p_retE0 rfl (hK0 _ _ _ (by first | (dsimp only; omega) | omega) (by (try dsimp only); repeat (first | exact hlow | exact LowQ.refl | refine LowQ.or_ ?_ (by assumption) | refine LowQ.up ?_ (by omega) | refine LowQ.at_ ?_ (by simp))) (⟨rfl, by rw [← hbl, hst]; exact oB_⟩))

theorem nextR (s : ByteArray) (i op : Nat) (dp : Bool) (hi : i ≤ s.size) : FnC Try.prog 80 [.ref (rdL s i op dp)] (fun r => r = .int .u8 (bt s i)) := by
  refine FnC.of (fn := Try.f80) ⟨Try.func80, by kernel_rfl, rfl⟩ Try.ntmps80 (by simp) fun w0 S0 => ?_
  refine p_go fun hf => ?_
  refine p_nilChkR (h := ?_)
  refine p_go fun hf => ?_
  refine p_nilChkR (h := ?_)
  refine p_go ?_
  refine p_splitC (s := 12) (ht := fun hc12 => ?_) (hf := fun hc12 => ?_)
  · have hlt : i < s.size := by simpa using hc12
    refine p_go fun hf => ?_
    refine p_nilChkR (h := ?_)
    refine p_go fun hf => ?_
    refine p_nilChkR (h := ?_)
    refine p_go fun hf => ?_
    refine p_idxB (i) (hj := hlt) (h := ?_)
    refine p_go ?_
    refine p_ret1 (hp := by rfl)
  · have hge : ¬ i < s.size := by simpa using hc12
    have hb0 : bt s i = 0 := bt_ge (by omega)
    refine p_go ?_
    refine p_ret1 (hp := by rw [hb0])

theorem nextP (q : Nat) (s : ByteArray) (i op : Nat) (dp : Bool) (hi : i ≤ s.size) (hs : s.size ≤ 1000000) : FnX Try.prog 80 [.ptr q 15 0] [(q, 15)] [.cells 68 (rdL s i op dp)] (fun g r o g' => r = .int .u8 (bt s i) ∧ o q 15 = .cells 68 (rdL s i op dp)) := by
  refine FnX.of (fn := Try.f80) ⟨Try.func80, by kernel_rfl, rfl⟩ Try.ntmps80 (by simp) fun w0 S0 l ob0 g0 K hrow hgl hK0 => ?_
  simp only [valsO, List.cons.injEq, and_true] at hrow
  simp only [List.mem_cons, List.not_mem_nil, or_false, forall_eq_or_imp, forall_eq, forall_const] at hgl
  have hE := hrow
  refine p_go fun hf => ?_
  refine p_nilChk (h := ?_)
  refine p_go fun hf => ?_
  refine p_nilChk (h := ?_)
  refine p_go ?_
  refine p_splitC (s := 12) (ht := fun hc12 => ?_) (hf := fun hc12 => ?_)
  · have hlt : i < s.size := by simpa using hc12
    refine p_go fun hf => ?_
    refine p_nilChk (h := ?_)
    refine p_go fun hf => ?_
    refine p_nilChk (h := ?_)
    refine p_go fun hf => ?_
    refine p_idxB (i) (hj := hlt) (h := ?_)
    refine p_go ?_
    refine p_retE1 (v := .int .u8 (bt s i)) rfl eV_ (hK0 _ _ _ (by first | (dsimp only; omega) | omega) (by (try dsimp only); repeat (first | exact hlow | exact LowQ.refl | refine LowQ.or_ ?_ (by assumption) | refine LowQ.up ?_ (by omega) | refine LowQ.at_ ?_ (by simp))) (⟨rfl, oB_⟩))
  · have hge : ¬ i < s.size := by simpa using hc12
    have hb0 : bt s i = 0 := bt_ge (by omega)
    refine p_go ?_
    refine p_retE1 (v := .int .u8 0) rfl eV_ (hK0 _ _ _ (by first | (dsimp only; omega) | omega) (by (try dsimp only); repeat (first | exact hlow | exact LowQ.refl | refine LowQ.or_ ?_ (by assumption) | refine LowQ.up ?_ (by omega) | refine LowQ.at_ ?_ (by simp))) (⟨by rw [hb0], oB_⟩))

/-- Is a byte the one that comes? -/
def tkB (s : ByteArray) (i : Nat) (c : Int) : Bool := decide (i < s.size) && decide (bt s i = c)
def tkI (s : ByteArray) (i : Nat) (c : Int) : Nat := if tkB s i c = true then bl s (i + 1) else i
theorem tkI_le {s : ByteArray} {i : Nat} {c : Int} (h : i ≤ s.size) : i ≤ tkI s i c ∧ tkI s i c ≤ s.size := by
  unfold tkI
  split
  · rename_i h1
    simp only [tkB, Bool.and_eq_true, decide_eq_true_eq] at h1
    have := bl_le (s := s) (i := i + 1) (by omega)
    omega
  · exact ⟨Nat.le_refl _, h⟩
theorem tkI_lt {s : ByteArray} {i : Nat} {c : Int} (h : tkB s i c = true) : i < tkI s i c ∧ tkI s i c ≤ s.size := by
  rw [tkI, if_pos h]
  simp only [tkB, Bool.and_eq_true, decide_eq_true_eq] at h
  have := bl_le (s := s) (i := i + 1) (by omega)
  omega
def bgB (s : ByteArray) (i : Nat) : Bool := decide (bt s i ≠ 0) && (letB (bt s i) || isSg (bt s i))
theorem bgB_lt {s : ByteArray} {i : Nat} (h : bgB s i = true) : i < s.size := by
  simp only [bgB, Bool.and_eq_true, decide_eq_true_eq] at h
  rcases Nat.lt_or_ge i s.size with h1 | h1
  · exact h1
  · exact absurd (bt_ge h1) h.1

theorem takeP (q : Nat) (s : ByteArray) (i op : Nat) (dp : Bool) (hi : i ≤ s.size) (hs : s.size ≤ 1000000) (c : Int) : FnX Try.prog 57 [.ptr q 15 0, .int .u8 c] [(q, 15)] [.cells 68 (rdL s i op dp)] (fun g r o g' => r = .bool (tkB s i c) ∧ o q 15 = .cells 68 (rdL s (tkI s i c) op dp)) := by
  refine FnX.of (fn := Try.f57) ⟨Try.func57, by kernel_rfl, rfl⟩ Try.ntmps57 (by simp) fun w0 S0 l ob0 g0 K hrow hgl hK0 => ?_
  simp only [valsO, List.cons.injEq, and_true] at hrow
  simp only [List.mem_cons, List.not_mem_nil, or_false, forall_eq_or_imp, forall_eq, forall_const] at hgl
  have hE := hrow
  refine p_go fun hf => ?_
  refine p_callFlat [(q, 15)] (hb := ⟨Try.func80, by kernel_rfl, rfl⟩) (us := [.ptr q 15 0]) (vs := [.ref (rdL s i op dp)]) (vs' := []) (cap := []) (hvs := fun e' ob' g' hk => ⟨⟨⟨_, rdL s i op dp, rdL s i op dp, (hk (q, 15) (by simp)).trans oB_, ⟨⟨rfl, rfl⟩, ⟨rfl, rfl⟩, ⟨rfl, rfl⟩, ⟨rfl, rfl⟩, trivial⟩, rfl⟩, trivial⟩, trivial⟩) (hf := nextR s i op dp hi) (h := ?_)
  refine p_go fun hf => ?_
  refine p_split (s := 9) (ht := fun hb9 => ?_) (hf := fun hb9 => ?_)
  · have hne : ¬ bt s i = c := by simpa using hb9
    have htk : tkB s i c = false := by simp [tkB, hne]
    refine p_go ?_
    refine p_retE1 (v := .bool false) rfl eV_ (hK0 _ _ _ (by first | (dsimp only; omega) | omega) (by (try dsimp only); repeat (first | exact hlow | exact LowQ.refl | refine LowQ.or_ ?_ (by assumption) | refine LowQ.up ?_ (by omega) | refine LowQ.at_ ?_ (by simp))) (⟨by rw [htk], by rw [tkI, if_neg (by rw [htk]; decide)]; exact oB_⟩))
  · have heq : bt s i = c := by simpa using hb9
    refine p_go fun hf => ?_
    refine p_nilChk (h := ?_)
    refine p_go fun hf => ?_
    refine p_nilChk (h := ?_)
    refine p_go ?_
    refine p_splitC (s := 20) (ht := fun hc20 => ?_) (hf := fun hc20 => ?_)
    · have hge : ¬ i < s.size := by have h := hc20; simp at h; omega
      have htk : tkB s i c = false := by simp [tkB, hge]
      refine p_go ?_
      refine p_retE1 (v := .bool false) rfl eV_ (hK0 _ _ _ (by first | (dsimp only; omega) | omega) (by (try dsimp only); repeat (first | exact hlow | exact LowQ.refl | refine LowQ.or_ ?_ (by assumption) | refine LowQ.up ?_ (by omega) | refine LowQ.at_ ?_ (by simp))) (⟨by rw [htk], by rw [tkI, if_neg (by rw [htk]; decide)]; exact oB_⟩))
    · have hlt : i < s.size := by have h := hc20; simp at h; omega
      have htk : tkB s i c = true := by simp [tkB, hlt, heq]
      refine p_go fun hf => ?_
      refine p_nilChk (h := ?_)
      refine p_go fun hf => ?_
      refine p_add (r := ((i + 1 : Nat) : Int)) (hr := (by first | omega | (simp only [decide_eq_true_eq, decide_eq_false_iff_not, Bool.or_eq_false_iff, Bool.and_eq_true, Bool.not_eq_true', Bool.not_eq_false'] at *; omega))) (hb := (by first | omega | (simp only [decide_eq_true_eq, decide_eq_false_iff_not, Bool.or_eq_false_iff, Bool.and_eq_true, Bool.not_eq_true', Bool.not_eq_false'] at *; omega))) (h := ?_)
      refine p_nilChk (h := ?_)
      refine p_go fun hf => ?_
      refine p_callX ([]) (hf := blanksP q s (i + 1) op dp (by omega) hs) (hg := by simp; omega) (hos := by simp) (h := fun r o2 h2 hg2 hlw2 hos2 hR2 => ?_)
      obtain ⟨rfl, hcl2⟩ := hR2
      have hlow : LowQ g0 [(q, 15)] ob0 o2 := LowQ.trans (by (try dsimp only); repeat (first | exact hlow | exact LowQ.refl | refine LowQ.or_ ?_ (by assumption) | refine LowQ.up ?_ (by omega) | refine LowQ.at_ ?_ (by simp))) hlw2 (by first | (dsimp only; omega) | omega) (fun k hk => .inl hk)
      have hE := hcl2
      refine p_go ?_
      refine p_retE1 (v := .bool true) rfl eV_ (hK0 _ _ _ (by first | (dsimp only; omega) | omega) (by (try dsimp only); repeat (first | exact hlow | exact LowQ.refl | refine LowQ.or_ ?_ (by assumption) | refine LowQ.up ?_ (by omega) | refine LowQ.at_ ?_ (by simp))) (⟨by rw [htk], by rw [tkI, if_pos htk]; exact oB_⟩))

theorem beginsP (q : Nat) (s : ByteArray) (i op : Nat) (dp : Bool) (hi : i ≤ s.size) (hs : s.size ≤ 1000000) : FnX Try.prog 79 [.ptr q 15 0] [(q, 15)] [.cells 68 (rdL s i op dp)] (fun g r o g' => r = .bool (bgB s i) ∧ o q 15 = .cells 68 (rdL s i op dp)) := by
  refine FnX.of (fn := Try.f79) ⟨Try.func79, by kernel_rfl, rfl⟩ Try.ntmps79 (by simp) fun w0 S0 l ob0 g0 K hrow hgl hK0 => ?_
  simp only [valsO, List.cons.injEq, and_true] at hrow
  simp only [List.mem_cons, List.not_mem_nil, or_false, forall_eq_or_imp, forall_eq, forall_const] at hgl
  have hE := hrow
  refine p_go fun hf => ?_
  refine p_nilChk (h := ?_)
  refine p_go fun hf => ?_
  refine p_callX ([]) (hf := nextP q s i op dp hi hs) (hg := by simp; omega) (hos := by simp) (h := fun r o1 h1 hg1 hlw1 hos1 hR1 => ?_)
  obtain ⟨rfl, hcl⟩ := hR1
  have hlow : LowQ g0 [(q, 15)] ob0 o1 := LowQ.trans (by (try dsimp only); repeat (first | exact hlow | exact LowQ.refl | refine LowQ.or_ ?_ (by assumption) | refine LowQ.up ?_ (by omega) | refine LowQ.at_ ?_ (by simp))) hlw1 (by first | (dsimp only; omega) | omega) (fun k hk => .inl hk)
  have hE := hcl
  refine p_go fun hf => ?_
  refine p_split (s := 10) (ht := fun hb10 => ?_) (hf := fun hb10 => ?_)
  · have h0 : bt s i ≠ 0 := by simpa using hb10
    refine p_go fun hf => ?_
    refine p_call (hx := rfl) (hb := ⟨Try.func99, by kernel_rfl, rfl⟩) (hf := letterP (bt s i)) (h := ?_)
    refine p_go fun hf => ?_
    refine p_split (s := 13) (ht := fun hb13 => ?_) (hf := fun hb13 => ?_)
    · have hl : letB (bt s i) = true := hb13
      refine p_go ?_
      refine p_retE1 (v := .bool true) rfl eV_ (hK0 _ _ _ (by first | (dsimp only; omega) | omega) (by (try dsimp only); repeat (first | exact hlow | exact LowQ.refl | refine LowQ.or_ ?_ (by assumption) | refine LowQ.up ?_ (by omega) | refine LowQ.at_ ?_ (by simp))) (⟨by rw [bgB, hl, decide_eq_true h0]; rfl, oB_⟩))
    · have hl : letB (bt s i) = false := hb13
      refine p_go fun hf => ?_
      refine p_call (hx := rfl) (hb := ⟨Try.func77, by kernel_rfl, rfl⟩) (hf := indexByte ⟨#[46, 37, 35, 40, 33]⟩ (bt s i)) (h := ?_)
      refine p_go ?_
      refine p_retE1 (v := .bool (decide (0 ≤ Lib.indexByte [46, 37, 35, 40, 33] (bt s i).toNat.toUInt8))) rfl eV_ (hK0 _ _ _ (by first | (dsimp only; omega) | omega) (by (try dsimp only); repeat (first | exact hlow | exact LowQ.refl | refine LowQ.or_ ?_ (by assumption) | refine LowQ.up ?_ (by omega) | refine LowQ.at_ ?_ (by simp))) (⟨by rw [bgB, hl, decide_eq_true h0, ← sg_dec]; rfl, oB_⟩))
  · have h0 : bt s i = 0 := by simpa using hb10
    refine p_go ?_
    refine p_retE1 (v := .bool false) rfl eV_ (hK0 _ _ _ (by first | (dsimp only; omega) | omega) (by (try dsimp only); repeat (first | exact hlow | exact LowQ.refl | refine LowQ.or_ ?_ (by assumption) | refine LowQ.up ?_ (by omega) | refine LowQ.at_ ?_ (by simp))) (⟨by rw [bgB, decide_eq_false (by simp [h0])]; rfl, oB_⟩))

end Go.Proofs.Ytjdhkopjigijfaa
