/-
  Sorting places: the length of a word, random numbers, breaking patterns.
-/
import Derived.Test.YtfpljljjjgicaaaGreatDoorSe
set_option linter.unusedSimpArgs false
set_option linter.unusedVariables false
namespace Go.Proofs.YtfpljljjjgicaaaGreatDoor
open Go.RowKit
def len8 (n : Nat) : Nat := if n = 0 then 0 else if n < 2 then 1 else if n < 4 then 2 else if n < 8 then 3 else if n < 16 then 4 else if n < 32 then 5 else if n < 64 then 6 else if n < 128 then 7 else 8
def lenN (n : Nat) : Nat := if n = 0 then 0 else Nat.log2 n + 1
theorem lenN_iff {n m : Nat} (h : n ≠ 0) (h1 : 2 ^ m ≤ n) (h2 : n < 2 ^ (m + 1)) : lenN n = m + 1 := by
  rw [lenN, if_neg h, (Nat.log2_eq_iff h).2 ⟨h1, h2⟩]
theorem lenN_len8 {n : Nat} (h : n < 256) : len8 n = lenN n := by
  unfold len8
  by_cases h0 : n = 0
  · subst h0; rfl
  · rw [if_neg h0]
    repeat' split
    all_goals (first | exact (lenN_iff (m := 0) h0 (by omega) (by omega)).symm | exact (lenN_iff (m := 1) h0 (by omega) (by omega)).symm | exact (lenN_iff (m := 2) h0 (by omega) (by omega)).symm | exact (lenN_iff (m := 3) h0 (by omega) (by omega)).symm | exact (lenN_iff (m := 4) h0 (by omega) (by omega)).symm | exact (lenN_iff (m := 5) h0 (by omega) (by omega)).symm | exact (lenN_iff (m := 6) h0 (by omega) (by omega)).symm | exact (lenN_iff (m := 7) h0 (by omega) (by omega)).symm)
theorem lenN_shift {n k : Nat} (h : 2 ^ k ≤ n) : lenN n = lenN (n / 2 ^ k) + k := by
  have hp : 0 < 2 ^ k := Nat.two_pow_pos k
  have hq : 1 ≤ n / 2 ^ k := (Nat.le_div_iff_mul_le hp).2 (by omega)
  have hn : n ≠ 0 := by omega
  have hd : n / 2 ^ k ≠ 0 := by omega
  obtain ⟨h1, h2⟩ := (Nat.log2_eq_iff hd).1 rfl
  rw [lenN, lenN, if_neg hn, if_neg hd]
  have : Nat.log2 n = Nat.log2 (n / 2 ^ k) + k := (Nat.log2_eq_iff hn).2 ⟨by rw [Nat.pow_add]; exact (Nat.le_div_iff_mul_le hp).1 h1, by
    rw [show Nat.log2 (n / 2 ^ k) + k + 1 = (Nat.log2 (n / 2 ^ k) + 1) + k by omega, Nat.pow_add]; exact (Nat.div_lt_iff_lt_mul hp).1 h2⟩
  omega
theorem lenN_pow {n : Nat} (h : 1 ≤ n) : 2 ^ lenN n ≤ 2 * n := by
  have hn : n ≠ 0 := by omega
  rw [lenN, if_neg hn, Nat.pow_succ]
  have := (Nat.log2_eq_iff hn).1 rfl
  omega
theorem lenN_lt {n m : Nat} (h : n < 2 ^ m) : lenN n ≤ m := by
  rw [lenN]
  split
  · omega
  · rename_i hn
    have := (Nat.log2_eq_iff hn).1 rfl
    have : 2 ^ Nat.log2 n < 2 ^ m := by omega
    have := (Nat.pow_lt_pow_iff_right (by omega : 1 < 2)).1 this
    omega
theorem shrN (n k : Nat) (q : Int) (hk : min q.toNat (IntKind.bits .u64) = k) : V.int .u64 (Int.fdiv (n : Int) (2 ^ min q.toNat (IntKind.bits .u64))) = .int .u64 ((n / 2 ^ k : Nat) : Int) := by
  rw [hk, Int.fdiv_eq_ediv_of_nonneg _ (by have := Nat.two_pow_pos k; have h : ((2 : Int) ^ k) = ((2 ^ k : Nat) : Int) := by simp
                                           omega)]
  congr 1
theorem wrapZ {n : Nat} (h : n < 18446744073709551616) : IntKind.u64.wrap (n : Int) = (n : Int) := by
  simp only [IntKind.wrap, IntKind.signed, IntKind.bits, Bool.false_and, Bool.false_eq_true, ↓reduceIte]; omega
theorem wrap8 {n : Nat} (h : n < 256) : IntKind.u8.wrap (n : Int) = (n : Int) := by
  simp only [IntKind.wrap, IntKind.signed, IntKind.bits, Bool.false_and, Bool.false_eq_true, ↓reduceIte]; omega
theorem wrapI {n : Nat} (h : n < 9223372036854775808) : IntKind.i64.wrap (n : Int) = (n : Int) := by
  simp only [IntKind.wrap, IntKind.signed, IntKind.bits, Bool.true_and]
  split <;> simp_all <;> omega
theorem wrapB {n : Nat} (h : n < 18446744073709551616) : IntKind.u64.wrap (n : Int) = (((BitVec.ofNat 64 n).toNat : Nat) : Int) := by
  rw [wrapZ h, BitVec.toNat_ofNat]; omega
section
variable {P : Program} {w0 : World} {S0 : Nat → Prop} {nt : Nat} {frs : Frs} {e : Nat → V} {ob : Nat → Nat → Ob} {g : Nat} {Q : Exit → Act → World → Prop} {ops : Array Oper} {rest : List Oper} {d : Nat} {ty : TypeId} {pos : String} {aft : Array Edge} {m : Md}
theorem p_idxTab {t : TypeId} {x y : Operand} {s : ByteArray} {k : IntKind} {i : Int} (j n : Nat) (f : Nat → Nat) (hn : d < nt := by decide) (ht : P.underlying t = some .string) (hx : evE e x = .str s) (hy : evE e y = .int k i) (hij : i = (j : Int)) (hs : s.size = n) (hj : j < n) (hf : ∀ j, (h : j < s.size) → s[j].toNat = f j) (h : Wk (m.log ⟨some (d, (.int .u8 ((f j : Nat) : Int))), [], []⟩) ⟨P, w0, S0, nt, frs⟩ ops Q ⟨upd e d (.int .u8 ((f j : Nat) : Int)), ob, g⟩ rest) : Wk m ⟨P, w0, S0, nt, frs⟩ ops Q ⟨e, ob, g⟩ (⟨some d, .index t x y, ty, pos, aft, none⟩ :: rest) := by
  subst hs
  rw [← hf j hj] at h
  exact p_idxStr j hn ht hx hy hij hj h
end
theorem len64 (n : Nat) (hn : n < 18446744073709551616) : FnC Tryz.prog 125 [.int .u64 ((n : Nat) : Int)] (fun r => r = iV (lenN n)) := by
  refine FnC.of (fn := Tryz.f125) ⟨Tryz.func125, by kernel_rfl, rfl⟩ Tryz.ntmps125 (by simp) fun w0 S0 => ?_
  refine p_seq (p_region fun hf => ?_)
  refine p_assign (h := ?_)
  refine p_end ?_
  refine p_joinK [] [] (fun st => ∃ (y m : Nat), (lenN n = lenN y + m) ∧ (y < 4294967296) ∧ (m ≤ 32) ∧ st.env 0 = .int .u64 ((y : Nat) : Int) ∧ st.env 2 = iV m) ?_ fun e ob gS1 hK hO hI => ?_
  ·
    refine p_seq (p_region fun hf => ?_)
    refine p_move (h := ?_)
    refine p_num (h := ?_)
    refine p_end ?_
    refine p_splitC (s := 4) (ht := fun hc4 => ?_) (hf := fun hc4 => ?_)
    · have hge : 4294967296 ≤ n := by have h := hc4; simp at h; omega
      refine p_condT (h := ?_)
      refine p_seq (p_region fun hf => ?_)
      refine p_move (h := ?_)
      refine p_shr (v := .int .u64 ((n / 2 ^ 32 : Nat) : Int)) (h0 := by decide) (hv := shrN n 32 32 (by decide)) (h := ?_)
      refine p_assign (h := ?_)
      refine p_end ?_
      refine p_region fun hf => ?_
      refine p_assign (h := ?_)
      refine p_end ?_
      refine p_some ?_
      refine ⟨⟨(by simp (decide := true) only [valsE, evE, upd, cv, args0, argsFrom, List.length_map, ↓reduceIte, hE] <;> rfl), (by simp (decide := true) only [valsO, updO, upd, true_and, and_true, false_and, and_false, ↓reduceIte, hE] <;> rfl)⟩, n / 2 ^ 32, 32, by have := lenN_shift (n := n) (k := 32) (by omega); omega, by omega, by omega, eV_, eV_⟩
    · have hge : n < 4294967296 := by have h := hc4; simp at h; omega
      refine p_condF (h := ?_)
      refine p_skip ?_
      refine p_some ?_
      refine ⟨⟨(by simp (decide := true) only [valsE, evE, upd, cv, args0, argsFrom, List.length_map, ↓reduceIte, hE] <;> rfl), (by simp (decide := true) only [valsO, updO, upd, true_and, and_true, false_and, and_false, ↓reduceIte, hE] <;> rfl)⟩, n, 0, by omega, by omega, by omega, eV_, eV_⟩
  · obtain ⟨y, m, hlen, hy, hm, e0, e2⟩ := hI
    dsimp only at e0 e2
    have hE := (⟨e0, e2⟩ : _ ∧ _)
    refine p_joinK [] [] (fun st => ∃ (y m : Nat), (lenN n = lenN y + m) ∧ (y < 65536) ∧ (m ≤ 48) ∧ st.env 0 = .int .u64 ((y : Nat) : Int) ∧ st.env 2 = iV m) ?_ fun e ob gS2 hK hO hI => ?_
    ·
      refine p_seq (p_region fun hf => ?_)
      refine p_move (h := ?_)
      refine p_num (h := ?_)
      refine p_end ?_
      refine p_splitC (s := 8) (ht := fun hc8 => ?_) (hf := fun hc8 => ?_)
      · have hge : 65536 ≤ y := by have h := hc8; simp at h; omega
        refine p_condT (h := ?_)
        refine p_seq (p_region fun hf => ?_)
        refine p_move (h := ?_)
        refine p_shr (v := .int .u64 ((y / 2 ^ 16 : Nat) : Int)) (h0 := by decide) (hv := shrN y 16 16 (by decide)) (h := ?_)
        refine p_assign (h := ?_)
        refine p_end ?_
        refine p_region fun hf => ?_
        refine p_move (h := ?_)
        refine p_add (r := ((m + 16 : Nat) : Int)) (hr := (by first | omega | (simp only [decide_eq_true_eq, decide_eq_false_iff_not, Bool.or_eq_false_iff, Bool.and_eq_true, Bool.not_eq_true', Bool.not_eq_false'] at *; omega))) (hb := (by first | omega | (simp only [decide_eq_true_eq, decide_eq_false_iff_not, Bool.or_eq_false_iff, Bool.and_eq_true, Bool.not_eq_true', Bool.not_eq_false'] at *; omega))) (h := ?_)
        refine p_assign (h := ?_)
        refine p_end ?_
        refine p_some ?_
        refine ⟨⟨(by simp (decide := true) only [valsE, evE, upd, cv, args0, argsFrom, List.length_map, ↓reduceIte, hE] <;> rfl), (by simp (decide := true) only [valsO, updO, upd, true_and, and_true, false_and, and_false, ↓reduceIte, hE] <;> rfl)⟩, y / 2 ^ 16, m + 16, by have := lenN_shift (n := y) (k := 16) (by omega); omega, by omega, by omega, eV_, eV_⟩
      · have hge : y < 65536 := by have h := hc8; simp at h; omega
        refine p_condF (h := ?_)
        refine p_skip ?_
        refine p_some ?_
        refine ⟨⟨(by simp (decide := true) only [valsE, evE, upd, cv, args0, argsFrom, List.length_map, ↓reduceIte, hE] <;> rfl), (by simp (decide := true) only [valsO, updO, upd, true_and, and_true, false_and, and_false, ↓reduceIte, hE] <;> rfl)⟩, y, m, by omega, by omega, by omega, eV_, eV_⟩
    · obtain ⟨y, m, hlen, hy, hm, e0, e2⟩ := hI
      dsimp only at e0 e2
      have hE := (⟨e0, e2⟩ : _ ∧ _)
      refine p_joinK [] [] (fun st => ∃ (y m : Nat), (lenN n = lenN y + m) ∧ (y < 256) ∧ (m ≤ 56) ∧ st.env 0 = .int .u64 ((y : Nat) : Int) ∧ st.env 2 = iV m) ?_ fun e ob gS3 hK hO hI => ?_
      ·
        refine p_seq (p_region fun hf => ?_)
        refine p_move (h := ?_)
        refine p_num (h := ?_)
        refine p_end ?_
        refine p_splitC (s := 14) (ht := fun hc14 => ?_) (hf := fun hc14 => ?_)
        · have hge : 256 ≤ y := by have h := hc14; simp at h; omega
          refine p_condT (h := ?_)
          refine p_seq (p_region fun hf => ?_)
          refine p_move (h := ?_)
          refine p_shr (v := .int .u64 ((y / 2 ^ 8 : Nat) : Int)) (h0 := by decide) (hv := shrN y 8 8 (by decide)) (h := ?_)
          refine p_assign (h := ?_)
          refine p_end ?_
          refine p_region fun hf => ?_
          refine p_move (h := ?_)
          refine p_add (r := ((m + 8 : Nat) : Int)) (hr := (by first | omega | (simp only [decide_eq_true_eq, decide_eq_false_iff_not, Bool.or_eq_false_iff, Bool.and_eq_true, Bool.not_eq_true', Bool.not_eq_false'] at *; omega))) (hb := (by first | omega | (simp only [decide_eq_true_eq, decide_eq_false_iff_not, Bool.or_eq_false_iff, Bool.and_eq_true, Bool.not_eq_true', Bool.not_eq_false'] at *; omega))) (h := ?_)
          refine p_assign (h := ?_)
          refine p_end ?_
          refine p_some ?_
          refine ⟨⟨(by simp (decide := true) only [valsE, evE, upd, cv, args0, argsFrom, List.length_map, ↓reduceIte, hE] <;> rfl), (by simp (decide := true) only [valsO, updO, upd, true_and, and_true, false_and, and_false, ↓reduceIte, hE] <;> rfl)⟩, y / 2 ^ 8, m + 8, by have := lenN_shift (n := y) (k := 8) (by omega); omega, by omega, by omega, eV_, eV_⟩
        · have hge : y < 256 := by have h := hc14; simp at h; omega
          refine p_condF (h := ?_)
          refine p_skip ?_
          refine p_some ?_
          refine ⟨⟨(by simp (decide := true) only [valsE, evE, upd, cv, args0, argsFrom, List.length_map, ↓reduceIte, hE] <;> rfl), (by simp (decide := true) only [valsO, updO, upd, true_and, and_true, false_and, and_false, ↓reduceIte, hE] <;> rfl)⟩, y, m, by omega, by omega, by omega, eV_, eV_⟩
      · obtain ⟨y, m, hlen, hy, hm, e0, e2⟩ := hI
        dsimp only at e0 e2
        have hE := (⟨e0, e2⟩ : _ ∧ _)
        refine p_seq (p_region fun hf => ?_)
        refine p_move (h := ?_)
        refine p_move (h := ?_)
        refine p_conv (hs := Tryz.underlying30) (ht := Tryz.underlying5) (h := ?_)
        rw [wrap8 hy]
        refine p_idxTab y 256 len8 (by decide) Tryz.underlying9 eV_ eV_ rfl (by decide +kernel) hy (by decide +kernel) ?_
        have h8 : len8 y ≤ 8 := by
          unfold len8; repeat' split
          all_goals omega
        refine p_conv (hs := Tryz.underlying5) (ht := Tryz.underlying3) (h := ?_)
        rw [wrapI (by omega)]
        refine p_add (r := ((m + len8 y : Nat) : Int)) (hr := (by first | omega | (simp only [decide_eq_true_eq, decide_eq_false_iff_not, Bool.or_eq_false_iff, Bool.and_eq_true, Bool.not_eq_true', Bool.not_eq_false'] at *; omega))) (hb := (by first | omega | (simp only [decide_eq_true_eq, decide_eq_false_iff_not, Bool.or_eq_false_iff, Bool.and_eq_true, Bool.not_eq_true', Bool.not_eq_false'] at *; omega))) (h := ?_)
        refine p_assign (h := ?_)
        refine p_end ?_
        refine TrC.ret ?_
        refine p_ret1 (hp := by rw [hlen, ← lenN_len8 hy, Nat.add_comm])
theorem lenU (n : Nat) (hn : n < 18446744073709551616) : FnC Tryz.prog 92 [.int .u64 ((n : Nat) : Int)] (fun r => r = iV (lenN n)) := by
  refine FnC.of (fn := Tryz.f92) ⟨Tryz.func92, by kernel_rfl, rfl⟩ Tryz.ntmps92 (by simp) fun w0 S0 => ?_
  refine p_seq (p_region fun hf => ?_)
  refine p_assign (h := ?_)
  refine p_end ?_
  refine p_seq ?_
  refine p_condF (h := ?_)
  refine p_skip ?_
  refine p_seq (p_region fun hf => ?_)
  refine p_move (h := ?_)
  refine p_call (hx := rfl) (hb := ⟨Tryz.func125, by kernel_rfl, rfl⟩) (hf := len64 n hn) (h := ?_)
  refine p_assign (h := ?_)
  refine p_end ?_
  refine TrC.ret ?_
  refine p_ret1 (hp := by simp)
def powN (n : Nat) : BitVec 64 := BitVec.ofNat 64 (2 ^ lenN n)
theorem powN_at {n : Nat} (h : n < 17592186044417) : (powN n).toNat = 2 ^ lenN n := by
  have h1 : lenN n ≤ 45 := lenN_lt (by omega)
  have h2 : 2 ^ lenN n ≤ 2 ^ 45 := Nat.pow_le_pow_right (by omega) h1
  rw [powN, BitVec.toNat_ofNat]; exact Nat.mod_eq_of_lt (Nat.lt_of_le_of_lt h2 (by decide))
theorem shlN (n : Nat) (h : n < 17592186044417) : V.int .u64 (IntKind.u64.wrap (1 * 2 ^ min ((lenN n : Nat) : Int).toNat (IntKind.bits .u64))) = .int .u64 (((powN n).toNat : Nat) : Int) := by
  have h1 : lenN n ≤ 45 := lenN_lt (by omega)
  have h2 : 2 ^ lenN n ≤ 2 ^ 45 := Nat.pow_le_pow_right (by omega) h1
  have e : min ((lenN n : Nat) : Int).toNat (IntKind.bits .u64) = lenN n := by simp only [IntKind.bits, Int.toNat_natCast]; omega
  have e2 : (1 : Int) * 2 ^ lenN n = ((2 ^ lenN n : Nat) : Int) := by simp
  rw [e, e2, wrapZ (Nat.lt_of_le_of_lt h2 (by decide)), powN_at h]
theorem nextPow (n : Nat) (hn : n < 17592186044417) : FnC Tryz.prog 155 [iV n] (fun r => r = .int .u64 (((powN n).toNat : Nat) : Int)) := by
  refine FnC.of (fn := Tryz.f155) ⟨Tryz.func155, by kernel_rfl, rfl⟩ Tryz.ntmps155 (by simp) fun w0 S0 => ?_
  refine p_seq (p_region fun hf => ?_)
  refine p_assign (h := ?_)
  refine p_end ?_
  refine p_seq (p_region fun hf => ?_)
  refine p_move (h := ?_)
  refine p_conv (hs := Tryz.underlying3) (ht := Tryz.underlying123) (h := ?_)
  rw [wrapZ (by omega)]
  refine p_call (hx := rfl) (hb := ⟨Tryz.func92, by kernel_rfl, rfl⟩) (hf := lenU n (by omega)) (h := ?_)
  refine p_shl (h0 := by omega) (hv := shlN n hn) (h := ?_)
  refine p_assign (h := ?_)
  refine p_end ?_
  refine TrC.ret ?_
  refine p_ret1 (hp := by simp)
theorem nextX (s : Nat) (x : BitVec 64) : FnQ Tryz.prog 156 [.ptr s 9 0] [(s, 9)] [.cells 176 [.int .u64 ((x.toNat : Nat) : Int)]] (fun r us' => ∃ y : BitVec 64, r = .int .u64 ((y.toNat : Nat) : Int) ∧ us' = [.cells 176 [.int .u64 ((y.toNat : Nat) : Int)]]) := by
  refine FnQ.of (fn := Tryz.f156) ⟨Tryz.func156, by kernel_rfl, rfl⟩ Tryz.ntmps156 (by simp) fun w0 S0 l ob0 g0 K hrow hgl hK0 => ?_
  simp only [valsO, List.cons.injEq, and_true] at hrow
  simp only [List.mem_cons, List.not_mem_nil, or_false, forall_eq_or_imp, forall_eq, forall_const] at hgl
  have hE := hrow
  refine p_seq (p_region fun hf => ?_)
  refine p_assign (h := ?_)
  refine p_end ?_
  refine p_seq (p_draw F.mixed.h fun hf => ?_)
  refine p_move (h := ?_)
  refine p_nilChk (h := ?_)
  (first | refine p_load (ht := F.leaf176.h) (h := ?_) | refine p_loadRef (ht := F.leaf176.h) (h := ?_))
  refine p_move (h := ?_)
  refine p_nilChk (h := ?_)
  (first | refine p_load (ht := F.leaf176.h) (h := ?_) | refine p_loadRef (ht := F.leaf176.h) (h := ?_))
  refine p_shlB (n := 13) (h := ?_)
  refine p_bv (h := ?_)
  refine p_nilChk (h := ?_)
  refine p_store1 F.ti176.h (h := ?_)
  refine p_endD ?_
  refine p_seq (p_draw F.mixed.h fun hf => ?_)
  refine p_move (h := ?_)
  refine p_nilChk (h := ?_)
  (first | refine p_load (ht := F.leaf176.h) (h := ?_) | refine p_loadRef (ht := F.leaf176.h) (h := ?_))
  refine p_move (h := ?_)
  refine p_nilChk (h := ?_)
  (first | refine p_load (ht := F.leaf176.h) (h := ?_) | refine p_loadRef (ht := F.leaf176.h) (h := ?_))
  refine p_shrB (n := 7) (h := ?_)
  refine p_bv (h := ?_)
  refine p_nilChk (h := ?_)
  refine p_store1 F.ti176.h (h := ?_)
  refine p_endD ?_
  refine p_seq (p_draw F.mixed.h fun hf => ?_)
  refine p_move (h := ?_)
  refine p_nilChk (h := ?_)
  (first | refine p_load (ht := F.leaf176.h) (h := ?_) | refine p_loadRef (ht := F.leaf176.h) (h := ?_))
  refine p_move (h := ?_)
  refine p_nilChk (h := ?_)
  (first | refine p_load (ht := F.leaf176.h) (h := ?_) | refine p_loadRef (ht := F.leaf176.h) (h := ?_))
  refine p_shlB (n := 17) (h := ?_)
  refine p_bv (h := ?_)
  refine p_nilChk (h := ?_)
  refine p_store1 F.ti176.h (h := ?_)
  refine p_endD ?_
  refine p_seq (p_region fun hf => ?_)
  refine p_move (h := ?_)
  refine p_nilChk (h := ?_)
  (first | refine p_load (ht := F.leaf176.h) (h := ?_) | refine p_loadRef (ht := F.leaf176.h) (h := ?_))
  refine p_assign (h := ?_)
  refine p_end ?_
  refine TrC.ret ?_
  refine p_retE1 rfl eV_ (hK0 _ _ _ (by first | (dsimp only; omega) | omega) (by (try dsimp only); repeat (first | exact hlow | exact LowQ.refl | refine LowQ.up ?_ (by omega) | refine LowQ.at_ ?_ (by simp))) (⟨_, rfl, (by simp (decide := true) only [valsO, updO, upd, true_and, and_true, false_and, and_false, ↓reduceIte, hE] <;> rfl)⟩))
theorem masked {n : Nat} (x : BitVec 64) (h0 : 1 ≤ n) (h : n < 17592186044417) : ∃ ot : Nat, IntKind.i64.wrap ((x &&& (powN n - BitVec.ofInt 64 1)).toNat : Int) = (ot : Int) ∧ ot < 2 * n := by
  have h1 := powN_at h
  have h2 := lenN_pow h0
  have h3 : 1 ≤ 2 ^ lenN n := Nat.two_pow_pos _
  have h4 : (powN n - BitVec.ofInt 64 1).toNat = 2 ^ lenN n - 1 := by
    rw [BitVec.toNat_sub_of_le (by rw [BitVec.le_def, h1]; simpa using h3), h1]; rfl
  have h5 : (x &&& (powN n - BitVec.ofInt 64 1)).toNat ≤ 2 ^ lenN n - 1 := by
    rw [BitVec.toNat_and, h4]; exact Nat.and_le_right
  exact ⟨_, wrapI (by omega), by omega⟩
theorem breakPat (c : Pl → Pl → Int) (cf : FuncId) (cfn : Func) (ccode : Code) (hcf : HasBody Tryz.prog cf cfn ccode) (hcnt : ∀ x y, FnC Tryz.prog cf [plV x, plV y] (fun r => r = iV (c x y))) (L : List Pl) (q : Nat) (a b : Nat) (hab : a ≤ b) (hb : b ≤ L.length) (hl : L.length ≤ 17592186044416) (h8 : a + 8 ≤ b) : FnQ Tryz.prog 118 [.row q 900 L.length, iV a, iV b, .fn cf []] [(q, 900)] [.row 102 (L.map plV)] (fun r us' => ∃ M, us' = [.row 102 (M.map plV)] ∧ Mix a b L M) := by
  refine FnQ.of (fn := Tryz.f118) ⟨Tryz.func118, by kernel_rfl, rfl⟩ Tryz.ntmps118 (by simp) fun w0 S0 l ob0 g0 K hrow hgl hK0 => ?_
  simp only [valsO, List.cons.injEq, and_true] at hrow
  simp only [List.mem_cons, List.not_mem_nil, or_false, forall_eq_or_imp, forall_eq, forall_const] at hgl
  have hE := hrow
  refine p_seq (p_region fun hf => ?_)
  refine p_move (h := ?_)
  refine p_move (h := ?_)
  refine p_sub (r := ((b - a : Nat) : Int)) (hr := by omega) (hb := by omega) (h := ?_)
  refine p_assign (h := ?_)
  refine p_end ?_
  refine p_seq (p_region fun hf => ?_)
  refine p_move (h := ?_)
  refine p_num (h := ?_)
  refine p_end ?_
  refine p_splitC (s := 17) (ht := fun hc17 => ?_) (hf := fun hc17 => ?_)
  · refine p_condT (h := ?_)
    refine p_seq (p_region fun hf => ?_)
    refine p_move (h := ?_)
    refine p_conv (hs := Tryz.underlying3) (ht := Tryz.underlying176) (h := ?_)
    rw [wrapB (by omega)]
    refine p_alloc (hi := F.ti176.h) (h := ?_)
    refine p_store1 F.ti176.h (h := ?_)
    refine p_end ?_
    refine p_seq (p_region fun hf => ?_)
    refine p_move (h := ?_)
    refine p_call (hx := rfl) (hb := ⟨Tryz.func155, by kernel_rfl, rfl⟩) (hf := nextPow (b - a) (by omega)) (h := ?_)
    refine p_assign (h := ?_)
    refine p_end ?_
    refine p_seq (p_region fun hf => ?_)
    refine p_move (h := ?_)
    refine p_move (h := ?_)
    refine p_quo (r := (((b - a) / 4 : Nat) : Int)) (by decide) eV_ eV_ (by omega) (by omega) ?_
    refine p_mul (r := (((b - a) / 4 * 2 : Nat) : Int)) (hr := by omega) (hb := by omega) (h := ?_)
    refine p_add (r := ((a + (b - a) / 4 * 2 : Nat) : Int)) (hr := (by first | omega | (simp only [decide_eq_true_eq, decide_eq_false_iff_not, Bool.or_eq_false_iff, Bool.and_eq_true, Bool.not_eq_true', Bool.not_eq_false'] at *; omega))) (hb := (by first | omega | (simp only [decide_eq_true_eq, decide_eq_false_iff_not, Bool.or_eq_false_iff, Bool.and_eq_true, Bool.not_eq_true', Bool.not_eq_false'] at *; omega))) (h := ?_)
    refine p_sub (r := ((a + (b - a) / 4 * 2 - 1 : Nat) : Int)) (hr := by omega) (hb := by omega) (h := ?_)
    refine p_assign (h := ?_)
    refine p_end ?_
    refine TrC.block ?_
    refine p_loopK [0, 1, 8, 9, 10] [] (fun st => ∃ (ix : Nat) (M : List Pl) (x : BitVec 64), (a + (b - a) / 4 * 2 - 1 ≤ ix) ∧ (ix ≤ a + (b - a) / 4 * 2 + 2) ∧ (Mix a b L M) ∧ (LowQ g0 [(q, 900)] ob0 st.obj) ∧ (g0 + 1 + 1 + 1 ≤ st.gen) ∧ st.env 11 = iV ix ∧ st.obj q 900 = .row 102 (M.map plV) ∧ st.obj (g0 + 1 + 1 + 1) 9 = .cells 176 [.int .u64 ((x.toNat : Nat) : Int)]) (fun st => b - (st.env 11).toN) ?_ fun e ob g1 hK hO hI => ?_
    · exact ⟨a + (b - a) / 4 * 2 - 1, L, _, by omega, by omega, Mix.refl, (by (try dsimp only); repeat (first | exact hlow | exact LowQ.refl | refine LowQ.up ?_ (by omega) | refine LowQ.at_ ?_ (by simp))), (by first | (dsimp only; omega) | omega), eV_, oB_, oB_⟩
    · obtain ⟨ix, M, x, hix1, hix2, hmx, hlow, hgen, e11, o900, oc⟩ := hI
      dsimp only at e11 o900 oc
      simp only [valsE, List.cons.injEq, and_true] at hK
      have hE := (⟨hK, e11, o900, oc⟩ : _ ∧ _ ∧ _ ∧ _)
      dsimp only at hlow hgen
      have hML := hmx.len
      refine p_seq ?_
      refine p_seq (p_region fun hf => ?_)
      refine p_move (h := ?_)
      refine p_move (h := ?_)
      refine p_move (h := ?_)
      refine p_quo (r := (((b - a) / 4 : Nat) : Int)) (by decide) eV_ eV_ (by omega) (by omega) ?_
      refine p_mul (r := (((b - a) / 4 * 2 : Nat) : Int)) (hr := by omega) (hb := by omega) (h := ?_)
      refine p_add (r := ((a + (b - a) / 4 * 2 : Nat) : Int)) (hr := (by first | omega | (simp only [decide_eq_true_eq, decide_eq_false_iff_not, Bool.or_eq_false_iff, Bool.and_eq_true, Bool.not_eq_true', Bool.not_eq_false'] at *; omega))) (hb := (by first | omega | (simp only [decide_eq_true_eq, decide_eq_false_iff_not, Bool.or_eq_false_iff, Bool.and_eq_true, Bool.not_eq_true', Bool.not_eq_false'] at *; omega))) (h := ?_)
      refine p_add (r := ((a + (b - a) / 4 * 2 + 1 : Nat) : Int)) (hr := (by first | omega | (simp only [decide_eq_true_eq, decide_eq_false_iff_not, Bool.or_eq_false_iff, Bool.and_eq_true, Bool.not_eq_true', Bool.not_eq_false'] at *; omega))) (hb := (by first | omega | (simp only [decide_eq_true_eq, decide_eq_false_iff_not, Bool.or_eq_false_iff, Bool.and_eq_true, Bool.not_eq_true', Bool.not_eq_false'] at *; omega))) (h := ?_)
      refine p_num (h := ?_)
      refine p_end ?_
      refine p_splitC (s := 35) (ht := fun hc35 => ?_) (hf := fun hc35 => ?_)
      · have hle : ix ≤ a + (b - a) / 4 * 2 + 1 := by have h := hc35; simp at h; omega
        refine p_condT (h := ?_)
        refine p_skip ?_
        refine p_seq ?_
        refine TrC.block ?_
        refine p_seq (p_region fun hf => ?_)
        refine p_callQ ([(q, 900)]) (hf := nextX (g0 + 1 + 1 + 1) x) (hg := by simp; omega) (hos := by simp; omega) (h := fun r o1 h1 hg1 hlw1 hos1 hR1 => ?_)
        obtain ⟨x1, rfl, hx1⟩ := hR1
        have hlow : LowQ g0 [(q, 900)] ob0 o1 := LowQ.trans (by (try dsimp only); repeat (first | exact hlow | exact LowQ.refl | refine LowQ.up ?_ (by omega) | refine LowQ.at_ ?_ (by simp))) hlw1 (by first | (dsimp only; omega) | omega) (fun k hk => by simp only [List.mem_cons, List.not_mem_nil, or_false] at hk; subst hk; exact .inr (by dsimp only; omega))
        simp only [valsO, List.cons.injEq, and_true] at hos1 hx1
        have hE := (⟨hK, e11, hos1, hx1⟩ : _ ∧ _ ∧ _ ∧ _)
        refine p_move (h := ?_)
        refine p_bv (h := ?_)
        refine p_bv (h := ?_)
        refine p_conv (hs := Tryz.underlying123) (ht := Tryz.underlying3) (h := ?_)
        obtain ⟨ot, hot, holt⟩ : ∃ ot : Nat, IntKind.i64.wrap ((x1 &&& (powN (b - a) - BitVec.ofInt 64 1)).toNat : Int) = (ot : Int) ∧ ot < 2 * (b - a) := masked x1 (by omega) (by omega)
        rw [hot]
        refine p_assign (h := ?_)
        refine p_end ?_
        refine p_joinK [0, 1, 8, 9, 10, 11] [(q, 900), ((g0 + 1 + 1 + 1), 9)] (fun st => ∃ (o2 : Nat), (o2 < b - a) ∧ (LowQ g0 [(q, 900)] ob0 st.obj) ∧ (g0 + 1 + 1 + 1 ≤ st.gen) ∧ st.env 12 = iV o2) ?_ fun e ob gS3 hK hO hI => ?_
        ·
          refine p_seq (p_region fun hf => ?_)
          refine p_move (h := ?_)
          refine p_move (h := ?_)
          refine p_num (h := ?_)
          refine p_end ?_
          refine p_splitC (s := 45) (ht := fun hc45 => ?_) (hf := fun hc45 => ?_)
          · have hge : b - a ≤ ot := by have h := hc45; simp at h; omega
            refine p_condT (h := ?_)
            refine p_region fun hf => ?_
            refine p_move (h := ?_)
            refine p_move (h := ?_)
            refine p_sub (r := ((ot - (b - a) : Nat) : Int)) (hr := by omega) (hb := by omega) (h := ?_)
            refine p_assign (h := ?_)
            refine p_end ?_
            refine p_some ?_
            refine ⟨⟨(by simp (decide := true) only [valsE, evE, upd, cv, args0, argsFrom, List.length_map, ↓reduceIte, hE] <;> rfl), (by simp (decide := true) only [valsO, updO, upd, true_and, and_true, false_and, and_false, ↓reduceIte, hE] <;> rfl)⟩, ot - (b - a), by omega, (by (try dsimp only); repeat (first | exact hlow | exact LowQ.refl | refine LowQ.up ?_ (by omega) | refine LowQ.at_ ?_ (by simp))), (by first | (dsimp only; omega) | omega), eV_⟩
          · have hge : ot < b - a := by have h := hc45; simp at h; omega
            refine p_condF (h := ?_)
            refine p_skip ?_
            refine p_some ?_
            refine ⟨⟨(by simp (decide := true) only [valsE, evE, upd, cv, args0, argsFrom, List.length_map, ↓reduceIte, hE] <;> rfl), (by simp (decide := true) only [valsO, updO, upd, true_and, and_true, false_and, and_false, ↓reduceIte, hE] <;> rfl)⟩, ot, hge, (by (try dsimp only); repeat (first | exact hlow | exact LowQ.refl | refine LowQ.up ?_ (by omega) | refine LowQ.at_ ?_ (by simp))), (by first | (dsimp only; omega) | omega), eV_⟩
        · obtain ⟨o2, ho2, hlow, hgen, e12⟩ := hI
          dsimp only at e12
          simp only [valsE, List.cons.injEq, and_true] at hK
          simp only [valsO, List.cons.injEq, and_true] at hO
          have hE := (⟨hK, hO, e12⟩ : _ ∧ _ ∧ _)
          dsimp only at hlow hgen
          refine p_draw F.mixed.h fun hf => ?_
          refine p_move (h := ?_)
          refine p_move (h := ?_)
          refine p_move (h := ?_)
          refine p_move (h := ?_)
          refine p_move (h := ?_)
          refine p_add (r := ((a + o2 : Nat) : Int)) (hr := (by first | omega | (simp only [decide_eq_true_eq, decide_eq_false_iff_not, Bool.or_eq_false_iff, Bool.and_eq_true, Bool.not_eq_true', Bool.not_eq_false'] at *; omega))) (hb := (by first | omega | (simp only [decide_eq_true_eq, decide_eq_false_iff_not, Bool.or_eq_false_iff, Bool.and_eq_true, Bool.not_eq_true', Bool.not_eq_false'] at *; omega))) (h := ?_)
          refine p_move (h := ?_)
          refine p_move (h := ?_)
          refine p_move (h := ?_)
          refine p_add (r := ((a + o2 : Nat) : Int)) (hr := (by first | omega | (simp only [decide_eq_true_eq, decide_eq_false_iff_not, Bool.or_eq_false_iff, Bool.and_eq_true, Bool.not_eq_true', Bool.not_eq_false'] at *; omega))) (hb := (by first | omega | (simp only [decide_eq_true_eq, decide_eq_false_iff_not, Bool.or_eq_false_iff, Bool.and_eq_true, Bool.not_eq_true', Bool.not_eq_false'] at *; omega))) (h := ?_)
          refine p_idxRowN (a + o2) (ht := Tryz.underlying100) (hi := F.ti102.h) (hij := by omega) (hlt := by (try simp only [List.length_set]); omega) (h := ?_)
          refine p_loadRowAM (ht := F.agg102.h) (hi := F.ti102.h) (hj := by (try simp only [List.length_set]); omega) (h := ?_)
          refine p_move (h := ?_)
          refine p_move (h := ?_)
          refine p_idxRowN (ix) (ht := Tryz.underlying100) (hi := F.ti102.h) (hij := by omega) (hlt := by (try simp only [List.length_set]); omega) (h := ?_)
          refine p_loadRowAM (ht := F.agg102.h) (hi := F.ti102.h) (hj := by (try simp only [List.length_set]); omega) (h := ?_)
          refine p_idxRowN (ix) (ht := Tryz.underlying100) (hi := F.ti102.h) (hij := by omega) (hlt := by (try simp only [List.length_set]); omega) (h := ?_)
          refine p_storeRowMA (M[a + o2]) (hi := F.ti102.h) (hc := TI.cells F.ti102.h) (hlt := by (try simp only [List.length_set]); omega) (h := ?_)
          refine p_idxRowN (a + o2) (ht := Tryz.underlying100) (hi := F.ti102.h) (hij := by omega) (hlt := by (try simp only [List.length_set]); omega) (h := ?_)
          refine p_storeRowMA (M[ix]) (hi := F.ti102.h) (hc := TI.cells F.ti102.h) (hlt := by (try simp only [List.length_set]); omega) (h := ?_)
          refine p_endD ?_
          refine p_region fun hf => ?_
          refine p_move (h := ?_)
          refine p_add (r := ((ix + 1 : Nat) : Int)) (hr := (by first | omega | (simp only [decide_eq_true_eq, decide_eq_false_iff_not, Bool.or_eq_false_iff, Bool.and_eq_true, Bool.not_eq_true', Bool.not_eq_false'] at *; omega))) (hb := (by first | omega | (simp only [decide_eq_true_eq, decide_eq_false_iff_not, Bool.or_eq_false_iff, Bool.and_eq_true, Bool.not_eq_true', Bool.not_eq_false'] at *; omega))) (h := ?_)
          refine p_assign (h := ?_)
          refine p_end ?_
          refine p_some ?_
          refine ⟨⟨(by simp (decide := true) only [valsE, evE, upd, cv, args0, argsFrom, List.length_map, ↓reduceIte, hE] <;> rfl), (by simp (decide := true) only [valsO, updO, upd, true_and, and_true, false_and, and_false, ↓reduceIte, hE] <;> rfl)⟩, ⟨ix + 1, swp M ix (a + o2), x1, by omega, by omega, hmx.swp hb ⟨by omega, by omega⟩ ⟨by omega, by omega⟩, (by (try dsimp only); repeat (first | exact hlow | exact LowQ.refl | refine LowQ.up ?_ (by omega) | refine LowQ.at_ ?_ (by simp))), (by first | (dsimp only; omega) | omega), eV_, by rw [← swp_at (by omega) (by omega)]; exact oB_, oB_⟩, ?_⟩
          simp (decide := true) only [upd, e11, V.toN, ↓reduceIte]; omega
      · refine p_condF (h := ?_)
        refine p_exit ?_
        refine p_retE0 rfl (hK0 _ _ _ (by first | (dsimp only; omega) | omega) (by (try dsimp only); repeat (first | exact hlow | exact LowQ.refl | refine LowQ.up ?_ (by omega) | refine LowQ.at_ ?_ (by simp))) (⟨M, (by simp (decide := true) only [valsO, updO, upd, true_and, and_true, false_and, and_false, ↓reduceIte, hE] <;> rfl), hmx⟩))
  · exact absurd hc17 (by simp; omega)
end Go.Proofs.YtfpljljjjgicaaaGreatDoor
