import Derived.Test.YtjjpmbaddpiamaaDoorWa
/-
  Which texts are tokens of a kind; names that are no words of the language: the program's and the reference's functions.
-/
set_option linter.unusedSimpArgs false
set_option linter.unusedVariables false
set_option maxHeartbeats 4000000
namespace Go.Proofs.YtjjpmbaddpiamaaDoor
open Go.RowKit
attribute [local irreducible] Wk Tr
theorem nameB_eq (s : ByteArray) (h0 : s ≠ ⟨#[]⟩) (h1 : (s.size : Int) ≤ 64) (h2 : letB (bt s 0) = true) : nameB s = decide ((rowN alnB s : Int) = (s.size : Int)) := by
  unfold nameB
  have h3 : ¬ ((64 : Int) < (s.size : Int)) := by omega
  simp only [h0, h3, h2, decide_false, Bool.or_false, Bool.not_true, Bool.or_self, Bool.not_false, Bool.true_and]
  rw [decide_eq_decide, ← rowN_all]
  omega
theorem numB_ok {s : ByteArray} {n : Int} (h : Lib.parseIntB 64 s.data.toList = .ok n) : numB s = decide (⟨(Lib.itoa n).toArray⟩ = s) := by rw [numB, h]
theorem numB_no {s : ByteArray} (h : ∀ n, Lib.parseIntB 64 s.data.toList ≠ .ok n) : numB s = false := by
  rw [numB]
  cases h1 : Lib.parseIntB 64 s.data.toList with
  | ok n => exact absurd h1 (h n)
  | «syntax» => rfl
  | range => rfl
theorem nameB_no {s : ByteArray} (h : (decide (s ≠ ⟨#[]⟩) && decide ((s.size : Int) ≤ 64)) = false) : nameB s = false := by
  rw [nameB]
  by_cases h9 : s = ⟨#[]⟩
  · simp [h9]
  · have h8 : (64 : Int) < (s.size : Int) := by
      simp only [ne_eq, h9, not_false_eq_true, decide_true, Bool.true_and, decide_eq_false_iff_not] at h; omega
    simp [h8]
theorem signB_1 {s : ByteArray} (h : s = ⟨#[45, 62]⟩) : signB s = true := by rw [signB, decide_eq_true h]; rfl
theorem signB_2 {s : ByteArray} (h : ¬ s = ⟨#[45, 62]⟩) (h1 : s.size = 1) : signB s = decide (0 ≤ Lib.indexByte signs (s.data.toList.headD 0)) := by rw [signB, decide_eq_false h, decide_eq_true h1]; rfl
theorem signB_3 {s : ByteArray} (h : ¬ s = ⟨#[45, 62]⟩) (h1 : ¬ s.size = 1) : signB s = false := by rw [signB, decide_eq_false h, decide_eq_false h1]; rfl
theorem rightB1 (s : ByteArray) : rightB s 1 = nameB s := rfl
theorem rightB2 (s : ByteArray) : rightB s 2 = numB s := rfl
theorem rightB3 (s : ByteArray) : rightB s 3 = signB s := rfl
theorem rightB0 {s : ByteArray} {k : Int} (h1 : ¬ k = 1) (h2 : ¬ k = 2) (h3 : ¬ k = 3) : rightB s k = false := by rw [rightB, if_neg h1, if_neg h2, if_neg h3]

theorem rightP (s : ByteArray) (k : Int) (hs : s.size ≤ 281474976710656) : FnC Tryd.prog 20 [.str s, iV k] (fun r => r = .bool (rightB s k)) := by
  refine FnC.of (fn := Tryd.f20) ⟨Tryd.func20, by kernel_rfl, rfl⟩ Tryd.ntmps20 (by simp) fun w0 S0 => ?_
  refine p_go ?_
  refine p_splitC (s := 8) (ht := fun hc8 => ?_) (hf := fun hc8 => ?_)
  · obtain rfl : k = 1 := by simpa using hc8
    refine p_go fun hf => ?_
    refine p_strOp (h := ?_)
    refine p_go fun hf => ?_
    refine p_split (s := 17) (ht := fun hb17 => ?_) (hf := fun hb17 => ?_)
    · -- slot 17 is true
      refine p_go fun hf => ?_
      refine p_call (hx := rfl) (hb := ⟨Tryd.func40, by kernel_rfl, rfl⟩) (hf := atP s 0) (h := ?_)
      refine p_go fun hf => ?_
      refine p_call (hx := rfl) (hb := ⟨Tryd.func39, by kernel_rfl, rfl⟩) (hf := letterP _) (h := ?_)
      refine p_go fun hf => ?_
      refine p_split (s := 22) (ht := fun hb22 => ?_) (hf := fun hb22 => ?_)
      · -- slot 22 is true
        refine p_go fun hf => ?_
        refine p_call (hx := rfl) (hb := ⟨Tryd.func41, by kernel_rfl, rfl⟩) (hf := rowP ⟨Tryd.func42, by kernel_rfl, rfl⟩ alnP (fun c => alnB_lt) s) (h := ?_)
        refine p_go ?_
        refine p_ret1 (hp := by rw [rightB1, nameB_eq s (by simp at hb17; exact hb17.1) (by simp at hb17; omega) hb22])
      · -- slot 22 is false
        refine p_go ?_
        refine p_ret1 (hp := by rw [rightB1, nameB, hb22]; simp)
    · -- slot 17 is false
      refine p_go ?_
      refine p_ret1 (hp := by rw [rightB1, nameB_no hb17])
  · refine p_go ?_
    refine p_splitC (s := 29) (ht := fun hc29 => ?_) (hf := fun hc29 => ?_)
    · obtain rfl : k = 2 := by simpa using hc29
      refine p_go fun hf => ?_
      refine p_callN (hb := ⟨Tryd.func44, by kernel_rfl, rfl⟩) (hf := parseInt s hs) (h := fun r hr => ?_)
      rcases hr with ⟨n, hP, rfl⟩ | ⟨hP, n, tI, pI, rfl⟩
      · refine p_go fun hf => ?_
        refine p_eqNilIface (ht := Tryd.underlying60) (h := ?_)
        refine p_go fun hf => ?_
        refine p_split (s := 38) (ht := fun hb38 => ?_) (hf := fun hb38 => ?_)
        · -- slot 38 is true
          refine p_go fun hf => ?_
          refine p_call (hx := rfl) (hb := ⟨Tryd.func45, by kernel_rfl, rfl⟩) (hf := formatInt n (by have := Lib.parseIntB_bounds hP; omega) (by have := Lib.parseIntB_bounds hP; omega)) (h := ?_)
          refine p_go fun hf => ?_
          refine p_strOp (h := ?_)
          refine p_go ?_
          refine p_ret1 (hp := by rw [rightB2, numB_ok hP])
        · exact absurd hb38 (by simp)
      · refine p_go fun hf => ?_
        refine p_eqIface (ht := Tryd.underlying60) (h := ?_)
        refine p_go ?_
        refine p_ret1 (hp := by rw [rightB2, numB_no hP])
    · refine p_go ?_
      refine p_splitC (s := 44) (ht := fun hc44 => ?_) (hf := fun hc44 => ?_)
      · obtain rfl : k = 3 := by simpa using hc44
        refine p_go fun hf => ?_
        refine p_strOp (h := ?_)
        refine p_go fun hf => ?_
        refine p_split (s := 48) (ht := fun hb48 => ?_) (hf := fun hb48 => ?_)
        · -- slot 48 is true
          refine p_go ?_
          refine p_ret1 (hp := by rw [rightB3, signB_1 (by simpa using hb48)])
        · -- slot 48 is false
          refine p_go fun hf => ?_
          refine p_split (s := 52) (ht := fun hb52 => ?_) (hf := fun hb52 => ?_)
          · -- slot 52 is true
            refine p_go fun hf => ?_
            refine p_call (hx := rfl) (hb := ⟨Tryd.func46, by kernel_rfl, rfl⟩) (hf := contains1 s (by simp at hb52; omega)) (h := ?_)
            refine p_go ?_
            refine p_ret1 (hp := by rw [rightB3, signB_2 (by simpa using hb48) (by simp at hb52; omega)])
          · -- slot 52 is false
            refine p_go ?_
            refine p_ret1 (hp := by rw [rightB3, signB_3 (by simpa using hb48) (by simp at hb52; omega)])
      · refine p_go ?_
        refine p_ret1 (hp := by rw [rightB0 (by simpa using hc8) (by simpa using hc29) (by simpa using hc44)])

end Go.Proofs.YtjjpmbaddpiamaaDoor
/-
  Names that are no words of the language: the program's and the reference's functions.
-/
set_option linter.unusedSimpArgs false
set_option linter.unusedVariables false
set_option maxHeartbeats 4000000
namespace Go.Proofs.YtjjpmbaddpiamaaDoor
open Go.RowKit
attribute [local irreducible] Wk Tr
def idxS (xs : List ByteArray) (s : ByteArray) : Int := if xs.any (fun x => decide (x = s)) = true then (xs.findIdx (fun x => decide (x = s)) : Nat) else -1
theorem idxS_at {xs : List ByteArray} {s : ByteArray} {i : Nat} (hi : i < xs.length) (h : xs[i] = s) (hn : ∀ j (hj : j < i), xs[j] ≠ s) : idxS xs s = i := by
  rw [idxS, if_pos (List.any_eq_true.2 ⟨_, List.getElem_mem hi, by simp [h]⟩), (List.findIdx_eq hi).2 ⟨by simp [h], fun j hj => by simpa using hn j hj⟩]
theorem idxS_none {xs : List ByteArray} {s : ByteArray} (hn : ∀ j (hj : j < xs.length), xs[j] ≠ s) : idxS xs s = -1 := by
  rw [idxS, if_neg]
  intro h
  obtain ⟨x, hx, h1⟩ := List.any_eq_true.1 h
  obtain ⟨j, hj, rfl⟩ := List.getElem_of_mem hx
  exact hn j hj (by simpa using h1)
theorem idxS_pos (xs : List ByteArray) (s : ByteArray) : decide (0 ≤ idxS xs s) = xs.any (fun x => decide (x = s)) := by
  rw [idxS]
  split
  · rename_i h; rw [h]; simp
  · rename_i h; simp only [Bool.not_eq_true] at h; rw [h]; rfl
theorem kindN_1 {s : ByteArray} (h : nameB s = true) : kindN s = 1 := by rw [kindN, if_pos h]
theorem kindN_2 {s : ByteArray} (h1 : nameB s = false) (h : numB s = true) : kindN s = 2 := by rw [kindN, h1, if_neg (by simp), if_pos h]
theorem kindN_3 {s : ByteArray} (h1 : nameB s = false) (h2 : numB s = false) (h : signB s = true) : kindN s = 3 := by rw [kindN, h1, if_neg (by simp), h2, if_neg (by simp), if_pos h]
theorem kindN_0 {s : ByteArray} (h1 : nameB s = false) (h2 : numB s = false) (h : signB s = false) : kindN s = 0 := by rw [kindN, h1, if_neg (by simp), h2, if_neg (by simp), h, if_neg (by simp)]
theorem kind_found {s : ByteArray} {i : Nat} (hi : i < 3) (hn : ∀ j < i, rightB s (j + 1 : Nat) = false) (h : rightB s (i + 1 : Nat) = true) : kindN s = ((i + 1 : Nat) : Int) := by
  match i, hi with
  | 0, _ => exact kindN_1 h
  | 1, _ => exact kindN_2 (hn 0 (by omega)) h
  | 2, _ => exact kindN_3 (hn 0 (by omega)) (hn 1 (by omega)) h
theorem kind_none {s : ByteArray} (hn : ∀ j < 3, rightB s (j + 1 : Nat) = false) : kindN s = 0 := kindN_0 (hn 0 (by omega)) (hn 1 (by omega)) (hn 2 (by omega))
theorem kindN_name (s : ByteArray) : (decide (kindN s ≠ 0) && decide (kindN s = 1)) = nameB s := by
  unfold kindN
  cases nameB s <;> cases numB s <;> cases signB s <;> rfl

theorem indexS (xs : List ByteArray) (s : ByteArray) (hx : xs.length ≤ 17592186044416) : FnC Tryd.prog 106 [.sl 9 (xs.map V.str), .str s] (fun r => r = iV (idxS xs s)) := by
  refine FnC.of (fn := Tryd.f106) ⟨Tryd.func106, by kernel_rfl, rfl⟩ Tryd.ntmps106 (by simp) fun w0 S0 => ?_
  refine p_go ?_
  refine p_loopK [0, 1, 7] [] (fun st => ∃ i : Nat, (i ≤ xs.length) ∧ (∀ j (hj : j < xs.length), j < i → xs[j] ≠ s) ∧ st.env 8 = iV i) (fun st => xs.length - (st.env 8).toN) ?_ fun e ob g1 hK hO hI => ?_
  · exact ⟨0, by omega, fun j _ hj => by omega, eV_⟩
  · obtain ⟨i, hi, hn, e8⟩ := hI
    dsimp only at e8
    simp only [valsE, List.cons.injEq, and_true] at hK
    have hE := (⟨hK, e8⟩ : _ ∧ _)
    refine p_go ?_
    refine p_splitC (s := 9) (ht := fun hc9 => ?_) (hf := fun hc9 => ?_)
    · have hlt : i < xs.length := by simpa using hc9
      refine p_go fun hf => ?_
      refine p_idxMap (j := i) (ht := Tryd.underlying37) (hi := F.ti9.h) (hij := rfl) (hj := hlt) (h := ?_)
      refine p_go fun hf => ?_
      refine p_strOp (h := ?_)
      refine p_go ?_
      refine p_splitC (s := 16) (ht := fun hc16 => ?_) (hf := fun hc16 => ?_)
      · refine p_go ?_
        refine p_ret1 (hp := by rw [idxS_at hlt (by simpa [eq_comm] using hc16) fun j hj => hn j (by omega) hj])
      · refine p_go fun hf => ?_
        refine p_add (r := ((i + 1 : Nat) : Int)) (hr := (by first | omega | (simp only [decide_eq_true_eq, decide_eq_false_iff_not, Bool.or_eq_false_iff, Bool.and_eq_true, Bool.not_eq_true', Bool.not_eq_false'] at *; omega))) (hb := (by first | omega | (simp only [decide_eq_true_eq, decide_eq_false_iff_not, Bool.or_eq_false_iff, Bool.and_eq_true, Bool.not_eq_true', Bool.not_eq_false'] at *; omega))) (h := ?_)
        refine p_go ?_
        refine p_some ?_
        refine ⟨⟨(by simp (decide := true) only [valsE, evE, upd, cv, args0, argsFrom, List.length_map, ↓reduceIte, hE] <;> rfl), (by simp (decide := true) only [valsO, updO, upd, true_and, and_true, false_and, and_false, ↓reduceIte, hE] <;> rfl)⟩, ⟨i + 1, hlt, fun j hj h => (Nat.lt_succ_iff_lt_or_eq.1 h).elim (fun h2 => hn j hj h2) (fun h2 => by subst h2; simpa [eq_comm] using hc16), eV_⟩, ?_⟩
        simp (decide := true) only [upd, e8, V.toN, ↓reduceIte]; omega
    · refine p_go ?_
      refine p_ret1 (hp := by rw [idxS_none fun j hj => hn j hj (by simp at hc9; omega)])

theorem containsS (xs : List ByteArray) (s : ByteArray) (hx : xs.length ≤ 17592186044416) : FnC Tryd.prog 93 [.sl 9 (xs.map V.str), .str s] (fun r => r = .bool (xs.any fun x => decide (x = s))) := by
  refine FnC.of (fn := Tryd.f93) ⟨Tryd.func93, by kernel_rfl, rfl⟩ Tryd.ntmps93 (by simp) fun w0 S0 => ?_
  refine p_go fun hf => ?_
  refine p_call (hx := rfl) (hb := ⟨Tryd.func106, by kernel_rfl, rfl⟩) (hf := indexS xs s hx) (h := ?_)
  refine p_go ?_
  refine p_ret1 (hp := by rw [← idxS_pos])

theorem kindP (s : ByteArray) (hs : s.size ≤ 281474976710656) : FnC Tryd.prog 72 [.str s] (fun r => r = .tup [iV (kindN s), .bool (decide (kindN s ≠ 0))]) := by
  refine FnC.of (fn := Tryd.f72) ⟨Tryd.func72, by kernel_rfl, rfl⟩ Tryd.ntmps72 (by simp) fun w0 S0 => ?_
  refine p_go fun hf => ?_
  refine p_buildSlice (ht := Tryd.underlying132) (hi := F.ti27.h) (h := ?_)
  refine p_go ?_
  refine p_loopK [0, 6, 7] [] (fun st => ∃ i : Nat, (i ≤ 3) ∧ (∀ j < i, rightB s (j + 1 : Nat) = false) ∧ st.env 8 = iV i ∧ st.obj (0 + 1 + 1) 6 = .row 27 [iV 1, iV 2, iV 3]) (fun st => 3 - (st.env 8).toN) ?_ fun e ob g1 hK hO hI => ?_
  · exact ⟨0, by omega, fun j hj => by omega, eV_, oB_⟩
  · obtain ⟨i, hi, hn, e8, ob6⟩ := hI
    dsimp only at e8 ob6
    simp only [valsE, List.cons.injEq, and_true] at hK
    have hE := (⟨hK, e8, ob6⟩ : _ ∧ _ ∧ _)
    refine p_go ?_
    refine p_splitC (s := 9) (ht := fun hc9 => ?_) (hf := fun hc9 => ?_)
    · have hlt : i < 3 := by simp at hc9; omega
      have hget : [iV 1, iV 2, iV 3][((i : Nat) : Int).toNat]? = some (iV ((i + 1 : Nat) : Int)) := by match i, hlt with | 0, _ => rfl | 1, _ => rfl | 2, _ => rfl
      refine p_go fun hf => ?_
      refine p_idxRow (ht := Tryd.underlying132) (hi := F.ti27.h) (h0 := by omega) (hlt := by omega) (h := ?_)
      refine p_loadRow (ht := F.leaf27.h) (hy := hget) (hv := rfl) (h := ?_)
      refine p_go fun hf => ?_
      refine p_call (hx := rfl) (hb := ⟨Tryd.func20, by kernel_rfl, rfl⟩) (hf := rightP s _ hs) (h := ?_)
      refine p_go ?_
      refine p_splitC (s := 14) (ht := fun hc14 => ?_) (hf := fun hc14 => ?_)
      · refine p_go ?_
        refine p_r2 (hp := by rw [kind_found hlt hn hc14]; simp; omega)
      · refine p_go fun hf => ?_
        refine p_add (r := ((i + 1 : Nat) : Int)) (hr := (by first | omega | (simp only [decide_eq_true_eq, decide_eq_false_iff_not, Bool.or_eq_false_iff, Bool.and_eq_true, Bool.not_eq_true', Bool.not_eq_false'] at *; omega))) (hb := (by first | omega | (simp only [decide_eq_true_eq, decide_eq_false_iff_not, Bool.or_eq_false_iff, Bool.and_eq_true, Bool.not_eq_true', Bool.not_eq_false'] at *; omega))) (h := ?_)
        refine p_go ?_
        refine p_some ?_
        refine ⟨⟨(by simp (decide := true) only [valsE, evE, upd, cv, args0, argsFrom, List.length_map, ↓reduceIte, hE] <;> rfl), (by simp (decide := true) only [valsO, updO, upd, true_and, and_true, false_and, and_false, ↓reduceIte, hE] <;> rfl)⟩, ⟨i + 1, by omega, ext_lt hn hc14, eV_, oB_⟩, ?_⟩
        simp (decide := true) only [upd, e8, V.toN, ↓reduceIte]; omega
    · refine p_go ?_
      refine p_r2 (hp := by rw [kind_none fun j hj => hn j (by simp at hc9; omega)]; simp)

theorem ownP (s : ByteArray) : FnC Tryd.prog 73 [.str s] (fun r => r = .bool (ownB s)) := by
  refine FnC.of (fn := Tryd.f73) ⟨Tryd.func73, by kernel_rfl, rfl⟩ Tryd.ntmps73 (by simp) fun w0 S0 => ?_
  refine p_go fun hf => ?_
  refine p_buildSlice (ht := Tryd.underlying37) (hi := F.ti9.h) (h := ?_)
  refine p_go fun hf => ?_
  refine p_callRow (vs := [.sl 9 (ownL.map V.str), .str s]) (0 + 1 + 1) 3 (hb := ⟨Tryd.func93, by kernel_rfl, rfl⟩) (hvs := by simp [V.frz, ownL]) (hf := containsS ownL s (by decide)) (h := ?_)
  refine p_go ?_
  refine p_ret1 (hp := by rfl)

theorem nameP (s : ByteArray) (hs : s.size ≤ 281474976710656) : FnC Tryd.prog 54 [.str s] (fun r => r = .bool (nameS s)) := by
  refine FnC.of (fn := Tryd.f54) ⟨Tryd.func54, by kernel_rfl, rfl⟩ Tryd.ntmps54 (by simp) fun w0 S0 => ?_
  refine p_go fun hf => ?_
  refine p_call (hx := rfl) (hb := ⟨Tryd.func72, by kernel_rfl, rfl⟩) (hf := kindP s hs) (h := ?_)
  refine p_go fun hf => ?_
  refine p_split (s := 15) (ht := fun hb15 => ?_) (hf := fun hb15 => ?_)
  · -- slot 15 is true
    refine p_go fun hf => ?_
    refine p_call (hx := rfl) (hb := ⟨Tryd.func73, by kernel_rfl, rfl⟩) (hf := ownP s) (h := ?_)
    refine p_go ?_
    refine p_ret1 (hp := by rw [nameS, ← kindN_name, hb15]; rfl)
  · -- slot 15 is false
    refine p_go ?_
    refine p_ret1 (hp := by rw [nameS, ← kindN_name, hb15]; rfl)

theorem letterR (c : Int) : FnC Tryd.prog 56 [.int .u8 c] (fun r => r = .bool (letB c)) := by
  refine FnC.of (fn := Tryd.f56) ⟨Tryd.func56, by kernel_rfl, rfl⟩ Tryd.ntmps56 (by simp) fun w0 S0 => ?_
  refine p_go ?_
  refine p_ret1 (hp := by rfl)

theorem digitR (c : Int) : FnC Tryd.prog 57 [.int .u8 c] (fun r => r = .bool (digB c)) := by
  refine FnC.of (fn := Tryd.f57) ⟨Tryd.func57, by kernel_rfl, rfl⟩ Tryd.ntmps57 (by simp) fun w0 S0 => ?_
  refine p_go ?_
  refine p_ret1 (hp := by rfl)

theorem nameR6 (s : ByteArray) : FnC Tryd.prog 59 [.str s] (fun r => r = .bool (nameB s)) := by
  refine FnC.of (fn := Tryd.f59) ⟨Tryd.func59, by kernel_rfl, rfl⟩ Tryd.ntmps59 (by simp) fun w0 S0 => ?_
  refine p_go fun hf => ?_
  refine p_strOp (h := ?_)
  refine p_go fun hf => ?_
  refine p_split (s := 11) (ht := fun hb11 => ?_) (hf := fun hb11 => ?_)
  · -- slot 11 is true
    refine p_go ?_
    refine p_ret1 (hp := by unfold nameB; rw [hb11]; rfl)
  · -- slot 11 is false
    refine p_go fun hf => ?_
    refine p_idxB (0) (hj := size_pos (by intro h; subst h; simp at hb11)) (h := ?_)
    refine p_go fun hf => ?_
    refine p_call (hx := rfl) (hb := ⟨Tryd.func56, by kernel_rfl, rfl⟩) (hf := letterR _) (h := ?_)
    refine p_go ?_
    refine p_splitC (s := 16) (ht := fun hc16 => ?_) (hf := fun hc16 => ?_)
    · refine p_go ?_
      refine p_ret1 (hp := by unfold nameB; rw [hb11, hc16]; rfl)
    · refine p_go ?_
      refine p_loopK [0] [] (fun st => ∃ i : Nat, (1 ≤ i) ∧ (i ≤ s.size) ∧ (∀ j < i, alnB (bt s j) = true) ∧ st.env 3 = iV i) (fun st => s.size - (st.env 3).toN) ?_ fun e ob g1 hK hO hI => ?_
      · exact ⟨1, by omega, size_pos (by intro h; subst h; simp at hb11), ext_lt (by omega) (by rw [alnB, flipF hc16, Bool.true_or]), eV_⟩
      · obtain ⟨i, h1, hi, hn, e3⟩ := hI
        dsimp only at e3
        simp only [valsE, List.cons.injEq, and_true] at hK
        have hE := (⟨hK, e3⟩ : _ ∧ _)
        refine p_go ?_
        refine p_splitC (s := 20) (ht := fun hc20 => ?_) (hf := fun hc20 => ?_)
        · have hlt : i < s.size := by simpa using hc20
          refine p_go fun hf => ?_
          refine p_idxB (i) (hj := hlt) (h := ?_)
          refine p_call (hx := rfl) (hb := ⟨Tryd.func56, by kernel_rfl, rfl⟩) (hf := letterR _) (h := ?_)
          refine p_go fun hf => ?_
          refine p_split (s := 28) (ht := fun hb28 => ?_) (hf := fun hb28 => ?_)
          · -- slot 28 is true
            refine p_go fun hf => ?_
            refine p_idxB (i) (hj := hlt) (h := ?_)
            refine p_go fun hf => ?_
            refine p_call (hx := rfl) (hb := ⟨Tryd.func57, by kernel_rfl, rfl⟩) (hf := digitR _) (h := ?_)
            refine p_go ?_
            refine p_splitC (s := 34) (ht := fun hc34 => ?_) (hf := fun hc34 => ?_)
            · refine p_go ?_
              refine p_ret1 (hp := by unfold nameB; rw [hb11, hc16]; congr 1; symm; simp only [Bool.or_false, Bool.not_false, Bool.true_and, decide_eq_false_iff_not]; intro h; have h1 := h i hlt; simp only [alnB, Bool.or_eq_true] at h1; simp_all)
            · refine p_go fun hf => ?_
              refine p_add (r := ((i + 1 : Nat) : Int)) (hr := (by first | omega | (simp only [decide_eq_true_eq, decide_eq_false_iff_not, Bool.or_eq_false_iff, Bool.and_eq_true, Bool.not_eq_true', Bool.not_eq_false'] at *; omega))) (hb := (by first | omega | (simp only [decide_eq_true_eq, decide_eq_false_iff_not, Bool.or_eq_false_iff, Bool.and_eq_true, Bool.not_eq_true', Bool.not_eq_false'] at *; omega))) (h := ?_)
              refine p_go ?_
              refine p_some ?_
              refine ⟨⟨(by simp (decide := true) only [valsE, evE, upd, cv, args0, argsFrom, List.length_map, ↓reduceIte, hE] <;> rfl), (by simp (decide := true) only [valsO, updO, upd, true_and, and_true, false_and, and_false, ↓reduceIte, hE] <;> rfl)⟩, ⟨i + 1, by omega, hlt, ext_lt hn (by rw [alnB, flipF hc34, Bool.or_true]), eV_⟩, ?_⟩
              simp (decide := true) only [upd, e3, V.toN, ↓reduceIte]; omega
          · -- slot 28 is false
            refine p_go fun hf => ?_
            refine p_add (r := ((i + 1 : Nat) : Int)) (hr := (by first | omega | (simp only [decide_eq_true_eq, decide_eq_false_iff_not, Bool.or_eq_false_iff, Bool.and_eq_true, Bool.not_eq_true', Bool.not_eq_false'] at *; omega))) (hb := (by first | omega | (simp only [decide_eq_true_eq, decide_eq_false_iff_not, Bool.or_eq_false_iff, Bool.and_eq_true, Bool.not_eq_true', Bool.not_eq_false'] at *; omega))) (h := ?_)
            refine p_go ?_
            refine p_some ?_
            refine ⟨⟨(by simp (decide := true) only [valsE, evE, upd, cv, args0, argsFrom, List.length_map, ↓reduceIte, hE] <;> rfl), (by simp (decide := true) only [valsO, updO, upd, true_and, and_true, false_and, and_false, ↓reduceIte, hE] <;> rfl)⟩, ⟨i + 1, by omega, hlt, ext_lt hn (by rw [alnB, flipF hb28, Bool.true_or]), eV_⟩, ?_⟩
            simp (decide := true) only [upd, e3, V.toN, ↓reduceIte]; omega
        · refine p_go ?_
          refine p_ret1 (hp := by unfold nameB; rw [hb11, hc16]; congr 1; symm; simp only [Bool.or_false, Bool.not_false, Bool.true_and, decide_eq_true_eq]; intro j hj; exact hn j (by simp at hc20; omega))

end Go.Proofs.YtjjpmbaddpiamaaDoor
