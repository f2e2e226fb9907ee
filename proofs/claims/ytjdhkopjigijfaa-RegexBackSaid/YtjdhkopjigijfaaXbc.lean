import Derived.Test.YtjdhkopjigijfaaXa
/-
  Which expressions may be: the program's and the reference's functions.
-/
set_option linter.unusedSimpArgs false
set_option linter.unusedVariables false
set_option maxHeartbeats 4000000
namespace Go.Proofs.Ytjdhkopjigijfaa
open Go.RowKit
attribute [local irreducible] Wk Tr
mutual
def meas : Rx → Nat → Int × Bool
  | .mk _ _ ks, d => if 50 < d then (1, false) else measL ks d 1
def measL : List Rx → Nat → Int → Int × Bool
  | [], _, n => (n, true)
  | k :: ks, d, n => if (!(meas k (d + 1)).2 || decide (500 < n + (meas k (d + 1)).1)) = true then (n + (meas k (d + 1)).1, false) else measL ks d (n + (meas k (d + 1)).1)
end
mutual
def cnt : Rx → Int
  | .mk _ _ ks => cntL ks 1
def cntL : List Rx → Int → Int
  | [], n => n
  | k :: ks, n => if n ≤ 500 then cntL ks (IntKind.i64.wrap (n + cnt k)) else n
end
mutual
def dpB : Rx → Nat → Bool
  | .mk _ _ ks, 0 => false
  | .mk _ _ ks, m + 1 => dpL ks m
def dpL : List Rx → Nat → Bool
  | [], _ => true
  | k :: ks, m => dpB k m && dpL ks m
end
theorem meas_eq (r : Rx) (d : Nat) : meas r d = if 50 < d then (1, false) else measL r.kids d 1 := by cases r; rw [meas]; rfl
theorem cnt_eq (r : Rx) : cnt r = cntL r.kids 1 := by cases r; rw [cnt]; rfl
theorem dpB_zero (r : Rx) : dpB r 0 = false := by cases r; rw [dpB]
theorem dpL_eq : ∀ (l : List Rx) (m : Nat), dpL l m = l.all fun k => dpB k m
  | [], _ => rfl
  | k :: l, m => by rw [dpL, dpL_eq l, List.all_cons]
theorem dpB_eq (r : Rx) (m : Nat) : dpB r (m + 1) = r.kids.all fun k => dpB k m := by cases r; rw [dpB, dpL_eq]; rfl
def nodeB (r : Rx) : Bool :=
  if r.op = 1 then nameB r.name && decide ((r.kids.length : Int) = 0)
  else if r.op = 2 ∨ r.op = 3 ∨ r.op = 4 then decide (r.name = ⟨#[]⟩) && decide ((r.kids.length : Int) = 0)
  else if r.op = 7 ∨ r.op = 8 then decide (r.name = ⟨#[]⟩) && decide ((r.kids.length : Int) = 1)
  else if r.op = 5 ∨ r.op = 6 then (r.kids.all fun k => !decide (k.op = r.op)) && (decide (r.name = ⟨#[]⟩) && decide (2 ≤ (r.kids.length : Int)))
  else false
mutual
def rightB : Rx → Bool
  | .mk o n ks => rightsB ks && nodeB (.mk o n ks)
def rightsB : List Rx → Bool
  | [] => true
  | k :: ks => rightB k && rightsB ks
end
theorem rightsB_eq : ∀ l : List Rx, rightsB l = l.all rightB
  | [] => rfl
  | k :: l => by rw [rightsB, rightsB_eq l, List.all_cons]
theorem rightB_eq (r : Rx) : rightB r = (r.kids.all rightB && nodeB r) := by cases r; rw [rightB, rightsB_eq]; rfl
theorem cntL_stop {l : List Rx} {n : Int} (h : l = [] ∨ 500 < n) : cntL l n = n := by
  cases l with
  | nil => rw [cntL]
  | cons a l => rw [cntL, if_neg (by rcases h with h | h <;> simp_all)]
theorem drop_at {l : List Rx} {i : Nat} (h : i < l.length) : l.drop i = l[i] :: l.drop (i + 1) := List.drop_eq_getElem_cons h
theorem drop_end {l : List Rx} {i : Nat} (h : i ≤ l.length) (h2 : ¬ i < l.length) : l.drop i = [] := List.drop_of_length_le (by omega)
/-- measure's number is small. -/
theorem meas_le (r : Rx) : ∀ d : Nat, 1 ≤ (meas r d).1 ∧ (meas r d).1 ≤ 500 * (51 - d : Nat) + 1 ∧ ((meas r d).2 = true → (meas r d).1 ≤ 500) := by
  induction r using Rx.ind with
  | _ r ih =>
  intro d
  rw [meas_eq]
  split
  · simp; omega
  · rename_i hd
    have key : ∀ (l : List Rx) (n : Int), (∀ k ∈ l, ∀ d, 1 ≤ (meas k d).1 ∧ (meas k d).1 ≤ 500 * (51 - d : Nat) + 1 ∧ ((meas k d).2 = true → (meas k d).1 ≤ 500)) → 1 ≤ n → n ≤ 500 → 1 ≤ (measL l d n).1 ∧ (measL l d n).1 ≤ 500 * (51 - d : Nat) + 1 ∧ ((measL l d n).2 = true → (measL l d n).1 ≤ 500) := by
      intro l
      induction l with
      | nil => intro n _ h1 h2; rw [measL]; simp; omega
      | cons k l ihl =>
        intro n hk h1 h2
        have h3 := hk k (List.mem_cons_self ..) (d + 1)
        rw [measL]
        split
        · simp; omega
        · rename_i hc
          simp only [Bool.or_eq_true, Bool.not_eq_true', decide_eq_true_eq, not_or, Bool.not_eq_false] at hc
          exact ihl _ (fun k' hk' => hk k' (List.mem_cons_of_mem _ hk')) (by omega) (by omega)
    exact key _ 1 ih (by decide) (by decide)

theorem measure_gen (x : Rx) (d : Nat) (hd : d ≤ 51) (hs : x.kids.length ≤ 17592186044416) (hrec : ∀ k ∈ x.kids, ∀ d : Nat, d ≤ 51 → FnC Try.prog 48 [rxA k, iV d] (fun v => v = .tup [iV (meas k d).1, .bool (meas k d).2])) : FnC Try.prog 48 [rxA x, iV d] (fun r => r = .tup [iV (meas x d).1, .bool (meas x d).2]) := by
  refine FnC.of (fn := Try.f48) ⟨Try.func48, by kernel_rfl, rfl⟩ Try.ntmps48 (by simp) fun w0 S0 => ?_
  refine p_go ?_
  refine p_splitC (s := 12) (ht := fun hc12 => ?_) (hf := fun hc12 => ?_)
  · refine p_go ?_
    refine p_r2 (hp := by rw [meas_eq x, if_pos (by simp at hc12; omega)])
  · have hd50 : ¬ 50 < d := by simp at hc12; omega
    refine p_go ?_
    refine p_loopK [1, 14, 15] [] (fun st => ∃ (i : Nat) (n : Int), (i ≤ x.kids.length) ∧ (1 ≤ n) ∧ (n ≤ 500) ∧ (measL (x.kids.drop i) d n = measL x.kids d 1) ∧ st.env 6 = iV n ∧ st.env 16 = iV i) (fun st => x.kids.length - (st.env 16).toN) ?_ fun e ob g1 hK hO hI => ?_
    · exact ⟨0, 1, by omega, by omega, by omega, rfl, eV_, eV_⟩
    · obtain ⟨i, n, hi, hn1, hn2, hv, e6, e16⟩ := hI
      dsimp only at e6 e16
      simp only [valsE, List.cons.injEq, and_true] at hK
      have hE := (⟨hK, e6, e16⟩ : _ ∧ _ ∧ _)
      refine p_go ?_
      refine p_splitC (s := 17) (ht := fun hc17 => ?_) (hf := fun hc17 => ?_)
      · have hlt : i < x.kids.length := by simpa using hc17
        have hm := meas_le x.kids[i] (d + 1)
        refine p_go fun hf => ?_
        refine p_idxMap (j := i) (ht := Try.underlying23) (hi := F.ti25.h) (hij := rfl) (hj := hlt) (h := ?_)
        rw [rxV_cells]
        refine p_go fun hf => ?_
        refine p_add (r := ((d + 1 : Nat) : Int)) (hr := (by first | omega | (simp only [decide_eq_true_eq, decide_eq_false_iff_not, Bool.or_eq_false_iff, Bool.and_eq_true, Bool.not_eq_true', Bool.not_eq_false'] at *; omega))) (hb := (by first | omega | (simp only [decide_eq_true_eq, decide_eq_false_iff_not, Bool.or_eq_false_iff, Bool.and_eq_true, Bool.not_eq_true', Bool.not_eq_false'] at *; omega))) (h := ?_)
        refine p_call (hx := rfl) (hb := ⟨Try.func48, by kernel_rfl, rfl⟩) (hf := hrec x.kids[i] (List.getElem_mem hlt) (d + 1) (by omega)) (h := ?_)
        refine p_go fun hf => ?_
        refine p_add (r := n + (meas x.kids[i] (d + 1)).1) (hr := (by first | omega | (simp only [decide_eq_true_eq, decide_eq_false_iff_not, Bool.or_eq_false_iff, Bool.and_eq_true, Bool.not_eq_true', Bool.not_eq_false'] at *; omega))) (hb := (by first | omega | (simp only [decide_eq_true_eq, decide_eq_false_iff_not, Bool.or_eq_false_iff, Bool.and_eq_true, Bool.not_eq_true', Bool.not_eq_false'] at *; omega))) (h := ?_)
        refine p_go ?_
        refine p_splitC (s := 35) (ht := fun hc35 => ?_) (hf := fun hc35 => ?_)
        · refine p_go ?_
          refine p_r2 (hp := by rw [meas_eq x, if_neg hd50, ← hv, drop_at hlt, measL, if_pos hc35])
        · refine p_go fun hf => ?_
          refine p_add (r := ((i + 1 : Nat) : Int)) (hr := (by first | omega | (simp only [decide_eq_true_eq, decide_eq_false_iff_not, Bool.or_eq_false_iff, Bool.and_eq_true, Bool.not_eq_true', Bool.not_eq_false'] at *; omega))) (hb := (by first | omega | (simp only [decide_eq_true_eq, decide_eq_false_iff_not, Bool.or_eq_false_iff, Bool.and_eq_true, Bool.not_eq_true', Bool.not_eq_false'] at *; omega))) (h := ?_)
          refine p_go ?_
          refine p_some ?_
          simp only [Bool.or_eq_false_iff, Bool.not_eq_false', decide_eq_false_iff_not] at hc35
          rw [drop_at hlt, measL, if_neg (by simp only [Bool.or_eq_true, Bool.not_eq_true', decide_eq_true_eq, hc35.1]; simp; omega)] at hv
          refine ⟨⟨(by simp (decide := true) only [valsE, evE, upd, cv, args0, argsFrom, List.length_map, ↓reduceIte, hE] <;> rfl), (by simp (decide := true) only [valsO, updO, upd, true_and, and_true, false_and, and_false, ↓reduceIte, hE] <;> rfl)⟩, ⟨i + 1, n + (meas x.kids[i] (d + 1)).1, hlt, by omega, by omega, hv, eV_, eV_⟩, ?_⟩
          simp (decide := true) only [upd, e16, V.toN, ↓reduceIte]; omega
      · have hge : ¬ i < x.kids.length := by simpa using hc17
        refine p_go ?_
        refine p_r2 (hp := by rw [meas_eq x, if_neg hd50, ← hv, drop_end hi hge, measL])

theorem measureP (r : Rx) (hs : r.Sm) : ∀ d : Nat, d ≤ 51 → FnC Try.prog 48 [rxA r, iV d] (fun v => v = .tup [iV (meas r d).1, .bool (meas r d).2]) := by
  induction r using Rx.ind with
  | _ r ih => exact fun d hd => measure_gen r d hd hs.len fun k hk => ih k hk (hs.kids k hk)

theorem count_gen (x : Rx) (hs : x.kids.length ≤ 17592186044416) (hrec : ∀ k ∈ x.kids, FnC Try.prog 41 [rxA k] (fun v => v = iV (cnt k))) : FnC Try.prog 41 [rxA x] (fun r => r = iV (cnt x)) := by
  refine FnC.of (fn := Try.f41) ⟨Try.func41, by kernel_rfl, rfl⟩ Try.ntmps41 (by simp) fun w0 S0 => ?_
  refine p_go ?_
  refine p_loopK [1] [(0 + 1, 1)] (fun st => ∃ (i : Nat) (n : Int), (i ≤ x.kids.length) ∧ (cntL (x.kids.drop i) n = cntL x.kids 1) ∧ st.env 3 = iV n ∧ st.env 4 = iV i) (fun st => x.kids.length - (st.env 4).toN) ?_ fun e ob g1 hK hO hI => ?_
  · exact ⟨0, 1, by omega, rfl, eV_, eV_⟩
  · obtain ⟨i, n, hi, hv, e3, e4⟩ := hI
    dsimp only at e3 e4
    simp only [valsE, List.cons.injEq, and_true] at hK
    simp only [valsO, List.cons.injEq, and_true] at hO
    have hE := (⟨hK, hO, e3, e4⟩ : _ ∧ _ ∧ _ ∧ _)
    refine p_go ?_
    refine p_splitC (s := 13) (ht := fun hc13 => ?_) (hf := fun hc13 => ?_)
    · have hlt : i < x.kids.length := by simp at hc13; omega
      have hn5 : n ≤ 500 := by simp at hc13; omega
      refine p_go fun hf => ?_
      refine p_idxMap (j := i) (ht := Try.underlying23) (hi := F.ti25.h) (hij := rfl) (hj := hlt) (h := ?_)
      rw [rxV_cells]
      refine p_go fun hf => ?_
      refine p_call (hx := rfl) (hb := ⟨Try.func41, by kernel_rfl, rfl⟩) (hf := hrec x.kids[i] (List.getElem_mem hlt)) (h := ?_)
      refine p_ari (h := ?_)
      refine p_go fun hf => ?_
      refine p_add (r := ((i + 1 : Nat) : Int)) (hr := (by first | omega | (simp only [decide_eq_true_eq, decide_eq_false_iff_not, Bool.or_eq_false_iff, Bool.and_eq_true, Bool.not_eq_true', Bool.not_eq_false'] at *; omega))) (hb := (by first | omega | (simp only [decide_eq_true_eq, decide_eq_false_iff_not, Bool.or_eq_false_iff, Bool.and_eq_true, Bool.not_eq_true', Bool.not_eq_false'] at *; omega))) (h := ?_)
      refine p_go ?_
      refine p_some ?_
      rw [drop_at hlt, cntL, if_pos hn5] at hv
      refine ⟨⟨(by simp (decide := true) only [valsE, evE, upd, cv, args0, argsFrom, List.length_map, ↓reduceIte, hE] <;> rfl), (by simp (decide := true) only [valsO, updO, upd, true_and, and_true, false_and, and_false, ↓reduceIte, hE] <;> rfl)⟩, ⟨i + 1, IntKind.i64.wrap (n + cnt x.kids[i]), hlt, hv, eV_, eV_⟩, ?_⟩
      simp (decide := true) only [upd, e4, V.toN, ↓reduceIte]; omega
    · have hc : ¬ i < x.kids.length ∨ 500 < n := by by_cases h : i < x.kids.length <;> simp [h] at hc13 <;> omega
      refine p_go ?_
      refine p_ret1 (hp := by rw [cnt_eq, ← hv, cntL_stop (hc.imp (fun h => drop_end hi h) id)])

theorem countR (r : Rx) (hs : r.Sm) : FnC Try.prog 41 [rxA r] (fun v => v = iV (cnt r)) := by
  induction r using Rx.ind with
  | _ r ih => exact count_gen r hs.len fun k hk => ih k hk (hs.kids k hk)

theorem ext_at {l : List Rx} {p : Rx → Bool} {i : Nat} {hlt : i < l.length} (h : ∀ j (hj : j < l.length), j < i → p l[j] = true) (hi : p l[i] = true) : ∀ j (hj : j < l.length), j < i + 1 → p l[j] = true := fun j hj h1 => by
  rcases Nat.lt_succ_iff_lt_or_eq.1 h1 with h2 | rfl
  · exact h j hj h2
  · exact hi
theorem all_false {l : List Rx} {p : Rx → Bool} {i : Nat} (hlt : i < l.length) (h : p l[i] = false) : l.all p = false := by
  rw [← Bool.not_eq_true, List.all_eq_true]
  intro h1; rw [h1 _ (List.getElem_mem hlt)] at h; cases h
theorem all_true {l : List Rx} {p : Rx → Bool} (h : ∀ j (hj : j < l.length), p l[j] = true) : l.all p = true := by
  rw [List.all_eq_true]
  intro x hx
  obtain ⟨j, hj, rfl⟩ := List.mem_iff_getElem.1 hx
  exact h j hj

theorem deep_gen (x : Rx) (m : Nat) (hm : m ≤ 50) (hs : x.kids.length ≤ 17592186044416) (hrec : ∀ k ∈ x.kids, ∀ m : Nat, m ≤ 50 → FnC Try.prog 42 [rxA k, iV m] (fun v => v = .bool (dpB k m))) : FnC Try.prog 42 [rxA x, iV m] (fun r => r = .bool (dpB x m)) := by
  refine FnC.of (fn := Try.f42) ⟨Try.func42, by kernel_rfl, rfl⟩ Try.ntmps42 (by simp) fun w0 S0 => ?_
  refine p_go ?_
  refine p_splitC (s := 7) (ht := fun hc7 => ?_) (hf := fun hc7 => ?_)
  · refine p_go ?_
    refine p_ret1 (hp := by rw [show m = 0 from by simpa using hc7, dpB_zero])
  · have hm0 : m ≠ 0 := by simp at hc7; omega
    refine p_go ?_
    refine p_loopK [1, 2] [(0 + 1, 2)] (fun st => ∃ i : Nat, (i ≤ x.kids.length) ∧ (∀ j (hj : j < x.kids.length), j < i → dpB x.kids[j] (m - 1) = true) ∧ st.env 5 = iV i) (fun st => x.kids.length - (st.env 5).toN) ?_ fun e ob g1 hK hO hI => ?_
    · exact ⟨0, by omega, fun _ _ h => by omega, eV_⟩
    · obtain ⟨i, hi, hn, e5⟩ := hI
      dsimp only at e5
      simp only [valsE, List.cons.injEq, and_true] at hK
      simp only [valsO, List.cons.injEq, and_true] at hO
      have hE := (⟨hK, hO, e5⟩ : _ ∧ _ ∧ _)
      refine p_go ?_
      refine p_splitC (s := 12) (ht := fun hc12 => ?_) (hf := fun hc12 => ?_)
      · have hlt : i < x.kids.length := by simpa using hc12
        refine p_go fun hf => ?_
        refine p_idxMap (j := i) (ht := Try.underlying23) (hi := F.ti25.h) (hij := rfl) (hj := hlt) (h := ?_)
        rw [rxV_cells]
        refine p_go fun hf => ?_
        refine p_sub (r := ((m - 1 : Nat) : Int)) (hr := by omega) (hb := by omega) (h := ?_)
        refine p_call (hx := rfl) (hb := ⟨Try.func42, by kernel_rfl, rfl⟩) (hf := hrec x.kids[i] (List.getElem_mem hlt) (m - 1) (by omega)) (h := ?_)
        refine p_go ?_
        refine p_splitC (s := 23) (ht := fun hc23 => ?_) (hf := fun hc23 => ?_)
        · refine p_go ?_
          refine p_ret1 (hp := by rw [show m = (m - 1) + 1 from by omega, dpB_eq]; symm; congr 1; exact all_false hlt (flipT hc23))
        · refine p_go fun hf => ?_
          refine p_add (r := ((i + 1 : Nat) : Int)) (hr := (by first | omega | (simp only [decide_eq_true_eq, decide_eq_false_iff_not, Bool.or_eq_false_iff, Bool.and_eq_true, Bool.not_eq_true', Bool.not_eq_false'] at *; omega))) (hb := (by first | omega | (simp only [decide_eq_true_eq, decide_eq_false_iff_not, Bool.or_eq_false_iff, Bool.and_eq_true, Bool.not_eq_true', Bool.not_eq_false'] at *; omega))) (h := ?_)
          refine p_go ?_
          refine p_some ?_
          refine ⟨⟨(by simp (decide := true) only [valsE, evE, upd, cv, args0, argsFrom, List.length_map, ↓reduceIte, hE] <;> rfl), (by simp (decide := true) only [valsO, updO, upd, true_and, and_true, false_and, and_false, ↓reduceIte, hE] <;> rfl)⟩, ⟨i + 1, hlt, ext_at (p := fun k => dpB k (m - 1)) hn (flipF hc23), eV_⟩, ?_⟩
          simp (decide := true) only [upd, e5, V.toN, ↓reduceIte]; omega
      · have hge : ¬ i < x.kids.length := by simpa using hc12
        refine p_go ?_
        refine p_ret1 (hp := by rw [show m = (m - 1) + 1 from by omega, dpB_eq]; symm; congr 1; exact all_true fun j hj => hn j hj (by omega))

theorem deepR (r : Rx) (hs : r.Sm) : ∀ m : Nat, m ≤ 50 → FnC Try.prog 42 [rxA r, iV m] (fun v => v = .bool (dpB r m)) := by
  induction r using Rx.ind with
  | _ r ih => exact fun m hm => deep_gen r m hm hs.len fun k hk => ih k hk (hs.kids k hk)

def idx {α : Type} (p : α → Bool) (l : List α) : Int := if l.any p then (l.findIdx p : Nat) else -1
theorem idx_hit {α : Type} {p : α → Bool} {l : List α} {i : Nat} (hi : i < l.length) (hp : p l[i] = true) (h : ∀ j (hj : j < l.length), j < i → p l[j] = false) : idx p l = i := by
  have h1 : l.any p = true := List.any_eq_true.2 ⟨_, List.getElem_mem hi, hp⟩
  rw [idx, if_pos h1]
  congr 1
  refine (List.findIdx_eq hi).2 ⟨hp, fun j hj => h j (by omega) hj⟩
theorem idx_miss {α : Type} {p : α → Bool} {l : List α} (h : ∀ j (hj : j < l.length), p l[j] = false) : idx p l = -1 := by
  have h1 : ¬ l.any p = true := fun h1 => by
    obtain ⟨x, hx, hp⟩ := List.any_eq_true.1 h1
    obtain ⟨j, hj, rfl⟩ := List.mem_iff_getElem.1 hx
    rw [h j hj] at hp; cases hp
  rw [idx, if_neg h1]
theorem idx_nonneg {α : Type} (p : α → Bool) (l : List α) : decide (0 ≤ idx p l) = l.any p := by
  unfold idx; split <;> simp_all
theorem ext_no {α : Type} {l : List α} {p : α → Bool} {i : Nat} {hlt : i < l.length} (hi : p l[i] = false) (h : ∀ j (hj : j < l.length), j < i → p l[j] = false) : ∀ j (hj : j < l.length), j < i + 1 → p l[j] = false := fun j hj h1 => by
  rcases Nat.lt_succ_iff_lt_or_eq.1 h1 with h2 | rfl
  · exact h j hj h2
  · exact hi

theorem indexFunc_rx (p : Rx → Bool) (l : List Rx) (hl : l.length ≤ 17592186044416) (fid : FuncId) (fn : Func) (code : Code) (cap : List V) (hcap : V.outs cap = true) (hb : HasBody Try.prog fid fn code) (hp : ∀ x ∈ l, FnC Try.prog fid (rxA x :: cap) (fun r => r = .bool (p x))) : FnC Try.prog 101 [.sl 25 (l.map rxV), .fn fid cap] (fun r => r = iV (idx p l)) := by
  refine FnC.of (fn := Try.f101) ⟨Try.func101, by kernel_rfl, rfl⟩ Try.ntmps101 (by simp) fun w0 S0 => ?_
  refine p_go ?_
  refine p_loopK [0, 1, 7] [] (fun st => ∃ i : Nat, (i ≤ l.length) ∧ (∀ j (hj : j < l.length), j < i → p l[j] = false) ∧ st.env 8 = iV i) (fun st => l.length - (st.env 8).toN) ?_ fun e ob g1 hK hO hI => ?_
  · exact ⟨0, by omega, fun _ _ h => by omega, eV_⟩
  · obtain ⟨i, hi, hn, e8⟩ := hI
    dsimp only at e8
    simp only [valsE, List.cons.injEq, and_true] at hK
    have hE := (⟨hK, e8⟩ : _ ∧ _)
    refine p_go ?_
    refine p_splitC (s := 9) (ht := fun hc9 => ?_) (hf := fun hc9 => ?_)
    · have hlt : i < l.length := by simpa using hc9
      refine p_go fun hf => ?_
      refine p_idxMap (j := i) (ht := Try.underlying23) (hi := F.ti25.h) (hij := rfl) (hj := hlt) (h := ?_)
      rw [rxV_cells]
      refine p_go fun hf => ?_
      refine p_call (hb := hb) (hro := by simp [V.outs, V.out, hcap]) (hf := hp l[i] (List.getElem_mem hlt)) (h := ?_)
      refine p_go ?_
      refine p_splitC (s := 16) (ht := fun hc16 => ?_) (hf := fun hc16 => ?_)
      · refine p_go ?_
        refine p_ret1 (hp := by rw [idx_hit hlt hc16 hn])
      · refine p_go fun hf => ?_
        refine p_add (r := ((i + 1 : Nat) : Int)) (hr := (by first | omega | (simp only [decide_eq_true_eq, decide_eq_false_iff_not, Bool.or_eq_false_iff, Bool.and_eq_true, Bool.not_eq_true', Bool.not_eq_false'] at *; omega))) (hb := (by first | omega | (simp only [decide_eq_true_eq, decide_eq_false_iff_not, Bool.or_eq_false_iff, Bool.and_eq_true, Bool.not_eq_true', Bool.not_eq_false'] at *; omega))) (h := ?_)
        refine p_go ?_
        refine p_some ?_
        refine ⟨⟨(by simp (decide := true) only [valsE, evE, upd, cv, args0, argsFrom, List.length_map, ↓reduceIte, hE] <;> rfl), (by simp (decide := true) only [valsO, updO, upd, true_and, and_true, false_and, and_false, ↓reduceIte, hE] <;> rfl)⟩, ⟨i + 1, hlt, ext_no (by simpa using hc16) hn, eV_⟩, ?_⟩
        simp (decide := true) only [upd, e8, V.toN, ↓reduceIte]; omega
    · have hge : ¬ i < l.length := by simpa using hc9
      refine p_go ?_
      refine p_ret1 (hp := by rw [idx_miss fun j hj => hn j hj (by omega)])

theorem containsFunc_rx (p : Rx → Bool) (l : List Rx) (hl : l.length ≤ 17592186044416) (fid : FuncId) (fn : Func) (code : Code) (cap : List V) (hcap : V.outs cap = true) (hb : HasBody Try.prog fid fn code) (hp : ∀ x ∈ l, FnC Try.prog fid (rxA x :: cap) (fun r => r = .bool (p x))) : FnC Try.prog 75 [.sl 25 (l.map rxV), .fn fid cap] (fun r => r = .bool (l.any p)) := by
  refine FnC.of (fn := Try.f75) ⟨Try.func75, by kernel_rfl, rfl⟩ Try.ntmps75 (by simp) fun w0 S0 => ?_
  refine p_go fun hf => ?_
  refine p_call (vs := [.sl 25 (l.map rxV), .fn fid cap]) (hx := rfl) (hb := ⟨Try.func101, by kernel_rfl, rfl⟩) (hro := by simp [V.outs, V.out, hcap]) (hf := indexFunc_rx p l hl fid fn code cap hcap hb hp) (h := ?_)
  refine p_go ?_
  refine p_ret1 (hp := by rw [idx_nonneg])

theorem right1 (x k : Rx) (hk : FnC Try.prog 49 [rxA k] (fun r => r = .bool (rightB k))) : FnC Try.prog 76 [rxA k, .ref (rxL x)] (fun r => r = .bool (decide (k.op = x.op) || !rightB k)) := by
  refine FnC.of (fn := Try.f76) ⟨Try.func76, by kernel_rfl, rfl⟩ Try.ntmps76 (by simp) fun w0 S0 => ?_
  refine p_go fun hf => ?_
  refine p_split (s := 9) (ht := fun hb9 => ?_) (hf := fun hb9 => ?_)
  · -- slot 9 is true
    refine p_go ?_
    refine p_ret1 (hp := by rw [hb9]; rfl)
  · -- slot 9 is false
    refine p_go fun hf => ?_
    refine p_call (hx := rfl) (hb := ⟨Try.func49, by kernel_rfl, rfl⟩) (hf := hk) (h := ?_)
    refine p_go ?_
    refine p_ret1 (hp := by rw [hb9]; rfl)

theorem len0 {α : Type} {l : List α} : (decide ((l.length : Int) = 0) = true) → l = [] := fun h => List.length_eq_zero_iff.1 (by simpa using h)
theorem and_leaf {α : Type} {l : List α} {p : α → Bool} {b : Bool} : (l.all p && (b && decide ((l.length : Int) = 0))) = (b && decide ((l.length : Int) = 0)) := by
  cases h : decide ((l.length : Int) = 0) with
  | false => simp
  | true => rw [len0 h]; simp
theorem r_leaf1 {x : Rx} (h : x.op = 1) : rightB x = (nameB x.name && decide ((x.kids.length : Int) = 0)) := by
  rw [rightB_eq, nodeB, if_pos h, and_leaf]
theorem r_leaf {x : Rx} (h : x.op = 2 ∨ x.op = 3 ∨ x.op = 4) : rightB x = (decide (x.name = ⟨#[]⟩) && decide ((x.kids.length : Int) = 0)) := by
  rw [rightB_eq, nodeB, if_neg (by omega), if_pos h, and_leaf]
theorem r_node1 {x : Rx} (h : x.op = 7 ∨ x.op = 8) : rightB x = (x.kids.all rightB && (decide (x.name = ⟨#[]⟩) && decide ((x.kids.length : Int) = 1))) := by
  rw [rightB_eq, nodeB, if_neg (by omega), if_neg (by omega), if_pos h]
theorem r_one {x : Rx} {hlt : 0 < x.kids.length} (h : x.op = 7 ∨ x.op = 8) (hb : (decide (x.name = ⟨#[]⟩) && decide ((x.kids.length : Int) = 1)) = true) : rightB x = rightB x.kids[0] := by
  rw [r_node1 h, hb, Bool.and_true]
  have h1 : x.kids.length = 1 := by simp at hb; omega
  obtain ⟨a, h2⟩ := List.length_eq_one_iff.1 h1
  simp [h2]
theorem r_oneF {x : Rx} (h : x.op = 7 ∨ x.op = 8) (hb : (decide (x.name = ⟨#[]⟩) && decide ((x.kids.length : Int) = 1)) = false) : rightB x = false := by
  rw [r_node1 h, hb, Bool.and_false]
theorem r_node2 {x : Rx} (h : x.op = 5 ∨ x.op = 6) : rightB x = (x.kids.all rightB && ((x.kids.all fun k => !decide (k.op = x.op)) && (decide (x.name = ⟨#[]⟩) && decide (2 ≤ (x.kids.length : Int))))) := by
  rw [rightB_eq, nodeB, if_neg (by omega), if_neg (by omega), if_neg (by omega), if_pos h]
theorem r_many {x : Rx} (h : x.op = 5 ∨ x.op = 6) (hb : (decide (x.name = ⟨#[]⟩) && decide (2 ≤ (x.kids.length : Int))) = true) : rightB x = !(x.kids.any fun k => decide (k.op = x.op) || !rightB k) := by
  rw [r_node2 h, hb, Bool.and_true]
  generalize x.kids = l
  induction l with
  | nil => rfl
  | cons a l ih =>
    rw [List.any_cons, List.all_cons, List.all_cons, Bool.not_or, ← ih]
    cases rightB a <;> cases decide (a.op = x.op) <;> simp
theorem r_manyF {x : Rx} (h : x.op = 5 ∨ x.op = 6) (hb : (decide (x.name = ⟨#[]⟩) && decide (2 ≤ (x.kids.length : Int))) = false) : rightB x = false := by
  rw [r_node2 h, hb, Bool.and_false, Bool.and_false]
theorem r_none {x : Rx} (h : x.op ≠ 1 ∧ x.op ≠ 2 ∧ x.op ≠ 3 ∧ x.op ≠ 4 ∧ x.op ≠ 7 ∧ x.op ≠ 8 ∧ x.op ≠ 5 ∧ x.op ≠ 6) : rightB x = false := by
  rw [rightB_eq, nodeB, if_neg (by omega), if_neg (by omega), if_neg (by omega), if_neg (by omega), Bool.and_false]

theorem right_gen (x : Rx) (hs : x.kids.length ≤ 17592186044416) (hrec : ∀ k ∈ x.kids, FnC Try.prog 49 [rxA k] (fun r => r = .bool (rightB k))) : FnC Try.prog 49 [rxA x] (fun r => r = .bool (rightB x)) := by
  refine FnC.of (fn := Try.f49) ⟨Try.func49, by kernel_rfl, rfl⟩ Try.ntmps49 (by simp) fun w0 S0 => ?_
  refine p_go ?_
  refine p_splitC (s := 5) (ht := fun hc5 => ?_) (hf := fun hc5 => ?_)
  · have h5 : x.op = 1 := by simpa using hc5
    refine p_go fun hf => ?_
    refine p_call (hx := rfl) (hb := ⟨Try.func74, by kernel_rfl, rfl⟩) (hf := nameP _) (h := ?_)
    refine p_go ?_
    refine p_ret1 (hp := by rw [r_leaf1 h5])
  · have h5 : ¬ x.op = 1 := by simpa using hc5
    refine p_go ?_
    refine p_splitC (s := 7) (ht := fun hc7 => ?_) (hf := fun hc7 => ?_)
    · have h7 : x.op = 2 := by simpa using hc7
      refine p_go fun hf => ?_
      refine p_strOp (h := ?_)
      refine p_go ?_
      refine p_ret1 (hp := by rw [r_leaf (.inl h7)])
    · have h7 : ¬ x.op = 2 := by simpa using hc7
      refine p_go ?_
      refine p_splitC (s := 9) (ht := fun hc9 => ?_) (hf := fun hc9 => ?_)
      · have h9 : x.op = 3 := by simpa using hc9
        refine p_go fun hf => ?_
        refine p_strOp (h := ?_)
        refine p_go ?_
        refine p_ret1 (hp := by rw [r_leaf (.inr (.inl h9))])
      · have h9 : ¬ x.op = 3 := by simpa using hc9
        refine p_go ?_
        refine p_splitC (s := 11) (ht := fun hc11 => ?_) (hf := fun hc11 => ?_)
        · have h11 : x.op = 4 := by simpa using hc11
          refine p_go fun hf => ?_
          refine p_strOp (h := ?_)
          refine p_go ?_
          refine p_ret1 (hp := by rw [r_leaf (.inr (.inr h11))])
        · have h11 : ¬ x.op = 4 := by simpa using hc11
          refine p_go ?_
          refine p_splitC (s := 13) (ht := fun hc13 => ?_) (hf := fun hc13 => ?_)
          · have h13 : x.op = 7 := by simpa using hc13
            refine p_go fun hf => ?_
            refine p_strOp (h := ?_)
            refine p_go fun hf => ?_
            refine p_split (s := 48) (ht := fun hb48 => ?_) (hf := fun hb48 => ?_)
            · have hn1 : decide (x.name = ⟨#[]⟩) = true ∧ (x.kids.length : Int) = 1 := by simpa using hb48
              have hlt : 0 < x.kids.length := by omega
              refine p_go fun hf => ?_
              refine p_idxMap (j := 0) (ht := Try.underlying23) (hi := F.ti25.h) (hij := rfl) (hj := hlt) (h := ?_)
              rw [rxV_cells]
              refine p_go fun hf => ?_
              refine p_call (hx := rfl) (hb := ⟨Try.func49, by kernel_rfl, rfl⟩) (hf := hrec x.kids[0] (List.getElem_mem hlt)) (h := ?_)
              refine p_go ?_
              refine p_ret1 (hp := by rw [r_one (.inl h13) hb48])
            · -- slot 48 is false
              refine p_go ?_
              refine p_ret1 (hp := by rw [r_oneF (.inl h13) hb48])
          · have h13 : ¬ x.op = 7 := by simpa using hc13
            refine p_go ?_
            refine p_splitC (s := 15) (ht := fun hc15 => ?_) (hf := fun hc15 => ?_)
            · have h15 : x.op = 8 := by simpa using hc15
              refine p_go fun hf => ?_
              refine p_strOp (h := ?_)
              refine p_go fun hf => ?_
              refine p_split (s := 48) (ht := fun hb48 => ?_) (hf := fun hb48 => ?_)
              · have hn1 : decide (x.name = ⟨#[]⟩) = true ∧ (x.kids.length : Int) = 1 := by simpa using hb48
                have hlt : 0 < x.kids.length := by omega
                refine p_go fun hf => ?_
                refine p_idxMap (j := 0) (ht := Try.underlying23) (hi := F.ti25.h) (hij := rfl) (hj := hlt) (h := ?_)
                rw [rxV_cells]
                refine p_go fun hf => ?_
                refine p_call (hx := rfl) (hb := ⟨Try.func49, by kernel_rfl, rfl⟩) (hf := hrec x.kids[0] (List.getElem_mem hlt)) (h := ?_)
                refine p_go ?_
                refine p_ret1 (hp := by rw [r_one (.inr h15) hb48])
              · -- slot 48 is false
                refine p_go ?_
                refine p_ret1 (hp := by rw [r_oneF (.inr h15) hb48])
            · have h15 : ¬ x.op = 8 := by simpa using hc15
              refine p_go ?_
              refine p_splitC (s := 17) (ht := fun hc17 => ?_) (hf := fun hc17 => ?_)
              · have h17 : x.op = 5 := by simpa using hc17
                refine p_go fun hf => ?_
                refine p_strOp (h := ?_)
                refine p_go fun hf => ?_
                refine p_split (s := 64) (ht := fun hb64 => ?_) (hf := fun hb64 => ?_)
                · -- slot 64 is true
                  refine p_go fun hf => ?_
                  refine p_callFz (vs := [.sl 25 (x.kids.map rxV), .fn 76 [.ref (rxL x)]]) [.cell (0 + 1) 1 25 (rxL x)] (hb := ⟨Try.func75, by kernel_rfl, rfl⟩) (hz := ⟨oB_, rfl, trivial⟩) (hvs := by simp [fzVal, Fz.val, V.unps, V.unp]) (hf := containsFunc_rx (fun k => decide (k.op = x.op) || !rightB k) x.kids hs _ _ _ _ rfl ⟨Try.func76, by kernel_rfl, rfl⟩ fun k hk => right1 x k (hrec k hk)) (h := ?_)
                  simp only [fzAll, Fz.key, Fz.ob', List.map_cons, List.map_nil, Fz.eff]
                  refine p_go ?_
                  refine p_ret1 (hp := by rw [r_many (.inl h17) hb64])
                · -- slot 64 is false
                  refine p_go ?_
                  refine p_ret1 (hp := by rw [r_manyF (.inl h17) hb64])
              · have h17 : ¬ x.op = 5 := by simpa using hc17
                refine p_go ?_
                refine p_splitC (s := 19) (ht := fun hc19 => ?_) (hf := fun hc19 => ?_)
                · have h19 : x.op = 6 := by simpa using hc19
                  refine p_go fun hf => ?_
                  refine p_strOp (h := ?_)
                  refine p_go fun hf => ?_
                  refine p_split (s := 64) (ht := fun hb64 => ?_) (hf := fun hb64 => ?_)
                  · -- slot 64 is true
                    refine p_go fun hf => ?_
                    refine p_callFz (vs := [.sl 25 (x.kids.map rxV), .fn 76 [.ref (rxL x)]]) [.cell (0 + 1) 1 25 (rxL x)] (hb := ⟨Try.func75, by kernel_rfl, rfl⟩) (hz := ⟨oB_, rfl, trivial⟩) (hvs := by simp [fzVal, Fz.val, V.unps, V.unp]) (hf := containsFunc_rx (fun k => decide (k.op = x.op) || !rightB k) x.kids hs _ _ _ _ rfl ⟨Try.func76, by kernel_rfl, rfl⟩ fun k hk => right1 x k (hrec k hk)) (h := ?_)
                    simp only [fzAll, Fz.key, Fz.ob', List.map_cons, List.map_nil, Fz.eff]
                    refine p_go ?_
                    refine p_ret1 (hp := by rw [r_many (.inr h19) hb64])
                  · -- slot 64 is false
                    refine p_go ?_
                    refine p_ret1 (hp := by rw [r_manyF (.inr h19) hb64])
                · have h19 : ¬ x.op = 6 := by simpa using hc19
                  refine p_go ?_
                  refine p_ret1 (hp := by rw [r_none ⟨h5, h7, h9, h11, h13, h15, h17, h19⟩])

theorem rightP (r : Rx) (hs : r.Sm) : FnC Try.prog 49 [rxA r] (fun v => v = .bool (rightB r)) := by
  induction r using Rx.ind with
  | _ r ih => exact right_gen r hs.len fun k hk => ih k hk (hs.kids k hk)
def errE (r : Rx) : Int := if (meas r 1).2 = true then (if rightB r = true then 0 else 70) else 71
def errR (r : Rx) : Int := if decide (500 < cnt r) || !dpB r 50 then 71 else if rightB r = true then 0 else 70

theorem checkP (x : Rx) (hs : x.Sm) : FnC Try.prog 23 [rxA x] (fun r => r = iV (errE x)) := by
  refine FnC.of (fn := Try.f23) ⟨Try.func23, by kernel_rfl, rfl⟩ Try.ntmps23 (by simp) fun w0 S0 => ?_
  refine p_go fun hf => ?_
  refine p_call (hx := rfl) (hb := ⟨Try.func48, by kernel_rfl, rfl⟩) (hf := measureP x hs 1 (by decide)) (h := ?_)
  refine p_go ?_
  refine p_splitC (s := 11) (ht := fun hc11 => ?_) (hf := fun hc11 => ?_)
  · refine p_go ?_
    refine p_ret1 (hp := by rw [errE, if_neg (by simpa using hc11)])
  · refine p_go fun hf => ?_
    refine p_call (hx := rfl) (hb := ⟨Try.func49, by kernel_rfl, rfl⟩) (hf := rightP x hs) (h := ?_)
    refine p_go ?_
    refine p_splitC (s := 14) (ht := fun hc14 => ?_) (hf := fun hc14 => ?_)
    · refine p_go ?_
      refine p_ret1 (hp := by rw [errE, if_pos (by simpa using hc11), if_neg (by simpa using hc14)])
    · refine p_go ?_
      refine p_ret1 (hp := by rw [errE, if_pos (by simpa using hc11), if_pos (by simpa using hc14)])

theorem node_end {x : Rx} (h : x.op = 5 ∨ x.op = 6) (ha : ∀ j (hj : j < x.kids.length), (!decide (x.kids[j].op = x.op)) = true) : nodeB x = (decide (x.name = ⟨#[]⟩) && decide (2 ≤ (x.kids.length : Int))) := by
  rw [nodeB, if_neg (by omega), if_neg (by omega), if_neg (by omega), if_pos h, all_true (p := fun k => !decide (k.op = x.op)) ha, Bool.true_and]
theorem node_hit {x : Rx} {i : Nat} (h : x.op = 5 ∨ x.op = 6) (hlt : i < x.kids.length) (ha : decide (x.kids[i].op = x.op) = true) : nodeB x = false := by
  rw [nodeB, if_neg (by omega), if_neg (by omega), if_neg (by omega), if_pos h, all_false (p := fun k => !decide (k.op = x.op)) hlt (by rw [ha]; rfl), Bool.false_and]

theorem nodeR (x : Rx) (hs : x.kids.length ≤ 17592186044416) : FnC Try.prog 71 [rxA x] (fun r => r = .bool (nodeB x)) := by
  refine FnC.of (fn := Try.f71) ⟨Try.func71, by kernel_rfl, rfl⟩ Try.ntmps71 (by simp) fun w0 S0 => ?_
  refine p_go ?_
  refine p_splitC (s := 6) (ht := fun hc6 => ?_) (hf := fun hc6 => ?_)
  · refine p_go fun hf => ?_
    refine p_call (hx := rfl) (hb := ⟨Try.func87, by kernel_rfl, rfl⟩) (hf := nameR _) (h := ?_)
    refine p_go ?_
    refine p_ret1 (hp := by rw [nodeB]; simp_all)
  · refine p_go ?_
    refine p_splitC (s := 17) (ht := fun hc17 => ?_) (hf := fun hc17 => ?_)
    · refine p_go fun hf => ?_
      refine p_strOp (h := ?_)
      refine p_go ?_
      refine p_ret1 (hp := by rw [nodeB]; simp_all)
    · refine p_go ?_
      refine p_splitC (s := 17) (ht := fun hc17x => ?_) (hf := fun hc17x => ?_)
      · refine p_go fun hf => ?_
        refine p_strOp (h := ?_)
        refine p_go ?_
        refine p_ret1 (hp := by rw [nodeB]; simp_all)
      · refine p_go ?_
        refine p_splitC (s := 17) (ht := fun hc17xx => ?_) (hf := fun hc17xx => ?_)
        · refine p_go fun hf => ?_
          refine p_strOp (h := ?_)
          refine p_go ?_
          refine p_ret1 (hp := by rw [nodeB]; simp_all)
        · refine p_go ?_
          refine p_splitC (s := 30) (ht := fun hc30 => ?_) (hf := fun hc30 => ?_)
          · refine p_go fun hf => ?_
            refine p_strOp (h := ?_)
            refine p_go ?_
            refine p_ret1 (hp := by rw [nodeB]; simp_all)
          · refine p_go ?_
            refine p_splitC (s := 30) (ht := fun hc30x => ?_) (hf := fun hc30x => ?_)
            · refine p_go fun hf => ?_
              refine p_strOp (h := ?_)
              refine p_go ?_
              refine p_ret1 (hp := by rw [nodeB]; simp_all)
            · refine p_go ?_
              refine p_splitC (s := 42) (ht := fun hc42 => ?_) (hf := fun hc42 => ?_)
              · refine p_go ?_
                refine p_loopK [1] [(0 + 1, 1)] (fun st => ∃ i : Nat, (i ≤ x.kids.length) ∧ (∀ j (hj : j < x.kids.length), j < i → (!decide (x.kids[j].op = x.op)) = true) ∧ st.env 3 = iV i) (fun st => x.kids.length - (st.env 3).toN) ?_ fun e ob g1 hK hO hI => ?_
                · exact ⟨0, by omega, fun _ _ h => by omega, eV_⟩
                · obtain ⟨i, hi, hn, e3⟩ := hI
                  dsimp only at e3
                  simp only [valsE, List.cons.injEq, and_true] at hK
                  simp only [valsO, List.cons.injEq, and_true] at hO
                  have hE := (⟨hK, hO, e3⟩ : _ ∧ _ ∧ _)
                  refine p_go ?_
                  refine p_splitC (s := 49) (ht := fun hc49 => ?_) (hf := fun hc49 => ?_)
                  · have hlt : i < x.kids.length := by simpa using hc49
                    refine p_go fun hf => ?_
                    refine p_idxMap (j := i) (ht := Try.underlying23) (hi := F.ti25.h) (hij := rfl) (hj := hlt) (h := ?_)
                    rw [rxV_cells]
                    refine p_go ?_
                    refine p_splitC (s := 60) (ht := fun hc60 => ?_) (hf := fun hc60 => ?_)
                    · refine p_go ?_
                      refine p_ret1 (hp := by rw [node_hit (.inl (by simpa using hc42)) hlt hc60])
                    · refine p_go fun hf => ?_
                      refine p_add (r := ((i + 1 : Nat) : Int)) (hr := (by first | omega | (simp only [decide_eq_true_eq, decide_eq_false_iff_not, Bool.or_eq_false_iff, Bool.and_eq_true, Bool.not_eq_true', Bool.not_eq_false'] at *; omega))) (hb := (by first | omega | (simp only [decide_eq_true_eq, decide_eq_false_iff_not, Bool.or_eq_false_iff, Bool.and_eq_true, Bool.not_eq_true', Bool.not_eq_false'] at *; omega))) (h := ?_)
                      refine p_go ?_
                      refine p_some ?_
                      refine ⟨⟨(by simp (decide := true) only [valsE, evE, upd, cv, args0, argsFrom, List.length_map, ↓reduceIte, hE] <;> rfl), (by simp (decide := true) only [valsO, updO, upd, true_and, and_true, false_and, and_false, ↓reduceIte, hE] <;> rfl)⟩, ⟨i + 1, hlt, ext_at (p := fun k => !decide (k.op = x.op)) hn (by rw [hc60]; rfl), eV_⟩, ?_⟩
                      simp (decide := true) only [upd, e3, V.toN, ↓reduceIte]; omega
                  · have hge : ¬ i < x.kids.length := by simpa using hc49
                    refine p_go fun hf => ?_
                    refine p_strOp (h := ?_)
                    refine p_go ?_
                    refine p_ret1 (hp := by rw [node_end (.inl (by simpa using hc42)) fun j hj => hn j hj (by omega)])
              · refine p_go ?_
                refine p_splitC (s := 42) (ht := fun hc42x => ?_) (hf := fun hc42x => ?_)
                · refine p_go ?_
                  refine p_loopK [1] [(0 + 1, 1)] (fun st => ∃ i : Nat, (i ≤ x.kids.length) ∧ (∀ j (hj : j < x.kids.length), j < i → (!decide (x.kids[j].op = x.op)) = true) ∧ st.env 3 = iV i) (fun st => x.kids.length - (st.env 3).toN) ?_ fun e ob g1 hK hO hI => ?_
                  · exact ⟨0, by omega, fun _ _ h => by omega, eV_⟩
                  · obtain ⟨i, hi, hn, e3⟩ := hI
                    dsimp only at e3
                    simp only [valsE, List.cons.injEq, and_true] at hK
                    simp only [valsO, List.cons.injEq, and_true] at hO
                    have hE := (⟨hK, hO, e3⟩ : _ ∧ _ ∧ _)
                    refine p_go ?_
                    refine p_splitC (s := 49) (ht := fun hc49 => ?_) (hf := fun hc49 => ?_)
                    · have hlt : i < x.kids.length := by simpa using hc49
                      refine p_go fun hf => ?_
                      refine p_idxMap (j := i) (ht := Try.underlying23) (hi := F.ti25.h) (hij := rfl) (hj := hlt) (h := ?_)
                      rw [rxV_cells]
                      refine p_go ?_
                      refine p_splitC (s := 60) (ht := fun hc60 => ?_) (hf := fun hc60 => ?_)
                      · refine p_go ?_
                        refine p_ret1 (hp := by rw [node_hit (.inr (by simpa using hc42x)) hlt hc60])
                      · refine p_go fun hf => ?_
                        refine p_add (r := ((i + 1 : Nat) : Int)) (hr := (by first | omega | (simp only [decide_eq_true_eq, decide_eq_false_iff_not, Bool.or_eq_false_iff, Bool.and_eq_true, Bool.not_eq_true', Bool.not_eq_false'] at *; omega))) (hb := (by first | omega | (simp only [decide_eq_true_eq, decide_eq_false_iff_not, Bool.or_eq_false_iff, Bool.and_eq_true, Bool.not_eq_true', Bool.not_eq_false'] at *; omega))) (h := ?_)
                        refine p_go ?_
                        refine p_some ?_
                        refine ⟨⟨(by simp (decide := true) only [valsE, evE, upd, cv, args0, argsFrom, List.length_map, ↓reduceIte, hE] <;> rfl), (by simp (decide := true) only [valsO, updO, upd, true_and, and_true, false_and, and_false, ↓reduceIte, hE] <;> rfl)⟩, ⟨i + 1, hlt, ext_at (p := fun k => !decide (k.op = x.op)) hn (by rw [hc60]; rfl), eV_⟩, ?_⟩
                        simp (decide := true) only [upd, e3, V.toN, ↓reduceIte]; omega
                    · have hge : ¬ i < x.kids.length := by simpa using hc49
                      refine p_go fun hf => ?_
                      refine p_strOp (h := ?_)
                      refine p_go ?_
                      refine p_ret1 (hp := by rw [node_end (.inr (by simpa using hc42x)) fun j hj => hn j hj (by omega)])
                · refine p_go ?_
                  refine p_ret1 (hp := by rw [nodeB]; simp_all)

theorem rightR_gen (x : Rx) (hs : x.kids.length ≤ 17592186044416) (hrec : ∀ k ∈ x.kids, FnC Try.prog 43 [rxA k] (fun r => r = .bool (rightB k))) : FnC Try.prog 43 [rxA x] (fun r => r = .bool (rightB x)) := by
  refine FnC.of (fn := Try.f43) ⟨Try.func43, by kernel_rfl, rfl⟩ Try.ntmps43 (by simp) fun w0 S0 => ?_
  refine p_go ?_
  refine p_loopK [1] [(0 + 1, 1)] (fun st => ∃ i : Nat, (i ≤ x.kids.length) ∧ (∀ j (hj : j < x.kids.length), j < i → rightB x.kids[j] = true) ∧ st.env 3 = iV i) (fun st => x.kids.length - (st.env 3).toN) ?_ fun e ob g1 hK hO hI => ?_
  · exact ⟨0, by omega, fun _ _ h => by omega, eV_⟩
  · obtain ⟨i, hi, hn, e3⟩ := hI
    dsimp only at e3
    simp only [valsE, List.cons.injEq, and_true] at hK
    simp only [valsO, List.cons.injEq, and_true] at hO
    have hE := (⟨hK, hO, e3⟩ : _ ∧ _ ∧ _)
    refine p_go ?_
    refine p_splitC (s := 8) (ht := fun hc8 => ?_) (hf := fun hc8 => ?_)
    · have hlt : i < x.kids.length := by simpa using hc8
      refine p_go fun hf => ?_
      refine p_idxMap (j := i) (ht := Try.underlying23) (hi := F.ti25.h) (hij := rfl) (hj := hlt) (h := ?_)
      rw [rxV_cells]
      refine p_go fun hf => ?_
      refine p_call (hx := rfl) (hb := ⟨Try.func43, by kernel_rfl, rfl⟩) (hf := hrec x.kids[i] (List.getElem_mem hlt)) (h := ?_)
      refine p_go ?_
      refine p_splitC (s := 17) (ht := fun hc17 => ?_) (hf := fun hc17 => ?_)
      · refine p_go ?_
        refine p_ret1 (hp := by rw [rightB_eq, all_false hlt (flipT hc17), Bool.false_and])
      · refine p_go fun hf => ?_
        refine p_add (r := ((i + 1 : Nat) : Int)) (hr := (by first | omega | (simp only [decide_eq_true_eq, decide_eq_false_iff_not, Bool.or_eq_false_iff, Bool.and_eq_true, Bool.not_eq_true', Bool.not_eq_false'] at *; omega))) (hb := (by first | omega | (simp only [decide_eq_true_eq, decide_eq_false_iff_not, Bool.or_eq_false_iff, Bool.and_eq_true, Bool.not_eq_true', Bool.not_eq_false'] at *; omega))) (h := ?_)
        refine p_go ?_
        refine p_some ?_
        refine ⟨⟨(by simp (decide := true) only [valsE, evE, upd, cv, args0, argsFrom, List.length_map, ↓reduceIte, hE] <;> rfl), (by simp (decide := true) only [valsO, updO, upd, true_and, and_true, false_and, and_false, ↓reduceIte, hE] <;> rfl)⟩, ⟨i + 1, hlt, ext_at (p := rightB) hn (flipF hc17), eV_⟩, ?_⟩
        simp (decide := true) only [upd, e3, V.toN, ↓reduceIte]; omega
    · have hge : ¬ i < x.kids.length := by simpa using hc8
      refine p_go fun hf => ?_
      refine p_call (hx := rfl) (hb := ⟨Try.func71, by kernel_rfl, rfl⟩) (hf := nodeR x hs) (h := ?_)
      refine p_go ?_
      refine p_ret1 (hp := by rw [rightB_eq, all_true fun j hj => hn j hj (by omega), Bool.true_and])

theorem rightR (r : Rx) (hs : r.Sm) : FnC Try.prog 43 [rxA r] (fun v => v = .bool (rightB r)) := by
  induction r using Rx.ind with
  | _ r ih => exact rightR_gen r hs.len fun k hk => ih k hk (hs.kids k hk)

theorem checkR (x : Rx) (hs : x.Sm) : FnC Try.prog 20 [rxA x] (fun r => r = iV (errR x)) := by
  refine FnC.of (fn := Try.f20) ⟨Try.func20, by kernel_rfl, rfl⟩ Try.ntmps20 (by simp) fun w0 S0 => ?_
  refine p_go fun hf => ?_
  refine p_call (hx := rfl) (hb := ⟨Try.func41, by kernel_rfl, rfl⟩) (hf := countR x hs) (h := ?_)
  refine p_go fun hf => ?_
  refine p_split (s := 6) (ht := fun hb6 => ?_) (hf := fun hb6 => ?_)
  · -- slot 6 is true
    refine p_go ?_
    refine p_ret1 (hp := by rw [errR, hb6]; rfl)
  · -- slot 6 is false
    refine p_go fun hf => ?_
    refine p_call (hx := rfl) (hb := ⟨Try.func42, by kernel_rfl, rfl⟩) (hf := deepR x hs 50 (by decide)) (h := ?_)
    refine p_go ?_
    refine p_splitC (s := 10) (ht := fun hc10 => ?_) (hf := fun hc10 => ?_)
    · refine p_go ?_
      refine p_ret1 (hp := by rw [errR, hb6, Bool.false_or, if_pos hc10])
    · refine p_go fun hf => ?_
      refine p_call (hx := rfl) (hb := ⟨Try.func43, by kernel_rfl, rfl⟩) (hf := rightR x hs) (h := ?_)
      refine p_go ?_
      refine p_splitC (s := 13) (ht := fun hc13 => ?_) (hf := fun hc13 => ?_)
      · refine p_go ?_
        refine p_ret1 (hp := by rw [errR, hb6, Bool.false_or, if_neg (by rw [hc10]; decide), if_neg (by simpa using hc13)])
      · refine p_go ?_
        refine p_ret1 (hp := by rw [errR, hb6, Bool.false_or, if_neg (by rw [hc10]; decide), if_pos (by simpa using hc13)])

end Go.Proofs.Ytjdhkopjigijfaa
/-
  Which expressions may be, in plain words: both say the same; what holds of one that may be.
-/
set_option maxHeartbeats 4000000
set_option linter.unusedSimpArgs false
set_option linter.unusedVariables false
namespace Go.Proofs.Ytjdhkopjigijfaa
open Go.RowKit
attribute [local irreducible] Wk Tr
mutual
def Rx.sz : Rx → Nat
  | .mk _ _ ks => 1 + Rx.szL ks
def Rx.szL : List Rx → Nat
  | [] => 0
  | k :: ks => k.sz + Rx.szL ks
end
theorem Rx.sz_eq (r : Rx) : r.sz = 1 + Rx.szL r.kids := by cases r; rw [Rx.sz]; rfl
theorem Rx.sz_pos (r : Rx) : 1 ≤ r.sz := by rw [r.sz_eq]; omega
theorem Rx.szL_mem : ∀ {l : List Rx} {k : Rx}, k ∈ l → k.sz ≤ Rx.szL l
  | a :: l, k, hk => by
    rw [Rx.szL]
    rcases List.mem_cons.1 hk with rfl | hk
    · omega
    · have := Rx.szL_mem hk; omega
theorem Rx.szL_len : ∀ l : List Rx, l.length ≤ Rx.szL l
  | [] => by simp
  | a :: l => by rw [Rx.szL, List.length_cons]; have := a.sz_pos; have := Rx.szL_len l; omega
theorem wrap_small {n : Int} (h0 : 0 ≤ n) (h1 : n ≤ 1000000) : IntKind.i64.wrap n = n := IntWalk.i64_in n (by omega)
theorem meas_cnt (r : Rx) : ∀ m : Nat, m ≤ 50 → dpB r m = true → cnt r = (meas r (51 - m)).1 ∧ (meas r (51 - m)).2 = decide ((meas r (51 - m)).1 ≤ 500) := by
  induction r using Rx.ind with
  | _ r ih =>
  intro m hm hd
  cases m with
  | zero => rw [dpB_zero] at hd; cases hd
  | succ m =>
    rw [dpB_eq, List.all_eq_true] at hd
    rw [cnt_eq, meas_eq, if_neg (by omega)]
    have key : ∀ (l : List Rx) (n : Int), (∀ k ∈ l, cnt k = (meas k (51 - m)).1 ∧ (meas k (51 - m)).2 = decide ((meas k (51 - m)).1 ≤ 500)) → 1 ≤ n → n ≤ 500 → cntL l n = (measL l (51 - (m + 1)) n).1 ∧ (measL l (51 - (m + 1)) n).2 = decide ((measL l (51 - (m + 1)) n).1 ≤ 500) := by
      intro l
      induction l with
      | nil => intro n _ h1 h2; rw [cntL, measL]; simp [h2]
      | cons k l ihl =>
        intro n hk h1 h2
        obtain ⟨h3, h4⟩ := hk k (List.mem_cons_self ..)
        have h5 := meas_le k (51 - m)
        have h6 : (51 - (51 - m) : Nat) ≤ 50 := by omega
        rw [cntL, if_pos h2, measL, show 51 - (m + 1) + 1 = 51 - m from by omega, h3, wrap_small (by omega) (by omega)]
        by_cases h7 : n + (meas k (51 - m)).1 ≤ 500
        · rw [if_neg (by rw [h4]; simp; omega)]
          exact ihl _ (fun k' hk' => hk k' (List.mem_cons_of_mem _ hk')) (by omega) h7
        · rw [if_pos (by simp; omega), cntL_stop (.inr (by omega))]
          simp; omega
    exact key _ 1 (fun k hk => ih k hk m (by omega) (hd k hk)) (by decide) (by decide)
theorem measL_all {d : Nat} : ∀ {l : List Rx} {n : Int}, (measL l d n).2 = true → ∀ k ∈ l, (meas k (d + 1)).2 = true
  | a :: l, n, h, k, hk => by
    rw [measL] at h
    split at h
    · cases h
    · rename_i hc
      simp only [Bool.or_eq_true, Bool.not_eq_true', not_or, Bool.not_eq_false] at hc
      rcases List.mem_cons.1 hk with rfl | hk
      · exact hc.1
      · exact measL_all h k hk
theorem meas_deep (r : Rx) : ∀ m : Nat, m ≤ 50 → (meas r (51 - m)).2 = true → dpB r m = true := by
  induction r using Rx.ind with
  | _ r ih =>
  intro m hm h
  cases m with
  | zero => rw [meas_eq, if_pos (by omega)] at h; cases h
  | succ m =>
    rw [meas_eq, if_neg (by omega)] at h
    rw [dpB_eq, List.all_eq_true]
    intro k hk
    have h1 := measL_all h k hk
    rw [show 51 - (m + 1) + 1 = 51 - m from by omega] at h1
    exact ih k hk m (by omega) h1
theorem meas_sz (r : Rx) : ∀ d : Nat, (meas r d).2 = true → (meas r d).1 = r.sz := by
  induction r using Rx.ind with
  | _ r ih =>
  intro d h
  rw [meas_eq] at h ⊢
  split at h
  · cases h
  · rename_i hd
    rw [if_neg hd, r.sz_eq]
    have key : ∀ (l : List Rx) (n : Int), (∀ k ∈ l, ∀ d, (meas k d).2 = true → (meas k d).1 = k.sz) → (measL l d n).2 = true → (measL l d n).1 = n + Rx.szL l := by
      intro l
      induction l with
      | nil => intro n _ _; rw [measL, Rx.szL]; simp
      | cons k l ihl =>
        intro n hk h1
        have h2 := measL_all h1 k (List.mem_cons_self ..)
        rw [measL] at h1 ⊢
        split at h1
        · cases h1
        · rename_i hc
          rw [if_neg hc, ihl _ (fun k' hk' => hk k' (List.mem_cons_of_mem _ hk')) h1, hk k (List.mem_cons_self ..) _ h2, Rx.szL]
          omega
    have := key _ 1 ih h
    omega
theorem err_eq (r : Rx) : errE r = errR r := by
  unfold errE errR
  have h1 := meas_cnt r 50 (by decide)
  have h2 := meas_deep r 50 (by decide)
  rw [show 51 - 50 = 1 from rfl] at h1 h2
  cases hd : dpB r 50 with
  | true =>
    obtain ⟨h3, h4⟩ := h1 hd
    rw [h4, h3]
    by_cases h5 : (meas r 1).1 ≤ 500
    · have h6 : ¬ (500 < (meas r 1).1) := by omega
      simp [h5, h6]
    · have h6 : 500 < (meas r 1).1 := by omega
      simp [h5, h6]
  | false =>
    have h3 : ¬ (meas r 1).2 = true := fun h => by rw [h2 h] at hd; cases hd
    simp [h3]
/-- What holds of an expression that may be. -/
structure Rx.Ok (r : Rx) : Prop where
  sz : r.sz ≤ 500
  dp : dpB r 50 = true
  right : rightB r = true
theorem errE_ok {r : Rx} : errE r = 0 ↔ r.Ok := by
  constructor
  · intro h
    unfold errE at h
    split at h
    · rename_i h1
      split at h
      · rename_i h2
        have h3 := meas_sz r 1 h1
        have h4 := (meas_le r 1).2.2 h1
        exact ⟨by omega, meas_deep r 50 (by decide) h1, h2⟩
      · cases h
    · cases h
  · intro h
    have h1 := meas_cnt r 50 (by decide) h.dp
    rw [show 51 - 50 = 1 from rfl] at h1
    have h2 : (meas r 1).2 = true := by
      rw [h1.2, decide_eq_true_eq, ← h1.1]
      have key : ∀ r : Rx, r.sz ≤ 500 → cnt r = r.sz := by
        intro r
        induction r using Rx.ind with
        | _ r ih =>
        intro hs
        rw [cnt_eq, r.sz_eq] at *
        have key : ∀ (l : List Rx) (n : Int), (∀ k ∈ l, k.sz ≤ 500 → cnt k = k.sz) → 1 ≤ n → n + Rx.szL l ≤ 500 → cntL l n = n + Rx.szL l := by
          intro l
          induction l with
          | nil => intro n _ _ _; rw [cntL, Rx.szL]; simp
          | cons k l ihl =>
            intro n hk h1 h2
            rw [Rx.szL] at h2 ⊢
            have h3 := k.sz_pos
            rw [cntL, if_pos (by omega), hk k (List.mem_cons_self ..) (by omega), wrap_small (by omega) (by omega), ihl _ (fun k' hk' => hk k' (List.mem_cons_of_mem _ hk')) (by omega) (by omega)]
            omega
        have := key r.kids 1 ih (by decide) (by omega)
        omega
      have := key r h.sz
      have := h.sz
      omega
    rw [errE, if_pos h2, if_pos h.right]
theorem Rx.Ok.kid {r k : Rx} (h : r.Ok) (hk : k ∈ r.kids) : k.sz < r.sz ∧ rightB k = true := by
  have h1 := h.right
  rw [rightB_eq, Bool.and_eq_true, List.all_eq_true] at h1
  have := Rx.szL_mem hk
  have := r.sz_eq
  exact ⟨by omega, h1.1 k hk⟩
end Go.Proofs.Ytjdhkopjigijfaa
