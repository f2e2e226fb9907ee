/-
  The reference's Canon.
-/
import Derived.Test.YtfpljljjjgicaaaGreatDoorSkl
import Derived.Test.YtfpljljjjgicaaaGreatDoorRa
set_option maxHeartbeats 4000000
set_option linter.unusedSimpArgs false
set_option linter.unusedVariables false
namespace Go.Proofs.YtfpljljjjgicaaaGreatDoor
open Go.RowKit
attribute [local irreducible] Wk Tr
theorem tw_at {α : Type} (p : α → Bool) : ∀ (l : List α) (k : Nat), k ≤ l.length → (∀ j (h : j < l.length), j < k → p l[j] = true) → (∀ h : k < l.length, p l[k] = false) → l.takeWhile p = l.take k ∧ l.dropWhile p = l.drop k
  | [], k, hk, _, _ => by simp at hk; subst hk; simp
  | x :: l, 0, _, _, h => by
    have := h (by simp)
    simp only [List.getElem_cons_zero] at this
    simp [List.takeWhile_cons, List.dropWhile_cons, this]
  | x :: l, k + 1, hk, h1, h2 => by
    have hx : p x = true := h1 0 (by simp) (by omega)
    obtain ⟨a, b⟩ := tw_at p l k (by simpa using hk) (fun j h hj => by have := h1 (j + 1) (by simpa using h) (by omega); simpa using this) (fun h => by have := h2 (by simpa using h); simpa using this)
    simp [List.takeWhile_cons, List.dropWhile_cons, hx, a, b]
theorem insR_new {s : Sp} {l : List Trn} {t : Trn} {k : Nat} (hk : k ≤ l.length) (h1 : ∀ j (h : j < l.length), j < k → bef l[j] t = true) (h2 : ∀ h : k < l.length, bef l[k] t = false) (h3 : ∀ h : k < l.length, bef t l[k] = true) : insR s l t = l.take k ++ [t] ++ l.drop k := by
  obtain ⟨a, b⟩ := tw_at (bef · t) l k hk h1 h2
  unfold insR
  rw [a, b]
  by_cases h : k < l.length
  · rw [List.drop_eq_getElem_cons h]
    simp only [h3 h, if_true, List.append_assoc, List.singleton_append, List.cons_append, List.nil_append]
  · rw [List.drop_eq_nil_of_le (by omega)]; simp
theorem insR_old {s : Sp} {l : List Trn} {t : Trn} {k : Nat} (hk : k < l.length) (h1 : ∀ j (h : j < l.length), j < k → bef l[j] t = true) (h2 : bef l[k] t = false) (h3 : bef t l[k] = false) : insR s l t = l.set k { l[k] with w := eitherW s l[k].w t.w } := by
  obtain ⟨a, b⟩ := tw_at (bef · t) l k (by omega) h1 (fun _ => h2)
  unfold insR
  rw [a, b, List.drop_eq_getElem_cons hk]
  simp only [h3, Bool.false_eq_true, if_false]
  rw [List.set_eq_take_append_cons_drop, if_pos hk]
theorem insR_len (s : Sp) (l : List Trn) (t : Trn) : (insR s l t).length ≤ l.length + 1 := by
  have h := congrArg List.length (List.takeWhile_append_dropWhile (p := (bef · t)) (l := l))
  rw [List.length_append] at h
  unfold insR
  split
  · rename_i he; rw [he] at h; simp at h ⊢; omega
  · rename_i x r he
    rw [he] at h
    split <;> simp at h ⊢ <;> omega
theorem canonR_len (s : Sp) (ts : List Trn) : (canonR s ts).length ≤ ts.length := by
  have : ∀ (ts : List Trn) (m : List Trn), (ts.foldl (insR s) m).length ≤ m.length + ts.length := fun ts => by
    induction ts with
    | nil => intro m; simp
    | cons t ts ih => intro m; have h1 := ih (insR s m t); have h2 := insR_len s m t; rw [List.foldl_cons, List.length_cons]; omega
  have := this ts []
  simpa [canonR] using this
theorem canonR_s (s : Sp) {ts : List Trn} {i : Nat} (h : i < ts.length) : canonR s (ts.take (i + 1)) = insR s (canonR s (ts.take i)) ts[i] := fold_snoc _ _ h
theorem canonR_ok {s : Sp} (hs : spOk s = true) {ts : List Trn} (ht : ∀ t ∈ ts, isB s t.w = true) : ∀ t ∈ canonR s ts, isB s t.w = true := (canI0 hs ht).ok
def fltT (s : Sp) (l : List Trn) : List Trn := l.filter fun t => !sameW t.w (zeroW s)
theorem fltT_t {s : Sp} {l : List Trn} {j : Nat} (h : j < l.length) (hn : (!sameW l[j].w (zeroW s)) = true) : fltT s (l.take (j + 1)) = fltT s (l.take j) ++ [l[j]] := by
  have hn' : sameW l[j].w (zeroW s) = false := by simpa using hn
  rw [fltT, List.take_succ_eq_append_getElem h, List.filter_append]; simp [fltT, List.filter_cons, hn']
theorem fltT_f {s : Sp} {l : List Trn} {j : Nat} (h : j < l.length) (hn : (!sameW l[j].w (zeroW s)) = false) : fltT s (l.take (j + 1)) = fltT s (l.take j) := by
  have hn' : sameW l[j].w (zeroW s) = true := by simpa using hn
  rw [fltT, List.take_succ_eq_append_getElem h, List.filter_append]; simp [fltT, List.filter_cons, hn']
theorem set_tr {l : List Trn} {k : Nat} (h : k < l.length) (w : Wt) : (l.map trV).set k (.agg (splice (trL l[k]) (0 + 3) (wtL w))) = (l.set k { l[k] with w := w }).map trV := by
  rw [List.map_set]; rfl
theorem rbefore (x y : Trn) : FnC Tryz.prog 68 [trV x, trV y] (fun r => r = .bool (bef x y)) := by
  refine FnC.of (fn := Tryz.f68) ⟨Tryz.func68, by kernel_rfl, rfl⟩ Tryz.ntmps68 (by simp) fun w0 S0 => ?_
  refine p_go ?_
  refine p_splitC (s := 9) (ht := fun hc9 => ?_) (hf := fun hc9 => ?_)
  · refine p_go ?_
    refine p_ret1 (hp := by rw [bef, if_pos (by simpa using hc9)])
  · refine p_go ?_
    refine p_splitC (s := 19) (ht := fun hc19 => ?_) (hf := fun hc19 => ?_)
    · refine p_go ?_
      refine p_ret1 (hp := by rw [bef, if_neg (by simpa using hc9), if_pos (by simpa using hc19)])
    · refine p_go ?_
      refine p_ret1 (hp := by rw [bef, if_neg (by simpa using hc9), if_neg (by simpa using hc19)])
theorem rNone (s : Sp) (w : Wt) (hs : spOk s = true) (hw : isB s w = true) : FnC Tryz.prog 70 [spA s, wtA w] (fun r => r = .bool (sameW w (zeroW s))) := by
  refine FnC.of (fn := Tryz.f70) ⟨Tryz.func70, by kernel_rfl, rfl⟩ Tryz.ntmps70 (by simp) fun w0 S0 => ?_
  refine p_go fun hf => ?_
  refine p_call (hx := rfl) (hb := ⟨Tryz.func24, by kernel_rfl, rfl⟩) (hf := rZero10 s hs) (h := ?_)
  refine p_call (hx := rfl) (hb := ⟨Tryz.func16, by kernel_rfl, rfl⟩) (hf := rsameB hs hw (zeroW_ok hs)) (h := ?_)
  refine p_go ?_
  refine p_ret1 (hp := by simp)
theorem rcanonC (a : Aut) (ha : a.Sm) : FnC Tryz.prog 27 [autV a] (fun r => r = cRes a) := by
  refine FnC.of (fn := Tryz.f27) ⟨Tryz.func27, by kernel_rfl, rfl⟩ Tryz.ntmps27 (by simp) fun w0 S0 => ?_
  have hl1 := ha.trs
  have hl2 := ha.fin
  refine p_goJ fun hf => ?_
  refine p_call (hx := rfl) (hb := ⟨Tryz.func11, by kernel_rfl, rfl⟩) (hf := rcheck10 a ha) (h := ?_)
  refine p_goJ ?_
  refine p_seq ?_
  refine p_goJ ?_
  refine p_splitC (s := 14) (ht := fun hc14 => ?_) (hf := fun hc14 => ?_)
  · refine p_goJ fun hf => ?_
    refine p_build (hi := F.ti29.h) (hpl := F.pl29.h) (h := ?_)
    refine p_goJ ?_
    refine p_cellNil (g1 := 0 + 1) (d1 := 2) (i := 2) (el := 25) (h := ?_)
    refine p_cellNil (g1 := 0 + 1) (d1 := 2) (i := 5) (el := 3) (h := ?_)
    refine p_cellNil (g1 := 0 + 1) (d1 := 2) (i := 6) (el := 39) (h := ?_)
    refine p_r2 (hp := by rw [cRes_bad hc14]; rfl)
  · have hch : checkE10 a = 0 := by simpa using hc14
    have hok := checkE10_ok hch
    have hfl := fin_len2 hch
    have hmany := hok.many
    refine p_goJ ?_
    refine p_seq ?_
    refine p_goJ ?_
    refine p_fresh fun hf => ?_
    refine p_nilSlot (s := 5) (el := 39) 83 (h := ?_)
    refine p_loopK [1, 2] [(0 + 1, 1), (0 + 1, 2)] (fun st => ∃ (i r : Nat), (i ≤ a.trs.length) ∧ st.env 6 = iV i ∧ st.env 5 = .row r 83 (canonR a.sp (a.trs.take i)).length ∧ st.obj r 83 = .row 39 ((canonR a.sp (a.trs.take i)).map trV)) (fun st => a.trs.length - (st.env 6).toN) ?_ fun e ob g1 hK hO hI => ?_
    · exact ⟨0, _, by omega, eV_, eV_, oB_⟩
    · obtain ⟨i, r, hi, e6, e5, o83⟩ := hI
      dsimp only at e6 e5 o83
      simp only [valsE, List.cons.injEq, and_true] at hK
      simp only [valsO, List.cons.injEq, and_true] at hO
      have hE := (⟨hK, hO, e6, e5, o83⟩ : _ ∧ _ ∧ _ ∧ _ ∧ _)
      refine p_seq ?_
      refine p_goJ ?_
      refine p_splitC (s := 21) (ht := fun hc21 => ?_) (hf := fun hc21 => ?_)
      · have hlt : i < a.trs.length := by simpa using hc21
        have hm := List.getElem_mem hlt
        have hML := canonR_len a.sp (a.trs.take i)
        rw [List.length_take, Nat.min_eq_left hi] at hML
        have hLB := canonR_ok hok.sp (ts := a.trs.take i) (fun t ht => hok.w t (List.mem_of_mem_take ht))
        refine p_goJ ?_
        refine p_seq ?_
        refine p_goJ fun hf => ?_
        refine p_idxMap (j := i) (ht := Tryz.underlying27) (hi := F.ti39.h) (hij := rfl) (hj := hlt) (h := ?_)
        refine p_goJ ?_
        refine p_joinK [1, 2, 5, 6, 7] [(0 + 1, 1), (0 + 1, 2), (g1 + 1 + 1, 7), (r, 83)] (fun st => ∃ (k : Nat), (k ≤ (canonR a.sp (a.trs.take i)).length) ∧ (∀ j (h : j < (canonR a.sp (a.trs.take i)).length), j < k → bef (canonR a.sp (a.trs.take i))[j] a.trs[i] = true) ∧ (∀ h : k < (canonR a.sp (a.trs.take i)).length, bef (canonR a.sp (a.trs.take i))[k] a.trs[i] = false) ∧ st.env 8 = iV k) ?_ fun e ob gJ2 hK hO hI => ?_
        ·
          refine p_goJ ?_
          refine p_loopK [1, 2, 5, 6, 7] [(0 + 1, 1), (0 + 1, 2), (g1 + 1 + 1, 7), (r, 83)] (fun st => ∃ (k : Nat), (k ≤ (canonR a.sp (a.trs.take i)).length) ∧ (∀ j (h : j < (canonR a.sp (a.trs.take i)).length), j < k → bef (canonR a.sp (a.trs.take i))[j] a.trs[i] = true) ∧ st.env 8 = iV k) (fun st => (canonR a.sp (a.trs.take i)).length - (st.env 8).toN) ?_ fun e ob g2 hK hO hI => ?_
          · exact ⟨0, by omega, fun j h hj => by omega, eV_⟩
          · obtain ⟨k, hkl, hbe, e8⟩ := hI
            dsimp only at e8
            simp only [valsE, List.cons.injEq, and_true] at hK
            simp only [valsO, List.cons.injEq, and_true] at hO
            have hE := (⟨hK, hO, e8⟩ : _ ∧ _ ∧ _)
            refine p_seq ?_
            refine p_goJ fun hf => ?_
            refine p_split (s := 33) (ht := fun hb33 => ?_) (hf := fun hb33 => ?_)
            · have hk2 : k < (canonR a.sp (a.trs.take i)).length := by simpa using hb33
              refine p_goJ fun hf => ?_
              refine p_idxRowN (k) (ht := Tryz.underlying27) (hi := F.ti39.h) (hij := rfl) (hlt := hk2) (h := ?_)
              refine p_goJ fun hf => ?_
              refine p_loadRowAM (ht := F.agg39.h) (hi := F.ti39.h) (hj := hk2) (h := ?_)
              refine p_goJ fun hf => ?_
              refine p_call (hx := rfl) (hb := ⟨Tryz.func68, by kernel_rfl, rfl⟩) (hf := rbefore (canonR a.sp (a.trs.take i))[k] a.trs[i]) (h := ?_)
              refine p_goJ ?_
              refine p_splitC (s := 40) (ht := fun hc40 => ?_) (hf := fun hc40 => ?_)
              · refine p_goJ fun hf => ?_
                refine p_add (r := ((k + 1 : Nat) : Int)) (hr := (by first | omega | (simp only [decide_eq_true_eq, decide_eq_false_iff_not, Bool.or_eq_false_iff, Bool.and_eq_true, Bool.not_eq_true', Bool.not_eq_false'] at *; omega))) (hb := (by first | omega | (simp only [decide_eq_true_eq, decide_eq_false_iff_not, Bool.or_eq_false_iff, Bool.and_eq_true, Bool.not_eq_true', Bool.not_eq_false'] at *; omega))) (h := ?_)
                refine p_goJ ?_
                refine p_some ?_
                refine ⟨⟨(by simp (decide := true) only [valsE, evE, upd, cv, args0, argsFrom, List.length_map, ↓reduceIte, hE] <;> rfl), (by simp (decide := true) only [valsO, updO, upd, true_and, and_true, false_and, and_false, ↓reduceIte, hE] <;> rfl)⟩, ⟨k + 1, hk2, fun j h hj => (Nat.lt_succ_iff_lt_or_eq.1 hj).elim (hbe j h) (fun e => by subst e; exact hc40), eV_⟩, ?_⟩
                simp (decide := true) only [upd, e8, V.toN, ↓reduceIte]; omega
              · refine p_goJ ?_
                refine p_some ?_
                refine ⟨⟨(by simp (decide := true) only [valsE, evE, upd, cv, args0, argsFrom, List.length_map, ↓reduceIte, hE] <;> rfl), (by simp (decide := true) only [valsO, updO, upd, true_and, and_true, false_and, and_false, ↓reduceIte, hE] <;> rfl)⟩, k, hkl, hbe, fun _ => by simpa using hc40, eV_⟩
            · have hk2 : (canonR a.sp (a.trs.take i)).length ≤ k := by simpa using hb33
              refine p_goJ ?_
              refine p_some ?_
              refine ⟨⟨(by simp (decide := true) only [valsE, evE, upd, cv, args0, argsFrom, List.length_map, ↓reduceIte, hE] <;> rfl), (by simp (decide := true) only [valsO, updO, upd, true_and, and_true, false_and, and_false, ↓reduceIte, hE] <;> rfl)⟩, k, hkl, hbe, fun h => absurd h (by omega), eV_⟩
        · obtain ⟨k, hkl, hbe, hst, e8⟩ := hI
          dsimp only at e8
          simp only [valsE, List.cons.injEq, and_true] at hK
          simp only [valsO, List.cons.injEq, and_true] at hO
          have hE := (⟨hK, hO, e8⟩ : _ ∧ _ ∧ _)
          refine p_seq ?_
          refine p_goJ fun hf => ?_
          refine p_split (s := 47) (ht := fun hb47 => ?_) (hf := fun hb47 => ?_)
          · have hk2 : k < (canonR a.sp (a.trs.take i)).length := by simpa using hb47
            refine p_goJ fun hf => ?_
            refine p_idxRowN (k) (ht := Tryz.underlying27) (hi := F.ti39.h) (hij := rfl) (hlt := hk2) (h := ?_)
            refine p_goJ fun hf => ?_
            refine p_loadRowAM (ht := F.agg39.h) (hi := F.ti39.h) (hj := hk2) (h := ?_)
            refine p_goJ fun hf => ?_
            refine p_call (hx := rfl) (hb := ⟨Tryz.func68, by kernel_rfl, rfl⟩) (hf := rbefore a.trs[i] (canonR a.sp (a.trs.take i))[k]) (h := ?_)
            refine p_goJ ?_
            refine p_splitC (s := 55) (ht := fun hc55 => ?_) (hf := fun hc55 => ?_)
            · have hb3 : bef a.trs[i] (canonR a.sp (a.trs.take i))[k] = false := by simpa using hc55
              refine p_goJ fun hf => ?_
              refine p_idxRowN (k) (ht := Tryz.underlying27) (hi := F.ti39.h) (hij := rfl) (hlt := hk2) (h := ?_)
              refine p_goJ fun hf => ?_
              refine p_loadRowA (ht := F.agg37.h) (hi := F.ti37.h) (hy := List.getElem?_eq_getElem (by simpa using hk2)) (hl := by rw [List.getElem_map] <;> rfl) (hlen := rfl) (h := ?_)
              refine p_goJ fun hf => ?_
              refine p_call (hx := rfl) (hb := ⟨Tryz.func69, by kernel_rfl, rfl⟩) (hf := reitherC hok.sp (hLB _ (List.getElem_mem hk2)) (hok.w _ hm)) (h := ?_)
              refine p_idxRowN (k) (ht := Tryz.underlying27) (hi := F.ti39.h) (hij := rfl) (hlt := hk2) (h := ?_)
              refine p_goJ fun hf => ?_
              refine p_storeRowPart ((((canonR a.sp (a.trs.take i)).set k { (canonR a.sp (a.trs.take i))[k] with w := eitherW a.sp (canonR a.sp (a.trs.take i))[k].w a.trs[i].w }).map trV)) (l := trL (canonR a.sp (a.trs.take i))[k]) (hi := F.ti37.h) (hu := by rw [List.getElem?_eq_getElem (by simpa using hk2), List.getElem_map]) (hl := .inr ⟨_, rfl⟩) (hq := by simp) (hxs := set_tr hk2 _) (h := ?_)
              refine p_goJ fun hf => ?_
              refine p_add (r := ((i + 1 : Nat) : Int)) (hr := (by first | omega | (simp only [decide_eq_true_eq, decide_eq_false_iff_not, Bool.or_eq_false_iff, Bool.and_eq_true, Bool.not_eq_true', Bool.not_eq_false'] at *; omega))) (hb := (by first | omega | (simp only [decide_eq_true_eq, decide_eq_false_iff_not, Bool.or_eq_false_iff, Bool.and_eq_true, Bool.not_eq_true', Bool.not_eq_false'] at *; omega))) (h := ?_)
              refine p_goJ ?_
              refine p_some ?_
              refine ⟨⟨(by simp (decide := true) only [valsE, evE, upd, cv, args0, argsFrom, List.length_map, ↓reduceIte, hE] <;> rfl), (by simp (decide := true) only [valsO, updO, upd, true_and, and_true, false_and, and_false, ↓reduceIte, hE] <;> rfl)⟩, ⟨i + 1, r, hlt, eV_, by refine Eq.trans eV_ ?_; rw [canonR_s _ hlt, insR_old hk2 hbe (hst hk2) hb3, List.length_set], by refine Eq.trans oB_ ?_; rw [canonR_s _ hlt, insR_old hk2 hbe (hst hk2) hb3]⟩, ?_⟩
              simp (decide := true) only [upd, e6, V.toN, ↓reduceIte]; omega
            · have hb3 : bef a.trs[i] (canonR a.sp (a.trs.take i))[k] = true := by simpa using hc55
              refine p_freeze (g1 := r) (d1 := 83) (h := ?_)
              refine p_toSl (s := 5) (hn := by simp) (h := ?_)
              refine p_goJ fun hf => ?_
              refine p_buildSlice (ht := Tryz.underlying27) (hi := F.ti39.h) (hvs := rfl) (hl := by intro v hv; cases hv) (h := ?_)
              refine p_goJ fun hf => ?_
              refine p_partHi (l := k) (ht := Tryz.underlying27) (hi := F.ti39.h) (hl := by simpa using hkl) (hys := rfl) (h := ?_)
              refine p_append (k := k) (ht := Tryz.underlying27) (hi := F.ti39.h) (hnl := by simp) (hy := by exact .inl ⟨rfl, rfl⟩) (hm := by simp; omega) (hlim := by omega) (h := ?_)
              refine p_goJ fun hf => ?_
              refine p_buildSlice (ht := Tryz.underlying27) (hi := F.ti39.h) (h := ?_)
              refine p_append (k := k + 1) (ht := Tryz.underlying27) (hi := F.ti39.h) (hnl := by simp; omega) (hy := by exact ⟨.inl oB_, rfl⟩) (hm := by simp; omega) (hlim := by omega) (h := ?_)
              refine p_goJ fun hf => ?_
              refine p_partLo (l := k) (ht := Tryz.underlying27) (hi := F.ti39.h) (hl := by simpa using hkl) (hys := rfl) (h := ?_)
              refine p_append (k := (canonR a.sp (a.trs.take i)).length + 1) (ht := Tryz.underlying27) (hi := F.ti39.h) (hnl := by simp; omega) (hy := by exact .inl ⟨rfl, rfl⟩) (hm := by simp; omega) (hlim := by omega) (h := ?_)
              refine p_goJ fun hf => ?_
              refine p_add (r := ((i + 1 : Nat) : Int)) (hr := (by first | omega | (simp only [decide_eq_true_eq, decide_eq_false_iff_not, Bool.or_eq_false_iff, Bool.and_eq_true, Bool.not_eq_true', Bool.not_eq_false'] at *; omega))) (hb := (by first | omega | (simp only [decide_eq_true_eq, decide_eq_false_iff_not, Bool.or_eq_false_iff, Bool.and_eq_true, Bool.not_eq_true', Bool.not_eq_false'] at *; omega))) (h := ?_)
              refine p_goJ ?_
              refine p_some ?_
              have hnew := insR_new (s := a.sp) (t := a.trs[i]) hkl hbe hst (fun _ => hb3)
              refine ⟨⟨(by simp (decide := true) only [valsE, evE, upd, cv, args0, argsFrom, List.length_map, ↓reduceIte, hE] <;> rfl), (by simp (decide := true) only [valsO, updO, upd, true_and, and_true, false_and, and_false, ↓reduceIte, hE] <;> rfl)⟩, ⟨i + 1, gJ2 + 1 + 1 + 1 + 1, hlt, eV_, by refine Eq.trans eV_ ?_; rw [canonR_s _ hlt, hnew]; simp; omega, by refine Eq.trans oB_ ?_; rw [canonR_s _ hlt, hnew]; simp [List.map_take, List.map_drop]⟩, ?_⟩
              simp (decide := true) only [upd, e6, V.toN, ↓reduceIte]; omega
          · have hk2 : (canonR a.sp (a.trs.take i)).length ≤ k := by simpa using hb47
            refine p_goJ fun hf => ?_
            refine p_bare ?_
            refine p_freeze (g1 := r) (d1 := 83) (h := ?_)
            refine p_toSl (s := 5) (hn := by simp) (h := ?_)
            refine p_lastOp (h := ?_)
            refine p_buildSlice (ht := Tryz.underlying27) (hi := F.ti39.h) (hvs := rfl) (hl := by intro v hv; cases hv) (h := ?_)
            refine p_goJ fun hf => ?_
            refine p_partHi (l := k) (ht := Tryz.underlying27) (hi := F.ti39.h) (hl := by simpa using hkl) (hys := rfl) (h := ?_)
            refine p_append (k := k) (ht := Tryz.underlying27) (hi := F.ti39.h) (hnl := by simp) (hy := by exact .inl ⟨rfl, rfl⟩) (hm := by simp; omega) (hlim := by omega) (h := ?_)
            refine p_goJ fun hf => ?_
            refine p_buildSlice (ht := Tryz.underlying27) (hi := F.ti39.h) (h := ?_)
            refine p_append (k := k + 1) (ht := Tryz.underlying27) (hi := F.ti39.h) (hnl := by simp; omega) (hy := by exact ⟨.inl oB_, rfl⟩) (hm := by simp; omega) (hlim := by omega) (h := ?_)
            refine p_goJ fun hf => ?_
            refine p_partLo (l := k) (ht := Tryz.underlying27) (hi := F.ti39.h) (hl := by simpa using hkl) (hys := rfl) (h := ?_)
            refine p_append (k := (canonR a.sp (a.trs.take i)).length + 1) (ht := Tryz.underlying27) (hi := F.ti39.h) (hnl := by simp; omega) (hy := by exact .inl ⟨rfl, rfl⟩) (hm := by simp; omega) (hlim := by omega) (h := ?_)
            refine p_goJ fun hf => ?_
            refine p_add (r := ((i + 1 : Nat) : Int)) (hr := (by first | omega | (simp only [decide_eq_true_eq, decide_eq_false_iff_not, Bool.or_eq_false_iff, Bool.and_eq_true, Bool.not_eq_true', Bool.not_eq_false'] at *; omega))) (hb := (by first | omega | (simp only [decide_eq_true_eq, decide_eq_false_iff_not, Bool.or_eq_false_iff, Bool.and_eq_true, Bool.not_eq_true', Bool.not_eq_false'] at *; omega))) (h := ?_)
            refine p_goJ ?_
            refine p_some ?_
            have hnew := insR_new (s := a.sp) (t := a.trs[i]) hkl hbe hst (fun h => absurd h (by omega))
            refine ⟨⟨(by simp (decide := true) only [valsE, evE, upd, cv, args0, argsFrom, List.length_map, ↓reduceIte, hE] <;> rfl), (by simp (decide := true) only [valsO, updO, upd, true_and, and_true, false_and, and_false, ↓reduceIte, hE] <;> rfl)⟩, ⟨i + 1, gJ2 + 1 + 1 + 1 + 1, hlt, eV_, by refine Eq.trans eV_ ?_; rw [canonR_s _ hlt, hnew]; simp; omega, by refine Eq.trans oB_ ?_; rw [canonR_s _ hlt, hnew]; simp [List.map_take, List.map_drop]⟩, ?_⟩
            simp (decide := true) only [upd, e6, V.toN, ↓reduceIte]; omega
      · have hge : a.trs.length ≤ i := by simpa using hc21
        obtain rfl : i = a.trs.length := by omega
        rw [List.take_length] at e5 o83
        have hML := canonR_len a.sp a.trs
        have hLB := canonR_ok hok.sp hok.w
        have hE := (⟨hK, hO, e6, e5, o83⟩ : _ ∧ _ ∧ _ ∧ _ ∧ _)
        refine p_goJ ?_
        refine p_seq ?_
        refine p_goJ ?_
        refine p_fresh fun hf => ?_
        refine p_nilCell (g1 := 0 + 1) (d1 := 1) (i := 6) (el := 39) 107 (h := ?_)
        refine p_loopK [1, 2, 5] [(0 + 1, 2), (r, 83)] (fun st => ∃ (j r2 n : Nat) (L2 : List V), (j ≤ (canonR a.sp a.trs).length) ∧ (L2 = (fltT a.sp ((canonR a.sp a.trs).take j)).map trV) ∧ (L2.length = n) ∧ st.env 10 = iV j ∧ st.obj (0 + 1) 1 = .cells 29 [iV a.sp.tag, iV a.sp.dim, .sl 25 (a.sp.parts.map spV), iV a.states, iV a.symbols, .sl 3 (a.fin.map iV), .row r2 107 n] ∧ st.obj r2 107 = .row 39 L2) (fun st => (canonR a.sp a.trs).length - (st.env 10).toN) ?_ fun e ob g3 hK hO hI => ?_
        · exact ⟨0, _, 0, [], by omega, by simp [fltT], rfl, eV_, oB_, oB_⟩
        · obtain ⟨j, r2, n, L2, hj, hL2, hn, e10, o1, o107⟩ := hI
          dsimp only at e10 o1 o107
          simp only [valsE, List.cons.injEq, and_true] at hK
          simp only [valsO, List.cons.injEq, and_true] at hO
          have hE := (⟨hK, hO, e10, o1, o107⟩ : _ ∧ _ ∧ _ ∧ _ ∧ _)
          have hn2 : n ≤ (canonR a.sp a.trs).length := by rw [← hn, hL2, List.length_map]; exact Nat.le_trans (List.length_filter_le ..) (by simp; omega)
          refine p_seq ?_
          refine p_goJ ?_
          refine p_splitC (s := 88) (ht := fun hc88 => ?_) (hf := fun hc88 => ?_)
          · have hjk : j < (canonR a.sp a.trs).length := by simpa using hc88
            have hnl : (fltT a.sp ((canonR a.sp a.trs).take j)).length ≤ (canonR a.sp a.trs).length := Nat.le_trans (List.length_filter_le ..) (by simp; omega)
            refine p_goJ ?_
            refine p_seq ?_
            refine p_goJ fun hf => ?_
            refine p_idxRowN (j) (ht := Tryz.underlying27) (hi := F.ti39.h) (hij := rfl) (hlt := hjk) (h := ?_)
            refine p_goJ fun hf => ?_
            refine p_loadRowA (ht := F.agg37.h) (hi := F.ti37.h) (hy := List.getElem?_eq_getElem (by simpa using hjk)) (hl := by rw [List.getElem_map] <;> rfl) (hlen := rfl) (h := ?_)
            refine p_call (hx := rfl) (hb := ⟨Tryz.func70, by kernel_rfl, rfl⟩) (hf := rNone a.sp (canonR a.sp a.trs)[j].w hok.sp (hLB _ (List.getElem_mem hjk))) (h := ?_)
            refine p_goJ ?_
            refine p_splitC (s := 99) (ht := fun hc99 => ?_) (hf := fun hc99 => ?_)
            · refine p_goJ fun hf => ?_
              refine p_idxRowN (j) (ht := Tryz.underlying27) (hi := F.ti39.h) (hij := rfl) (hlt := hjk) (h := ?_)
              refine p_loadRowAM (ht := F.agg39.h) (hi := F.ti39.h) (hj := hjk) (h := ?_)
              refine p_buildSlice (ht := Tryz.underlying27) (hi := F.ti39.h) (h := ?_)
              refine p_append (k := n + 1) (ht := Tryz.underlying27) (hi := F.ti39.h) (hnl := by exact hn.symm) (hy := by exact ⟨.inl oB_, rfl⟩) (hm := by simp [hn]) (hlim := by omega) (h := ?_)
              refine p_goJ fun hf => ?_
              refine p_add (r := ((j + 1 : Nat) : Int)) (hr := (by first | omega | (simp only [decide_eq_true_eq, decide_eq_false_iff_not, Bool.or_eq_false_iff, Bool.and_eq_true, Bool.not_eq_true', Bool.not_eq_false'] at *; omega))) (hb := (by first | omega | (simp only [decide_eq_true_eq, decide_eq_false_iff_not, Bool.or_eq_false_iff, Bool.and_eq_true, Bool.not_eq_true', Bool.not_eq_false'] at *; omega))) (h := ?_)
              refine p_goJ ?_
              refine p_some ?_
              refine ⟨⟨(by simp (decide := true) only [valsE, evE, upd, cv, args0, argsFrom, List.length_map, ↓reduceIte, hE] <;> rfl), (by simp (decide := true) only [valsO, updO, upd, true_and, and_true, false_and, and_false, ↓reduceIte, hE] <;> rfl)⟩, ⟨j + 1, _, n + 1, L2 ++ [trV (canonR a.sp a.trs)[j]], hjk, by rw [fltT_t hjk (by simpa using hc99), hL2, List.map_append]; rfl, by simp [hn], eV_, oB_, oB_⟩, ?_⟩
              simp (decide := true) only [upd, e10, V.toN, ↓reduceIte]; omega
            · refine p_goJ fun hf => ?_
              refine p_add (r := ((j + 1 : Nat) : Int)) (hr := (by first | omega | (simp only [decide_eq_true_eq, decide_eq_false_iff_not, Bool.or_eq_false_iff, Bool.and_eq_true, Bool.not_eq_true', Bool.not_eq_false'] at *; omega))) (hb := (by first | omega | (simp only [decide_eq_true_eq, decide_eq_false_iff_not, Bool.or_eq_false_iff, Bool.and_eq_true, Bool.not_eq_true', Bool.not_eq_false'] at *; omega))) (h := ?_)
              refine p_goJ ?_
              refine p_some ?_
              refine ⟨⟨(by simp (decide := true) only [valsE, evE, upd, cv, args0, argsFrom, List.length_map, ↓reduceIte, hE] <;> rfl), (by simp (decide := true) only [valsO, updO, upd, true_and, and_true, false_and, and_false, ↓reduceIte, hE] <;> rfl)⟩, ⟨j + 1, r2, n, L2, hjk, by rw [fltT_f hjk (by simpa using hc99), hL2], hn, eV_, oB_, oB_⟩, ?_⟩
              simp (decide := true) only [upd, e10, V.toN, ↓reduceIte]; omega
          · have hge2 : (canonR a.sp a.trs).length ≤ j := by simpa using hc88
            obtain rfl : j = (canonR a.sp a.trs).length := by omega
            subst hL2
            subst hn
            refine p_freeze (g1 := r2) (d1 := 107) (h := ?_)
            refine p_cellSl (g1 := 0 + 1) (d1 := 1) (i := 6) (hn := rfl) (h := ?_)
            refine p_goJ fun hf => ?_
            refine p_buildSlice (ht := Tryz.underlying26) (hi := F.ti3.h) (hvs := rfl) (hl := by intro v hv; cases hv) (h := ?_)
            refine p_goJ fun hf => ?_
            refine p_append (k := a.fin.length) (ht := Tryz.underlying26) (hi := F.ti3.h) (hnl := by simp) (hy := by exact .inl ⟨rfl, rfl⟩) (hm := by simp) (hlim := by omega) (h := ?_)
            refine p_bare ?_
            refine p_freeze (g1 := g3 + 1 + 1) (d1 := 112) (h := ?_)
            refine p_toSl (s := 112) (hn := by simp) (h := ?_)
            refine p_lastOp (h := ?_)
            refine p_goJ ?_
            refine p_r2 (hp := by rw [cRes_ok hch, canonT, List.take_length]; rfl)
end Go.Proofs.YtfpljljjjgicaaaGreatDoor
