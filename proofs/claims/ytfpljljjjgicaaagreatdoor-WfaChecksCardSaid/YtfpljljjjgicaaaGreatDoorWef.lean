import Derived.Test.YtfpljljjjgicaaaGreatDoorWd
/-
  Package facts, all but what goes over functions.
-/
set_option maxHeartbeats 4000000
set_option linter.unusedSimpArgs false
set_option linter.unusedVariables false
namespace Go.Proofs.YtfpljljjjgicaaaGreatDoor
open Go.RowKit
attribute [local irreducible] Wk Tr
theorem bitsFull_ok {n : Int} (hn : -9223372036854775808 ≤ n ∧ n ≤ 9223372036854775807) (h : badN n = false) : FnC Tryz.prog 164 [iV n] (fun r => r = .tup [bV (fullB n), iV 0]) := by
  have := bitsFull n hn
  rw [h] at this
  exact this
structure Fct where
  gen : BitVec 64
  rows : List (BitVec 64)
  deriving DecidableEq
abbrev fctL (f : Fct) : List V := [bV f.gen, .sl 30 (f.rows.map bV)]
abbrev fctV (f : Fct) : V := .agg (fctL f)
def outB (n : Int) (r : BitVec 64) : Bool := decide (r &&& ~~~(fullB n) ≠ 0)
def shapedE (n : Int) (f : Fct) : Int := if badN n then 31 else if decide ((f.rows.length : Int) ≠ n) || outB n f.gen then 30 else if f.rows.any (outB n) then 30 else 0
def canonF (f : Fct) : Fct := ⟨f.gen, f.rows.map fun r => r &&& ~~~f.gen⟩
def checkF (n : Int) (f : Fct) : Int := if shapedE n f ≠ 0 then shapedE n f else if canonF f = f then 0 else 30
def oneF (n : Int) : Fct := ⟨0, (List.range n.toNat).map fun (i : Nat) => worth (i : Int)⟩
def checkedF (n : Int) : List Fct → Int
  | [] => 0
  | f :: l => if checkF n f ≠ 0 then checkF n f else checkedF n l
def combF (n : Int) (a b : Fct) : Fct := canonF ⟨a.gen ||| b.gen, (List.range n.toNat).map fun i => a.rows.getD i 0 ||| b.rows.getD i 0⟩
theorem checkF_ok {n : Int} {f : Fct} (h : checkF n f = 0) : (0 ≤ n ∧ n ≤ 64) ∧ (f.rows.length : Int) = n ∧ outB n f.gen = false ∧ (∀ r ∈ f.rows, outB n r = false) ∧ canonF f = f ∧ badN n = false := by
  unfold checkF at h
  split at h
  · contradiction
  · rename_i h1
    split at h
    · rename_i h2
      have h1 : shapedE n f = 0 := by simpa using h1
      unfold shapedE at h1
      split at h1
      · cases h1
      · rename_i h3
        split at h1
        · cases h1
        · rename_i h4
          split at h1
          · cases h1
          · rename_i h5
            simp only [Bool.or_eq_true, not_or, decide_eq_true_eq, Bool.not_eq_true] at h4
            have h5' := List.any_eq_false.1 (Bool.not_eq_true _ ▸ h5)
            exact ⟨by simp [badN] at h3; omega, by omega, h4.2, fun r hr => by simpa using h5' r hr, h2, by simpa using h3⟩
    · cases h
theorem checkedF_two {n : Int} {a b : Fct} (h : checkedF n [a, b] = 0) : checkF n a = 0 ∧ checkF n b = 0 := by
  unfold checkedF at h
  split at h
  · contradiction
  · rename_i h1
    unfold checkedF at h
    split at h
    · contradiction
    · rename_i h2
      exact ⟨by simpa using h1, by simpa using h2⟩
theorem fill_next {α : Type} {v : V} (F : α → V) (a : Nat → α) (z : α) (i j : Nat) (hv : F (a i) = v) : F (if j < i + 1 then a j else z) = if j = i then v else F (if j < i then a j else z) := by
  by_cases h : j = i
  · subst h; simp [hv]
  · by_cases h1 : j < i
    · simp [h, h1, show j < i + 1 by omega]
    · simp [h, h1, show ¬ j < i + 1 by omega]
theorem fill_done {α β : Type} (F : α → β) (a : Nat → α) (z : α) {n i : Nat} (h : n ≤ i) : ((List.range n).map fun j => F (if j < i then a j else z)) = ((List.range n).map a).map F := by
  rw [List.map_map]
  refine List.map_congr_left fun j hj => ?_
  rw [List.mem_range] at hj
  simp only [show j < i by omega, ↓reduceIte]; rfl
theorem fill_start {α β : Type} (F : α → β) (a : Nat → α) (z : α) (n : Nat) : List.replicate n (F z) = (List.range n).map fun j => F (if j < 0 then a j else z) := by
  rw [replicate_range]; rfl
theorem range_getD {α β : Type} (f : α → β) (z : α) (l : List α) : ((List.range l.length).map fun j => f (l.getD j z)) = l.map f := by
  refine List.ext_getElem (by simp) fun i h1 h2 => ?_
  simp only [List.length_map] at h2
  rw [List.getElem_map, List.getElem_range, List.getElem_map, getD_at h2]
theorem or_getD {a b : List (BitVec 64)} {i : Nat} (h : i < a.length) (h' : i < b.length) : a[i] ||| b[i] = a.getD i 0 ||| b.getD i 0 := by rw [getD_at h, getD_at h']
theorem shaped1 (n : Int) (x : BitVec 64) : FnC Tryz.prog 174 [bV x, .ref [bV (fullB n)]] (fun r => r = .bool (outB n x)) := by
  refine FnC.of (fn := Tryz.f174) ⟨Tryz.func174, by kernel_rfl, rfl⟩ Tryz.ntmps174 (by simp) fun w0 S0 => ?_
  refine p_go ?_
  refine p_ret1 (hp := by rfl)
theorem shaped_bad (n : Int) (f : Fct) (hn : -9223372036854775808 ≤ n ∧ n ≤ 9223372036854775807) (hl : f.rows.length ≤ 17592186044416) (hbad : badN n = true) : FnC Tryz.prog 169 [iV n, fctV f] (fun r => r = iV 31) := by
  refine FnC.of (fn := Tryz.f169) ⟨Tryz.func169, by kernel_rfl, rfl⟩ Tryz.ntmps169 (by simp) fun w0 S0 => ?_
  refine p_go fun hf => ?_
  refine p_call (hx := rfl) (hb := ⟨Tryz.func164, by kernel_rfl, rfl⟩) (hf := bitsFull n hn) (h := ?_)
  refine p_go ?_
  refine p_isC (s := 13) (b := true) (hc := by simp [hbad]) (h := ?_)
  refine p_go ?_
  refine p_ret1 (hp := by rfl)
theorem shaped_ok (n : Int) (f : Fct) (hn : -9223372036854775808 ≤ n ∧ n ≤ 9223372036854775807) (hl : f.rows.length ≤ 17592186044416) (hbad : badN n = false) : FnC Tryz.prog 169 [iV n, fctV f] (fun r => r = iV (if decide ((f.rows.length : Int) ≠ n) || outB n f.gen then 30 else if f.rows.any (outB n) then 30 else 0)) := by
  refine FnC.of (fn := Tryz.f169) ⟨Tryz.func169, by kernel_rfl, rfl⟩ Tryz.ntmps169 (by simp) fun w0 S0 => ?_
  refine p_go fun hf => ?_
  refine p_call (hx := rfl) (hb := ⟨Tryz.func164, by kernel_rfl, rfl⟩) (hf := bitsFull_ok hn hbad) (h := ?_)
  refine p_go fun hf => ?_
  refine p_split (s := 26) (ht := fun hb26 => ?_) (hf := fun hb26 => ?_)
  · -- slot 26 is true
    refine p_go ?_
    refine p_ret1 (hp := by rw [show (decide ((f.rows.length : Int) ≠ n) || outB n f.gen) = true from hb26]; rfl)
  · -- slot 26 is false
    refine p_go fun hf => ?_
    refine p_callFz (vs := [.sl 30 (f.rows.map bV), .fn 174 [.ref [bV (fullB n)]]]) [.cell (0 + 1 + 1) 5 30 [bV (fullB n)]] (hb := ⟨Tryz.func173, by kernel_rfl, rfl⟩) (hz := ⟨oB_, rfl, trivial⟩) (hvs := by simp [fzVal, Fz.val, V.unps, V.unp]) (hf := containsFunc_u64 (outB n) f.rows hl _ _ _ _ rfl ⟨Tryz.func174, by kernel_rfl, rfl⟩ fun r _ => shaped1 n r) (h := ?_)
    simp only [fzAll, Fz.key, Fz.ob', List.map_cons, List.map_nil, Fz.eff]
    refine p_go ?_
    refine p_splitC (s := 31) (ht := fun hc31 => ?_) (hf := fun hc31 => ?_)
    · refine p_go ?_
      refine p_ret1 (hp := by rw [show (decide ((f.rows.length : Int) ≠ n) || outB n f.gen) = false from hb26, hc31]; rfl)
    · refine p_go ?_
      refine p_ret1 (hp := by rw [show (decide ((f.rows.length : Int) ≠ n) || outB n f.gen) = false from hb26, hc31]; rfl)
theorem shaped (n : Int) (f : Fct) (hn : -9223372036854775808 ≤ n ∧ n ≤ 9223372036854775807) (hl : f.rows.length ≤ 17592186044416) : FnC Tryz.prog 169 [iV n, fctV f] (fun r => r = iV (shapedE n f)) := by
  cases h : badN n with
  | true => have := shaped_bad n f hn hl h; rwa [show shapedE n f = 31 by simp [shapedE, h]]
  | false => have := shaped_ok n f hn hl h; simp only [shapedE, h, Bool.false_eq_true, ↓reduceIte]; exact this
theorem canon (f : Fct) (hl : f.rows.length ≤ 17592186044416) : FnC Tryz.prog 161 [fctV f] (fun r => r = fctV (canonF f)) := by
  refine FnC.of (fn := Tryz.f161) ⟨Tryz.func161, by kernel_rfl, rfl⟩ Tryz.ntmps161 (by simp) fun w0 S0 => ?_
  refine p_go fun hf => ?_
  refine p_make (n := f.rows.length) (ht := Tryz.underlying31) (hi := F.ti30.h) (hz := rfl) (hzv := rfl) (hro := rfl) (hb := by omega) (h63 := by omega) (h := ?_)
  refine p_build (hi := F.ti33.h) (hpl := F.pl33.h) (h := ?_)
  refine p_go ?_
  refine p_loopK [1, 2, 3, 14, 15] [(0 + 1, 1), (0 + 1, 2), (0 + 1 + 1, 3)] (fun st => ∃ i : Nat, (i ≤ f.rows.length) ∧ st.env 16 = iV i ∧ st.obj (0 + 1 + 1) 11 = .row 30 ((List.range f.rows.length).map fun j => bV (if j < i then f.rows.getD j 0 &&& ~~~f.gen else 0))) (fun st => f.rows.length - (st.env 16).toN) ?_ fun e ob g1 hK hO hI => ?_
  · exact ⟨0, by omega, eV_, by refine Eq.trans oB_ ?_; exact congrArg _ (fill_start bV _ 0 _)⟩
  · obtain ⟨i, hi, e16, o11⟩ := hI
    dsimp only at e16 o11
    simp only [valsE, List.cons.injEq, and_true] at hK
    simp only [valsO, List.cons.injEq, and_true] at hO
    have hE := (⟨hK, hO, e16, o11⟩ : _ ∧ _ ∧ _ ∧ _)
    refine p_go ?_
    refine p_splitC (s := 17) (ht := fun hc17 => ?_) (hf := fun hc17 => ?_)
    · have hlt : i < f.rows.length := by simpa using hc17
      refine p_go fun hf => ?_
      refine p_idxMap (j := i) (ht := Tryz.underlying31) (hi := F.ti30.h) (hij := rfl) (hj := hlt) (h := ?_)
      refine p_go fun hf => ?_
      refine p_idxRowN (i) (ht := Tryz.underlying31) (hi := F.ti30.h) (hij := rfl) (hlt := hlt) (h := ?_)
      refine p_storeRowF (f' := fun j => bV (if j < i + 1 then f.rows.getD j 0 &&& ~~~f.gen else 0)) F.ti30.h (TI.cells F.ti30.h) (hlt := hlt) (hf := fun j _ => fill_next bV (fun j => f.rows.getD j 0 &&& ~~~f.gen) 0 i j (by simp only [getD_at hlt])) (h := ?_)
      refine p_go fun hf => ?_
      refine p_add (r := ((i + 1 : Nat) : Int)) (hr := (by first | omega | (simp only [decide_eq_true_eq, decide_eq_false_iff_not, Bool.or_eq_false_iff, Bool.and_eq_true, Bool.not_eq_true', Bool.not_eq_false'] at *; omega))) (hb := (by first | omega | (simp only [decide_eq_true_eq, decide_eq_false_iff_not, Bool.or_eq_false_iff, Bool.and_eq_true, Bool.not_eq_true', Bool.not_eq_false'] at *; omega))) (h := ?_)
      refine p_go ?_
      refine p_some ?_
      refine ⟨⟨(by simp (decide := true) only [valsE, evE, upd, cv, args0, argsFrom, List.length_map, ↓reduceIte, hE] <;> rfl), (by simp (decide := true) only [valsO, updO, upd, true_and, and_true, false_and, and_false, ↓reduceIte, hE] <;> rfl)⟩, ⟨i + 1, hlt, eV_, oB_⟩, ?_⟩
      simp (decide := true) only [upd, e16, V.toN, ↓reduceIte]; omega
    · have hge : f.rows.length ≤ i := by simpa using hc17
      refine p_go ?_
      refine p_freeze (g1 := 0 + 1 + 1) (d1 := 11) (h := ?_)
      refine p_cellSl (g1 := 0 + 1) (d1 := 2) (i := 1) (hn := by simp) (h := ?_)
      refine p_r1 (hp := by rw [fill_done bV _ 0 hge, range_getD (fun r => r &&& ~~~f.gen)]; rfl)
theorem fsame (a b : Fct) (ha : a.rows.length ≤ 17592186044416) (hb : b.rows.length ≤ 17592186044416) : FnC Tryz.prog 94 [fctV a, fctV b] (fun r => r = .bool (decide (a = b))) := by
  refine FnC.of (fn := Tryz.f94) ⟨Tryz.func94, by kernel_rfl, rfl⟩ Tryz.ntmps94 (by simp) fun w0 S0 => ?_
  refine p_go fun hf => ?_
  refine p_split (s := 10) (ht := fun hb10 => ?_) (hf := fun hb10 => ?_)
  · -- slot 10 is true
    refine p_go fun hf => ?_
    refine p_call (hx := rfl) (hb := ⟨Tryz.func126, by kernel_rfl, rfl⟩) (hf := equal_u64 a.rows b.rows ha hb) (h := ?_)
    refine p_go ?_
    refine p_ret1 (hp := by cases a; cases b; simp at hb10; simp [hb10])
  · -- slot 10 is false
    refine p_go ?_
    refine p_ret1 (hp := by cases a; cases b; simp at hb10; simp [hb10])
theorem factsCheck (n : Int) (f : Fct) (hn : -9223372036854775808 ≤ n ∧ n ≤ 9223372036854775807) (hl : f.rows.length ≤ 17592186044416) : FnC Tryz.prog 152 [iV n, fctV f] (fun r => r = iV (checkF n f)) := by
  refine FnC.of (fn := Tryz.f152) ⟨Tryz.func152, by kernel_rfl, rfl⟩ Tryz.ntmps152 (by simp) fun w0 S0 => ?_
  refine p_go fun hf => ?_
  refine p_call (hx := rfl) (hb := ⟨Tryz.func169, by kernel_rfl, rfl⟩) (hf := shaped n f hn hl) (h := ?_)
  refine p_go ?_
  refine p_splitC (s := 10) (ht := fun hc10 => ?_) (hf := fun hc10 => ?_)
  · refine p_go ?_
    refine p_ret1 (hp := by simp at hc10; simp [checkF, hc10])
  · refine p_go fun hf => ?_
    refine p_call (hx := rfl) (hb := ⟨Tryz.func161, by kernel_rfl, rfl⟩) (hf := canon f hl) (h := ?_)
    refine p_go fun hf => ?_
    refine p_call (hx := rfl) (hb := ⟨Tryz.func94, by kernel_rfl, rfl⟩) (hf := fsame (canonF f) f (by simpa [canonF] using hl) hl) (h := ?_)
    refine p_go ?_
    refine p_splitC (s := 16) (ht := fun hc16 => ?_) (hf := fun hc16 => ?_)
    · refine p_go ?_
      refine p_ret1 (hp := by simp at hc10 hc16; simp [checkF, hc10, hc16])
    · refine p_go ?_
      refine p_ret1 (hp := by simp at hc10 hc16; simp [checkF, hc10, hc16])
theorem fone (n : Int) (hn : 0 ≤ n ∧ n ≤ 64) : FnC Tryz.prog 137 [iV n] (fun r => r = .tup [fctV (oneF n), iV 0]) := by
  refine FnC.of (fn := Tryz.f137) ⟨Tryz.func137, by kernel_rfl, rfl⟩ Tryz.ntmps137 (by simp) fun w0 S0 => ?_
  refine p_go fun hf => ?_
  refine p_call (hx := rfl) (hb := ⟨Tryz.func164, by kernel_rfl, rfl⟩) (hf := bitsFull_ok (by omega) (by simp [badN]; omega)) (h := ?_)
  refine p_go fun hf => ?_
  refine p_make (n := n.toNat) (ht := Tryz.underlying31) (hi := F.ti30.h) (hz := rfl) (hzv := rfl) (hro := rfl) (hx := by rw [show ((n.toNat : Nat) : Int) = n by omega]; exact eV_) (hb := by omega) (h63 := by omega) (h := ?_)
  refine p_build (hi := F.ti33.h) (hpl := F.pl33.h) (h := ?_)
  refine p_go ?_
  refine p_loopK [2, 6, 21] [(0 + 1, 2), (0 + 1 + 1 + 1 + 1, 6)] (fun st => ∃ i : Nat, (i ≤ n.toNat) ∧ st.env 22 = iV i ∧ st.obj (0 + 1 + 1 + 1 + 1) 17 = .row 30 ((List.range n.toNat).map fun j => bV (if j < i then worth (j : Int) else 0))) (fun st => n.toNat - (st.env 22).toN) ?_ fun e ob g1 hK hO hI => ?_
  · exact ⟨0, by omega, eV_, by refine Eq.trans oB_ ?_; exact congrArg _ (fill_start bV _ 0 _)⟩
  · obtain ⟨i, hi, e22, o17⟩ := hI
    dsimp only at e22 o17
    simp only [valsE, List.cons.injEq, and_true] at hK
    simp only [valsO, List.cons.injEq, and_true] at hO
    have hE := (⟨hK, hO, e22, o17⟩ : _ ∧ _ ∧ _ ∧ _)
    refine p_go ?_
    refine p_splitC (s := 23) (ht := fun hc23 => ?_) (hf := fun hc23 => ?_)
    · have hlt : i < n.toNat := by have := hc23; simp at this; omega
      refine p_go fun hf => ?_
      refine p_conv (hs := Tryz.underlying3) (ht := Tryz.underlying123) (h := ?_)
      refine p_shlB (n := i) (hq := by rw [wrapu (by omega) (by omega), Int.toNat_natCast]) (h := ?_)
      refine p_idxRowN (i) (ht := Tryz.underlying31) (hi := F.ti30.h) (hij := rfl) (hlt := hlt) (h := ?_)
      refine p_storeRowF (f' := fun j => bV (if j < i + 1 then worth (j : Int) else 0)) F.ti30.h (TI.cells F.ti30.h) (hlt := hlt) (hf := fun j _ => fill_next bV (fun j : Nat => worth (j : Int)) 0 i j (by simp [worth])) (h := ?_)
      refine p_go fun hf => ?_
      refine p_add (r := ((i + 1 : Nat) : Int)) (hr := (by first | omega | (simp only [decide_eq_true_eq, decide_eq_false_iff_not, Bool.or_eq_false_iff, Bool.and_eq_true, Bool.not_eq_true', Bool.not_eq_false'] at *; omega))) (hb := (by first | omega | (simp only [decide_eq_true_eq, decide_eq_false_iff_not, Bool.or_eq_false_iff, Bool.and_eq_true, Bool.not_eq_true', Bool.not_eq_false'] at *; omega))) (h := ?_)
      refine p_go ?_
      refine p_some ?_
      refine ⟨⟨(by simp (decide := true) only [valsE, evE, upd, cv, args0, argsFrom, List.length_map, ↓reduceIte, hE] <;> rfl), (by simp (decide := true) only [valsO, updO, upd, true_and, and_true, false_and, and_false, ↓reduceIte, hE] <;> rfl)⟩, ⟨i + 1, hlt, eV_, oB_⟩, ?_⟩
      simp (decide := true) only [upd, e22, V.toN, ↓reduceIte]; omega
    · have hge : n.toNat ≤ i := by have := hc23; simp at this; omega
      refine p_go ?_
      refine p_freeze (g1 := 0 + 1 + 1 + 1 + 1) (d1 := 17) (h := ?_)
      refine p_cellSl (g1 := 0 + 1) (d1 := 2) (i := 1) (hn := by simp) (h := ?_)
      refine p_r2 (hp := by rw [fill_done bV (fun j : Nat => worth (j : Int)) 0 hge]; rfl)
theorem fchecked (n : Int) (l : List Fct) (hn : -9223372036854775808 ≤ n ∧ n ≤ 9223372036854775807) (hl : l.length ≤ 17592186044416) (hr : ∀ f ∈ l, f.rows.length ≤ 17592186044416) : FnC Tryz.prog 160 [iV n, .sl 33 (l.map fctV)] (fun r => r = iV (checkedF n l)) := by
  refine FnC.of (fn := Tryz.f160) ⟨Tryz.func160, by kernel_rfl, rfl⟩ Tryz.ntmps160 (by simp) fun w0 S0 => ?_
  refine p_go ?_
  refine p_loopK [0, 8, 9] [] (fun st => ∃ i : Nat, (i ≤ l.length) ∧ (checkedF n l = checkedF n (l.drop i)) ∧ st.env 10 = iV i) (fun st => l.length - (st.env 10).toN) ?_ fun e ob g1 hK hO hI => ?_
  · exact ⟨0, by omega, rfl, eV_⟩
  · obtain ⟨i, hi, hs, e10⟩ := hI
    dsimp only at e10
    simp only [valsE, List.cons.injEq, and_true] at hK
    have hE := (⟨hK, e10⟩ : _ ∧ _)
    refine p_go ?_
    refine p_splitC (s := 11) (ht := fun hc11 => ?_) (hf := fun hc11 => ?_)
    · have hlt : i < l.length := by simpa using hc11
      have hd := List.drop_eq_getElem_cons hlt
      refine p_go fun hf => ?_
      refine p_idxMap (j := i) (ht := Tryz.underlying194) (hi := F.ti33.h) (hij := rfl) (hj := hlt) (h := ?_)
      refine p_go fun hf => ?_
      refine p_call (hx := rfl) (hb := ⟨Tryz.func152, by kernel_rfl, rfl⟩) (hf := factsCheck n l[i] hn (hr _ (List.getElem_mem hlt))) (h := ?_)
      refine p_go ?_
      refine p_splitC (s := 18) (ht := fun hc18 => ?_) (hf := fun hc18 => ?_)
      · refine p_go ?_
        refine p_ret1 (hp := by rw [hs, hd, checkedF, if_pos (by simpa using hc18)])
      · refine p_go fun hf => ?_
        refine p_add (r := ((i + 1 : Nat) : Int)) (hr := (by first | omega | (simp only [decide_eq_true_eq, decide_eq_false_iff_not, Bool.or_eq_false_iff, Bool.and_eq_true, Bool.not_eq_true', Bool.not_eq_false'] at *; omega))) (hb := (by first | omega | (simp only [decide_eq_true_eq, decide_eq_false_iff_not, Bool.or_eq_false_iff, Bool.and_eq_true, Bool.not_eq_true', Bool.not_eq_false'] at *; omega))) (h := ?_)
        refine p_go ?_
        refine p_some ?_
        refine ⟨⟨(by simp (decide := true) only [valsE, evE, upd, cv, args0, argsFrom, List.length_map, ↓reduceIte, hE] <;> rfl), (by simp (decide := true) only [valsO, updO, upd, true_and, and_true, false_and, and_false, ↓reduceIte, hE] <;> rfl)⟩, ⟨i + 1, hlt, by rw [hs, hd, checkedF, if_neg (by simpa using hc18)], eV_⟩, ?_⟩
        simp (decide := true) only [upd, e10, V.toN, ↓reduceIte]; omega
    · have hge : l.length ≤ i := by simpa using hc11
      refine p_go ?_
      refine p_ret1 (hp := by rw [hs, List.drop_eq_nil_of_le hge, checkedF])
theorem fcombine (n : Int) (a b : Fct) (hn : -9223372036854775808 ≤ n ∧ n ≤ 9223372036854775807) (ha : a.rows.length ≤ 17592186044416) (hb : b.rows.length ≤ 17592186044416) : FnC Tryz.prog 132 [iV n, fctV a, fctV b] (fun r => r = .tup [fctV (if checkedF n [a, b] = 0 then combF n a b else ⟨0, []⟩), iV (checkedF n [a, b])]) := by
  refine FnC.of (fn := Tryz.f132) ⟨Tryz.func132, by kernel_rfl, rfl⟩ Tryz.ntmps132 (by simp) fun w0 S0 => ?_
  refine p_go fun hf => ?_
  refine p_buildSlice (ht := Tryz.underlying194) (hi := F.ti33.h) (h := ?_)
  refine p_callRow (vs := [iV n, .sl 33 ([a, b].map fctV)]) (0 + 1 + 1) 14 (hb := ⟨Tryz.func160, by kernel_rfl, rfl⟩) (hvs := by simp [V.frz]) (hf := fchecked n [a, b] hn (by simp) (by simp; exact ⟨ha, hb⟩)) (h := ?_)
  refine p_go ?_
  refine p_splitC (s := 17) (ht := fun hc17 => ?_) (hf := fun hc17 => ?_)
  · refine p_go fun hf => ?_
    refine p_build (hi := F.ti33.h) (hpl := F.pl33.h) (h := ?_)
    refine p_go ?_
    refine p_cellNil (g1 := 0 + 1) (d1 := 6) (i := 1) (el := 30) (h := ?_)
    refine p_r2 (hp := by simp at hc17; simp [hc17])
  · have h0 : checkedF n [a, b] = 0 := by simpa using hc17
    have hA := checkF_ok (checkedF_two h0).1
    have hB := checkF_ok (checkedF_two h0).2
    have hA1 := hA.2.1
    have hB1 := hB.2.1
    have hN := hA.1
    refine p_go fun hf => ?_
    refine p_make (n := n.toNat) (ht := Tryz.underlying31) (hi := F.ti30.h) (hz := rfl) (hzv := rfl) (hro := rfl) (hx := by rw [show ((n.toNat : Nat) : Int) = n by omega]; exact eV_) (hb := by omega) (h63 := by omega) (h := ?_)
    refine p_build (hi := F.ti33.h) (hpl := F.pl33.h) (h := ?_)
    refine p_go ?_
    refine p_loopK [4, 5, 6, 9, 30] [(0 + 1, 4), (0 + 1, 5), (0 + 1, 6), (0 + 1 + 1 + 1 + 1, 9)] (fun st => ∃ i : Nat, (i ≤ n.toNat) ∧ st.env 31 = iV i ∧ st.obj (0 + 1 + 1 + 1 + 1) 26 = .row 30 ((List.range n.toNat).map fun j => bV (if j < i then a.rows.getD j 0 ||| b.rows.getD j 0 else 0))) (fun st => n.toNat - (st.env 31).toN) ?_ fun e ob g1 hK hO hI => ?_
    · exact ⟨0, by omega, eV_, by refine Eq.trans oB_ ?_; exact congrArg _ (fill_start bV _ 0 _)⟩
    · obtain ⟨i, hi, e31, o26⟩ := hI
      dsimp only at e31 o26
      simp only [valsE, List.cons.injEq, and_true] at hK
      simp only [valsO, List.cons.injEq, and_true] at hO
      have hE := (⟨hK, hO, e31, o26⟩ : _ ∧ _ ∧ _ ∧ _)
      refine p_go ?_
      refine p_splitC (s := 32) (ht := fun hc32 => ?_) (hf := fun hc32 => ?_)
      · have hlt : i < n.toNat := by have := hc32; simp at this; omega
        have hla : i < a.rows.length := by omega
        have hlb : i < b.rows.length := by omega
        refine p_go fun hf => ?_
        refine p_idxMap (j := i) (ht := Tryz.underlying31) (hi := F.ti30.h) (hij := rfl) (hj := hla) (h := ?_)
        refine p_go fun hf => ?_
        refine p_idxMap (j := i) (ht := Tryz.underlying31) (hi := F.ti30.h) (hij := rfl) (hj := hlb) (h := ?_)
        refine p_go fun hf => ?_
        refine p_idxRowN (i) (ht := Tryz.underlying31) (hi := F.ti30.h) (hij := rfl) (hlt := hlt) (h := ?_)
        refine p_storeRowF (f' := fun j => bV (if j < i + 1 then a.rows.getD j 0 ||| b.rows.getD j 0 else 0)) F.ti30.h (TI.cells F.ti30.h) (hlt := hlt) (hf := fun j _ => fill_next bV (fun j => a.rows.getD j 0 ||| b.rows.getD j 0) 0 i j (by rw [← or_getD hla hlb])) (h := ?_)
        refine p_go fun hf => ?_
        refine p_add (r := ((i + 1 : Nat) : Int)) (hr := (by first | omega | (simp only [decide_eq_true_eq, decide_eq_false_iff_not, Bool.or_eq_false_iff, Bool.and_eq_true, Bool.not_eq_true', Bool.not_eq_false'] at *; omega))) (hb := (by first | omega | (simp only [decide_eq_true_eq, decide_eq_false_iff_not, Bool.or_eq_false_iff, Bool.and_eq_true, Bool.not_eq_true', Bool.not_eq_false'] at *; omega))) (h := ?_)
        refine p_go ?_
        refine p_some ?_
        refine ⟨⟨(by simp (decide := true) only [valsE, evE, upd, cv, args0, argsFrom, List.length_map, ↓reduceIte, hE] <;> rfl), (by simp (decide := true) only [valsO, updO, upd, true_and, and_true, false_and, and_false, ↓reduceIte, hE] <;> rfl)⟩, ⟨i + 1, hlt, eV_, oB_⟩, ?_⟩
        simp (decide := true) only [upd, e31, V.toN, ↓reduceIte]; omega
      · have hge : n.toNat ≤ i := by have := hc32; simp at this; omega
        refine p_freeze (g1 := (0 + 1 + 1 + 1 + 1)) (d1 := 26) (h := ?_)
        refine p_cellSl (g1 := (0 + 1 + 1 + 1 + 1)) (d1 := 9) (i := 1) (hn := by simp) (h := ?_)
        rw [fill_done bV (fun j => a.rows.getD j 0 ||| b.rows.getD j 0) 0 hge]
        refine p_go fun hf => ?_
        refine p_call (hx := rfl) (hb := ⟨Tryz.func161, by kernel_rfl, rfl⟩) (hf := canon ⟨a.gen ||| b.gen, (List.range n.toNat).map fun j => a.rows.getD j 0 ||| b.rows.getD j 0⟩ (by simp; omega)) (h := ?_)
        refine p_go ?_
        refine p_r2 (hp := by rw [if_pos h0, h0, combF])
end Go.Proofs.YtfpljljjjgicaaaGreatDoor
/-
  bits.Next and facts.makes: loops over functions.
-/
set_option maxHeartbeats 4000000
set_option linter.unusedSimpArgs false
set_option linter.unusedVariables false
namespace Go.Proofs.YtfpljljjjgicaaaGreatDoor
open Go.RowKit
attribute [local irreducible] Wk Tr
def upB (s : BitVec 64) (frm : Int) : BitVec 64 := (s >>> (max frm 0).toNat) <<< (max frm 0).toNat
def nextR (s : BitVec 64) (frm : Int) : Int × Bool := if 64 ≤ frm then (0, false) else if upB s frm = 0 then (0, false) else ((lowB (upB s frm) : Nat), true)
theorem max_wrap {n : Int} (h : n < 64) : IntKind.u64.wrap (if n < 0 then 0 else n) = (((max n 0).toNat : Nat) : Int) := by
  rw [wrapu (by split <;> omega) (by split <;> omega)]
  congr 2; split <;> omega
theorem upB_bit (s : BitVec 64) (k j : Nat) (hj : j < 64) : (upB s k).getLsbD j = (decide (k ≤ j) && s.getLsbD j) := by
  have h : (max (k : Int) 0).toNat = k := by omega
  rw [upB, h, BitVec.getLsbD_shiftLeft, BitVec.getLsbD_ushiftRight]
  by_cases hk : k ≤ j
  · simp [hk, hj, show ¬ j < k by omega]
  · simp [hk, hj, show j < k by omega]
theorem nextR_true {s : BitVec 64} {k : Nat} {i : Int} (h : nextR s k = (i, true)) : ∃ i' : Nat, i = i' ∧ k ≤ i' ∧ i' < 64 ∧ s.getLsbD i' = true ∧ ∀ j, k ≤ j → j < i' → s.getLsbD j = false := by
  unfold nextR at h
  split at h
  · cases h
  · split at h
    · cases h
    · rename_i h0 h1
      cases h
      obtain ⟨h2, h3, h4⟩ := lowB_spec h1
      rw [upB_bit s k _ h2, Bool.and_eq_true, decide_eq_true_eq] at h3
      refine ⟨_, rfl, h3.1, h2, h3.2, fun j hj hlt => ?_⟩
      have := h4 j hlt
      rw [upB_bit s k j (by omega)] at this
      simpa [hj] using this
theorem nextR_false {s : BitVec 64} {k : Nat} {i : Int} (h : nextR s k = (i, false)) : ∀ j, k ≤ j → s.getLsbD j = false := by
  intro j hj
  by_cases hj64 : j < 64
  · unfold nextR at h
    split at h
    · omega
    · split at h
      · rename_i h0 h1
        have := upB_bit s k j hj64
        rw [h1] at this
        simpa [hj] using this.symm
      · cases h
  · exact BitVec.getLsbD_of_ge s j (by omega)
/-- What a transformer makes of a set's things below k. -/
def foldS (f : Fct) (s : BitVec 64) (k : Nat) : BitVec 64 := (List.range k).foldl (fun o i => if s.getLsbD i = true then o ||| f.rows.getD i 0 else o) f.gen
def makesF (f : Fct) (s : BitVec 64) : BitVec 64 := foldS f s 64
theorem foldS_succ (f : Fct) (s : BitVec 64) (k : Nat) : foldS f s (k + 1) = if s.getLsbD k = true then foldS f s k ||| f.rows.getD k 0 else foldS f s k := range_fold _ _ _
theorem foldS_skip {f : Fct} {s : BitVec 64} {k i : Nat} (hki : k ≤ i) (h : ∀ j, k ≤ j → j < i → s.getLsbD j = false) : foldS f s i = foldS f s k := by
  induction i with
  | zero => rw [show k = 0 by omega]
  | succ i ih =>
    by_cases hk : k = i + 1
    · rw [hk]
    · rw [foldS_succ, h i (by omega) (by omega)]
      exact ih (by omega) fun j h1 h2 => h j h1 (by omega)
theorem foldS_all {f : Fct} {s : BitVec 64} {k : Nat} (hk : k ≤ 64) (h : ∀ j, k ≤ j → s.getLsbD j = false) : makesF f s = foldS f s k := foldS_skip hk fun j h1 _ => h j h1
def stepMu (st : St) : Nat := match st.env 4 with
  | .bool true => 65 - (st.env 3).toN
  | _ => 0
theorem stepMu_is {e : Nat → V} {ob : Nat → Nat → Ob} {g : Nat} {i : Int} {ok : Bool} (h3 : e 3 = iV i) (h4 : e 4 = .bool ok) : stepMu ⟨e, ob, g⟩ = if ok then 65 - i.toNat else 0 := by
  simp only [stepMu, h3, h4]
  cases ok <;> rfl
theorem mu_less {s : BitVec 64} {i : Nat} (hi : i < 64) : (if (nextR s ((i + 1 : Nat) : Int)).2 then 65 - (nextR s ((i + 1 : Nat) : Int)).1.toNat else 0) < 65 - i := by
  rcases h : nextR s ((i + 1 : Nat) : Int) with ⟨j, ok⟩
  cases ok with
  | false => simp; omega
  | true => obtain ⟨j', rfl, h1, _⟩ := nextR_true h; simp; omega
theorem next (s : BitVec 64) (frm : Int) : FnC Tryz.prog 177 [bV s, iV frm] (fun r => r = .tup [iV (nextR s frm).1, .bool (nextR s frm).2]) := by
  refine FnC.of (fn := Tryz.f177) ⟨Tryz.func177, by kernel_rfl, rfl⟩ Tryz.ntmps177 (by simp) fun w0 S0 => ?_
  refine p_go ?_
  refine p_splitC (s := 8) (ht := fun hc8 => ?_) (hf := fun hc8 => ?_)
  · refine p_go ?_
    refine p_r2 (hp := by simp at hc8; simp [nextR, hc8])
  · refine p_go fun hf => ?_
    refine p_max (h := ?_)
    refine p_conv (hs := Tryz.underlying3) (ht := Tryz.underlying123) (h := ?_)
    refine p_shrB (n := (max frm 0).toNat) (hq := max_wrap (by simpa using hc8)) (h := ?_)
    refine p_go fun hf => ?_
    refine p_max (h := ?_)
    refine p_conv (hs := Tryz.underlying3) (ht := Tryz.underlying123) (h := ?_)
    refine p_shlB (n := (max frm 0).toNat) (hq := max_wrap (by simpa using hc8)) (h := ?_)
    refine p_enter (hb := ⟨Tryz.func179, by kernel_rfl, rfl⟩) (hnt := Tryz.ntmps179) (h := fun a0 => ?_)
    refine p_go ?_
    refine p_retE1 (v := .fn 180 [.ptr (0 + 1 + 1 + 1 + 1) 1 0]) rfl eV_ ?_
    refine p_go ?_
    refine p_range (hb := ⟨Tryz.func180, by kernel_rfl, rfl⟩) (hnt := Tryz.ntmps180) (h := fun a1 a2 => ?_)
    refine p_go ?_
    refine p_once ?_
    refine p_go ?_
    refine p_cond (ht := fun hc => ?_) (hf := fun hc => ?_)
    · refine p_go fun hf => ?_
      refine p_call (hb := ⟨Tryz.func181, by kernel_rfl, rfl⟩) (hf := ctz _) (h := ?_)
      refine p_yield (h := fun a3 b3 => ?_)
      refine p_go ?_
      refine p_beg (h := ?_)
      refine p_go ?_
      refine p_rndR ?_
      refine p_yldK (h := ?_)
      refine p_go ?_
      refine p_retE0' rfl ?_
      refine p_rngJ (h := ?_)
      refine p_go ?_
      refine p_r2 (hp := by have h1 : ¬ (64 ≤ frm) := (by simpa using hc8); have h2 : ¬ upB s frm = 0 := (by simpa [upB] using hc); simp only [nextR, if_neg h1, if_neg h2]; rfl)
    · refine p_go ?_
      refine p_retE0 rfl ?_
      refine p_rngN (h := ?_)
      refine p_go ?_
      refine p_r2 (hp := by have h1 : ¬ (64 ≤ frm) := (by simpa using hc8); have h2 : upB s frm = 0 := (by simpa [upB] using hc); simp only [nextR, if_neg h1, if_pos h2])
theorem makes (f : Fct) (s : BitVec 64) (hl : f.rows.length ≤ 64) (hs : ∀ i, s.getLsbD i = true → i < f.rows.length) : FnC Tryz.prog 167 [fctV f, bV s] (fun r => r = bV (makesF f s)) := by
  refine FnC.of (fn := Tryz.f167) ⟨Tryz.func167, by kernel_rfl, rfl⟩ Tryz.ntmps167 (by simp) fun w0 S0 => ?_
  refine p_go fun hf => ?_
  refine p_enter (hb := ⟨Tryz.func172, by kernel_rfl, rfl⟩) (hnt := Tryz.ntmps172) (h := fun a0 => ?_)
  refine p_go ?_
  refine p_retE1 (v := .fn 176 [.ptr (0 + 1 + 1 + 1 + 1) 1 0]) rfl eV_ ?_
  refine p_go ?_
  refine p_range (hb := ⟨Tryz.func176, by kernel_rfl, rfl⟩) (hnt := Tryz.ntmps176) (h := fun a1 a2 => ?_)
  refine p_go fun hf => ?_
  refine p_call (hb := ⟨Tryz.func177, by kernel_rfl, rfl⟩) (hf := next s 0) (h := ?_)
  refine p_go ?_
  refine p_loopK [0, 1] [(0 + 1 + 1 + 1 + 1 + 1 + 1, 0), (0 + 1 + 1 + 1 + 1, 1), (0 + 1, 2)] (fun st => ∃ (k : Nat) (i : Int) (ok : Bool), k ≤ 64 ∧ nextR s k = (i, ok) ∧ st.env 3 = iV i ∧ st.env 4 = .bool ok ∧ st.obj (0 + 1 + 1) 5 = .cells 30 [bV (foldS f s k)]) stepMu ?_ fun e ob g1 hK hO hI => ?_
  · exact ⟨0, _, _, by omega, rfl, eV_, eV_, oB_⟩
  · obtain ⟨k, i, ok, hk, hnx, e3, e4, o5⟩ := hI
    dsimp only at e3 e4 o5
    simp only [valsE, List.cons.injEq, and_true] at hK
    simp only [valsO, List.cons.injEq, and_true] at hO
    have hE := (⟨hK, hO, e3, e4, o5⟩ : _ ∧ _ ∧ _ ∧ _ ∧ _)
    refine p_go ?_
    refine p_cond (ht := fun hc => ?_) (hf := fun hc => ?_)
    · subst hc
      obtain ⟨i', rfl, h1, h2, h3, h4⟩ := nextR_true hnx
      have hlt := hs i' h3
      refine p_go fun hf => ?_
      refine p_yield (h := fun a3 b3 => ?_)
      refine p_go ?_
      refine p_beg (h := ?_)
      refine p_go fun hf => ?_
      refine p_idxMap (j := i') (ht := Tryz.underlying31) (hi := F.ti30.h) (hij := rfl) (hj := hlt) (h := ?_)
      refine p_go ?_
      refine p_rndN ?_
      refine p_yldK (h := ?_)
      refine p_go fun hf => ?_
      refine p_add (r := ((i' + 1 : Nat) : Int)) (hr := by omega) (hb := by omega) (h := ?_)
      refine p_call (hb := ⟨Tryz.func177, by kernel_rfl, rfl⟩) (hf := next s ((i' + 1 : Nat) : Int)) (h := ?_)
      refine p_go ?_
      refine p_some ?_
      refine ⟨⟨(by simp (decide := true) only [valsE, evE, upd, cv, args0, argsFrom, List.length_map, ↓reduceIte, hE] <;> rfl), (by simp (decide := true) only [valsO, updO, upd, true_and, and_true, false_and, and_false, ↓reduceIte, hE] <;> rfl)⟩, ⟨i' + 1, _, _, h2, rfl, eV_, eV_, by rw [foldS_succ, if_pos h3, foldS_skip h1 h4, getD_at hlt]; exact oB_⟩, ?_⟩
      rw [stepMu_is (i := (nextR s ((i' + 1 : Nat) : Int)).1) (ok := (nextR s ((i' + 1 : Nat) : Int)).2) eV_ eV_, stepMu_is e3 e4]
      exact mu_less h2
    · subst hc
      refine p_go ?_
      refine p_retE0 rfl ?_
      refine p_rngN (h := ?_)
      refine p_go ?_
      refine p_ret1 (hp := by rw [foldS_all hk (nextR_false hnx)])
def extF (n : Int) (a b : Fct) : Fct := canonF ⟨makesF b a.gen, (List.range n.toNat).map fun i => makesF b (a.rows.getD i 0)⟩
theorem outB_bits {n : Int} {s : BitVec 64} (hn : 0 ≤ n) (h : outB n s = false) : ∀ i, s.getLsbD i = true → (i : Int) < n := by
  intro i hi
  have h1 : s &&& ~~~(fullB n) = 0 := by simpa [outB] using h
  have hi64 : i < 64 := BitVec.lt_of_getLsbD hi
  have h2 := congrArg (fun x : BitVec 64 => x.getLsbD i) h1
  simp only [BitVec.getLsbD_and, hi, BitVec.getLsbD_not, hi64, decide_true, Bool.true_and, fullB_bit n i hi64 hn] at h2
  simpa using h2
theorem fextend (n : Int) (a b : Fct) (hn : -9223372036854775808 ≤ n ∧ n ≤ 9223372036854775807) (ha : a.rows.length ≤ 17592186044416) (hb : b.rows.length ≤ 17592186044416) : FnC Tryz.prog 140 [iV n, fctV a, fctV b] (fun r => r = .tup [fctV (if checkedF n [a, b] = 0 then extF n a b else ⟨0, []⟩), iV (checkedF n [a, b])]) := by
  refine FnC.of (fn := Tryz.f140) ⟨Tryz.func140, by kernel_rfl, rfl⟩ Tryz.ntmps140 (by simp) fun w0 S0 => ?_
  refine p_go fun hf => ?_
  refine p_buildSlice (ht := Tryz.underlying194) (hi := F.ti33.h) (h := ?_)
  refine p_callRow (vs := [iV n, .sl 33 ([a, b].map fctV)]) (0 + 1 + 1) 14 (hb := ⟨Tryz.func160, by kernel_rfl, rfl⟩) (hvs := by simp [V.frz]) (hf := fchecked n [a, b] hn (by simp) (by simp; exact ⟨ha, hb⟩)) (h := ?_)
  refine p_go ?_
  refine p_splitC (s := 17) (ht := fun hc17 => ?_) (hf := fun hc17 => ?_)
  · refine p_go fun hf => ?_
    refine p_build (hi := F.ti33.h) (hpl := F.pl33.h) (h := ?_)
    refine p_go ?_
    refine p_cellNil (g1 := 0 + 1) (d1 := 6) (i := 1) (el := 30) (h := ?_)
    refine p_r2 (hp := by simp at hc17; simp [hc17])
  · have h0 : checkedF n [a, b] = 0 := by simpa using hc17
    have hA := checkF_ok (checkedF_two h0).1
    have hB := checkF_ok (checkedF_two h0).2
    have hA1 := hA.2.1
    have hB1 := hB.2.1
    have hN := hA.1
    refine p_go fun hf => ?_
    refine p_call (hx := rfl) (hb := ⟨Tryz.func167, by kernel_rfl, rfl⟩) (hf := makes b a.gen (by omega) fun i hi => by have := outB_bits hN.1 hA.2.2.1 i hi; omega) (h := ?_)
    refine p_go fun hf => ?_
    refine p_make (n := n.toNat) (ht := Tryz.underlying31) (hi := F.ti30.h) (hz := rfl) (hzv := rfl) (hro := rfl) (hx := by rw [show ((n.toNat : Nat) : Int) = n by omega]; exact eV_) (hb := by omega) (h63 := by omega) (h := ?_)
    refine p_build (hi := F.ti33.h) (hpl := F.pl33.h) (h := ?_)
    refine p_go ?_
    refine p_loopK [4, 5, 6, 9, 29] [(0 + 1, 4), (0 + 1, 5), (0 + 1, 6), (0 + 1 + 1 + 1 + 1, 9)] (fun st => ∃ i : Nat, (i ≤ n.toNat) ∧ st.env 30 = iV i ∧ st.obj (0 + 1 + 1 + 1 + 1) 25 = .row 30 ((List.range n.toNat).map fun j => bV (if j < i then makesF b (a.rows.getD j 0) else 0))) (fun st => n.toNat - (st.env 30).toN) ?_ fun e ob g1 hK hO hI => ?_
    · exact ⟨0, by omega, eV_, by refine Eq.trans oB_ ?_; exact congrArg _ (fill_start bV (fun j => makesF b (a.rows.getD j 0)) 0 _)⟩
    · obtain ⟨i, hi, e30, o25⟩ := hI
      dsimp only at e30 o25
      simp only [valsE, List.cons.injEq, and_true] at hK
      simp only [valsO, List.cons.injEq, and_true] at hO
      have hE := (⟨hK, hO, e30, o25⟩ : _ ∧ _ ∧ _ ∧ _)
      refine p_go ?_
      refine p_splitC (s := 31) (ht := fun hc31 => ?_) (hf := fun hc31 => ?_)
      · have hlt : i < n.toNat := by have := hc31; simp at this; omega
        have hla : i < a.rows.length := by omega
        refine p_go fun hf => ?_
        refine p_idxMap (j := i) (ht := Tryz.underlying31) (hi := F.ti30.h) (hij := rfl) (hj := hla) (h := ?_)
        refine p_go fun hf => ?_
        refine p_call (hx := rfl) (hb := ⟨Tryz.func167, by kernel_rfl, rfl⟩) (hf := makes b a.rows[i] (by omega) fun k hk => by have := outB_bits hN.1 (hA.2.2.2.1 _ (List.getElem_mem hla)) k hk; omega) (h := ?_)
        refine p_idxRowN (i) (ht := Tryz.underlying31) (hi := F.ti30.h) (hij := rfl) (hlt := hlt) (h := ?_)
        refine p_storeRowF (f' := fun j => bV (if j < i + 1 then makesF b (a.rows.getD j 0) else 0)) F.ti30.h (TI.cells F.ti30.h) (hlt := hlt) (hf := fun j _ => fill_next bV (fun j => makesF b (a.rows.getD j 0)) 0 i j (by simp only [getD_at hla])) (h := ?_)
        refine p_go fun hf => ?_
        refine p_add (r := ((i + 1 : Nat) : Int)) (hr := (by first | omega | (simp only [decide_eq_true_eq, decide_eq_false_iff_not, Bool.or_eq_false_iff, Bool.and_eq_true, Bool.not_eq_true', Bool.not_eq_false'] at *; omega))) (hb := (by first | omega | (simp only [decide_eq_true_eq, decide_eq_false_iff_not, Bool.or_eq_false_iff, Bool.and_eq_true, Bool.not_eq_true', Bool.not_eq_false'] at *; omega))) (h := ?_)
        refine p_go ?_
        refine p_some ?_
        refine ⟨⟨(by simp (decide := true) only [valsE, evE, upd, cv, args0, argsFrom, List.length_map, ↓reduceIte, hE] <;> rfl), (by simp (decide := true) only [valsO, updO, upd, true_and, and_true, false_and, and_false, ↓reduceIte, hE] <;> rfl)⟩, ⟨i + 1, hlt, eV_, oB_⟩, ?_⟩
        simp (decide := true) only [upd, e30, V.toN, ↓reduceIte]; omega
      · have hge : n.toNat ≤ i := by have := hc31; simp at this; omega
        refine p_freeze (g1 := (0 + 1 + 1 + 1 + 1)) (d1 := 25) (h := ?_)
        refine p_cellSl (g1 := (0 + 1 + 1 + 1 + 1)) (d1 := 9) (i := 1) (hn := by simp) (h := ?_)
        rw [fill_done bV (fun j => makesF b (a.rows.getD j 0)) 0 hge]
        refine p_go fun hf => ?_
        refine p_call (hx := rfl) (hb := ⟨Tryz.func161, by kernel_rfl, rfl⟩) (hf := canon ⟨makesF b a.gen, (List.range n.toNat).map (fun j => makesF b (a.rows.getD j 0))⟩ (by simp; omega)) (h := ?_)
        refine p_go ?_
        refine p_r2 (hp := by rw [if_pos h0, h0, extF])
end Go.Proofs.YtfpljljjjgicaaaGreatDoor
