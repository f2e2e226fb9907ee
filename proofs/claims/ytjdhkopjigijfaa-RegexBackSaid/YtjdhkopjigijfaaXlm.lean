import Derived.Test.YtjdhkopjigijfaaXk
/-
  Expressions joined: the program's function and the reference's.
-/
set_option linter.unusedSimpArgs false
set_option linter.unusedVariables false
set_option maxHeartbeats 4000000
namespace Go.Proofs.Ytjdhkopjigijfaa
open Go.RowKit
attribute [local irreducible] Wk Tr
/-- The Kids of some expressions joined. -/
def jkL (op : Int) (l : List Rx) : List Rx := l.flatMap fun k => if k.op = op then k.kids else [k]
def joinR (op : Int) (l : List Rx) : Rx :=
  match l with
  | [x] => x
  | [] => if op = 5 then .mk 3 ⟨#[]⟩ [] else .mk 4 ⟨#[]⟩ []
  | l => .mk op ⟨#[]⟩ (jkL op l)
theorem joinR_one {op : Int} {l : List Rx} (hlt : 0 < l.length) (h : l.length = 1) : joinR op l = l[0] := by
  match l, h with
  | [x], _ => rfl
theorem joinR_nil {op : Int} {l : List Rx} (h : l.length = 0) : joinR op l = if op = 5 then .mk 3 ⟨#[]⟩ [] else .mk 4 ⟨#[]⟩ [] := by
  match l, h with
  | [], _ => rfl
theorem joinR_more {op : Int} {l : List Rx} (h : l.length ≠ 1) (h0 : l.length ≠ 0) : joinR op l = .mk op ⟨#[]⟩ (jkL op l) := by
  match l, h, h0 with
  | x :: y :: l, _, _ => rfl
theorem jkL_step {op : Int} {l : List Rx} {i : Nat} (h : i < l.length) : jkL op (l.take (i + 1)) = jkL op (l.take i) ++ (if l[i].op = op then l[i].kids else [l[i]]) := by
  unfold jkL; rw [List.take_add_one, List.getElem?_eq_getElem h, List.flatMap_append]; simp
theorem jkL_pre {op : Int} {l : List Rx} (i : Nat) : (jkL op (l.take i)).length ≤ (jkL op l).length := by
  have : jkL op l = jkL op (l.take i) ++ jkL op (l.drop i) := by unfold jkL; rw [← List.flatMap_append, List.take_append_drop]
  rw [this, List.length_append]; omega

theorem joinedP (op : Int) (l : List Rx) (hl : l.length ≤ 1000000) (hb : (jkL op l).length ≤ 1000000) : FnC Try.prog 51 [iV op, .sl 25 (l.map rxV)] (fun r => r = rxV (joinR op l)) := by
  refine FnC.of (fn := Try.f51) ⟨Try.func51, by kernel_rfl, rfl⟩ Try.ntmps51 (by simp) fun w0 S0 => ?_
  refine p_go ?_
  refine p_splitC (s := 8) (ht := fun hc8 => ?_) (hf := fun hc8 => ?_)
  · have h1 : l.length = 1 := by have h := hc8; simp at h; omega
    have hlt : 0 < l.length := by omega
    refine p_go fun hf => ?_
    refine p_idxMap (j := 0) (ht := Try.underlying23) (hi := F.ti25.h) (hij := rfl) (hj := hlt) (h := ?_)
    rw [rxV_cells]
    refine p_go ?_
    refine p_r1 (hp := by rw [joinR_one hlt h1, rxV_eq])
  · have h1 : l.length ≠ 1 := by have h := hc8; simp at h; omega
    refine p_go ?_
    refine p_splitC (s := 15) (ht := fun hc15 => ?_) (hf := fun hc15 => ?_)
    · have h05 : l.length = 0 ∧ op = 5 := by have h := hc15; simpa using h
      refine p_go fun hf => ?_
      refine p_build (hi := F.ti25.h) (hpl := F.pl25.h) (h := ?_)
      refine p_storeAll F.ti25.h (h := ?_)
      refine p_end ?_
      refine TrC.ret ?_
      refine p_cellNil (g1 := 0 + 1) (d1 := 4) (i := 2) (el := 25) (h := ?_)
      refine p_r1 (hp := by rw [joinR_nil h05.1, if_pos h05.2, rxV_eq]; rfl)
    · have h05 : ¬ (l.length = 0 ∧ op = 5) := by have h := hc15; simp at h; simpa using h
      refine p_go ?_
      refine p_splitC (s := 24) (ht := fun hc24 => ?_) (hf := fun hc24 => ?_)
      · have h0 : l.length = 0 := by have h := hc24; simp at h; simp [h]
        refine p_go fun hf => ?_
        refine p_build (hi := F.ti25.h) (hpl := F.pl25.h) (h := ?_)
        refine p_storeAll F.ti25.h (h := ?_)
        refine p_end ?_
        refine TrC.ret ?_
        refine p_cellNil (g1 := 0 + 1) (d1 := 4) (i := 2) (el := 25) (h := ?_)
        refine p_r1 (hp := by rw [joinR_nil h0, if_neg (fun h => h05 ⟨h0, h⟩), rxV_eq]; rfl)
      · have h0 : l.length ≠ 0 := by have h := hc24; simp at h; simpa using h
        refine p_go fun hf => ?_
        refine p_build (hi := F.ti25.h) (hpl := F.pl25.h) (h := ?_)
        refine p_go ?_
        refine p_fresh fun hf => ?_
        refine p_nilCell (g1 := 0 + 1 + 1 + 1 + 1 + 1) (d1 := 5) (i := 2) (el := 25) 900 (h := ?_)
        refine p_loopK [0, 4, 5, 31, 32] [(0 + 1, 4)] (fun st => ∃ (i c1 : Nat), (i ≤ l.length) ∧ (0 + 1 + 1 + 1 + 1 + 1 < c1) ∧ (c1 ≤ st.gen) ∧ st.env 33 = inV i ∧ st.obj (0 + 1 + 1 + 1 + 1 + 1) 5 = .cells 25 [iV op, .str ⟨#[]⟩, .row c1 900 (jkL op (l.take i)).length] ∧ st.obj c1 900 = .row 25 ((jkL op (l.take i)).map rxV)) (fun st => l.length - (st.env 33).toN) ?_ fun e ob g1 hK hO hI => ?_
        · exact ⟨0, _, by omega, by (try dsimp only); omega, Nat.le_refl _, eV_, oB_, oB_⟩
        · obtain ⟨i, c1, hi, hc1, hcg1, e33, hcl, hrw⟩ := hI
          dsimp only at e33 hcl hrw
          simp only [valsE, List.cons.injEq, and_true] at hK
          simp only [valsO, List.cons.injEq, and_true] at hO
          have hE := (⟨hK, hO, e33, hcl, hrw⟩ : _ ∧ _ ∧ _ ∧ _ ∧ _)
          dsimp only at hcg1
          refine p_go ?_
          refine p_splitC (s := 34) (ht := fun hc34 => ?_) (hf := fun hc34 => ?_)
          · have hlt : i < l.length := by simpa using hc34
            have hpr := jkL_pre (op := op) (l := l) (i + 1)
            have hst := jkL_step (op := op) hlt
            refine p_go fun hf => ?_
            refine p_idxMap (j := i) (ht := Try.underlying23) (hi := F.ti25.h) (hij := rfl) (hj := hlt) (h := ?_)
            rw [rxV_cells]
            refine p_go ?_
            refine p_splitC (s := 40) (ht := fun hc40 => ?_) (hf := fun hc40 => ?_)
            · have hop : l[i].op = op := by simpa using hc40
              rw [if_pos hop] at hst
              have hlim : ((jkL op (l.take i)).length + l[i].kids.length) * 48 ≤ 140737488355328 := by rw [hst, List.length_append] at hpr; omega
              refine p_go fun hf => ?_
              refine p_append (ht := Try.underlying23) (hi := F.ti25.h) (hu := eV_) (u := .sl 25 (l[i].kids.map rxV)) (ys := l[i].kids.map rxV) (hy := .inl ⟨rfl, rfl⟩) (hnl := by simp) (k := (jkL op (l.take i)).length + l[i].kids.length) (hm := by simp) (hlim := hlim) (h := ?_)
              (first | refine p_fieldPtr (hf := F.fld25_2.h) (h := ?_) | refine p_fieldRef (hf := F.fld25_2.h) (h := ?_) | refine p_fieldRow (hf := F.fld25_2.h) (h := ?_))
              refine p_store1 F.ti23.h (h := ?_)
              refine p_end ?_
              refine p_exit ?_
              refine p_region fun hf => ?_
              refine p_bare ?_
              refine p_renCell (g1 := 0 + 1 + 1 + 1 + 1 + 1) (d1 := 5) (i := 2) 900 (h := ?_)
              refine p_lastOp (h := ?_)
              refine p_add (r := ((i + 1 : Nat) : Int)) (hr := (by first | omega | (simp only [decide_eq_true_eq, decide_eq_false_iff_not, Bool.or_eq_false_iff, Bool.and_eq_true, Bool.not_eq_true', Bool.not_eq_false'] at *; omega))) (hb := (by first | omega | (simp only [decide_eq_true_eq, decide_eq_false_iff_not, Bool.or_eq_false_iff, Bool.and_eq_true, Bool.not_eq_true', Bool.not_eq_false'] at *; omega))) (h := ?_)
              refine p_go ?_
              refine p_some ?_
              refine ⟨⟨(by simp (decide := true) only [valsE, evE, upd, cv, args0, argsFrom, List.length_map, ↓reduceIte, hE] <;> rfl), (by simp (decide := true) only [valsO, updO, upd, true_and, and_true, false_and, and_false, ↓reduceIte, hE] <;> rfl)⟩, ⟨i + 1, _, hlt, by (try dsimp only); omega, Nat.le_refl _, eV_, by rw [hst, List.length_append]; exact oB_, by rw [hst, List.map_append]; exact oB_⟩, ?_⟩
              simp (decide := true) only [upd, e33, V.toN, ↓reduceIte]; omega
            · have hop : ¬ l[i].op = op := by simpa using hc40
              rw [if_neg hop] at hst
              have hlim : ((jkL op (l.take i)).length + 1) * 48 ≤ 140737488355328 := by rw [hst, List.length_append] at hpr; simp at hpr; omega
              refine p_go fun hf => ?_
              refine p_buildSlice (ht := Try.underlying23) (hi := F.ti25.h) (h := ?_)
              refine p_append (ht := Try.underlying23) (hi := F.ti25.h) (u := .row _ 50 1) (ys := [rxA l[i]]) (hy := ⟨.inl oB_, rfl⟩) (hnl := by simp) (k := (jkL op (l.take i)).length + 1) (hm := by simp) (hlim := hlim) (h := ?_)
              (first | refine p_fieldPtr (hf := F.fld25_2.h) (h := ?_) | refine p_fieldRef (hf := F.fld25_2.h) (h := ?_) | refine p_fieldRow (hf := F.fld25_2.h) (h := ?_))
              refine p_store1 F.ti23.h (h := ?_)
              refine p_end ?_
              refine p_region fun hf => ?_
              refine p_bare ?_
              refine p_renCell (g1 := 0 + 1 + 1 + 1 + 1 + 1) (d1 := 5) (i := 2) 900 (h := ?_)
              refine p_lastOp (h := ?_)
              refine p_add (r := ((i + 1 : Nat) : Int)) (hr := (by first | omega | (simp only [decide_eq_true_eq, decide_eq_false_iff_not, Bool.or_eq_false_iff, Bool.and_eq_true, Bool.not_eq_true', Bool.not_eq_false'] at *; omega))) (hb := (by first | omega | (simp only [decide_eq_true_eq, decide_eq_false_iff_not, Bool.or_eq_false_iff, Bool.and_eq_true, Bool.not_eq_true', Bool.not_eq_false'] at *; omega))) (h := ?_)
              refine p_go ?_
              refine p_some ?_
              refine ⟨⟨(by simp (decide := true) only [valsE, evE, upd, cv, args0, argsFrom, List.length_map, ↓reduceIte, hE] <;> rfl), (by simp (decide := true) only [valsO, updO, upd, true_and, and_true, false_and, and_false, ↓reduceIte, hE] <;> rfl)⟩, ⟨i + 1, _, hlt, by (try dsimp only); omega, Nat.le_refl _, eV_, by rw [hst, List.length_append]; exact oB_, by rw [hst, List.map_append, List.map_singleton, rxV_eq]; exact oB_⟩, ?_⟩
              simp (decide := true) only [upd, e33, V.toN, ↓reduceIte]; omega
          · have hge : ¬ i < l.length := by simpa using hc34
            have htk : l.take i = l := List.take_of_length_le (by omega)
            rw [htk] at hcl hrw
            have hE := (⟨hK, hO, e33, hcl, hrw⟩ : _ ∧ _ ∧ _ ∧ _ ∧ _)
            refine p_condF (h := ?_)
            refine p_exit ?_
            refine p_freeze (g1 := c1) (d1 := 900) (h := ?_)
            refine p_cellSl (g1 := 0 + 1 + 1 + 1 + 1 + 1) (d1 := 5) (i := 2) (g2 := c1) (d2 := 900) (hn := by simp) (h := ?_)
            refine p_go ?_
            refine p_r1 (hp := by rw [joinR_more h1 h0, rxV_eq]; rfl)

end Go.Proofs.Ytjdhkopjigijfaa
/-
  What a text means, in plain words (with fuel).
-/
set_option maxHeartbeats 4000000
set_option linter.unusedSimpArgs false
set_option linter.unusedVariables false
namespace Go.Proofs.Ytjdhkopjigijfaa
open Go.RowKit
attribute [local irreducible] Wk Tr
/-- Over a byte, as often as it comes: how often, and where then. -/
def tkN (s : ByteArray) (c : Int) : Nat → Nat → Nat × Nat
  | 0, i => (0, i)
  | n + 1, i => if tkB s i c = true then ((tkN s c n (tkI s i c)).1 + 1, (tkN s c n (tkI s i c)).2) else (0, i)
def tks (s : ByteArray) (c : Int) (i : Nat) : Nat × Nat := tkN s c (s.size - i) i
theorem tkB_lt {s : ByteArray} {i : Nat} {c : Int} (h : tkB s i c = true) : i < s.size := by
  simp only [tkB, Bool.and_eq_true, decide_eq_true_eq] at h; exact h.1
theorem tkN_fuel {s : ByteArray} {c : Int} : ∀ n m i, s.size - i ≤ n → s.size - i ≤ m → tkN s c n i = tkN s c m i
  | 0, 0, i, _, _ => rfl
  | 0, m + 1, i, h1, h2 => by
    rw [tkN, tkN, if_neg fun h => by have := tkB_lt h; omega]
  | n + 1, 0, i, h1, h2 => by
    rw [tkN, tkN, if_neg fun h => by have := tkB_lt h; omega]
  | n + 1, m + 1, i, h1, h2 => by
    rw [tkN, tkN]
    split
    · rename_i h
      have h3 := tkB_lt h
      have h4 := tkI_lt h
      rw [tkN_fuel n m (tkI s i c) (by omega) (by omega)]
    · rfl
theorem tks_step {s : ByteArray} {c : Int} {i : Nat} (h : tkB s i c = true) : tks s c i = ((tks s c (tkI s i c)).1 + 1, (tks s c (tkI s i c)).2) := by
  have h3 := tkB_lt h
  have h4 := tkI_lt h
  unfold tks
  rw [show s.size - i = (s.size - i - 1) + 1 by omega, tkN, if_pos h, tkN_fuel (s.size - i - 1) (s.size - tkI s i c) _ (by omega) (Nat.le_refl _)]
theorem tks_stop {s : ByteArray} {c : Int} {i : Nat} (h : tkB s i c = false) : tks s c i = (0, i) := by
  unfold tks
  cases s.size - i with
  | zero => rfl
  | succ n => rw [tkN, if_neg (by rw [h]; decide)]
theorem tkN_le {s : ByteArray} {c : Int} : ∀ n i, i ≤ s.size → i + (tkN s c n i).1 ≤ (tkN s c n i).2 ∧ (tkN s c n i).2 ≤ s.size
  | 0, i, h => ⟨Nat.le_refl _, h⟩
  | n + 1, i, h => by
    rw [tkN]
    split
    · rename_i h1
      have h2 := tkI_lt h1
      have := tkN_le (c := c) n (tkI s i c) h2.2
      dsimp only
      omega
    · exact ⟨Nat.le_refl _, h⟩
theorem tks_le {s : ByteArray} {c : Int} {i : Nat} (h : i ≤ s.size) : i + (tks s c i).1 ≤ (tks s c i).2 ∧ (tks s c i).2 ≤ s.size := tkN_le _ i h
/-- The end of a run of letters and digits. -/
def anN (s : ByteArray) : Nat → Nat → Nat
  | 0, i => i
  | n + 1, i => if alnB (bt s i) = true then anN s n (i + 1) else i
def anE (s : ByteArray) (i : Nat) : Nat := anN s (s.size - i) i
theorem aln_lt {s : ByteArray} {i : Nat} (h : alnB (bt s i) = true) : i < s.size := by
  rcases Nat.lt_or_ge i s.size with h1 | h1
  · exact h1
  · rw [bt_ge h1] at h; exact absurd h (by decide)
theorem anE_step {s : ByteArray} {i : Nat} (h : alnB (bt s i) = true) : anE s i = anE s (i + 1) := by
  have := aln_lt h
  unfold anE
  rw [show s.size - i = (s.size - (i + 1)) + 1 by omega, anN, if_pos h]
theorem anE_stop {s : ByteArray} {i : Nat} (h : alnB (bt s i) = false) : anE s i = i := by
  unfold anE
  cases s.size - i with
  | zero => rfl
  | succ n => rw [anN, if_neg (by rw [h]; decide)]
theorem anN_le (s : ByteArray) : ∀ n i, i ≤ s.size → i ≤ anN s n i ∧ anN s n i ≤ s.size
  | 0, i, h => ⟨Nat.le_refl _, h⟩
  | n + 1, i, h => by
    rw [anN]
    split
    · rename_i h1
      have := anN_le s n (i + 1) (aln_lt h1)
      omega
    · exact ⟨Nat.le_refl _, h⟩
theorem anE_le {s : ByteArray} {i : Nat} (h : i ≤ s.size) : i ≤ anE s i ∧ anE s i ≤ s.size := anN_le s _ i h
/-- An operator, so often, about an expression. -/
def wrN (op : Int) : Nat → Rx → Rx
  | 0, x => x
  | n + 1, x => wrN op n (.mk op ⟨#[]⟩ [x])
theorem wrN_sz (op : Int) : ∀ n x, (wrN op n x).sz = n + x.sz
  | 0, x => by simp [wrN]
  | n + 1, x => by rw [wrN, wrN_sz op n, Rx.sz, Rx.szL, Rx.szL]; omega
inductive PR where
  | bad (a : Nat)
  | ok (x : Rx) (i : Nat) (d : Bool)
mutual
def pAlt (s : ByteArray) : Nat → Nat → Nat → Bool → PR
  | 0, i, _, _ => .bad i
  | f + 1, i, o, d => match pRow s f (bl s i) o d with
    | .bad a => .bad a
    | .ok x j e => pAltT s f j o e [x]
def pAltT (s : ByteArray) : Nat → Nat → Nat → Bool → List Rx → PR
  | 0, i, _, _, _ => .bad i
  | f + 1, i, o, d, l => if tkB s i 124 = true then (match pRow s f (tkI s i 124) o d with
    | .bad a => .bad a
    | .ok x j e => pAltT s f j o e (l ++ [x])) else .ok (joinR 6 l) i d
def pRow (s : ByteArray) : Nat → Nat → Nat → Bool → PR
  | 0, i, _, _ => .bad i
  | f + 1, i, o, d => match pFac s f i o d with
    | .bad a => .bad a
    | .ok x j e => pRowT s f j o e [x]
def pRowT (s : ByteArray) : Nat → Nat → Nat → Bool → List Rx → PR
  | 0, i, _, _, _ => .bad i
  | f + 1, i, o, d, l => if bgB s i = true then (match pFac s f i o d with
    | .bad a => .bad a
    | .ok x j e => pRowT s f j o e (l ++ [x])) else .ok (joinR 5 l) i d
def pFac (s : ByteArray) : Nat → Nat → Nat → Bool → PR
  | 0, i, _, _ => .bad i
  | f + 1, i, o, d => match pAtom s f (tks s 33 i).2 o d with
    | .bad a => .bad a
    | .ok x j e => .ok (wrN 8 (tks s 33 i).1 (wrN 7 (tks s 42 (bl s j)).1 x)) (tks s 42 (bl s j)).2 e
def pAtom (s : ByteArray) : Nat → Nat → Nat → Bool → PR
  | 0, i, _, _ => .bad i
  | f + 1, i, o, d =>
    if letB (bt s i) = true then (if 64 < anE s i - i then .bad (i + 64) else .ok (.mk 1 (s.extract i (anE s i)) []) (anE s i) d)
    else if tkB s i 46 = true then .ok (.mk 2 ⟨#[]⟩ []) (tkI s i 46) d
    else if tkB s i 37 = true then .ok (.mk 3 ⟨#[]⟩ []) (tkI s i 37) d
    else if tkB s i 35 = true then .ok (.mk 4 ⟨#[]⟩ []) (tkI s i 35) d
    else if tkB s i 40 = true then (match pAlt s f (tkI s i 40) (o + 1) (d || decide (50 < o + 1)) with
      | .bad a => .bad a
      | .ok x j e => if tkB s j 41 = true then .ok x (tkI s j 41) e else .bad j)
    else .bad i
end
theorem szL_append : ∀ (l m : List Rx), Rx.szL (l ++ m) = Rx.szL l + Rx.szL m
  | [], m => by simp [Rx.szL]
  | a :: l, m => by rw [List.cons_append, Rx.szL, Rx.szL, szL_append l m, Nat.add_assoc]
theorem jkL_sz (op : Int) : ∀ l : List Rx, Rx.szL (jkL op l) ≤ Rx.szL l
  | [] => by simp [jkL, Rx.szL]
  | x :: l => by
    have h1 : jkL op (x :: l) = (if x.op = op then x.kids else [x]) ++ jkL op l := by simp [jkL]
    have h2 := jkL_sz op l
    have h3 := x.sz_eq
    rw [h1, szL_append, Rx.szL]
    split
    · omega
    · rw [Rx.szL, Rx.szL]; omega
theorem jkL_len (op : Int) (l : List Rx) : (jkL op l).length ≤ Rx.szL l := Nat.le_trans (Rx.szL_len _) (jkL_sz op l)
theorem joinR_sz (op : Int) {l : List Rx} (h : l ≠ []) : (joinR op l).sz + 1 ≤ Rx.szL l + l.length := by
  match l, h with
  | [x], _ => simp [joinR, Rx.szL]
  | x :: y :: m, _ =>
    rw [joinR_more (by simp) (by simp), Rx.sz]
    have := jkL_sz op (x :: y :: m)
    simp only [List.length_cons]
    omega
/-- What is read is no larger than its text. -/
def PRb (i k : Nat) (s : ByteArray) : PR → Prop
  | .bad _ => True
  | .ok x j _ => i ≤ j ∧ j ≤ s.size ∧ x.sz + 1 ≤ k + 2 * (j - i)
theorem pr_le (s : ByteArray) : ∀ f, (∀ i o d, i ≤ s.size → PRb i 0 s (pAlt s f i o d)) ∧ (∀ i o d l, i ≤ s.size → l ≠ [] → PRb i (Rx.szL l + l.length) s (pAltT s f i o d l)) ∧ (∀ i o d, i ≤ s.size → PRb i 0 s (pRow s f i o d)) ∧ (∀ i o d l, i ≤ s.size → l ≠ [] → PRb i (Rx.szL l + l.length) s (pRowT s f i o d l)) ∧ (∀ i o d, i ≤ s.size → PRb i 0 s (pFac s f i o d)) ∧ (∀ i o d, i ≤ s.size → PRb i 0 s (pAtom s f i o d))
  | 0 => ⟨fun i o d h => by rw [pAlt]; trivial, fun i o d l h _ => by rw [pAltT]; trivial, fun i o d h => by rw [pRow]; trivial, fun i o d l h _ => by rw [pRowT]; trivial, fun i o d h => by rw [pFac]; trivial, fun i o d h => by rw [pAtom]; trivial⟩
  | f + 1 => by
    obtain ⟨h1, h2, h3, h4, h5, h6⟩ := pr_le s f
    refine ⟨fun i o d h => ?_, fun i o d l h hl => ?_, fun i o d h => ?_, fun i o d l h hl => ?_, fun i o d h => ?_, fun i o d h => ?_⟩
    · rw [pAlt]
      have hb := bl_le h
      have k1 := h3 (bl s i) o d hb.2
      split
      · trivial
      · rename_i x j e hx
        rw [hx] at k1
        obtain ⟨k1, k2, k3⟩ := k1
        have k4 := h2 j o e [x] k2 (by simp)
        simp only [Rx.szL, List.length_singleton] at k4
        revert k4
        cases pAltT s f j o e [x] with
        | bad a => intro _; trivial
        | ok y m e' => rintro ⟨k4, k5, k6⟩; exact ⟨by omega, k5, by omega⟩
    · rw [pAltT]
      split
      · rename_i ht
        have hb := tkI_lt ht
        have k1 := h3 (tkI s i 124) o d hb.2
        split
        · trivial
        · rename_i x j e hx
          rw [hx] at k1
          obtain ⟨k1, k2, k3⟩ := k1
          have k4 := h2 j o e (l ++ [x]) k2 (by simp)
          rw [szL_snoc, List.length_append, List.length_singleton] at k4
          revert k4
          cases pAltT s f j o e (l ++ [x]) with
          | bad a => intro _; trivial
          | ok y m e' => rintro ⟨k4, k5, k6⟩; exact ⟨by omega, k5, by omega⟩
      · have := joinR_sz 6 hl
        exact ⟨Nat.le_refl _, h, by omega⟩
    · rw [pRow]
      have k1 := h5 i o d h
      split
      · trivial
      · rename_i x j e hx
        rw [hx] at k1
        obtain ⟨k1, k2, k3⟩ := k1
        have k4 := h4 j o e [x] k2 (by simp)
        simp only [Rx.szL, List.length_singleton] at k4
        revert k4
        cases pRowT s f j o e [x] with
        | bad a => intro _; trivial
        | ok y m e' => rintro ⟨k4, k5, k6⟩; exact ⟨by omega, k5, by omega⟩
    · rw [pRowT]
      split
      · have k1 := h5 i o d h
        split
        · trivial
        · rename_i x j e hx
          rw [hx] at k1
          obtain ⟨k1, k2, k3⟩ := k1
          have k4 := h4 j o e (l ++ [x]) k2 (by simp)
          rw [szL_snoc, List.length_append, List.length_singleton] at k4
          revert k4
          cases pRowT s f j o e (l ++ [x]) with
          | bad a => intro _; trivial
          | ok y m e' => rintro ⟨k4, k5, k6⟩; exact ⟨by omega, k5, by omega⟩
      · have := joinR_sz 5 hl
        exact ⟨Nat.le_refl _, h, by omega⟩
    · rw [pFac]
      have hb := tks_le (c := 33) h
      have k1 := h6 (tks s 33 i).2 o d hb.2
      split
      · trivial
      · rename_i x j e hx
        rw [hx] at k1
        obtain ⟨k1, k2, k3⟩ := k1
        have hb1 := bl_le k2
        have hb2 := tks_le (c := 42) hb1.2
        refine ⟨by omega, hb2.2, ?_⟩
        rw [wrN_sz, wrN_sz]
        omega
    · rw [pAtom]
      have hone : ∀ (op : Int) (n : ByteArray), (Rx.mk op n []).sz = 1 := fun op n => by rw [Rx.sz, Rx.szL]
      split
      · rename_i hl
        have ha : alnB (bt s i) = true := by rw [alnB, hl]; rfl
        have hlt := aln_lt ha
        have h7 := anE_le (s := s) (i := i + 1) hlt
        rw [← anE_step ha] at h7
        split
        · trivial
        · exact ⟨by omega, h7.2, by rw [hone]; omega⟩
      · split
        · rename_i ht
          have := tkI_lt ht
          exact ⟨by omega, this.2, by rw [hone]; omega⟩
        · split
          · rename_i ht
            have := tkI_lt ht
            exact ⟨by omega, this.2, by rw [hone]; omega⟩
          · split
            · rename_i ht
              have := tkI_lt ht
              exact ⟨by omega, this.2, by rw [hone]; omega⟩
            · split
              · rename_i ht
                have h7 := tkI_lt ht
                have k1 := h1 (tkI s i 40) (o + 1) (d || decide (50 < o + 1)) h7.2
                split
                · trivial
                · rename_i x j e hx
                  rw [hx] at k1
                  obtain ⟨k1, k2, k3⟩ := k1
                  split
                  · rename_i ht2
                    have h8 := tkI_lt ht2
                    exact ⟨by omega, h8.2, by omega⟩
                  · trivial
              · trivial
end Go.Proofs.Ytjdhkopjigijfaa
