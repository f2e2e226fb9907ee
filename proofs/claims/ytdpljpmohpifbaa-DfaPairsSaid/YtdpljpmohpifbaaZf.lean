/-
  dfa's grown, walked: the automaton of all states that are met.
-/
import Derived.Test.YtdpljpmohpifbaaZe
set_option linter.unusedSimpArgs false
set_option linter.unusedVariables false
namespace Go.Proofs.Ytdpljpmohpifbaa
open Go.RowKit
/-- Things, each with its place. -/
def numF {κ : Type} (b : Nat) : List κ → List (κ × Value)
  | [] => []
  | s :: l => (s, .int .i64 (b : Int)) :: numF (b + 1) l
abbrev numV {κ : Type} (l : List κ) : List (κ × Value) := numF 0 l
theorem mget_numF {κ : Type} [DecidableEq κ] (s : κ) : ∀ (l : List κ) (b : Nat), mget s (numF b l) = if s ∈ l then some (.int .i64 ((b + l.idxOf s : Nat) : Int)) else none
  | [], b => rfl
  | x :: l, b => by
    by_cases h : s = x
    · subst h; simp [numF, mget]
    · have h' : (x == s) = false := by simpa using fun e => h e.symm
      rw [numF, mget, if_neg h, mget_numF s l (b + 1), List.idxOf_cons, h']
      simp only [List.mem_cons, h, false_or, cond_false]
      split
      · congr 3; omega
      · rfl
theorem mput_numF {κ : Type} [DecidableEq κ] (s : κ) : ∀ (l : List κ) (b : Nat), s ∉ l → mput s (.int .i64 ((b + l.length : Nat) : Int)) (numF b l) = numF b (l ++ [s])
  | [], b, _ => rfl
  | x :: l, b, h => by
    have h1 : ¬ s = x := fun e => h (by simp [e])
    have h2 : s ∉ l := fun e => h (by simp [e])
    rw [numF, mput, if_neg h1, List.cons_append, numF, ← mput_numF s l (b + 1) h2]
    congr 2
    simp only [List.length_cons]; congr 1; omega
theorem numF_len {κ : Type} : ∀ (l : List κ) (b : Nat), (numF b l).length = l.length
  | [], _ => rfl
  | _ :: l, b => by simp [numF, numF_len l (b + 1)]
theorem replicate_range {α : Type} (n : Nat) (v : α) : List.replicate n v = (List.range n).map fun _ => v := by
  refine List.ext_getElem (by simp) fun j h1 h2 => by simp
theorem rowF_done {r : List Int} {n : Nat} (h : r.length = n) : ((List.range n).map fun j => iV (r.getD j 0)) = r.map iV := by
  refine List.ext_getElem (by simp [h]) fun j h1 h2 => ?_
  simp only [List.length_map] at h2
  simp [List.getD, h2]
theorem rowF_next {r : List Int} {x : Int} {k : Nat} (h : r.length = k) (j : Nat) : iV ((r ++ [x]).getD j 0) = if j = k then iV x else iV (r.getD j 0) := by
  by_cases hj : j = k
  · subst hj; rw [if_pos rfl, ← h]; simp [List.getD]
  · rw [if_neg hj]
    by_cases hlt : j < k
    · simp [List.getD, List.getElem?_append_left (show j < r.length by omega)]
    · have h1 : (r ++ [x])[j]? = none := List.getElem?_eq_none (by simp; omega)
      have h2 : r[j]? = none := List.getElem?_eq_none (by omega)
      simp only [List.getD, h1, h2]
theorem rowAt_hit {κ : Type} [DecidableEq κ] {f : Nat → κ} {mc : List κ} {k : Nat} (h : (!decide (f k ∈ (rowAt f mc k).1)) = false) : rowAt f mc (k + 1) = ((rowAt f mc k).1, (rowAt f mc k).2 ++ [(((rowAt f mc k).1.idxOf (f k) : Nat) : Int)]) := by
  rw [rowAt, if_pos (by simpa using h)]
theorem rowAt_new {κ : Type} [DecidableEq κ] {f : Nat → κ} {mc : List κ} {k : Nat} (h : (!decide (f k ∈ (rowAt f mc k).1)) = true) : rowAt f mc (k + 1) = ((rowAt f mc k).1 ++ [f k], (rowAt f mc k).2 ++ [((rowAt f mc k).1.length : Int)]) := by
  rw [rowAt, if_neg (by simpa using h)]
theorem metAt_next {κ : Type} [DecidableEq κ] {nxt : κ → Nat → κ} {start : κ} {m i : Nat} (h : i < (metAt nxt start m i).1.length) : metAt nxt start m (i + 1) = ((rowAt (nxt (metAt nxt start m i).1[i]) (metAt nxt start m i).1 m).1, (metAt nxt start m i).2 ++ [(rowAt (nxt (metAt nxt start m i).1[i]) (metAt nxt start m i).1 m).2]) := by
  rw [metAt, List.getElem?_eq_getElem h]
/-- What the map answers of a key. -/
def nmOf {κ : Type} [DecidableEq κ] (s : κ) (l : List κ) : Int := if s ∈ l then (l.idxOf s : Int) else 0
theorem nmOf_mem {κ : Type} [DecidableEq κ] {s : κ} {l : List κ} (h : s ∈ l) : nmOf s l = ((l.idxOf s : Nat) : Int) := by rw [nmOf, if_pos h]
theorem look_num {κ : Type} [DecidableEq κ] (s : κ) (l : List κ) : V.tup [cv ((mget s (numV l)).getD (.int .i64 0)), .bool (mget s (numV l)).isSome] = .tup [iV (nmOf s l), .bool (decide (s ∈ l))] := by
  rw [numV, mget_numF, nmOf]
  by_cases h : s ∈ l <;> simp [h, cv]
theorem PairT.of : PairT Try.prog 78 := ⟨3, _, _, Try.underlying78, Try.underlying3, F.ti3⟩

theorem take_more {α : Type} {l l' : List α} {i : Nat} {s : α} (hp : l <+: l') (hi : i < l.length) (hg : l'[i]'(Nat.lt_of_lt_of_le hi hp.length_le) = s) : l'.take (i + 1) = l.take i ++ [s] := by
  have h1 : l'.take i = l.take i := by
    obtain ⟨t, rfl⟩ := hp
    rw [List.take_append_of_le_length (by omega)]
  rw [List.take_add_one, List.getElem?_eq_getElem (Nat.lt_of_lt_of_le hi hp.length_le), hg, h1]; rfl

theorem grown09 (m : Nat) (f1 f2 : FuncId) (fn1 fn2 : Func) (code1 code2 : Code) (cap1 cap2 : List V) (nxt : Int × Int → Nat → Int × Int) (acc : Int × Int → Bool) (start : Int × Int) (p : Int × Int → Prop) (most : Nat) (hm : m ≤ 4096) (hcap1 : V.outs cap1 = true) (hcap2 : V.outs cap2 = true) (hb1 : HasBody Try.prog f1 fn1 code1) (hb2 : HasBody Try.prog f2 fn2 code2) (h0 : p start) (hn : ∀ s k, p s → k < m → p (nxt s k)) (hf1 : ∀ s k, p s → k < m → FnC Try.prog f1 (pairV s :: iV k :: cap1) (fun r => r = pairV (nxt s k))) (hf2 : ∀ s, p s → FnC Try.prog f2 (pairV s :: cap2) (fun r => r = .bool (acc s))) (hmost : ∀ l : List (Int × Int), l.Nodup → (∀ s ∈ l, p s) → l.length ≤ most) (hm2 : most ≤ 10000000) : FnC Try.prog 50 [iV m, .fn f1 cap1, .fn f2 cap2, pairV start] (fun r => r = dfaV (grown nxt acc start m most)) := by
  refine FnC.of (fn := Try.f50) ⟨Try.func50, by kernel_rfl, rfl⟩ Try.ntmps50 (by simp) fun w0 S0 => ?_
  refine p_seq (p_region fun hf => ?_)
  refine p_box (h := ?_)
  refine p_alloc (hi := F.ti25) (h := ?_)
  refine p_end ?_
  refine p_seq (p_region fun hf => ?_)
  refine p_move (h := ?_)
  refine p_build (hi := F.ti25) (hpl := F.pl25) (h := ?_)
  refine p_alloc (hi := F.ti25) (h := ?_)
  refine p_storeAll F.ti25 (h := ?_)
  refine p_end ?_
  refine p_seq (p_draw F.mixed fun hf => ?_)
  refine p_makeMap (mp := .pairs []) (hm := rfl) (h := ?_)
  (first | refine p_loadA (ht := F.agg78) (hi := F.ti78) (h := ?_) | refine p_loadRefA (ht := F.agg78) (hi := F.ti78) (h := ?_))
  refine p_mapIns (mp := .pairs []) (k := .pair start) (v := .int .i64 0) Try.underlying88 (hk := rfl) (hf := PairT.of) (hvf := rfl) (h := ?_)
  refine p_move (h := ?_)
  (first | refine p_loadA (ht := F.agg78) (hi := F.ti78) (h := ?_) | refine p_loadRefA (ht := F.agg78) (hi := F.ti78) (h := ?_))
  refine p_buildSlice (ht := Try.underlying89) (hi := F.ti78) (h := ?_)
  refine p_assign (h := ?_)
  refine p_assign (h := ?_)
  refine p_endD ?_
  refine p_seq ?_
  refine p_seq (p_region fun hf => ?_)
  refine p_assign (h := ?_)
  refine p_end ?_
  refine p_nilCell (g1 := 0 + 1 + 1) (d1 := 9) (i := 1) (el := 26) 71 (h := ?_)
  refine p_nilCell (g1 := 0 + 1 + 1) (d1 := 9) (i := 2) (el := 4) 82 (h := ?_)
  refine p_renSlot (s := 11) 61 (h := ?_)
  refine TrC.block ?_
  refine p_loop (fun st => ∃ i q1 q2 q3 : Nat, (∀ j, j < i → j < (metAt nxt start m j).1.length) ∧ st.env 0 = iV m ∧ st.env 1 = .fn f1 cap1 ∧ st.env 2 = .fn f2 cap2 ∧ st.env 8 = .ptr (0 + 1) 8 0 ∧ st.env 9 = .ptr (0 + 1 + 1) 9 0 ∧ st.env 10 = .map (0 + 1 + 1 + 1) 20 ∧ st.env 12 = iV i ∧ st.env 11 = .row q3 61 (metAt nxt start m i).1.length ∧ st.obj (0 + 1) 8 = .cells 25 [iV 0, .nil, .nil] ∧ st.obj (0 + 1 + 1) 9 = .cells 25 [iV m, .row q1 71 i, .row q2 82 i] ∧ st.obj q1 71 = .row 26 ((metAt nxt start m i).2.map rowV) ∧ st.obj q2 82 = .row 4 (((metAt nxt start m i).1.take i).map fun s => .bool (acc s)) ∧ st.obj (0 + 1 + 1 + 1) 20 = .map (.pairs (numV (metAt nxt start m i).1)) ∧ st.obj q3 61 = .row 78 ((metAt nxt start m i).1.map pairV)) (fun st => most - (st.env 12).toN) ?_ fun e ob g1 hI => ?_
  · exact ⟨0, _, _, _, fun j h => by omega, eV_, eV_, eV_, eV_, eV_, eV_, eV_, eV_, oB_, oB_, oB_, oB_, oB_, oB_⟩
  · obtain ⟨i, q1, q2, q3, hall, e0, e1, e2, e8, e9, e10, e12, e11, o8, o9, o71, o82, o20, o61⟩ := hI
    dsimp only at e0 e1 e2 e8 e9 e10 e12 e11 o8 o9 o71 o82 o20 o61
    have hE := (⟨e0, e1, e2, e8, e9, e10, e12, e11, o8, o9, o71, o82, o20, o61⟩ : _ ∧ _ ∧ _ ∧ _ ∧ _ ∧ _ ∧ _ ∧ _ ∧ _ ∧ _ ∧ _ ∧ _ ∧ _ ∧ _)
    have hpm := metAt_all h0 (fun s k hs hk => hn s k hs hk) i
    have hlen := hmost _ (metAt_nodup nxt start m i) hpm
    have hrl := metAt_rows nxt start m i hall
    have hil : i ≤ (metAt nxt start m i).1.length := by
      cases i with
      | zero => exact Nat.zero_le _
      | succ i => exact Nat.le_trans (hall i (by omega)) (metAt_prefix nxt start m (Nat.le_succ i)).length_le
    refine p_seq ?_
    refine p_seq (p_region fun hf => ?_)
    refine p_move (h := ?_)
    refine p_move (h := ?_)
    refine p_len (ht := Try.underlying89) (h := ?_)
    refine p_num (h := ?_)
    refine p_end ?_
    refine p_splitC (s := 28) (ht := fun hc28 => ?_) (hf := fun hc28 => ?_)
    · refine p_condT (h := ?_)
      have hlt : i < (metAt nxt start m i).1.length := by simpa using hc28
      obtain ⟨s, hs⟩ : ∃ s, s = (metAt nxt start m i).1[i] := ⟨_, rfl⟩
      have hps : p s := by rw [hs]; exact hpm _ (List.getElem_mem hlt)
      refine p_skip ?_
      refine p_seq ?_
      refine TrC.block ?_
      refine p_seq (p_region fun hf => ?_)
      refine p_move (h := ?_)
      refine p_make (n := m) (ht := Try.underlying26) (hi := F.ti3) (hz := rfl) (hzv := rfl) (hro := rfl) (hb := by omega) (h63 := by omega) (h := ?_)
      refine p_assign (h := ?_)
      refine p_end ?_
      refine p_seq ?_
      refine p_seq (p_region fun hf => ?_)
      refine p_move (h := ?_)
      refine p_len (ht := Try.underlying26) (h := ?_)
      refine p_move (h := ?_)
      refine p_end ?_
      refine TrC.block ?_
      refine p_loop (fun st => ∃ k q4 : Nat, k ≤ m ∧ st.env 0 = iV m ∧ st.env 1 = .fn f1 cap1 ∧ st.env 2 = .fn f2 cap2 ∧ st.env 8 = .ptr (0 + 1) 8 0 ∧ st.env 9 = .ptr (0 + 1 + 1) 9 0 ∧ st.env 10 = .map (0 + 1 + 1 + 1) 20 ∧ st.env 12 = iV i ∧ st.env 11 = .row q4 61 (rowAt (nxt s) (metAt nxt start m i).1 k).1.length ∧ st.env 13 = .row (g1 + 1 + 1) 32 m ∧ st.env 34 = iV m ∧ st.env 35 = iV k ∧ st.obj (0 + 1) 8 = .cells 25 [iV 0, .nil, .nil] ∧ st.obj (0 + 1 + 1) 9 = .cells 25 [iV m, .row q1 71 i, .row q2 82 i] ∧ st.obj q1 71 = .row 26 ((metAt nxt start m i).2.map rowV) ∧ st.obj q2 82 = .row 4 (((metAt nxt start m i).1.take i).map fun s => .bool (acc s)) ∧ st.obj (0 + 1 + 1 + 1) 20 = .map (.pairs (numV (rowAt (nxt s) (metAt nxt start m i).1 k).1)) ∧ st.obj q4 61 = .row 78 ((rowAt (nxt s) (metAt nxt start m i).1 k).1.map pairV) ∧ st.obj (g1 + 1 + 1) 32 = .row 3 ((List.range m).map fun j => iV ((rowAt (nxt s) (metAt nxt start m i).1 k).2.getD j 0))) (fun st => m - (st.env 35).toN) ?_ fun e ob g2 hI => ?_
      · exact ⟨0, _, by omega, eV_, eV_, eV_, eV_, eV_, eV_, eV_, eV_, eV_, eV_, eV_, oB_, oB_, oB_, oB_, oB_, oB_, by refine Eq.trans oB_ ?_; rw [replicate_range]; rfl⟩
      · obtain ⟨k, q4, hk, f0, f1', f2', f8, f9, f10, f12, f11, f13, f34, f35, p8, p9, p71, p82, p20, p61, p32⟩ := hI
        dsimp only at f0 f1' f2' f8 f9 f10 f12 f11 f13 f34 f35 p8 p9 p71 p82 p20 p61 p32
        have hE := (⟨f0, f1', f2', f8, f9, f10, f12, f11, f13, f34, f35, p8, p9, p71, p82, p20, p61, p32⟩ : _ ∧ _ ∧ _ ∧ _ ∧ _ ∧ _ ∧ _ ∧ _ ∧ _ ∧ _ ∧ _ ∧ _ ∧ _ ∧ _ ∧ _ ∧ _ ∧ _ ∧ _)
        have hpr := rowAt_all hpm k (fun j hj => hn s j hps (by omega))
        have hndr := rowAt_nodup (f := nxt s) (metAt_nodup nxt start m i) k
        have hlr := hmost _ hndr hpr
        have hrk := rowAt_len (nxt s) (metAt nxt start m i).1 k
        refine p_seq (p_region fun hf => ?_)
        refine p_num (h := ?_)
        refine p_end ?_
        refine p_seq ?_
        refine p_splitC (s := 36) (ht := fun hc36 => ?_) (hf := fun hc36 => ?_)
        · refine p_condT (h := ?_)
          have hkm : k < m := by simpa using hc36
          have hpre := rowAt_prefix (nxt s) (metAt nxt start m i).1 k
          have hir : i < (rowAt (nxt s) (metAt nxt start m i).1 k).1.length := Nat.lt_of_lt_of_le hlt hpre.length_le
          have hget : (rowAt (nxt s) (metAt nxt start m i).1 k).1[i] = s := (hpre.getElem hlt).symm.trans hs.symm
          refine p_skip ?_
          refine p_seq ?_
          refine TrC.block ?_
          refine p_seq (p_region fun hf => ?_)
          refine p_move (h := ?_)
          refine p_assign (h := ?_)
          refine p_end ?_
          refine p_seq (p_region fun hf => ?_)
          refine p_move (h := ?_)
          refine p_move (h := ?_)
          refine p_move (h := ?_)
          refine p_idxRowN (i) (ht := Try.underlying89) (hi := F.ti78) (hij := rfl) (hlt := hir) (h := ?_)
          refine p_loadRowAM (ht := F.agg78) (hi := F.ti78) (hj := hir) (h := ?_)
          rw [hget]
          refine p_move (h := ?_)
          refine p_call (hb := hb1) (hro := by simp [V.outs, V.out, hcap1]) (hf := hf1 s k hps hkm) (h := ?_)
          refine p_alloc (hi := F.ti78) (h := ?_)
          refine p_storeAll F.ti78 (h := ?_)
          refine p_end ?_
          refine p_seq (p_region fun hf => ?_)
          refine p_move (h := ?_)
          (first | refine p_loadA (ht := F.agg78) (hi := F.ti78) (h := ?_) | refine p_loadRefA (ht := F.agg78) (hi := F.ti78) (h := ?_))
          refine p_lookOwn (mp := .pairs (numV (rowAt (nxt s) (metAt nxt start m i).1 k).1)) (k := .pair (nxt s k)) (ht := Try.underlying88) (hi := F.ti3) (hk := rfl) (hf := PairT.of) (hv := look_num (nxt s k) (rowAt (nxt s) (metAt nxt start m i).1 k).1) (h := ?_)
          refine p_move (h := ?_)
          refine p_extract (h := ?_)
          refine p_extract (h := ?_)
          refine p_assign (h := ?_)
          refine p_assign (h := ?_)
          refine p_end ?_
          refine p_seq ?_
          refine p_seq (p_region fun hf => ?_)
          refine p_move (h := ?_)
          refine p_not (h := ?_)
          refine p_end ?_
          refine p_splitC (s := 52) (ht := fun hc52 => ?_) (hf := fun hc52 => ?_)
          · refine p_condT (h := ?_)
            refine p_seq (p_region fun hf => ?_)
            refine p_move (h := ?_)
            refine p_len (ht := Try.underlying89) (h := ?_)
            refine p_assign (h := ?_)
            refine p_end ?_
            refine p_seq (p_region fun hf => ?_)
            refine p_move (h := ?_)
            (first | refine p_loadA (ht := F.agg78) (hi := F.ti78) (h := ?_) | refine p_loadRefA (ht := F.agg78) (hi := F.ti78) (h := ?_))
            refine p_move (h := ?_)
            refine p_mapPut (mp := .pairs (numV (rowAt (nxt s) (metAt nxt start m i).1 k).1)) (k := .pair (nxt s k)) (v := .int .i64 ((rowAt (nxt s) (metAt nxt start m i).1 k).1.length : Int)) Try.underlying88 (hk := rfl) (hf := PairT.of) (hvf := rfl) (h := ?_)
            refine p_end ?_
            refine p_region fun hf => ?_
            refine p_move (h := ?_)
            (first | refine p_loadA (ht := F.agg78) (hi := F.ti78) (h := ?_) | refine p_loadRefA (ht := F.agg78) (hi := F.ti78) (h := ?_))
            refine p_buildSlice (ht := Try.underlying89) (hi := F.ti78) (h := ?_)
            refine p_append (k := (rowAt (nxt s) (metAt nxt start m i).1 k).1.length + 1) (ht := Try.underlying89) (hi := F.ti78) (hnl := by simp) (hy := by exact ⟨.inl oB_, rfl⟩) (hm := by simp) (hlim := by omega) (h := ?_)
            refine p_assign (h := ?_)
            refine p_end ?_
            refine p_region fun hf => ?_
            refine p_move (h := ?_)
            refine p_move (h := ?_)
            refine p_move (h := ?_)
            refine p_idxRowN (k) (ht := Try.underlying26) (hi := F.ti3) (hij := rfl) (hlt := hkm) (h := ?_)
            refine p_storeRowF (f' := fun j => iV (((rowAt (nxt s) (metAt nxt start m i).1 k).2 ++ [((rowAt (nxt s) (metAt nxt start m i).1 k).1.length : Int)]).getD j 0)) F.ti3 (TI.cells F.ti3) (hlt := hkm) (hf := fun j _ => rowF_next hrk j) (h := ?_)
            refine p_end ?_
            refine p_region fun hf => ?_
            refine p_add (r := ((k + 1 : Nat) : Int)) (hr := by omega) (hb := by omega) (h := ?_)
            refine p_move (h := ?_)
            refine p_end ?_
            refine p_some ?_
            have hx := rowAt_new hc52
            have hnew : nxt s k ∉ (rowAt (nxt s) (metAt nxt start m i).1 k).1 := by simpa using hc52
            have hput := mput_numF (nxt s k) (rowAt (nxt s) (metAt nxt start m i).1 k).1 0 hnew
            rw [Nat.zero_add] at hput
            refine ⟨⟨k + 1, _, hkm, eV_, eV_, eV_, eV_, eV_, eV_, eV_, by rw [hx, List.length_append]; exact eV_, eV_, eV_, eV_, oB_, oB_, oB_, oB_, by refine Eq.trans oB_ ?_; rw [hx]; exact congrArg (fun z => Ob.map (.pairs z)) hput, by refine Eq.trans oB_ ?_; rw [hx, List.map_append]; rfl, by refine Eq.trans oB_ ?_; rw [hx]⟩, ?_⟩
            simp (decide := true) only [upd, f35, V.toN, ↓reduceIte]; omega
          · refine p_condF (h := ?_)
            refine p_skip ?_
            refine p_region fun hf => ?_
            refine p_move (h := ?_)
            refine p_move (h := ?_)
            refine p_move (h := ?_)
            refine p_idxRowN (k) (ht := Try.underlying26) (hi := F.ti3) (hij := rfl) (hlt := hkm) (h := ?_)
            refine p_storeRowF (f' := fun j => iV (((rowAt (nxt s) (metAt nxt start m i).1 k).2 ++ [nmOf (nxt s k) (rowAt (nxt s) (metAt nxt start m i).1 k).1]).getD j 0)) F.ti3 (TI.cells F.ti3) (hlt := hkm) (hf := fun j _ => rowF_next hrk j) (h := ?_)
            refine p_end ?_
            refine p_region fun hf => ?_
            refine p_add (r := ((k + 1 : Nat) : Int)) (hr := by omega) (hb := by omega) (h := ?_)
            refine p_move (h := ?_)
            refine p_end ?_
            refine p_some ?_
            have hx := rowAt_hit hc52
            have hnm := nmOf_mem (s := nxt s k) (l := (rowAt (nxt s) (metAt nxt start m i).1 k).1) (by simpa using hc52)
            refine ⟨⟨k + 1, _, hkm, eV_, eV_, eV_, eV_, eV_, eV_, eV_, by rw [hx]; exact eV_, eV_, eV_, eV_, oB_, oB_, oB_, oB_, by rw [hx]; exact oB_, by rw [hx]; exact oB_, by refine Eq.trans oB_ ?_; rw [hx, hnm]⟩, ?_⟩
            simp (decide := true) only [upd, f35, V.toN, ↓reduceIte]; omega
        · refine p_condF (h := ?_)
          have hkm : m = k := by simp at hc36; omega
          subst hkm
          have hpre := rowAt_prefix (nxt s) (metAt nxt start m i).1 m
          have hir : i < (rowAt (nxt s) (metAt nxt start m i).1 m).1.length := Nat.lt_of_lt_of_le hlt hpre.length_le
          have hget : (rowAt (nxt s) (metAt nxt start m i).1 m).1[i] = s := (hpre.getElem hlt).symm.trans hs.symm
          refine p_exit ?_
          refine p_freeze (g1 := g1 + 1 + 1) (d1 := 32) (h := ?_)
          refine p_toSl (s := 13) (hn := by simp [hrk]) (h := ?_)
          refine p_seq (p_region fun hf => ?_)
          (first | refine p_fieldPtr (hf := F.fld25_1) (h := ?_) | refine p_fieldRef (hf := F.fld25_1) (h := ?_) | refine p_fieldRow (hf := F.fld25_1) (h := ?_))
          (first | refine p_load (ht := F.leaf22) (h := ?_) | refine p_loadRef (ht := F.leaf22) (h := ?_))
          refine p_move (h := ?_)
          refine p_buildSlice (ht := Try.underlying22) (hi := F.ti26) (h := ?_)
          refine p_append (k := i + 1) (ht := Try.underlying22) (hi := F.ti26) (hnl := by simp [hrl]) (hy := by exact ⟨.inl oB_, rfl⟩) (hm := by simp [hrl]) (hlim := by omega) (h := ?_)
          (first | refine p_fieldPtr (hf := F.fld25_1) (h := ?_) | refine p_fieldRef (hf := F.fld25_1) (h := ?_) | refine p_fieldRow (hf := F.fld25_1) (h := ?_))
          refine p_store1 F.ti22 (h := ?_)
          refine p_end ?_
          refine p_draw F.mixed fun hf => ?_
          (first | refine p_fieldPtr (hf := F.fld25_2) (h := ?_) | refine p_fieldRef (hf := F.fld25_2) (h := ?_) | refine p_fieldRow (hf := F.fld25_2) (h := ?_))
          (first | refine p_load (ht := F.leaf23) (h := ?_) | refine p_loadRef (ht := F.leaf23) (h := ?_))
          refine p_move (h := ?_)
          refine p_move (h := ?_)
          refine p_move (h := ?_)
          refine p_idxRowN (i) (ht := Try.underlying89) (hi := F.ti78) (hij := rfl) (hlt := hir) (h := ?_)
          refine p_loadRowAM (ht := F.agg78) (hi := F.ti78) (hj := hir) (h := ?_)
          rw [hget]
          refine p_call (hb := hb2) (hro := by simp [V.outs, V.out, hcap2]) (hf := hf2 s hps) (h := ?_)
          refine p_buildSlice (ht := Try.underlying23) (hi := F.ti4) (h := ?_)
          refine p_append (k := i + 1) (ht := Try.underlying23) (hi := F.ti4) (hnl := by simp; omega) (hy := by exact ⟨.inl oB_, rfl⟩) (hm := by simp; omega) (hlim := by omega) (h := ?_)
          (first | refine p_fieldPtr (hf := F.fld25_2) (h := ?_) | refine p_fieldRef (hf := F.fld25_2) (h := ?_) | refine p_fieldRow (hf := F.fld25_2) (h := ?_))
          refine p_store1 F.ti23 (h := ?_)
          refine p_endD ?_
          refine p_region fun hf => ?_
          refine p_move (h := ?_)
          refine p_add (r := ((i + 1 : Nat) : Int)) (hr := by omega) (hb := by omega) (h := ?_)
          refine p_assign (h := ?_)
          refine p_end ?_
          refine p_some ?_
          have hx := metAt_next hlt
          rw [← hs] at hx
          refine ⟨⟨i + 1, _, _, _, fun j hj => ?_, eV_, eV_, eV_, eV_, eV_, eV_, eV_, by rw [hx]; exact eV_, oB_, oB_, by refine Eq.trans oB_ ?_; rw [hx, List.map_append, rowF_done hrk]; rfl, by refine Eq.trans oB_ ?_; rw [hx]; simp only [take_more hpre hlt hget, List.map_append]; rfl, by rw [hx]; exact oB_, by rw [hx]; exact oB_⟩, ?_⟩
          · rcases Nat.lt_succ_iff_lt_or_eq.1 hj with h | h
            · exact hall j h
            · subst h; exact hlt
          · simp (decide := true) only [upd, e12, f12, V.toN, ↓reduceIte]; omega
    · refine p_condF (h := ?_)
      have hge : (metAt nxt start m i).1.length ≤ i := by simp at hc28; omega
      have hle : i ≤ most := Nat.le_trans hil hlen
      refine p_exit ?_
      refine p_seq (p_region fun hf => ?_)
      (first | refine p_loadA (ht := F.agg25) (hi := F.ti25) (h := ?_) | refine p_loadRefA (ht := F.agg25) (hi := F.ti25) (h := ?_))
      refine p_storeAll F.ti25 (h := ?_)
      refine p_end ?_
      refine TrC.ret ?_
      refine p_freeze (g1 := q1) (d1 := 71) (h := ?_)
      refine p_freeze (g1 := q2) (d1 := 82) (h := ?_)
      refine p_cellSl (g1 := 0 + 1) (d1 := 8) (i := 1) (hn := by simp [hrl]) (h := ?_)
      refine p_cellSl (g1 := 0 + 1) (d1 := 8) (i := 2) (hn := by simp; omega) (h := ?_)
      refine Tr.ret1 rfl (res_cell eV_ oB_ F.agg25 F.ti25 rfl rfl) (by rw [grown_is hall (by simp at hc28; omega) hle]; simp [List.take_of_length_le hge, List.map_map, Function.comp_def]) (by intro l h; cases h)

end Go.Proofs.Ytdpljpmohpifbaa
