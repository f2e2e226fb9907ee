/-
  The matcher: where a node's words end.
-/
import Derived.Test.YtjdhkopjigijfaaXfg
import Derived.Test.YtjdhkopjigijfaaZ11
set_option linter.unusedSimpArgs false
set_option linter.unusedVariables false
set_option maxHeartbeats 4000000
namespace Go.Proofs.Ytjdhkopjigijfaa
open Go.RowKit
attribute [local irreducible] Wk Tr
def kf (k : Nat × Nat) : MK := .tup [(k.1 : Int), (k.2 : Int)]
theorem kf_inj (a b : Nat × Nat) (h : kf a = kf b) : a = b := by
  obtain ⟨a1, a2⟩ := a; obtain ⟨b1, b2⟩ := b
  simp only [kf, MK.tup.injEq, List.cons.injEq, and_true] at h
  simp only [Prod.mk.injEq]; omega
abbrev slI (l : List Int) : V := .sl 3 (l.map iV)
/-- What is known. -/
def memV (M : List ((Nat × Nat) × List Int)) : List (MK × V) := M.map fun p => (kf p.1, slI p.2)
theorem memV_get (k : Nat × Nat) (M : List ((Nat × Nat) × List Int)) : mget (kf k) (memV M) = (mget k M).map slI := mget_map kf kf_inj slI k M
theorem memV_put (k : Nat × Nat) (l : List Int) (M : List ((Nat × Nat) × List Int)) : mput (kf k) (slI l) (memV M) = memV (mput k l M) := mput_map kf kf_inj slI k l M
theorem kC (k : Nat × Nat) : KeyC Try.prog 105 (kf k) := (show IntStruct Try.prog 105 [.i64, .i64] from ⟨_, Try.underlying105, by kernel_rfl, by kernel_rfl, rfl, rfl, Try.underlying3, rfl, rfl, Try.underlying3, trivial⟩)
theorem kV (k : Nat × Nat) : KeyV (.agg [inV k.1, inV k.2]) (kf k) := .inr ⟨_, rfl, rfl⟩
theorem memV_ok (M : List ((Nat × Nat) × List Int)) : ∀ p ∈ memV M, KeyC Try.prog 105 p.1 := fun p hp => by
  obtain ⟨q, _, rfl⟩ := List.mem_map.1 hp
  exact kC q.1
def Good (w : List ByteArray) (nd : List Rx) (M : List ((Nat × Nat) × List Int)) : Prop := ∀ p ∈ M, ∃ x, nd[p.1.1]? = some x ∧ p.2 = endsI w x p.1.2
theorem mget_mem {k : Nat × Nat} {v : List Int} : ∀ {M : List ((Nat × Nat) × List Int)}, mget k M = some v → (k, v) ∈ M
  | (q, u) :: M, h => by
    rw [mget] at h
    split at h
    · rename_i e; subst e; cases h; exact List.mem_cons_self ..
    · exact List.mem_cons_of_mem _ (mget_mem h)
theorem mput_mem {k : Nat × Nat} {v : List Int} {p : (Nat × Nat) × List Int} : ∀ {M : List ((Nat × Nat) × List Int)}, p ∈ mput k v M → p = (k, v) ∨ p ∈ M
  | [], h => by simp [mput] at h; exact .inl h
  | (q, u) :: M, h => by
    rw [mput] at h
    split at h
    · rcases List.mem_cons.1 h with h | h
      · exact .inl h
      · exact .inr (List.mem_cons_of_mem _ h)
    · rcases List.mem_cons.1 h with h | h
      · exact .inr (h ▸ List.mem_cons_self ..)
      · exact (mput_mem h).imp id (List.mem_cons_of_mem _)
theorem Good.put {w : List ByteArray} {nd : List Rx} {M : List ((Nat × Nat) × List Int)} (h : Good w nd M) {n i : Nat} {x : Rx} (hx : nd[n]? = some x) : Good w nd (mput (n, i) (endsI w x i) M) := fun p hp => by
  rcases mput_mem hp with rfl | hp
  · exact ⟨x, hx, rfl⟩
  · exact h p hp
/-- The matcher's cells. -/
abbrev mcL (w : List ByteArray) (nd : List Rx) (kn : List (List Nat)) (qm : Nat) : List V := [.sl 9 (w.map V.str), .sl 25 (nd.map rxV), .sl 79 (kn.map knV), .map qm 17]
def EndC (w : List ByteArray) (nd : List Rx) (kn : List (List Nat)) (q qm n : Nat) (x : Rx) (i : Nat) : Prop := ∀ M, Good w nd M → FnX Try.prog 35 [.ptr q 19 0, inV n, inV i] [(q, 19), (qm, 17)] [.cells 77 (mcL w nd kn qm), .mv (memV M)] (fun g r o g' => r = slI (endsI w x i) ∧ o q 19 = .cells 77 (mcL w nd kn qm) ∧ ∃ M', Good w nd M' ∧ o qm 17 = .mv (memV M'))
theorem behZ_len (w : List ByteArray) (x : Rx) (l : List Nat) : (behZ w x l).length ≤ l.length * (w.length + 1) := by
  unfold behZ
  induction l with
  | nil => simp
  | cons a l ih => rw [List.flatMap_cons, List.length_append, List.length_cons, Nat.add_mul]; have := endsI_le w x a; omega
theorem take_tid (zs : List Int) (n : Nat) : ((tid zs ++ List.replicate n 0).map iV).take (tid zs).length = (tid zs).map iV := by
  rw [List.map_append, List.take_left' (by simp)]

theorem index_int (l : List Int) (x : Int) (hl : l.length ≤ 1000000000) : FnC Try.prog 60 [slI l, iV x] (fun r => r = iV (idx (fun y => decide (x = y)) l)) := by
  refine FnC.of (fn := Try.f60) ⟨Try.func60, by kernel_rfl, rfl⟩ Try.ntmps60 (by simp) fun w0 S0 => ?_
  refine p_go ?_
  refine p_loopK [0, 1, 7] [] (fun st => ∃ i : Nat, (i ≤ l.length) ∧ (∀ j (hj : j < l.length), j < i → decide (x = l[j]) = false) ∧ st.env 8 = iV i) (fun st => l.length - (st.env 8).toN) ?_ fun e ob g1 hK hO hI => ?_
  · exact ⟨0, by omega, fun _ _ h => by omega, eV_⟩
  · obtain ⟨i, hi, hn, e8⟩ := hI
    dsimp only at e8
    simp only [valsE, List.cons.injEq, and_true] at hK
    have hE := (⟨hK, e8⟩ : _ ∧ _)
    refine p_go ?_
    refine p_splitC (s := 9) (ht := fun hc9 => ?_) (hf := fun hc9 => ?_)
    · have hlt : i < l.length := by simpa using hc9
      refine p_go fun hf => ?_
      refine p_idxMap (j := i) (ht := Try.underlying79) (hi := F.ti3.h) (hij := rfl) (hj := hlt) (h := ?_)
      refine p_go ?_
      refine p_splitC (s := 16) (ht := fun hc16 => ?_) (hf := fun hc16 => ?_)
      · refine p_go ?_
        refine p_ret1 (hp := by rw [idx_hit (p := fun y => decide (x = y)) hlt hc16 hn])
      · refine p_go fun hf => ?_
        refine p_add (r := ((i + 1 : Nat) : Int)) (hr := (by first | omega | (simp only [decide_eq_true_eq, decide_eq_false_iff_not, Bool.or_eq_false_iff, Bool.and_eq_true, Bool.not_eq_true', Bool.not_eq_false'] at *; omega))) (hb := (by first | omega | (simp only [decide_eq_true_eq, decide_eq_false_iff_not, Bool.or_eq_false_iff, Bool.and_eq_true, Bool.not_eq_true', Bool.not_eq_false'] at *; omega))) (h := ?_)
        refine p_go ?_
        refine p_some ?_
        refine ⟨⟨(by simp (decide := true) only [valsE, evE, upd, cv, args0, argsFrom, List.length_map, ↓reduceIte, hE] <;> rfl), (by simp (decide := true) only [valsO, updO, upd, true_and, and_true, false_and, and_false, ↓reduceIte, hE] <;> rfl)⟩, ⟨i + 1, hlt, ext_no (p := fun y => decide (x = y)) hc16 hn, eV_⟩, ?_⟩
        simp (decide := true) only [upd, e8, V.toN, ↓reduceIte]; omega
    · have hge : ¬ i < l.length := by simpa using hc9
      refine p_go ?_
      refine p_ret1 (hp := by rw [idx_miss (p := fun y => decide (x = y)) fun j hj => hn j hj (by omega)])

theorem any_mem (l : List Int) (x : Int) : (l.any fun y => decide (x = y)) = decide (x ∈ l) := by
  rw [Bool.eq_iff_iff, List.any_eq_true, decide_eq_true_eq]
  constructor
  · rintro ⟨y, hy, h⟩; simp at h; exact h ▸ hy
  · intro h; exact ⟨x, h, by simp⟩

theorem contains_int (l : List Int) (x : Int) (hl : l.length ≤ 1000000000) : FnC Try.prog 34 [slI l, iV x] (fun r => r = .bool (decide (x ∈ l))) := by
  refine FnC.of (fn := Try.f34) ⟨Try.func34, by kernel_rfl, rfl⟩ Try.ntmps34 (by simp) fun w0 S0 => ?_
  refine p_go fun hf => ?_
  refine p_call (hx := rfl) (hb := ⟨Try.func60, by kernel_rfl, rfl⟩) (hf := index_int l x hl) (h := ?_)
  refine p_go ?_
  refine p_ret1 (hp := by rw [idx_nonneg, any_mem])

theorem behind_gen (w : List ByteArray) (nd : List Rx) (kn : List (List Nat)) (q qm n : Nat) (x : Rx) (hw : w.length ≤ 100) (lf : List Nat) (hl : lf.length ≤ 200) (hEn : ∀ i ∈ lf, EndC w nd kn q qm n x i) (M : List ((Nat × Nat) × List Int)) (hM : Good w nd M) : FnX Try.prog 61 [.ptr q 19 0, .sl 3 (lf.map inV), inV n] [(q, 19), (qm, 17)] [.cells 77 (mcL w nd kn qm), .mv (memV M)] (fun g r o g' => r = slI (tid (behZ w x lf)) ∧ o q 19 = .cells 77 (mcL w nd kn qm) ∧ ∃ M', Good w nd M' ∧ o qm 17 = .mv (memV M')) := by
  refine FnX.of (fn := Try.f61) ⟨Try.func61, by kernel_rfl, rfl⟩ Try.ntmps61 (by simp) fun w0 S0 l ob0 g0 K hrow hgl hK0 => ?_
  simp only [valsO, List.cons.injEq, and_true] at hrow
  simp only [List.mem_cons, List.not_mem_nil, or_false, forall_eq_or_imp, forall_eq, forall_const] at hgl
  have hE := hrow
  refine p_go ?_
  refine p_fresh fun hf => ?_
  refine p_nilSlot (s := 7) (el := 3) 900 (h := ?_)
  refine p_loopK [0, 2, 10, 11] [] (fun st => ∃ (t c1 : Nat) (M1 : List ((Nat × Nat) × List Int)), (t ≤ lf.length) ∧ (Good w nd M1) ∧ (g0 < c1) ∧ (c1 ≤ st.gen) ∧ (g0 ≤ st.gen) ∧ (LowQ g0 [(q, 19), (qm, 17)] ob0 st.obj) ∧ st.env 7 = .row c1 900 (behZ w x (lf.take t)).length ∧ st.env 12 = inV t ∧ st.obj q 19 = .cells 77 (mcL w nd kn qm) ∧ st.obj qm 17 = .mv (memV M1) ∧ st.obj c1 900 = .row 3 ((behZ w x (lf.take t)).map iV)) (fun st => lf.length - (st.env 12).toN) ?_ fun e ob g1 hK hO hI => ?_
  · exact ⟨0, _, M, by omega, hM, by (try dsimp only); omega, Nat.le_refl _, by (try dsimp only); omega, (by (try dsimp only); repeat (first | exact hlow | exact LowQ.refl | refine LowQ.or_ ?_ (by assumption) | refine LowQ.up ?_ (by omega) | refine LowQ.at_ ?_ (by simp))), eV_, eV_, oB_, oB_, oB_⟩
  · obtain ⟨t, c1, M1, ht, hM1, hc1, hcg1, hgen1, hlow, e7, e12, hcl, hmv, hrw⟩ := hI
    dsimp only at e7 e12 hcl hmv hrw
    simp only [valsE, List.cons.injEq, and_true] at hK
    have hE := (⟨hK, e7, e12, hcl, hmv, hrw⟩ : _ ∧ _ ∧ _ ∧ _ ∧ _ ∧ _)
    dsimp only at hcg1 hgen1 hlow
    have hzl := behZ_len w x (lf.take t)
    rw [List.length_take_of_le ht] at hzl
    refine p_go ?_
    refine p_splitC (s := 13) (ht := fun hc13 => ?_) (hf := fun hc13 => ?_)
    · have hlt : t < lf.length := by simpa using hc13
      have hlim : ((behZ w x (lf.take t)).length + (endsI w x lf[t]).length) * 8 ≤ 140737488355328 := by have h1 := endsI_le w x lf[t]; have h2 : t * (w.length + 1) ≤ 200 * 101 := Nat.mul_le_mul (by omega) (by omega); omega
      refine p_go fun hf => ?_
      refine p_idxMap (j := t) (ht := Try.underlying79) (hi := F.ti3.h) (hij := rfl) (hj := hlt) (h := ?_)
      refine p_go fun hf => ?_
      refine p_callX ([(c1, 900)]) (hf := hEn lf[t] (List.getElem_mem hlt) M1 hM1) (hg := by simp; omega) (hos := by simp <;> omega) (h := fun r o5 h5 hg5 hlw5 hos5 hR5 => ?_)
      obtain ⟨rfl, hcl5, M5, hM5, hmv5⟩ := hR5
      have hlow : LowQ g0 [(q, 19), (qm, 17)] ob0 o5 := LowQ.trans (by (try dsimp only); repeat (first | exact hlow | exact LowQ.refl | refine LowQ.or_ ?_ (by assumption) | refine LowQ.up ?_ (by omega) | refine LowQ.at_ ?_ (by simp))) hlw5 (by first | (dsimp only; omega) | omega) (fun k hk => .inl hk)
      simp only [valsO, List.cons.injEq, and_true] at hos5
      have hE := (⟨hK, hos5, hcl5, hmv5, e7, e12⟩ : _ ∧ _ ∧ _ ∧ _ ∧ _ ∧ _)
      refine p_bump fun hf => ?_
      refine p_append (ht := Try.underlying79) (hi := F.ti3.h) (hu := eV_) (u := slI (endsI w x lf[t])) (ys := (endsI w x lf[t]).map iV) (hnl := by simp) (hy := .inl ⟨rfl, rfl⟩) (k := (behZ w x (lf.take t)).length + (endsI w x lf[t]).length) (hm := by simp) (hlim := hlim) (h := ?_)
      refine p_assign (h := ?_)
      refine p_end ?_
      refine p_region fun hf => ?_
      refine p_bare ?_
      refine p_renSlot (s := 7) 900 (h := ?_)
      refine p_lastOp (h := ?_)
      refine p_add (r := ((t + 1 : Nat) : Int)) (hr := (by first | omega | (simp only [decide_eq_true_eq, decide_eq_false_iff_not, Bool.or_eq_false_iff, Bool.and_eq_true, Bool.not_eq_true', Bool.not_eq_false'] at *; omega))) (hb := (by first | omega | (simp only [decide_eq_true_eq, decide_eq_false_iff_not, Bool.or_eq_false_iff, Bool.and_eq_true, Bool.not_eq_true', Bool.not_eq_false'] at *; omega))) (h := ?_)
      refine p_go ?_
      refine p_some ?_
      have hz1 : behZ w x (lf.take (t + 1)) = behZ w x (lf.take t) ++ endsI w x lf[t] := by unfold behZ; rw [List.take_add_one, List.getElem?_eq_getElem hlt, List.flatMap_append]; simp
      refine ⟨⟨(by simp (decide := true) only [valsE, evE, upd, cv, args0, argsFrom, List.length_map, ↓reduceIte, hE] <;> rfl), (by simp (decide := true) only [valsO, updO, upd, true_and, and_true, false_and, and_false, ↓reduceIte, hE] <;> rfl)⟩, ⟨t + 1, _, M5, hlt, hM5, by (try dsimp only); omega, Nat.le_refl _, by (try dsimp only); omega, (by (try dsimp only); repeat (first | exact hlow | exact LowQ.refl | refine LowQ.or_ ?_ (by assumption) | refine LowQ.up ?_ (by omega) | refine LowQ.at_ ?_ (by simp))), by rw [hz1, List.length_append]; exact eV_, eV_, oB_, oB_, by rw [hz1, List.map_append]; exact oB_⟩, ?_⟩
      simp (decide := true) only [upd, e12, V.toN, ↓reduceIte]; omega
    · have hge : ¬ t < lf.length := by simpa using hc13
      have htk : lf.take t = lf := List.take_of_length_le (by omega)
      rw [htk] at e7 hrw hzl
      have hzl2 : (behZ w x lf).length ≤ 17592186044416 := by have h2 : t * (w.length + 1) ≤ 200 * 101 := Nat.mul_le_mul (by omega) (by omega); omega
      have hE := (⟨hK, hO, e7, e12, hcl, hmv, hrw⟩ : _ ∧ _ ∧ _ ∧ _ ∧ _ ∧ _ ∧ _)
      refine p_go fun hf => ?_
      refine p_callX ([(q, 19), (qm, 17)]) (hf := (tidyP c1 (behZ w x lf) hzl2)) (hg := by simp; omega) (hos := by simp <;> omega) (h := fun r o6 h6 hg6 hlw6 hos6 hR6 => ?_)
      obtain ⟨rfl, hrt⟩ := hR6
      have hlow : LowQ g0 [(q, 19), (qm, 17)] ob0 o6 := LowQ.trans (by (try dsimp only); repeat (first | exact hlow | exact LowQ.refl | refine LowQ.or_ ?_ (by assumption) | refine LowQ.up ?_ (by omega) | refine LowQ.at_ ?_ (by simp))) hlw6 (by first | (dsimp only; omega) | omega) (fun k hk => by simp only [List.mem_cons, List.not_mem_nil, or_false] at hk; subst hk; right; (try dsimp only); omega)
      simp only [valsO, List.cons.injEq, and_true] at hos6
      have hE := (⟨hK, hos6, hrt⟩ : _ ∧ _ ∧ _)
      refine p_go ?_
      refine p_frzST (s := 6) eV_ oB_ (by simp) ?_
      rw [take_tid]
      refine p_retE1 (v := slI (tid (behZ w x lf))) rfl eV_ (hK0 _ _ _ (by first | (dsimp only; omega) | omega) (by (try dsimp only); repeat (first | exact hlow | exact LowQ.refl | refine LowQ.or_ ?_ (by assumption) | refine LowQ.up ?_ (by omega) | refine LowQ.at_ ?_ (by simp))) (⟨rfl, oB_, M1, hM1, oB_⟩))

end Go.Proofs.Ytjdhkopjigijfaa
