import Derived.Test.YtjdhkopjigijfaaXlm
/-
  The program's parser, part by part.
-/
set_option linter.unusedSimpArgs false
set_option linter.unusedVariables false
set_option maxHeartbeats 8000000
namespace Go.Proofs.Ytjdhkopjigijfaa
open Go.RowKit
attribute [local irreducible] Wk Tr
/-- A fault, as what a panic holds. -/
def fltV (a : Nat) : Value := .iface 62 (.agg #[.int .i64 (a : Int)])
def ParR (s : ByteArray) (o : Nat) (p : PR) (r : V) (vs : List Ob) : Prop := ∃ x j e, p = .ok x j e ∧ r = rxA x ∧ vs = [.cells 68 (rdL s j o e)]
def ParP (p : PR) (v : Value) (vs : List Ob) : Prop := ∃ a, p = .bad a ∧ v = fltV a
def ParC (fid : FuncId) (s : ByteArray) (q i o : Nat) (d : Bool) (p : PR) : Prop := FnP Try.prog fid [.ptr q 15 0] [(q, 15)] [.cells 68 (rdL s i o d)] (fun r vs => ParR s o p r vs) (fun v vs => ParP p v vs)
theorem joinedA (op : Int) (l : List Rx) (hl : l.length ≤ 1000000) (hb : (jkL op l).length ≤ 1000000) : FnC Try.prog 51 [iV op, .sl 25 (l.map rxV)] (fun r => r = rxA (joinR op l)) := by
  have h := joinedP op l hl hb
  rw [rxV_eq] at h
  exact h

theorem alt_gen (s : ByteArray) (hs : s.size ≤ 10000) (q f : Nat) (i op : Nat) (dp : Bool) (hi : i ≤ s.size) (hoi : op ≤ i) (hfu : 5 * (s.size - i) + 4 ≤ f + 1) (hR : ∀ f' i' o' d', f' ≤ f → i' ≤ s.size → o' ≤ i' → 5 * (s.size - i') + 3 ≤ f' → ParC 56 s q i' o' d' (pRow s f' i' o' d')) : FnP Try.prog 30 [.ptr q 15 0] [(q, 15)] [.cells 68 (rdL s i op dp)] (fun r vs => ParR s op (pAlt s (f + 1) i op dp) r vs) (fun v vs => ParP (pAlt s (f + 1) i op dp) v vs) := by
  refine FnP.of (fn := Try.f30) ⟨Try.func30, by kernel_rfl, rfl⟩ Try.ntmps30 (by simp) fun w0 S0 l ob0 g0 K KP hrow hgl hK0 hKP0 => ?_
  simp only [valsO, List.cons.injEq, and_true] at hrow
  simp only [List.mem_cons, List.not_mem_nil, or_false, forall_eq_or_imp, forall_eq, forall_const] at hgl
  have hE := hrow
  refine p_go fun hf => ?_
  refine p_nilChk (h := ?_)
  refine p_go fun hf => ?_
  refine p_callX ([(g0 + 1, 2)]) (hf := blanksP q s i op dp hi (by omega)) (hg := by simp; omega) (hos := by simp <;> omega) (h := fun r o0 h0 hg0 hlw0 hos0 hR0 => ?_)
  obtain ⟨rfl, hcl0⟩ := hR0
  simp only [valsO, List.cons.injEq, and_true] at hos0
  have hlow : LowQ g0 [(q, 15)] ob0 o0 := LowQ.trans (by (try dsimp only); repeat (first | exact hlow | exact LowQ.refl | refine LowQ.or_ ?_ (by assumption) | refine LowQ.up ?_ (by omega) | refine LowQ.at_ ?_ (by simp))) hlw0 (by first | (dsimp only; omega) | omega) (fun k hk => .inl hk)
  have hE := (⟨hcl0, hos0⟩ : _ ∧ _)
  refine p_go fun hf => ?_
  have hbi := bl_le hi
  refine p_callP ([(g0 + 1, 2)]) (hf := hR f (bl s i) op dp (Nat.le_refl _) hbi.2 (by omega) (by omega)) (hg := by simp; omega) (hos := by simp <;> omega) (hp := fun x9 o9 h9 hg9 hlw9 hos9 hR9 => by obtain ⟨a9, ha9, rfl⟩ := hR9; (repeat (first | with_reducible refine Tr.then_panic ?_ | with_reducible refine Tr.block_panic ?_)); exact p_xP (hKP0 _ _ _ (by first | (dsimp only; omega) | omega) (LowQ.trans (by (try dsimp only); repeat (first | exact hlow | exact LowQ.refl | refine LowQ.or_ ?_ (by assumption) | refine LowQ.up ?_ (by omega) | refine LowQ.at_ ?_ (by simp))) hlw9 (by first | (dsimp only; omega) | omega) (fun k hk => .inl hk)) ⟨a9, by rw [pAlt, ha9], rfl⟩)) (h := fun r o1 h1 hg1 hlw1 hos1 hR1 => ?_)
  obtain ⟨x1, j1, d1, hp1, rfl, hv1⟩ := hR1
  simp only [valsO, List.cons.injEq, and_true] at hv1 hos1
  have hlow : LowQ g0 [(q, 15)] ob0 o1 := LowQ.trans (by (try dsimp only); repeat (first | exact hlow | exact LowQ.refl | refine LowQ.or_ ?_ (by assumption) | refine LowQ.up ?_ (by omega) | refine LowQ.at_ ?_ (by simp))) hlw1 (by first | (dsimp only; omega) | omega) (fun k hk => .inl hk)
  have hle1 := (pr_le s f).2.2.1 (bl s i) op dp hbi.2
  rw [hp1] at hle1
  obtain ⟨hji1, hj1, hsz1⟩ := hle1
  have hE := (⟨hv1, hos1⟩ : _ ∧ _)
  refine p_bump fun hf => ?_
  refine p_buildSlice (ht := Try.underlying23) (hi := F.ti25.h) (h := ?_)
  refine p_go ?_
  refine p_fresh fun hf => ?_
  refine p_renSlot (s := 3) 900 (h := ?_)
  refine p_loopK [0, 2] [(g0 + 1, 2)] (fun st => ∃ (f1 j c1 : Nat) (l1 : List Rx) (e1 : Bool), (f1 ≤ f) ∧ (5 * (s.size - j) + 4 ≤ f1) ∧ (j ≤ s.size) ∧ (op ≤ j) ∧ (l1 ≠ []) ∧ (Rx.szL l1 + l1.length ≤ 2 * j) ∧ (pAltT s f1 j op e1 l1 = pAlt s (f + 1) i op dp) ∧ (g0 + 1 < c1) ∧ (c1 ≤ st.gen) ∧ (g0 + 1 ≤ st.gen) ∧ (LowQ g0 [(q, 15)] ob0 st.obj) ∧ st.env 3 = .row c1 900 l1.length ∧ st.obj q 15 = .cells 68 (rdL s j op e1) ∧ st.obj c1 900 = .row 25 (l1.map rxV)) (fun st => s.size - rdI (st.obj q 15)) ?_ fun e ob g1 hK hO hI => ?_
  · exact ⟨f, j1, _, [x1], d1, Nat.le_refl _, by omega, hj1, by omega, by simp, by simp only [Rx.szL, List.length_singleton]; omega, by rw [pAlt, hp1], by (try dsimp only); omega, Nat.le_refl _, by (try dsimp only); omega, (by (try dsimp only); repeat (first | exact hlow | exact LowQ.refl | refine LowQ.or_ ?_ (by assumption) | refine LowQ.up ?_ (by omega) | refine LowQ.at_ ?_ (by simp))), eV_, oB_, by rw [List.map_singleton, rxV_eq]; exact oB_⟩
  · obtain ⟨f1, j, c1, l1, e1, hf1, hfn, hj, hoj, hl1, hsz, hpp, hc1, hcg1, hgen1, hlow, e3, hcl, hrw⟩ := hI
    dsimp only at e3 hcl hrw
    simp only [valsE, List.cons.injEq, and_true] at hK
    simp only [valsO, List.cons.injEq, and_true] at hO
    have hE := (⟨hK, hO, e3, hcl, hrw⟩ : _ ∧ _ ∧ _ ∧ _ ∧ _)
    dsimp only at hcg1 hgen1 hlow
    obtain ⟨f2, rfl⟩ : ∃ f2, f1 = f2 + 1 := ⟨f1 - 1, by omega⟩
    refine p_go fun hf => ?_
    refine p_nilChk (h := ?_)
    refine p_go fun hf => ?_
    refine p_callX ([(g0 + 1, 2), (c1, 900)]) (hf := takeP q s j op e1 hj (by omega) 124) (hg := by simp; omega) (hos := by simp <;> omega) (h := fun r o2 h2 hg2 hlw2 hos2 hR2 => ?_)
    obtain ⟨rfl, hcl2⟩ := hR2
    simp only [valsO, List.cons.injEq, and_true] at hos2
    have hlow : LowQ g0 [(q, 15)] ob0 o2 := LowQ.trans (by (try dsimp only); repeat (first | exact hlow | exact LowQ.refl | refine LowQ.or_ ?_ (by assumption) | refine LowQ.up ?_ (by omega) | refine LowQ.at_ ?_ (by simp))) hlw2 (by first | (dsimp only; omega) | omega) (fun k hk => .inl hk)
    have hE := (⟨hK, hos2, hcl2, e3⟩ : _ ∧ _ ∧ _ ∧ _)
    refine p_go ?_
    refine p_splitC (s := 14) (ht := fun hc14 => ?_) (hf := fun hc14 => ?_)
    · have htk : tkB s j 124 = true := hc14
      refine p_go fun hf => ?_
      have htl := tkI_lt htk
      refine p_callP ([(g0 + 1, 2), (c1, 900)]) (hf := hR f2 (tkI s j 124) op e1 (by omega) htl.2 (by omega) (by omega)) (hg := by simp; omega) (hos := by simp <;> omega) (hp := fun x9 o9 h9 hg9 hlw9 hos9 hR9 => by obtain ⟨a9, ha9, rfl⟩ := hR9; (repeat (first | with_reducible refine Tr.then_panic ?_ | with_reducible refine Tr.block_panic ?_)); exact p_xP (hKP0 _ _ _ (by first | (dsimp only; omega) | omega) (LowQ.trans (by (try dsimp only); repeat (first | exact hlow | exact LowQ.refl | refine LowQ.or_ ?_ (by assumption) | refine LowQ.up ?_ (by omega) | refine LowQ.at_ ?_ (by simp))) hlw9 (by first | (dsimp only; omega) | omega) (fun k hk => .inl hk)) ⟨a9, by rw [← hpp, pAltT, if_pos htk, ha9], rfl⟩)) (h := fun r o3 h3 hg3 hlw3 hos3 hR3 => ?_)
      obtain ⟨x3, j3, e3, hp3, rfl, hv3⟩ := hR3
      simp only [valsO, List.cons.injEq, and_true] at hv3 hos3
      have hlow : LowQ g0 [(q, 15)] ob0 o3 := LowQ.trans (by (try dsimp only); repeat (first | exact hlow | exact LowQ.refl | refine LowQ.or_ ?_ (by assumption) | refine LowQ.up ?_ (by omega) | refine LowQ.at_ ?_ (by simp))) hlw3 (by first | (dsimp only; omega) | omega) (fun k hk => .inl hk)
      have hle3 := (pr_le s f2).2.2.1 (tkI s j 124) op e1 htl.2
      rw [hp3] at hle3
      obtain ⟨hji3, hj3, hsz3⟩ := hle3
      have hE := (⟨hK, hos3, hv3⟩ : _ ∧ _ ∧ _)
      refine p_bump fun hf => ?_
      refine p_buildSlice (ht := Try.underlying23) (hi := F.ti25.h) (h := ?_)
      refine p_append (ht := Try.underlying23) (hi := F.ti25.h) (u := .row _ 18 1) (ys := [rxA x3]) (hnl := by simp) (hy := ⟨.inl oB_, rfl⟩) (k := l1.length + 1) (hm := by simp) (hlim := by omega) (h := ?_)
      refine p_assign (h := ?_)
      refine p_end ?_
      refine p_fresh fun hf => ?_
      refine p_renSlot (s := 3) 900 (h := ?_)
      refine p_some ?_
      refine ⟨⟨(by simp (decide := true) only [valsE, evE, upd, cv, args0, argsFrom, List.length_map, ↓reduceIte, hE] <;> rfl), (by simp (decide := true) only [valsO, updO, upd, true_and, and_true, false_and, and_false, ↓reduceIte, hE] <;> rfl)⟩, ⟨f2, j3, _, l1 ++ [x3], e3, by omega, by omega, hj3, by omega, by simp, by rw [szL_snoc, List.length_append, List.length_singleton]; omega, by rw [← hpp, pAltT, if_pos htk, hp3], by (try dsimp only); omega, Nat.le_refl _, by (try dsimp only); omega, (by (try dsimp only); repeat (first | exact hlow | exact LowQ.refl | refine LowQ.or_ ?_ (by assumption) | refine LowQ.up ?_ (by omega) | refine LowQ.at_ ?_ (by simp))), by rw [List.length_append]; exact eV_, oB_, by rw [List.map_append, List.map_singleton, rxV_eq]; exact oB_⟩, ?_⟩
      simp (decide := true) only [updO, hv3, hcl, rdI, and_self, and_true, true_and, false_and, and_false, ↓reduceIte]; omega
    · have htk : tkB s j 124 = false := hc14
      have htj : tkI s j 124 = j := by rw [tkI, if_neg (by rw [htk]; decide)]
      rw [htj] at hcl2
      have hE := (⟨hK, hos2, hcl2, e3⟩ : _ ∧ _ ∧ _ ∧ _)
      have hres : pAlt s (f + 1) i op dp = .ok (joinR 6 l1) j e1 := by rw [← hpp, pAltT, if_neg (by rw [htk]; decide)]
      have hln := jkL_len 6 l1
      refine p_condF (h := ?_)
      refine p_exit ?_
      refine p_frzS (s := 3) eV_ oB_ (by simp) ?_
      refine p_go fun hf => ?_
      refine p_call (hx := rfl) (hb := ⟨Try.func51, by kernel_rfl, rfl⟩) (hf := joinedA 6 l1 (by omega) (by omega)) (h := ?_)
      refine p_go ?_
      refine p_retP ?_
      refine p_retE1 (v := rxA (joinR 6 l1)) rfl ⟨_, _, _, _, eV_, oB_, F.agg25.h, _, _, _, F.ti25.h, rfl, rfl⟩ (hK0 _ _ _ (by first | (dsimp only; omega) | omega) (by (try dsimp only); repeat (first | exact hlow | exact LowQ.refl | refine LowQ.or_ ?_ (by assumption) | refine LowQ.up ?_ (by omega) | refine LowQ.at_ ?_ (by simp))) (⟨_, _, _, hres, rfl, by simp only [valsO]; exact congrArg (fun z => [z]) oB_⟩))

theorem row_gen (s : ByteArray) (hs : s.size ≤ 10000) (q f : Nat) (i op : Nat) (dp : Bool) (hi : i ≤ s.size) (hoi : op ≤ i) (hfu : 5 * (s.size - i) + 3 ≤ f + 1) (hR : ∀ f' i' o' d', f' ≤ f → i' ≤ s.size → o' ≤ i' → 5 * (s.size - i') + 2 ≤ f' → ParC 78 s q i' o' d' (pFac s f' i' o' d')) : FnP Try.prog 56 [.ptr q 15 0] [(q, 15)] [.cells 68 (rdL s i op dp)] (fun r vs => ParR s op (pRow s (f + 1) i op dp) r vs) (fun v vs => ParP (pRow s (f + 1) i op dp) v vs) := by
  refine FnP.of (fn := Try.f56) ⟨Try.func56, by kernel_rfl, rfl⟩ Try.ntmps56 (by simp) fun w0 S0 l ob0 g0 K KP hrow hgl hK0 hKP0 => ?_
  simp only [valsO, List.cons.injEq, and_true] at hrow
  simp only [List.mem_cons, List.not_mem_nil, or_false, forall_eq_or_imp, forall_eq, forall_const] at hgl
  have hE := hrow
  refine p_go fun hf => ?_
  refine p_callP ([(g0 + 1, 2)]) (hf := hR f i op dp (Nat.le_refl _) hi hoi (by omega)) (hg := by simp; omega) (hos := by simp <;> omega) (hp := fun x9 o9 h9 hg9 hlw9 hos9 hR9 => by obtain ⟨a9, ha9, rfl⟩ := hR9; (repeat (first | with_reducible refine Tr.then_panic ?_ | with_reducible refine Tr.block_panic ?_)); exact p_xP (hKP0 _ _ _ (by first | (dsimp only; omega) | omega) (LowQ.trans (by (try dsimp only); repeat (first | exact hlow | exact LowQ.refl | refine LowQ.or_ ?_ (by assumption) | refine LowQ.up ?_ (by omega) | refine LowQ.at_ ?_ (by simp))) hlw9 (by first | (dsimp only; omega) | omega) (fun k hk => .inl hk)) ⟨a9, by rw [pRow, ha9], rfl⟩)) (h := fun r o1 h1 hg1 hlw1 hos1 hR1 => ?_)
  obtain ⟨x1, j1, d1, hp1, rfl, hv1⟩ := hR1
  simp only [valsO, List.cons.injEq, and_true] at hv1 hos1
  have hlow : LowQ g0 [(q, 15)] ob0 o1 := LowQ.trans (by (try dsimp only); repeat (first | exact hlow | exact LowQ.refl | refine LowQ.or_ ?_ (by assumption) | refine LowQ.up ?_ (by omega) | refine LowQ.at_ ?_ (by simp))) hlw1 (by first | (dsimp only; omega) | omega) (fun k hk => .inl hk)
  have hle1 := (pr_le s f).2.2.2.2.1 i op dp hi
  rw [hp1] at hle1
  obtain ⟨hji1, hj1, hsz1⟩ := hle1
  have hE := (⟨hv1, hos1⟩ : _ ∧ _)
  refine p_bump fun hf => ?_
  refine p_buildSlice (ht := Try.underlying23) (hi := F.ti25.h) (h := ?_)
  refine p_go ?_
  refine p_fresh fun hf => ?_
  refine p_renSlot (s := 3) 900 (h := ?_)
  refine p_loopK [0, 2] [(g0 + 1, 2)] (fun st => ∃ (f1 j c1 : Nat) (l1 : List Rx) (e1 : Bool), (f1 ≤ f) ∧ (5 * (s.size - j) + 3 ≤ f1) ∧ (j ≤ s.size) ∧ (op ≤ j) ∧ (l1 ≠ []) ∧ (Rx.szL l1 + l1.length ≤ 2 * j) ∧ (pRowT s f1 j op e1 l1 = pRow s (f + 1) i op dp) ∧ (g0 + 1 < c1) ∧ (c1 ≤ st.gen) ∧ (g0 + 1 ≤ st.gen) ∧ (LowQ g0 [(q, 15)] ob0 st.obj) ∧ st.env 3 = .row c1 900 l1.length ∧ st.obj q 15 = .cells 68 (rdL s j op e1) ∧ st.obj c1 900 = .row 25 (l1.map rxV)) (fun st => s.size - rdI (st.obj q 15)) ?_ fun e ob g1 hK hO hI => ?_
  · exact ⟨f, j1, _, [x1], d1, Nat.le_refl _, by omega, hj1, by omega, by simp, by simp only [Rx.szL, List.length_singleton]; omega, by rw [pRow, hp1], by (try dsimp only); omega, Nat.le_refl _, by (try dsimp only); omega, (by (try dsimp only); repeat (first | exact hlow | exact LowQ.refl | refine LowQ.or_ ?_ (by assumption) | refine LowQ.up ?_ (by omega) | refine LowQ.at_ ?_ (by simp))), eV_, oB_, by rw [List.map_singleton, rxV_eq]; exact oB_⟩
  · obtain ⟨f1, j, c1, l1, e1, hf1, hfn, hj, hoj, hl1, hsz, hpp, hc1, hcg1, hgen1, hlow, e3, hcl, hrw⟩ := hI
    dsimp only at e3 hcl hrw
    simp only [valsE, List.cons.injEq, and_true] at hK
    simp only [valsO, List.cons.injEq, and_true] at hO
    have hE := (⟨hK, hO, e3, hcl, hrw⟩ : _ ∧ _ ∧ _ ∧ _ ∧ _)
    dsimp only at hcg1 hgen1 hlow
    obtain ⟨f2, rfl⟩ : ∃ f2, f1 = f2 + 1 := ⟨f1 - 1, by omega⟩
    refine p_go fun hf => ?_
    refine p_callX ([(g0 + 1, 2), (c1, 900)]) (hf := beginsP q s j op e1 hj (by omega)) (hg := by simp; omega) (hos := by simp <;> omega) (h := fun r o2 h2 hg2 hlw2 hos2 hR2 => ?_)
    obtain ⟨rfl, hcl2⟩ := hR2
    simp only [valsO, List.cons.injEq, and_true] at hos2
    have hlow : LowQ g0 [(q, 15)] ob0 o2 := LowQ.trans (by (try dsimp only); repeat (first | exact hlow | exact LowQ.refl | refine LowQ.or_ ?_ (by assumption) | refine LowQ.up ?_ (by omega) | refine LowQ.at_ ?_ (by simp))) hlw2 (by first | (dsimp only; omega) | omega) (fun k hk => .inl hk)
    have hE := (⟨hK, hos2, hcl2, e3⟩ : _ ∧ _ ∧ _ ∧ _)
    refine p_go ?_
    refine p_splitC (s := 8) (ht := fun hc8 => ?_) (hf := fun hc8 => ?_)
    · have htk : bgB s j = true := hc8
      refine p_go fun hf => ?_
      refine p_callP ([(g0 + 1, 2), (c1, 900)]) (hf := hR f2 j op e1 (by omega) hj hoj (by omega)) (hg := by simp; omega) (hos := by simp <;> omega) (hp := fun x9 o9 h9 hg9 hlw9 hos9 hR9 => by obtain ⟨a9, ha9, rfl⟩ := hR9; (repeat (first | with_reducible refine Tr.then_panic ?_ | with_reducible refine Tr.block_panic ?_)); exact p_xP (hKP0 _ _ _ (by first | (dsimp only; omega) | omega) (LowQ.trans (by (try dsimp only); repeat (first | exact hlow | exact LowQ.refl | refine LowQ.or_ ?_ (by assumption) | refine LowQ.up ?_ (by omega) | refine LowQ.at_ ?_ (by simp))) hlw9 (by first | (dsimp only; omega) | omega) (fun k hk => .inl hk)) ⟨a9, by rw [← hpp, pRowT, if_pos htk, ha9], rfl⟩)) (h := fun r o3 h3 hg3 hlw3 hos3 hR3 => ?_)
      obtain ⟨x3, j3, e3, hp3, rfl, hv3⟩ := hR3
      simp only [valsO, List.cons.injEq, and_true] at hv3 hos3
      have hlow : LowQ g0 [(q, 15)] ob0 o3 := LowQ.trans (by (try dsimp only); repeat (first | exact hlow | exact LowQ.refl | refine LowQ.or_ ?_ (by assumption) | refine LowQ.up ?_ (by omega) | refine LowQ.at_ ?_ (by simp))) hlw3 (by first | (dsimp only; omega) | omega) (fun k hk => .inl hk)
      have hle3 := (pr_le s f2).2.2.2.2.1 j op e1 hj
      rw [hp3] at hle3
      obtain ⟨hji3, hj3, hsz3⟩ := hle3
      have hE := (⟨hK, hos3, hv3⟩ : _ ∧ _ ∧ _)
      refine p_bump fun hf => ?_
      refine p_buildSlice (ht := Try.underlying23) (hi := F.ti25.h) (h := ?_)
      refine p_append (ht := Try.underlying23) (hi := F.ti25.h) (u := .row _ 12 1) (ys := [rxA x3]) (hnl := by simp) (hy := ⟨.inl oB_, rfl⟩) (k := l1.length + 1) (hm := by simp) (hlim := by omega) (h := ?_)
      refine p_assign (h := ?_)
      refine p_end ?_
      refine p_fresh fun hf => ?_
      refine p_renSlot (s := 3) 900 (h := ?_)
      refine p_some ?_
      refine ⟨⟨(by simp (decide := true) only [valsE, evE, upd, cv, args0, argsFrom, List.length_map, ↓reduceIte, hE] <;> rfl), (by simp (decide := true) only [valsO, updO, upd, true_and, and_true, false_and, and_false, ↓reduceIte, hE] <;> rfl)⟩, ⟨f2, j3, _, l1 ++ [x3], e3, by omega, by omega, hj3, by omega, by simp, by rw [szL_snoc, List.length_append, List.length_singleton]; omega, by rw [← hpp, pRowT, if_pos htk, hp3], by (try dsimp only); omega, Nat.le_refl _, by (try dsimp only); omega, (by (try dsimp only); repeat (first | exact hlow | exact LowQ.refl | refine LowQ.or_ ?_ (by assumption) | refine LowQ.up ?_ (by omega) | refine LowQ.at_ ?_ (by simp))), by rw [List.length_append]; exact eV_, oB_, by rw [List.map_append, List.map_singleton, rxV_eq]; exact oB_⟩, ?_⟩
      simp (decide := true) only [updO, hv3, hcl, rdI, and_self, and_true, true_and, false_and, and_false, ↓reduceIte]; omega
    · have htk : bgB s j = false := hc8
      have hres : pRow s (f + 1) i op dp = .ok (joinR 5 l1) j e1 := by rw [← hpp, pRowT, if_neg (by rw [htk]; decide)]
      have hln := jkL_len 5 l1
      refine p_condF (h := ?_)
      refine p_exit ?_
      refine p_frzS (s := 3) eV_ oB_ (by simp) ?_
      refine p_go fun hf => ?_
      refine p_call (hx := rfl) (hb := ⟨Try.func51, by kernel_rfl, rfl⟩) (hf := joinedA 5 l1 (by omega) (by omega)) (h := ?_)
      refine p_go ?_
      refine p_retP ?_
      refine p_retE1 (v := rxA (joinR 5 l1)) rfl ⟨_, _, _, _, eV_, oB_, F.agg25.h, _, _, _, F.ti25.h, rfl, rfl⟩ (hK0 _ _ _ (by first | (dsimp only; omega) | omega) (by (try dsimp only); repeat (first | exact hlow | exact LowQ.refl | refine LowQ.or_ ?_ (by assumption) | refine LowQ.up ?_ (by omega) | refine LowQ.at_ ?_ (by simp))) (⟨_, _, _, hres, rfl, by simp only [valsO]; exact congrArg (fun z => [z]) oB_⟩))

theorem rxL_one (op : Int) (y : Rx) : rxL (.mk op ⟨#[]⟩ [y]) = [iV op, .str ⟨#[]⟩, .sl 25 [rxA y]] := by
  show [iV op, .str ⟨#[]⟩, .sl 25 ([y].map rxV)] = _
  rw [List.map_singleton, rxV_eq]

theorem fac_gen (s : ByteArray) (hs : s.size ≤ 10000) (q f : Nat) (i op : Nat) (dp : Bool) (hi : i ≤ s.size) (hA : ParC 103 s q (tks s 33 i).2 op dp (pAtom s f (tks s 33 i).2 op dp)) : FnP Try.prog 78 [.ptr q 15 0] [(q, 15)] [.cells 68 (rdL s i op dp)] (fun r vs => ParR s op (pFac s (f + 1) i op dp) r vs) (fun v vs => ParP (pFac s (f + 1) i op dp) v vs) := by
  refine FnP.of (fn := Try.f78) ⟨Try.func78, by kernel_rfl, rfl⟩ Try.ntmps78 (by simp) fun w0 S0 l ob0 g0 K KP hrow hgl hK0 hKP0 => ?_
  simp only [valsO, List.cons.injEq, and_true] at hrow
  simp only [List.mem_cons, List.not_mem_nil, or_false, forall_eq_or_imp, forall_eq, forall_const] at hgl
  have hE := hrow
  refine p_go ?_
  refine p_loopK [0, 2] [(g0 + 1, 2)] (fun st => ∃ (j n : Nat), (j ≤ s.size) ∧ (i ≤ j) ∧ (n + (tks s 33 j).1 = (tks s 33 i).1) ∧ ((tks s 33 j).2 = (tks s 33 i).2) ∧ (g0 + 1 ≤ st.gen) ∧ (LowQ g0 [(q, 15)] ob0 st.obj) ∧ st.env 3 = inV n ∧ st.obj q 15 = .cells 68 (rdL s j op dp)) (fun st => s.size - rdI (st.obj q 15)) ?_ fun e ob g1 hK hO hI => ?_
  · exact ⟨i, 0, hi, Nat.le_refl _, by omega, rfl, by (try dsimp only); omega, (by (try dsimp only); repeat (first | exact hlow | exact LowQ.refl | refine LowQ.or_ ?_ (by assumption) | refine LowQ.up ?_ (by omega) | refine LowQ.at_ ?_ (by simp))), eV_, oB_⟩
  · obtain ⟨j, n, hj, hij, hn, he, hgen1, hlow, e3, hcl⟩ := hI
    dsimp only at e3 hcl
    simp only [valsE, List.cons.injEq, and_true] at hK
    simp only [valsO, List.cons.injEq, and_true] at hO
    have hE := (⟨hK, hO, e3, hcl⟩ : _ ∧ _ ∧ _ ∧ _)
    dsimp only at hgen1 hlow
    have hnl := tks_le (c := 33) hi
    refine p_go fun hf => ?_
    refine p_nilChk (h := ?_)
    refine p_go fun hf => ?_
    refine p_callX ([(g0 + 1, 2)]) (hf := takeP q s j op dp hj (by omega) 33) (hg := by simp; omega) (hos := by simp <;> omega) (h := fun r o2 h2 hg2 hlw2 hos2 hR2 => ?_)
    obtain ⟨rfl, hcl2⟩ := hR2
    simp only [valsO, List.cons.injEq, and_true] at hos2
    have hlow : LowQ g0 [(q, 15)] ob0 o2 := LowQ.trans (by (try dsimp only); repeat (first | exact hlow | exact LowQ.refl | refine LowQ.or_ ?_ (by assumption) | refine LowQ.up ?_ (by omega) | refine LowQ.at_ ?_ (by simp))) hlw2 (by first | (dsimp only; omega) | omega) (fun k hk => .inl hk)
    have hE := (⟨hK, hos2, hcl2, e3⟩ : _ ∧ _ ∧ _ ∧ _)
    refine p_go ?_
    refine p_splitC (s := 8) (ht := fun hc8 => ?_) (hf := fun hc8 => ?_)
    · have htk : tkB s j 33 = true := hc8
      have htl := tkI_lt htk
      refine p_go fun hf => ?_
      refine p_add (r := ((n + 1 : Nat) : Int)) (hr := (by first | omega | (simp only [decide_eq_true_eq, decide_eq_false_iff_not, Bool.or_eq_false_iff, Bool.and_eq_true, Bool.not_eq_true', Bool.not_eq_false'] at *; omega))) (hb := (by first | omega | (simp only [decide_eq_true_eq, decide_eq_false_iff_not, Bool.or_eq_false_iff, Bool.and_eq_true, Bool.not_eq_true', Bool.not_eq_false'] at *; omega))) (h := ?_)
      refine p_go ?_
      refine p_some ?_
      have hts := tks_step htk
      rw [hts] at hn he
      dsimp only at hn he
      refine ⟨⟨(by simp (decide := true) only [valsE, evE, upd, cv, args0, argsFrom, List.length_map, ↓reduceIte, hE] <;> rfl), (by simp (decide := true) only [valsO, updO, upd, true_and, and_true, false_and, and_false, ↓reduceIte, hE] <;> rfl)⟩, ⟨tkI s j 33, n + 1, by omega, by omega, by omega, he, by (try dsimp only); omega, (by (try dsimp only); repeat (first | exact hlow | exact LowQ.refl | refine LowQ.or_ ?_ (by assumption) | refine LowQ.up ?_ (by omega) | refine LowQ.at_ ?_ (by simp))), eV_, oB_⟩, ?_⟩
      simp (decide := true) only [updO, hcl2, hcl, rdI, and_self, and_true, true_and, false_and, and_false, ↓reduceIte]; omega
    · have htk : tkB s j 33 = false := hc8
      have htj : tkI s j 33 = j := by rw [tkI, if_neg (by rw [htk]; decide)]
      rw [tks_stop htk] at hn he
      dsimp only at hn he
      rw [htj, he] at hcl2
      have hE := (⟨hK, hos2, hcl2, e3⟩ : _ ∧ _ ∧ _ ∧ _)
      refine p_go fun hf => ?_
      refine p_callP ([(g0 + 1, 2)]) (hf := hA) (hg := by simp; omega) (hos := by simp <;> omega) (hp := fun x9 o9 h9 hg9 hlw9 hos9 hR9 => by obtain ⟨a9, ha9, rfl⟩ := hR9; (repeat (first | with_reducible refine Tr.then_panic ?_ | with_reducible refine Tr.block_panic ?_)); exact p_xP (hKP0 _ _ _ (by first | (dsimp only; omega) | omega) (LowQ.trans (by (try dsimp only); repeat (first | exact hlow | exact LowQ.refl | refine LowQ.or_ ?_ (by assumption) | refine LowQ.up ?_ (by omega) | refine LowQ.at_ ?_ (by simp))) hlw9 (by first | (dsimp only; omega) | omega) (fun k hk => .inl hk)) ⟨a9, by rw [pFac, ha9], rfl⟩)) (h := fun r o1 h1 hg1 hlw1 hos1 hR1 => ?_)
      obtain ⟨x1, j1, d1, hp1, rfl, hv1⟩ := hR1
      simp only [valsO, List.cons.injEq, and_true] at hv1 hos1
      have hlow : LowQ g0 [(q, 15)] ob0 o1 := LowQ.trans (by (try dsimp only); repeat (first | exact hlow | exact LowQ.refl | refine LowQ.or_ ?_ (by assumption) | refine LowQ.up ?_ (by omega) | refine LowQ.at_ ?_ (by simp))) hlw1 (by first | (dsimp only; omega) | omega) (fun k hk => .inl hk)
      have hle1 := (pr_le s f).2.2.2.2.2 (tks s 33 i).2 op dp (tks_le hi).2
      rw [hp1] at hle1
      obtain ⟨hji1, hj1, hsz1⟩ := hle1
      have hb1 := bl_le hj1
      have hE := (⟨hK, hos1, hv1, e3⟩ : _ ∧ _ ∧ _ ∧ _)
      refine p_bump fun hf => ?_
      refine p_go fun hf => ?_
      refine p_nilChk (h := ?_)
      refine p_go fun hf => ?_
      refine p_callX ([(g0 + 1, 2), (h1 + 1, 4)]) (hf := blanksP q s j1 op d1 hj1 (by omega)) (hg := by simp; omega) (hos := by simp <;> omega) (h := fun r o5 h5 hg5 hlw5 hos5 hR5 => ?_)
      obtain ⟨rfl, hcl5⟩ := hR5
      simp only [valsO, List.cons.injEq, and_true] at hos5
      have hlow : LowQ g0 [(q, 15)] ob0 o5 := LowQ.trans (by (try dsimp only); repeat (first | exact hlow | exact LowQ.refl | refine LowQ.or_ ?_ (by assumption) | refine LowQ.up ?_ (by omega) | refine LowQ.at_ ?_ (by simp))) hlw5 (by first | (dsimp only; omega) | omega) (fun k hk => .inl hk)
      have hE := (⟨hK, hos5, hcl5, e3⟩ : _ ∧ _ ∧ _ ∧ _)
      refine p_go ?_
      refine p_loopK [0, 2, 3, 4] [(g0 + 1, 2)] (fun st => ∃ (j2 : Nat) (y : Rx), (j2 ≤ s.size) ∧ (wrN 7 (tks s 42 j2).1 y = wrN 7 (tks s 42 (bl s j1)).1 x1) ∧ ((tks s 42 j2).2 = (tks s 42 (bl s j1)).2) ∧ (h1 + 1 ≤ st.gen) ∧ (LowQ g0 [(q, 15)] ob0 st.obj) ∧ st.obj q 15 = .cells 68 (rdL s j2 op d1) ∧ st.obj (h1 + 1) 4 = .cells 25 (rxL y)) (fun st => s.size - rdI (st.obj q 15)) ?_ fun e ob g2 hK hO hI => ?_
      · exact ⟨bl s j1, x1, hb1.2, rfl, rfl, by (try dsimp only); omega, (by (try dsimp only); repeat (first | exact hlow | exact LowQ.refl | refine LowQ.or_ ?_ (by assumption) | refine LowQ.up ?_ (by omega) | refine LowQ.at_ ?_ (by simp))), oB_, oB_⟩
      · obtain ⟨j2, y2, hj2, hn2, he2, hgen1, hlow, hcl, hc4⟩ := hI
        dsimp only at hcl hc4
        simp only [valsE, List.cons.injEq, and_true] at hK
        simp only [valsO, List.cons.injEq, and_true] at hO
        have hE := (⟨hK, hO, hcl, hc4⟩ : _ ∧ _ ∧ _ ∧ _)
        dsimp only at hgen1 hlow
        have hnl := tks_le (c := 33) hi
        refine p_go fun hf => ?_
        refine p_nilChk (h := ?_)
        refine p_go fun hf => ?_
        refine p_callX ([(g0 + 1, 2), (h1 + 1, 4)]) (hf := takeP q s j2 op d1 hj2 (by omega) 42) (hg := by simp; omega) (hos := by simp <;> omega) (h := fun r o6 h6 hg6 hlw6 hos6 hR6 => ?_)
        obtain ⟨rfl, hcl2⟩ := hR6
        simp only [valsO, List.cons.injEq, and_true] at hos6
        have hlow : LowQ g0 [(q, 15)] ob0 o6 := LowQ.trans (by (try dsimp only); repeat (first | exact hlow | exact LowQ.refl | refine LowQ.or_ ?_ (by assumption) | refine LowQ.up ?_ (by omega) | refine LowQ.at_ ?_ (by simp))) hlw6 (by first | (dsimp only; omega) | omega) (fun k hk => .inl hk)
        have hE := (⟨hK, hos6, hcl2⟩ : _ ∧ _ ∧ _)
        refine p_go ?_
        refine p_splitC (s := 20) (ht := fun hc20 => ?_) (hf := fun hc20 => ?_)
        · have htk : tkB s j2 42 = true := hc20
          have htl := tkI_lt htk
          refine p_go fun hf => ?_
          refine p_buildSlice (ht := Try.underlying23) (hi := F.ti25.h) (h := ?_)
          refine p_build (hi := F.ti25.h) (hpl := F.pl25.h) (h := ?_)
          refine p_storeAll F.ti25.h (h := ?_)
          refine p_end ?_
          refine p_freeze (g1 := h6 + 1) (d1 := 22) (h := ?_)
          refine p_cellSl (g1 := h1 + 1) (d1 := 4) (i := 2) (g2 := h6 + 1) (d2 := 22) (hn := by simp) (h := ?_)
          refine p_some ?_
          have hts := tks_step htk
          rw [hts] at hn2 he2
          dsimp only at hn2 he2
          refine ⟨⟨(by simp (decide := true) only [valsE, evE, upd, cv, args0, argsFrom, List.length_map, ↓reduceIte, hE] <;> rfl), (by simp (decide := true) only [valsO, updO, upd, true_and, and_true, false_and, and_false, ↓reduceIte, hE] <;> rfl)⟩, ⟨tkI s j2 42, .mk 7 ⟨#[]⟩ [y2], by omega, by rw [← hn2]; rfl, he2, by (try dsimp only); omega, (by (try dsimp only); repeat (first | exact hlow | exact LowQ.refl | refine LowQ.or_ ?_ (by assumption) | refine LowQ.up ?_ (by omega) | refine LowQ.at_ ?_ (by simp))), oB_, by rw [rxL_one]; exact oB_⟩, ?_⟩
          simp (decide := true) only [updO, hcl2, hcl, rdI, and_self, and_true, true_and, false_and, and_false, ↓reduceIte]; omega
        · have htk : tkB s j2 42 = false := hc20
          have htj : tkI s j2 42 = j2 := by rw [tkI, if_neg (by rw [htk]; decide)]
          rw [tks_stop htk] at hn2 he2
          dsimp only [wrN] at hn2 he2
          rw [htj] at hcl2
          have hE := (⟨hK, hos6, hcl2⟩ : _ ∧ _ ∧ _)
          refine p_go ?_
          refine p_loopK [2, 4, 24] [(g0 + 1, 2), (q, 15)] (fun st => ∃ (t : Nat) (y : Rx), (t ≤ n) ∧ (wrN 8 (n - t) y = wrN 8 n y2) ∧ (h1 + 1 ≤ st.gen) ∧ (LowQ g0 [(q, 15)] ob0 st.obj) ∧ st.env 25 = inV t ∧ st.obj (h1 + 1) 4 = .cells 25 (rxL y)) (fun st => n - (st.env 25).toN) ?_ fun e ob g3 hK hO hI => ?_
          · exact ⟨0, y2, Nat.zero_le _, by rw [Nat.sub_zero], by (try dsimp only); omega, (by (try dsimp only); repeat (first | exact hlow | exact LowQ.refl | refine LowQ.or_ ?_ (by assumption) | refine LowQ.up ?_ (by omega) | refine LowQ.at_ ?_ (by simp))), eV_, oB_⟩
          · obtain ⟨t, y3, ht, hn3, hgen1, hlow, e25, hc4⟩ := hI
            dsimp only at e25 hc4
            simp only [valsE, List.cons.injEq, and_true] at hK
            simp only [valsO, List.cons.injEq, and_true] at hO
            have hE := (⟨hK, hO, e25, hc4⟩ : _ ∧ _ ∧ _ ∧ _)
            dsimp only at hgen1 hlow
            have hnl := tks_le (c := 33) hi
            refine p_go ?_
            refine p_splitC (s := 26) (ht := fun hc26 => ?_) (hf := fun hc26 => ?_)
            · have hlt : t < n := by simpa using hc26
              refine p_go fun hf => ?_
              refine p_buildSlice (ht := Try.underlying23) (hi := F.ti25.h) (h := ?_)
              refine p_build (hi := F.ti25.h) (hpl := F.pl25.h) (h := ?_)
              refine p_storeAll F.ti25.h (h := ?_)
              refine p_end ?_
              refine p_freeze (g1 := g3 + 1 + 1) (d1 := 28) (h := ?_)
              refine p_cellSl (g1 := h1 + 1) (d1 := 4) (i := 2) (g2 := g3 + 1 + 1) (d2 := 28) (hn := by simp) (h := ?_)
              refine p_go fun hf => ?_
              refine p_add (r := ((t + 1 : Nat) : Int)) (hr := (by first | omega | (simp only [decide_eq_true_eq, decide_eq_false_iff_not, Bool.or_eq_false_iff, Bool.and_eq_true, Bool.not_eq_true', Bool.not_eq_false'] at *; omega))) (hb := (by first | omega | (simp only [decide_eq_true_eq, decide_eq_false_iff_not, Bool.or_eq_false_iff, Bool.and_eq_true, Bool.not_eq_true', Bool.not_eq_false'] at *; omega))) (h := ?_)
              refine p_go ?_
              refine p_some ?_
              have hns : n - t = (n - (t + 1)) + 1 := by omega
              rw [hns] at hn3
              refine ⟨⟨(by simp (decide := true) only [valsE, evE, upd, cv, args0, argsFrom, List.length_map, ↓reduceIte, hE] <;> rfl), (by simp (decide := true) only [valsO, updO, upd, true_and, and_true, false_and, and_false, ↓reduceIte, hE] <;> rfl)⟩, ⟨t + 1, .mk 8 ⟨#[]⟩ [y3], hlt, by rw [← hn3]; rfl, by (try dsimp only); omega, (by (try dsimp only); repeat (first | exact hlow | exact LowQ.refl | refine LowQ.or_ ?_ (by assumption) | refine LowQ.up ?_ (by omega) | refine LowQ.at_ ?_ (by simp))), eV_, by rw [rxL_one]; exact oB_⟩, ?_⟩
              simp (decide := true) only [upd, e25, V.toN, ↓reduceIte]; omega
            · have hge : ¬ t < n := by simpa using hc26
              have hnt : n - t = 0 := by omega
              rw [hnt] at hn3
              dsimp only [wrN] at hn3
              have hres : pFac s (f + 1) i op dp = .ok y3 j2 d1 := by rw [pFac, hp1]; dsimp only; rw [hn3, hn2, ← hn, ← he2, Nat.add_zero]
              refine p_go ?_
              refine p_retP ?_
              refine p_retE1 (v := rxA y3) rfl ⟨_, _, _, _, eV_, oB_, F.agg25.h, _, _, _, F.ti25.h, rfl, rfl⟩ (hK0 _ _ _ (by first | (dsimp only; omega) | omega) (by (try dsimp only); repeat (first | exact hlow | exact LowQ.refl | refine LowQ.or_ ?_ (by assumption) | refine LowQ.up ?_ (by omega) | refine LowQ.at_ ?_ (by simp))) (⟨_, _, _, hres, rfl, by simp only [valsO]; exact congrArg (fun z => [z]) oB_⟩))

theorem atom_gen (s : ByteArray) (hs : s.size ≤ 10000) (q f : Nat) (i op : Nat) (hop : op ≤ 10000) (dp : Bool) (hi : i ≤ s.size) (hL : ∀ d', d' = (dp || decide (50 < op + 1)) → tkB s i 40 = true → ParC 30 s q (tkI s i 40) (op + 1) d' (pAlt s f (tkI s i 40) (op + 1) (dp || decide (50 < op + 1)))) : FnP Try.prog 103 [.ptr q 15 0] [(q, 15)] [.cells 68 (rdL s i op dp)] (fun r vs => ParR s op (pAtom s (f + 1) i op dp) r vs) (fun v vs => ParP (pAtom s (f + 1) i op dp) v vs) := by
  refine FnP.of (fn := Try.f103) ⟨Try.func103, by kernel_rfl, rfl⟩ Try.ntmps103 (by simp) fun w0 S0 l ob0 g0 K KP hrow hgl hK0 hKP0 => ?_
  simp only [valsO, List.cons.injEq, and_true] at hrow
  simp only [List.mem_cons, List.not_mem_nil, or_false, forall_eq_or_imp, forall_eq, forall_const] at hgl
  have hE := hrow
  refine p_go fun hf => ?_
  refine p_nilChk (h := ?_)
  refine p_go fun hf => ?_
  refine p_callFlat [(q, 15)] (hb := ⟨Try.func80, by kernel_rfl, rfl⟩) (us := [.ptr q 15 0]) (vs := [.ref (rdL s i op dp)]) (vs' := []) (cap := []) (hvs := fun e' ob' g' hk => ⟨⟨⟨_, rdL s i op dp, rdL s i op dp, (hk (q, 15) (by simp)).trans oB_, ⟨⟨rfl, rfl⟩, ⟨rfl, rfl⟩, ⟨rfl, rfl⟩, ⟨rfl, rfl⟩, trivial⟩, rfl⟩, trivial⟩, trivial⟩) (hf := nextR s i op dp hi) (h := ?_)
  refine p_go fun hf => ?_
  refine p_call (hx := rfl) (hb := ⟨Try.func99, by kernel_rfl, rfl⟩) (hf := letterP (bt s i)) (h := ?_)
  refine p_go ?_
  refine p_splitC (s := 10) (ht := fun hc10 => ?_) (hf := fun hc10 => ?_)
  · have hl : letB (bt s i) = true := hc10
    refine p_go fun hf => ?_
    refine p_nilChk (h := ?_)
    refine p_go ?_
    refine p_loopK [0, 2, 4] [(g0 + 1, 2)] (fun st => ∃ (j : Nat), (j ≤ s.size) ∧ (i ≤ j) ∧ (j - i ≤ 64) ∧ (anE s j = anE s i) ∧ (g0 + 1 ≤ st.gen) ∧ (LowQ g0 [(q, 15)] ob0 st.obj) ∧ st.obj q 15 = .cells 68 (rdL s j op dp)) (fun st => s.size - rdI (st.obj q 15)) ?_ fun e ob g1 hK hO hI => ?_
    · exact ⟨i, hi, Nat.le_refl _, by omega, rfl, by (try dsimp only); omega, (by (try dsimp only); repeat (first | exact hlow | exact LowQ.refl | refine LowQ.or_ ?_ (by assumption) | refine LowQ.up ?_ (by omega) | refine LowQ.at_ ?_ (by simp))), oB_⟩
    · obtain ⟨j, hj, hij, hj64, hae, hgen1, hlow, hcl⟩ := hI
      dsimp only at hcl
      simp only [valsE, List.cons.injEq, and_true] at hK
      simp only [valsO, List.cons.injEq, and_true] at hO
      have hE := (⟨hK, hO, hcl⟩ : _ ∧ _ ∧ _)
      dsimp only at hgen1 hlow
      refine p_go fun hf => ?_
      refine p_nilChk (h := ?_)
      refine p_go fun hf => ?_
      refine p_callFlat [(q, 15)] (hb := ⟨Try.func80, by kernel_rfl, rfl⟩) (us := [.ptr q 15 0]) (vs := [.ref (rdL s j op dp)]) (vs' := []) (cap := []) (hvs := fun e' ob' g' hk => ⟨⟨⟨_, rdL s j op dp, rdL s j op dp, (hk (q, 15) (by simp)).trans oB_, ⟨⟨rfl, rfl⟩, ⟨rfl, rfl⟩, ⟨rfl, rfl⟩, ⟨rfl, rfl⟩, trivial⟩, rfl⟩, trivial⟩, trivial⟩) (hf := nextR s j op dp hj) (h := ?_)
      refine p_call (hx := rfl) (hb := ⟨Try.func99, by kernel_rfl, rfl⟩) (hf := letterP (bt s j)) (h := ?_)
      refine p_go fun hf => ?_
      refine p_split (s := 23) (ht := fun hb23 => ?_) (hf := fun hb23 => ?_)
      · have hal : alnB (bt s j) = true := by rw [alnB, show letB (bt s j) = true from hb23]; rfl
        have hlt := aln_lt hal
        have hle1 := anE_le (s := s) (i := j + 1) hlt
        rw [← anE_step hal] at hle1
        refine p_go fun hf => ?_
        refine p_nilChk (h := ?_)
        refine p_go fun hf => ?_
        refine p_sub (r := ((j - i : Nat) : Int)) (hr := by omega) (hb := by omega) (h := ?_)
        refine p_go ?_
        refine p_splitC (s := 37) (ht := fun hc37 => ?_) (hf := fun hc37 => ?_)
        · have h64 : j - i = 64 := by have h := hc37; simp at h; omega
          refine p_go fun hf => ?_
          refine p_nilChk (h := ?_)
          refine p_go fun hf => ?_
          refine p_build (hi := F.ti62.h) (hpl := F.pl62.h) (h := ?_)
          refine p_mkIface (.agg #[.int .i64 (j : Int)]) (ht := Try.underlying62) (hu := by intro ms h; cases h) (h := ?_)
          refine p_panic (h := ?_)
          exact p_xP (hKP0 _ _ _ (by first | (dsimp only; omega) | omega) (by (try dsimp only); repeat (first | exact hlow | exact LowQ.refl | refine LowQ.or_ ?_ (by assumption) | refine LowQ.up ?_ (by omega) | refine LowQ.at_ ?_ (by simp))) ⟨_, by rw [pAtom, if_pos hl, if_pos (by omega), show i + 64 = j by omega], rfl⟩)
        · have h64 : j - i ≠ 64 := by have h := hc37; simp at h; omega
          refine p_go fun hf => ?_
          refine p_nilChk (h := ?_)
          refine p_go fun hf => ?_
          refine p_add (r := ((j + 1 : Nat) : Int)) (hr := (by first | omega | (simp only [decide_eq_true_eq, decide_eq_false_iff_not, Bool.or_eq_false_iff, Bool.and_eq_true, Bool.not_eq_true', Bool.not_eq_false'] at *; omega))) (hb := (by first | omega | (simp only [decide_eq_true_eq, decide_eq_false_iff_not, Bool.or_eq_false_iff, Bool.and_eq_true, Bool.not_eq_true', Bool.not_eq_false'] at *; omega))) (h := ?_)
          refine p_nilChk (h := ?_)
          refine p_go ?_
          refine p_some ?_
          refine ⟨⟨(by simp (decide := true) only [valsE, evE, upd, cv, args0, argsFrom, List.length_map, ↓reduceIte, hE] <;> rfl), (by simp (decide := true) only [valsO, updO, upd, true_and, and_true, false_and, and_false, ↓reduceIte, hE] <;> rfl)⟩, ⟨j + 1, hlt, by omega, by omega, by rw [← anE_step hal]; exact hae, by (try dsimp only); omega, (by (try dsimp only); repeat (first | exact hlow | exact LowQ.refl | refine LowQ.or_ ?_ (by assumption) | refine LowQ.up ?_ (by omega) | refine LowQ.at_ ?_ (by simp))), oB_⟩, ?_⟩
          simp (decide := true) only [updO, hcl, rdI, and_self, and_true, true_and, false_and, and_false, ↓reduceIte, List.set_cons_succ, List.set_cons_zero]; omega
      · -- slot 23 is false
        refine p_go fun hf => ?_
        refine p_nilChk (h := ?_)
        refine p_go fun hf => ?_
        refine p_callFlat [(q, 15)] (hb := ⟨Try.func80, by kernel_rfl, rfl⟩) (us := [.ptr q 15 0]) (vs := [.ref (rdL s j op dp)]) (vs' := []) (cap := []) (hvs := fun e' ob' g' hk => ⟨⟨⟨_, rdL s j op dp, rdL s j op dp, (hk (q, 15) (by simp)).trans oB_, ⟨⟨rfl, rfl⟩, ⟨rfl, rfl⟩, ⟨rfl, rfl⟩, ⟨rfl, rfl⟩, trivial⟩, rfl⟩, trivial⟩, trivial⟩) (hf := nextR s j op dp hj) (h := ?_)
        refine p_go fun hf => ?_
        refine p_call (hx := rfl) (hb := ⟨Try.func100, by kernel_rfl, rfl⟩) (hf := digitP (bt s j)) (h := ?_)
        refine p_go ?_
        refine p_splitC (s := 29) (ht := fun hc29 => ?_) (hf := fun hc29 => ?_)
        · have hal : alnB (bt s j) = true := by rw [alnB, show digB (bt s j) = true from hc29, Bool.or_true]
          have hlt := aln_lt hal
          have hle1 := anE_le (s := s) (i := j + 1) hlt
          rw [← anE_step hal] at hle1
          refine p_go fun hf => ?_
          refine p_nilChk (h := ?_)
          refine p_go fun hf => ?_
          refine p_sub (r := ((j - i : Nat) : Int)) (hr := by omega) (hb := by omega) (h := ?_)
          refine p_go ?_
          refine p_splitC (s := 37) (ht := fun hc37 => ?_) (hf := fun hc37 => ?_)
          · have h64 : j - i = 64 := by have h := hc37; simp at h; omega
            refine p_go fun hf => ?_
            refine p_nilChk (h := ?_)
            refine p_go fun hf => ?_
            refine p_build (hi := F.ti62.h) (hpl := F.pl62.h) (h := ?_)
            refine p_mkIface (.agg #[.int .i64 (j : Int)]) (ht := Try.underlying62) (hu := by intro ms h; cases h) (h := ?_)
            refine p_panic (h := ?_)
            exact p_xP (hKP0 _ _ _ (by first | (dsimp only; omega) | omega) (by (try dsimp only); repeat (first | exact hlow | exact LowQ.refl | refine LowQ.or_ ?_ (by assumption) | refine LowQ.up ?_ (by omega) | refine LowQ.at_ ?_ (by simp))) ⟨_, by rw [pAtom, if_pos hl, if_pos (by omega), show i + 64 = j by omega], rfl⟩)
          · have h64 : j - i ≠ 64 := by have h := hc37; simp at h; omega
            refine p_go fun hf => ?_
            refine p_nilChk (h := ?_)
            refine p_go fun hf => ?_
            refine p_add (r := ((j + 1 : Nat) : Int)) (hr := (by first | omega | (simp only [decide_eq_true_eq, decide_eq_false_iff_not, Bool.or_eq_false_iff, Bool.and_eq_true, Bool.not_eq_true', Bool.not_eq_false'] at *; omega))) (hb := (by first | omega | (simp only [decide_eq_true_eq, decide_eq_false_iff_not, Bool.or_eq_false_iff, Bool.and_eq_true, Bool.not_eq_true', Bool.not_eq_false'] at *; omega))) (h := ?_)
            refine p_nilChk (h := ?_)
            refine p_go ?_
            refine p_some ?_
            refine ⟨⟨(by simp (decide := true) only [valsE, evE, upd, cv, args0, argsFrom, List.length_map, ↓reduceIte, hE] <;> rfl), (by simp (decide := true) only [valsO, updO, upd, true_and, and_true, false_and, and_false, ↓reduceIte, hE] <;> rfl)⟩, ⟨j + 1, hlt, by omega, by omega, by rw [← anE_step hal]; exact hae, by (try dsimp only); omega, (by (try dsimp only); repeat (first | exact hlow | exact LowQ.refl | refine LowQ.or_ ?_ (by assumption) | refine LowQ.up ?_ (by omega) | refine LowQ.at_ ?_ (by simp))), oB_⟩, ?_⟩
            simp (decide := true) only [updO, hcl, rdI, and_self, and_true, true_and, false_and, and_false, ↓reduceIte, List.set_cons_succ, List.set_cons_zero]; omega
        · have hna : alnB (bt s j) = false := by rw [alnB, show letB (bt s j) = false from hb23, show digB (bt s j) = false from hc29]; rfl
          have hst := anE_stop hna
          rw [hst] at hae
          refine p_go fun hf => ?_
          refine p_nilChk (h := ?_)
          refine p_go fun hf => ?_
          refine p_nilChk (h := ?_)
          refine p_go fun hf => ?_
          refine p_strCut (l := i) (h' := j) (hl := hij) (hh := hj) (h := ?_)
          refine p_build (hi := F.ti25.h) (hpl := F.pl25.h) (h := ?_)
          refine p_storeAll F.ti25.h (h := ?_)
          refine p_endD ?_
          refine TrC.ret ?_
          refine p_cellNil (g1 := g0 + 1) (d1 := 2) (i := 2) (el := 25) (h := ?_)
          refine p_retP ?_
          refine p_retE1 (v := rxA (.mk 1 (s.extract i j) [])) rfl ⟨_, _, _, _, eV_, oB_, F.agg25.h, _, _, _, F.ti25.h, rfl, rfl⟩ (hK0 _ _ _ (by first | (dsimp only; omega) | omega) (by (try dsimp only); repeat (first | exact hlow | exact LowQ.refl | refine LowQ.or_ ?_ (by assumption) | refine LowQ.up ?_ (by omega) | refine LowQ.at_ ?_ (by simp))) (⟨_, _, _, by rw [pAtom, if_pos hl, if_neg (by omega), ← hae], rfl, by simp only [valsO]; exact congrArg (fun z => [z]) oB_⟩))
  · have hl : ¬ letB (bt s i) = true := by rw [show letB (bt s i) = false from hc10]; decide
    refine p_go fun hf => ?_
    refine p_nilChk (h := ?_)
    refine p_go fun hf => ?_
    refine p_callX ([(g0 + 1, 2)]) (hf := takeP q s i op dp hi (by omega) 46) (hg := by simp; omega) (hos := by simp <;> omega) (h := fun r o1 h1 hg1 hlw1 hos1 hR1 => ?_)
    obtain ⟨rfl, hcl1⟩ := hR1
    simp only [valsO, List.cons.injEq, and_true] at hos1
    have hlow : LowQ g0 [(q, 15)] ob0 o1 := LowQ.trans (by (try dsimp only); repeat (first | exact hlow | exact LowQ.refl | refine LowQ.or_ ?_ (by assumption) | refine LowQ.up ?_ (by omega) | refine LowQ.at_ ?_ (by simp))) hlw1 (by first | (dsimp only; omega) | omega) (fun k hk => .inl hk)
    have hE := (⟨hos1, hcl1⟩ : _ ∧ _)
    refine p_go ?_
    refine p_splitC (s := 67) (ht := fun hc67 => ?_) (hf := fun hc67 => ?_)
    · have ht46 : tkB s i 46 = true := hc67
      refine p_go fun hf => ?_
      refine p_build (hi := F.ti25.h) (hpl := F.pl25.h) (h := ?_)
      refine p_storeAll F.ti25.h (h := ?_)
      refine p_end ?_
      refine TrC.ret ?_
      refine p_cellNil (g1 := g0 + 1) (d1 := 2) (i := 2) (el := 25) (h := ?_)
      refine p_retP ?_
      refine p_retE1 (v := rxA (.mk 2 ⟨#[]⟩ [])) rfl ⟨_, _, _, _, eV_, oB_, F.agg25.h, _, _, _, F.ti25.h, rfl, rfl⟩ (hK0 _ _ _ (by first | (dsimp only; omega) | omega) (by (try dsimp only); repeat (first | exact hlow | exact LowQ.refl | refine LowQ.or_ ?_ (by assumption) | refine LowQ.up ?_ (by omega) | refine LowQ.at_ ?_ (by simp))) (⟨_, _, _, by rw [pAtom, if_neg hl, if_pos ht46], rfl, by simp only [valsO]; exact congrArg (fun z => [z]) oB_⟩))
    · have ht46 : ¬ tkB s i 46 = true := by rw [show tkB s i 46 = false from hc67]; decide
      have htj : tkI s i 46 = i := by rw [tkI, if_neg ht46]
      rw [htj] at hcl1
      have hE := (⟨hos1, hcl1⟩ : _ ∧ _)
      refine p_go fun hf => ?_
      refine p_nilChk (h := ?_)
      refine p_go fun hf => ?_
      refine p_callX ([(g0 + 1, 2)]) (hf := takeP q s i op dp hi (by omega) 37) (hg := by simp; omega) (hos := by simp <;> omega) (h := fun r o2 h2 hg2 hlw2 hos2 hR2 => ?_)
      obtain ⟨rfl, hcl2⟩ := hR2
      simp only [valsO, List.cons.injEq, and_true] at hos2
      have hlow : LowQ g0 [(q, 15)] ob0 o2 := LowQ.trans (by (try dsimp only); repeat (first | exact hlow | exact LowQ.refl | refine LowQ.or_ ?_ (by assumption) | refine LowQ.up ?_ (by omega) | refine LowQ.at_ ?_ (by simp))) hlw2 (by first | (dsimp only; omega) | omega) (fun k hk => .inl hk)
      have hE := (⟨hos2, hcl2⟩ : _ ∧ _)
      refine p_go ?_
      refine p_splitC (s := 73) (ht := fun hc73 => ?_) (hf := fun hc73 => ?_)
      · have ht37 : tkB s i 37 = true := hc73
        refine p_go fun hf => ?_
        refine p_build (hi := F.ti25.h) (hpl := F.pl25.h) (h := ?_)
        refine p_storeAll F.ti25.h (h := ?_)
        refine p_end ?_
        refine TrC.ret ?_
        refine p_cellNil (g1 := g0 + 1) (d1 := 2) (i := 2) (el := 25) (h := ?_)
        refine p_retP ?_
        refine p_retE1 (v := rxA (.mk 3 ⟨#[]⟩ [])) rfl ⟨_, _, _, _, eV_, oB_, F.agg25.h, _, _, _, F.ti25.h, rfl, rfl⟩ (hK0 _ _ _ (by first | (dsimp only; omega) | omega) (by (try dsimp only); repeat (first | exact hlow | exact LowQ.refl | refine LowQ.or_ ?_ (by assumption) | refine LowQ.up ?_ (by omega) | refine LowQ.at_ ?_ (by simp))) (⟨_, _, _, by rw [pAtom, if_neg hl, if_neg ht46, if_pos ht37], rfl, by simp only [valsO]; exact congrArg (fun z => [z]) oB_⟩))
      · have ht37 : ¬ tkB s i 37 = true := by rw [show tkB s i 37 = false from hc73]; decide
        have htj : tkI s i 37 = i := by rw [tkI, if_neg ht37]
        rw [htj] at hcl2
        have hE := (⟨hos2, hcl2⟩ : _ ∧ _)
        refine p_go fun hf => ?_
        refine p_nilChk (h := ?_)
        refine p_go fun hf => ?_
        refine p_callX ([(g0 + 1, 2)]) (hf := takeP q s i op dp hi (by omega) 35) (hg := by simp; omega) (hos := by simp <;> omega) (h := fun r o3 h3 hg3 hlw3 hos3 hR3 => ?_)
        obtain ⟨rfl, hcl3⟩ := hR3
        simp only [valsO, List.cons.injEq, and_true] at hos3
        have hlow : LowQ g0 [(q, 15)] ob0 o3 := LowQ.trans (by (try dsimp only); repeat (first | exact hlow | exact LowQ.refl | refine LowQ.or_ ?_ (by assumption) | refine LowQ.up ?_ (by omega) | refine LowQ.at_ ?_ (by simp))) hlw3 (by first | (dsimp only; omega) | omega) (fun k hk => .inl hk)
        have hE := (⟨hos3, hcl3⟩ : _ ∧ _)
        refine p_go ?_
        refine p_splitC (s := 79) (ht := fun hc79 => ?_) (hf := fun hc79 => ?_)
        · have ht35 : tkB s i 35 = true := hc79
          refine p_go fun hf => ?_
          refine p_build (hi := F.ti25.h) (hpl := F.pl25.h) (h := ?_)
          refine p_storeAll F.ti25.h (h := ?_)
          refine p_end ?_
          refine TrC.ret ?_
          refine p_cellNil (g1 := g0 + 1) (d1 := 2) (i := 2) (el := 25) (h := ?_)
          refine p_retP ?_
          refine p_retE1 (v := rxA (.mk 4 ⟨#[]⟩ [])) rfl ⟨_, _, _, _, eV_, oB_, F.agg25.h, _, _, _, F.ti25.h, rfl, rfl⟩ (hK0 _ _ _ (by first | (dsimp only; omega) | omega) (by (try dsimp only); repeat (first | exact hlow | exact LowQ.refl | refine LowQ.or_ ?_ (by assumption) | refine LowQ.up ?_ (by omega) | refine LowQ.at_ ?_ (by simp))) (⟨_, _, _, by rw [pAtom, if_neg hl, if_neg ht46, if_neg ht37, if_pos ht35], rfl, by simp only [valsO]; exact congrArg (fun z => [z]) oB_⟩))
        · have ht35 : ¬ tkB s i 35 = true := by rw [show tkB s i 35 = false from hc79]; decide
          have htj : tkI s i 35 = i := by rw [tkI, if_neg ht35]
          rw [htj] at hcl3
          have hE := (⟨hos3, hcl3⟩ : _ ∧ _)
          refine p_go fun hf => ?_
          refine p_nilChk (h := ?_)
          refine p_go fun hf => ?_
          refine p_callX ([(g0 + 1, 2)]) (hf := takeP q s i op dp hi (by omega) 40) (hg := by simp; omega) (hos := by simp <;> omega) (h := fun r o4 h4 hg4 hlw4 hos4 hR4 => ?_)
          obtain ⟨rfl, hcl4⟩ := hR4
          simp only [valsO, List.cons.injEq, and_true] at hos4
          have hlow : LowQ g0 [(q, 15)] ob0 o4 := LowQ.trans (by (try dsimp only); repeat (first | exact hlow | exact LowQ.refl | refine LowQ.or_ ?_ (by assumption) | refine LowQ.up ?_ (by omega) | refine LowQ.at_ ?_ (by simp))) hlw4 (by first | (dsimp only; omega) | omega) (fun k hk => .inl hk)
          have hE := (⟨hos4, hcl4⟩ : _ ∧ _)
          refine p_go ?_
          refine p_splitC (s := 85) (ht := fun hc85 => ?_) (hf := fun hc85 => ?_)
          · have ht40 : tkB s i 40 = true := hc85
            have htl := tkI_lt ht40
            have hdd : decide ((50 : Int) < ((op + 1 : Nat) : Int)) = decide (50 < op + 1) := by rw [Bool.eq_iff_iff, decide_eq_true_eq, decide_eq_true_eq]; omega
            refine p_go fun hf => ?_
            refine p_nilChk (h := ?_)
            refine p_go fun hf => ?_
            refine p_add (r := ((op + 1 : Nat) : Int)) (hr := (by first | omega | (simp only [decide_eq_true_eq, decide_eq_false_iff_not, Bool.or_eq_false_iff, Bool.and_eq_true, Bool.not_eq_true', Bool.not_eq_false'] at *; omega))) (hb := (by first | omega | (simp only [decide_eq_true_eq, decide_eq_false_iff_not, Bool.or_eq_false_iff, Bool.and_eq_true, Bool.not_eq_true', Bool.not_eq_false'] at *; omega))) (h := ?_)
            refine p_nilChk (h := ?_)
            refine p_go fun hf => ?_
            refine p_nilChk (h := ?_)
            refine p_go fun hf => ?_
            refine p_or2 (h1 := fun hb_ => by (repeat (first | refine p_guardYes (h := ?_) | refine p_move (h := ?_) | refine p_nilChk (h := ?_) | refine q_fP (h := ?_) | refine q_load (h := ?_) | refine q_cmp (h := ?_))); refine w_end ?_; exact p_endK) (h := ?_)
            refine p_nilChk (h := ?_)
            refine p_go fun hf => ?_
            refine p_callP ([(g0 + 1, 2)]) (hf := hL (dp || decide ((50 : Int) < ((op + 1 : Nat) : Int))) (by rw [hdd]) ht40) (hg := by simp; omega) (hos := by simp <;> omega) (hp := fun x9 o9 h9 hg9 hlw9 hos9 hR9 => by obtain ⟨a9, ha9, rfl⟩ := hR9; (repeat (first | with_reducible refine Tr.then_panic ?_ | with_reducible refine Tr.block_panic ?_)); exact p_xP (hKP0 _ _ _ (by first | (dsimp only; omega) | omega) (LowQ.trans (by (try dsimp only); repeat (first | exact hlow | exact LowQ.refl | refine LowQ.or_ ?_ (by assumption) | refine LowQ.up ?_ (by omega) | refine LowQ.at_ ?_ (by simp))) hlw9 (by first | (dsimp only; omega) | omega) (fun k hk => .inl hk)) ⟨a9, by rw [pAtom, if_neg hl, if_neg ht46, if_neg ht37, if_neg ht35, if_pos ht40, ha9], rfl⟩)) (h := fun r o5 h5 hg5 hlw5 hos5 hR5 => ?_)
            obtain ⟨x1, j1, d1, hp1, rfl, hv5⟩ := hR5
            simp only [valsO, List.cons.injEq, and_true] at hv5 hos5
            have hlow : LowQ g0 [(q, 15)] ob0 o5 := LowQ.trans (by (try dsimp only); repeat (first | exact hlow | exact LowQ.refl | refine LowQ.or_ ?_ (by assumption) | refine LowQ.up ?_ (by omega) | refine LowQ.at_ ?_ (by simp))) hlw5 (by first | (dsimp only; omega) | omega) (fun k hk => .inl hk)
            have hle1 := (pr_le s f).1 (tkI s i 40) (op + 1) (dp || decide (50 < op + 1)) htl.2
            rw [hp1] at hle1
            obtain ⟨hji1, hj1, hsz1⟩ := hle1
            have hE := (⟨hos5, hv5⟩ : _ ∧ _)
            refine p_bump fun hf => ?_
            refine p_go fun hf => ?_
            refine p_nilChk (h := ?_)
            refine p_go fun hf => ?_
            refine p_callX ([(g0 + 1, 2), (h5 + 1, 5)]) (hf := takeP q s j1 (op + 1) d1 hj1 (by omega) 41) (hg := by simp; omega) (hos := by simp <;> omega) (h := fun r o6 h6 hg6 hlw6 hos6 hR6 => ?_)
            obtain ⟨rfl, hcl6⟩ := hR6
            simp only [valsO, List.cons.injEq, and_true] at hos6
            have hlow : LowQ g0 [(q, 15)] ob0 o6 := LowQ.trans (by (try dsimp only); repeat (first | exact hlow | exact LowQ.refl | refine LowQ.or_ ?_ (by assumption) | refine LowQ.up ?_ (by omega) | refine LowQ.at_ ?_ (by simp))) hlw6 (by first | (dsimp only; omega) | omega) (fun k hk => .inl hk)
            have hE := (⟨hos6, hcl6⟩ : _ ∧ _)
            refine p_go ?_
            refine p_splitC (s := 117) (ht := fun hc117 => ?_) (hf := fun hc117 => ?_)
            · have ht41 : ¬ tkB s j1 41 = true := by have h := hc117; simp at h; simp [h]
              have htj : tkI s j1 41 = j1 := by rw [tkI, if_neg ht41]
              rw [htj] at hcl6
              have hE := (⟨hos6, hcl6⟩ : _ ∧ _)
              refine p_go fun hf => ?_
              refine p_nilChk (h := ?_)
              refine p_go fun hf => ?_
              refine p_build (hi := F.ti62.h) (hpl := F.pl62.h) (h := ?_)
              refine p_mkIface (.agg #[.int .i64 (j1 : Int)]) (ht := Try.underlying62) (hu := by intro ms h; cases h) (h := ?_)
              refine p_panic (h := ?_)
              exact p_xP (hKP0 _ _ _ (by first | (dsimp only; omega) | omega) (by (try dsimp only); repeat (first | exact hlow | exact LowQ.refl | refine LowQ.or_ ?_ (by assumption) | refine LowQ.up ?_ (by omega) | refine LowQ.at_ ?_ (by simp))) ⟨_, by rw [pAtom, if_neg hl, if_neg ht46, if_neg ht37, if_neg ht35, if_pos ht40, hp1]; dsimp only; rw [if_neg ht41], rfl⟩)
            · have ht41 : tkB s j1 41 = true := by have h := hc117; simpa using h
              refine p_go fun hf => ?_
              refine p_nilChk (h := ?_)
              refine p_go fun hf => ?_
              refine p_sub (r := ((op : Nat) : Int)) (hr := by omega) (hb := by omega) (h := ?_)
              refine p_nilChk (h := ?_)
              refine p_go ?_
              refine p_retP ?_
              refine p_retE1 (v := rxA x1) rfl ⟨_, _, _, _, eV_, oB_, F.agg25.h, _, _, _, F.ti25.h, rfl, rfl⟩ (hK0 _ _ _ (by first | (dsimp only; omega) | omega) (by (try dsimp only); repeat (first | exact hlow | exact LowQ.refl | refine LowQ.or_ ?_ (by assumption) | refine LowQ.up ?_ (by omega) | refine LowQ.at_ ?_ (by simp))) (⟨_, _, _, by rw [pAtom, if_neg hl, if_neg ht46, if_neg ht37, if_neg ht35, if_pos ht40, hp1]; dsimp only; rw [if_pos ht41], rfl, by simp only [valsO]; exact congrArg (fun z => [z]) oB_⟩))
          · have ht40 : ¬ tkB s i 40 = true := by rw [show tkB s i 40 = false from hc85]; decide
            have htj : tkI s i 40 = i := by rw [tkI, if_neg ht40]
            rw [htj] at hcl4
            have hE := (⟨hos4, hcl4⟩ : _ ∧ _)
            refine p_go fun hf => ?_
            refine p_nilChk (h := ?_)
            refine p_go fun hf => ?_
            refine p_build (hi := F.ti62.h) (hpl := F.pl62.h) (h := ?_)
            refine p_mkIface (.agg #[.int .i64 (i : Int)]) (ht := Try.underlying62) (hu := by intro ms h; cases h) (h := ?_)
            refine p_panic (h := ?_)
            exact p_xP (hKP0 _ _ _ (by first | (dsimp only; omega) | omega) (by (try dsimp only); repeat (first | exact hlow | exact LowQ.refl | refine LowQ.or_ ?_ (by assumption) | refine LowQ.up ?_ (by omega) | refine LowQ.at_ ?_ (by simp))) ⟨_, by rw [pAtom, if_neg hl, if_neg ht46, if_neg ht37, if_neg ht35, if_neg ht40], rfl⟩)

end Go.Proofs.Ytjdhkopjigijfaa
/-
  The program's parser, all of it.
-/
set_option maxHeartbeats 4000000
set_option linter.unusedSimpArgs false
set_option linter.unusedVariables false
namespace Go.Proofs.Ytjdhkopjigijfaa
open Go.RowKit
attribute [local irreducible] Wk Tr
theorem parts (s : ByteArray) (hs : s.size ≤ 10000) (q : Nat) : ∀ f,
    (∀ i o d, i ≤ s.size → o ≤ i → 5 * (s.size - i) + 4 ≤ f → ParC 30 s q i o d (pAlt s f i o d)) ∧
    (∀ i o d, i ≤ s.size → o ≤ i → 5 * (s.size - i) + 3 ≤ f → ParC 56 s q i o d (pRow s f i o d)) ∧
    (∀ i o d, i ≤ s.size → o ≤ i → 5 * (s.size - i) + 2 ≤ f → ParC 78 s q i o d (pFac s f i o d)) ∧
    (∀ i o d, i ≤ s.size → o ≤ i → 5 * (s.size - i) + 1 ≤ f → ParC 103 s q i o d (pAtom s f i o d)) := by
  intro f
  induction f using Nat.strongRecOn with
  | _ f ih =>
    cases f with
    | zero => exact ⟨fun i o d _ _ h => absurd h (by omega), fun i o d _ _ h => absurd h (by omega), fun i o d _ _ h => absurd h (by omega), fun i o d _ _ h => absurd h (by omega)⟩
    | succ f =>
      refine ⟨fun i o d hi ho hf => ?_, fun i o d hi ho hf => ?_, fun i o d hi ho hf => ?_, fun i o d hi ho hf => ?_⟩
      · exact alt_gen s hs q f i o d hi ho hf fun f' i' o' d' h1 h2 h3 h4 => (ih f' (by omega)).2.1 i' o' d' h2 h3 h4
      · exact row_gen s hs q f i o d hi ho hf fun f' i' o' d' h1 h2 h3 h4 => (ih f' (by omega)).2.2.1 i' o' d' h2 h3 h4
      · have h1 := tks_le (c := 33) hi
        exact fac_gen s hs q f i o d hi ((ih f (by omega)).2.2.2 _ o d h1.2 (by omega) (by omega))
      · refine atom_gen s hs q f i o (by omega) d hi fun d' hd ht => ?_
        subst hd
        have h1 := tkI_lt ht
        exact (ih f (by omega)).1 _ (o + 1) _ h1.2 (by omega) (by omega)
end Go.Proofs.Ytjdhkopjigijfaa
