/-
  The reference's parser, part by part.
-/
import Derived.Test.YtjdhkopjigijfaaXrs
set_option linter.unusedSimpArgs false
set_option linter.unusedVariables false
set_option maxHeartbeats 8000000
namespace Go.Proofs.Ytjdhkopjigijfaa
open Go.RowKit
attribute [local irreducible] Wk Tr

theorem altR_gen (s : ByteArray) (hs : s.size ≤ 10000) (q f : Nat) (i op : Nat) (dp : Bool) (hi : i ≤ s.size) (hoi : op ≤ i) (hfu : 5 * (s.size - i) + 4 ≤ f + 1) (hR : ∀ f' i' o' d', f' ≤ f → i' ≤ s.size → o' ≤ i' → 5 * (s.size - i') + 3 ≤ f' → TxtC 58 s q i' o' d' (pRow s f' (bl s i') o' d') (fun a b => a = b)) : FnX Try.prog 31 [.ptr q 13 0] [(q, 13)] [.cells 72 (txL s i (-1) op dp)] (fun g r ob g' => PostT s i op (pAlt s (f + 1) i op dp) (fun a b => a = b) r (ob q 13)) := by
  refine FnX.of (fn := Try.f31) ⟨Try.func31, by kernel_rfl, rfl⟩ Try.ntmps31 (by simp) fun w0 S0 l ob0 g0 K hrow hgl hK0 => ?_
  simp only [valsO, List.cons.injEq, and_true] at hrow
  simp only [List.mem_cons, List.not_mem_nil, or_false, forall_eq_or_imp, forall_eq, forall_const] at hgl
  have hE := hrow
  refine p_go ?_
  refine p_fresh fun hf => ?_
  refine p_nilSlot (s := 3) (el := 25) 900 (h := ?_)
  refine p_loopK [0, 2] [(g0 + 1, 2)] (fun st => ∃ (f1 j c1 : Nat) (l1 : List Rx) (e1 : Bool), (f1 ≤ f) ∧ (5 * (s.size - j) + 3 ≤ f1) ∧ (j ≤ s.size) ∧ (i ≤ j) ∧ (Rx.szL l1 + l1.length ≤ 2 * (j - i)) ∧ ((match pRow s f1 (bl s j) op e1 with | .bad a => PR.bad a | .ok x k e => pAltT s f1 k op e (l1 ++ [x])) = pAlt s (f + 1) i op dp) ∧ (g0 + 1 < c1) ∧ (c1 ≤ st.gen) ∧ (g0 + 1 ≤ st.gen) ∧ (LowQ g0 [(q, 13)] ob0 st.obj) ∧ st.env 3 = .row c1 900 l1.length ∧ st.obj q 13 = .cells 72 (txL s j (-1) op e1) ∧ st.obj c1 900 = .row 25 (l1.map rxV)) (fun st => s.size - rdI (st.obj q 13)) ?_ fun e ob g1 hK hO hI => ?_
  · exact ⟨f, i, _, [], dp, Nat.le_refl _, by omega, hi, Nat.le_refl _, by simp [Rx.szL], by rw [pAlt]; rfl, by (try dsimp only); omega, Nat.le_refl _, by (try dsimp only); omega, (by (try dsimp only); repeat (first | exact hlow | exact LowQ.refl | refine LowQ.or_ ?_ (by assumption) | refine LowQ.up ?_ (by omega) | refine LowQ.at_ ?_ (by simp))), eV_, oB_, oB_⟩
  · obtain ⟨f1, j, c1, l1, e1, hf1, hfn, hj, hij, hsz, hpp, hc1, hcg1, hgen1, hlow, e3, hcl, hrw⟩ := hI
    dsimp only at e3 hcl hrw
    simp only [valsE, List.cons.injEq, and_true] at hK
    simp only [valsO, List.cons.injEq, and_true] at hO
    have hE := (⟨hK, hO, e3, hcl, hrw⟩ : _ ∧ _ ∧ _ ∧ _ ∧ _)
    dsimp only at hcg1 hgen1 hlow
    obtain ⟨f2, rfl⟩ : ∃ f2, f1 = f2 + 1 := ⟨f1 - 1, by omega⟩
    refine p_go fun hf => ?_
    refine p_callX ([(g0 + 1, 2), (c1, 900)]) (hf := hR (f2 + 1) j op e1 hf1 hj (by omega) (by omega)) (hg := by simp; omega) (hos := by simp <;> omega) (h := fun r o3 h3 hg3 hlw3 hos3 hR3 => ?_)
    obtain ⟨y3, k3, b3, p3, d3, rfl, hcl3, hik, hks, hsz3, hpost⟩ := hR3
    simp only [valsO, List.cons.injEq, and_true] at hos3
    have hlow : LowQ g0 [(q, 13)] ob0 o3 := LowQ.trans (by (try dsimp only); repeat (first | exact hlow | exact LowQ.refl | refine LowQ.or_ ?_ (by assumption) | refine LowQ.up ?_ (by omega) | refine LowQ.at_ ?_ (by simp))) hlw3 (by first | (dsimp only; omega) | omega) (fun k hk => .inl hk)
    have hE := (⟨hK, hos3, hcl3⟩ : _ ∧ _ ∧ _)
    refine p_bump fun hf => ?_
    refine p_buildSlice (ht := Try.underlying23) (hi := F.ti25.h) (h := ?_)
    refine p_append (ht := Try.underlying23) (hi := F.ti25.h) (u := .row _ 7 1) (ys := [rxA y3]) (hnl := by simp) (hy := ⟨.inl oB_, rfl⟩) (k := l1.length + 1) (hm := by simp) (hlim := by omega) (h := ?_)
    refine p_assign (h := ?_)
    refine p_end ?_
    refine p_fresh fun hf => ?_
    refine p_renSlot (s := 3) (xs := (l1 ++ [y3]).map rxV) 900 (ho2 := by rw [List.map_append, List.map_singleton, rxV_eq]; exact oB_) (h := ?_)
    refine p_go fun hf => ?_
    refine p_callX ([(g0 + 1, 2), (h3 + 1 + 1, 900)]) (hf := byteR q s k3 p3 b3 d3 hks (by omega)) (hg := by simp; omega) (hos := by simp <;> omega) (h := fun r o5 h5 hg5 hlw5 hos5 hR5 => ?_)
    obtain ⟨rfl, hcl5⟩ := hR5
    simp only [valsO, List.cons.injEq, and_true] at hos5
    have hlow : LowQ g0 [(q, 13)] ob0 o5 := LowQ.trans (by (try dsimp only); repeat (first | exact hlow | exact LowQ.refl | refine LowQ.or_ ?_ (by assumption) | refine LowQ.up ?_ (by omega) | refine LowQ.at_ ?_ (by simp))) hlw5 (by first | (dsimp only; omega) | omega) (fun k hk => .inl hk)
    have hE := (⟨hK, hos5, hcl5⟩ : _ ∧ _ ∧ _)
    refine p_go ?_
    refine p_splitC (s := 11) (ht := fun hc11 => ?_) (hf := fun hc11 => ?_)
    · have hne : byB s k3 b3 ≠ 124 := by simpa using hc11
      have hjs := joinR_sz 6 (l := l1 ++ [y3]) (by simp)
      rw [szL_snoc, List.length_append, List.length_singleton] at hjs
      have hend : EndT (pAlt s (f + 1) i op dp) (fun a b => a = b) (joinR 6 (l1 ++ [y3])) k3 b3 p3 op d3 := by
        rcases hpost.cases with ⟨hb, ⟨k, hp, hk⟩, ho⟩ | ⟨a, hb, hp⟩
        · refine .inl ⟨hb, ⟨k3, ?_, rfl⟩, ho⟩
          subst hk
          rw [byB_neg (by omega)] at hne
          rw [← hpp, hp]; dsimp only
          rw [pAltT, if_neg (by rw [tkB_nbt hne]; decide)]
        · exact .inr ⟨a, hb, by rw [← hpp, hp]⟩
      refine p_condT (h := ?_)
      refine p_frzS (s := 3) eV_ oB_ (by simp) ?_
      refine p_go fun hf => ?_
      refine p_call (hx := rfl) (hb := ⟨Try.func53, by kernel_rfl, rfl⟩) (hf := joinedR 6 (l1 ++ [y3]) (by simp; omega) (Nat.le_trans (jkL_len ..) (by rw [szL_snoc]; omega))) (h := ?_)
      refine p_go ?_
      refine p_retW1 (v := rxA (joinR 6 (l1 ++ [y3]))) rfl (w_agg eV_ oB_ F.agg25.h F.ti25.h rfl) (hK0 _ _ _ (by first | (dsimp only; omega) | omega) (by (try dsimp only); repeat (first | exact hlow | exact LowQ.refl | refine LowQ.or_ ?_ (by assumption) | refine LowQ.up ?_ (by omega) | refine LowQ.at_ ?_ (by simp))) (⟨_, k3, b3, p3, d3, rfl, oB_, by omega, hks, by omega, hend⟩))
    · have h124 : byB s k3 b3 = 124 := by simpa using hc11
      have hok : b3 = -1 ∧ pRow s (f2 + 1) (bl s j) op e1 = .ok y3 k3 d3 ∧ op = p3 := by
        rcases hpost.cases with ⟨hb, ⟨k, hp, hk⟩, ho⟩ | ⟨a, hb, hp⟩
        · exact ⟨hb, hk ▸ hp, ho.symm⟩
        · rw [byB_pos (by omega)] at h124; exact absurd h124 (by decide)
      obtain ⟨rfl, hp3, rfl⟩ := hok
      rw [byB_neg (by omega)] at h124
      have htk := tkB_bt (by decide) h124
      have hlt := tkB_lt htk
      have hle3 := (pr_le s (f2 + 1)).2.2.1 (bl s j) op e1 (bl_le hj).2
      rw [hp3] at hle3
      obtain ⟨hji3, hj3, hszz⟩ := hle3
      have hblj := bl_le hj
      have hE := (⟨hK, hos5, hcl5⟩ : _ ∧ _ ∧ _)
      refine p_go fun hf => ?_
      refine p_nilChk (h := ?_)
      refine p_go fun hf => ?_
      refine p_add (r := ((k3 + 1 : Nat) : Int)) (hr := (by first | omega | (simp only [decide_eq_true_eq, decide_eq_false_iff_not, Bool.or_eq_false_iff, Bool.and_eq_true, Bool.not_eq_true', Bool.not_eq_false'] at *; omega))) (hb := (by first | omega | (simp only [decide_eq_true_eq, decide_eq_false_iff_not, Bool.or_eq_false_iff, Bool.and_eq_true, Bool.not_eq_true', Bool.not_eq_false'] at *; omega))) (h := ?_)
      refine p_nilChk (h := ?_)
      refine p_go ?_
      refine p_some ?_
      refine ⟨⟨(by simp (decide := true) only [valsE, evE, upd, cv, args0, argsFrom, List.length_map, ↓reduceIte, hE] <;> rfl), (by simp (decide := true) only [valsO, updO, upd, true_and, and_true, false_and, and_false, ↓reduceIte, hE] <;> rfl)⟩, ⟨f2, k3 + 1, h3 + 1 + 1, l1 ++ [y3], d3, by omega, by omega, by omega, by omega, by rw [szL_snoc, List.length_append, List.length_singleton]; omega, by rw [← hpp, hp3]; dsimp only; rw [pAltT, if_pos htk, tkI, if_pos htk]; rfl, by (try dsimp only); omega, by (try dsimp only); omega, by (try dsimp only); omega, (by (try dsimp only); repeat (first | exact hlow | exact LowQ.refl | refine LowQ.or_ ?_ (by assumption) | refine LowQ.up ?_ (by omega) | refine LowQ.at_ ?_ (by simp))), by rw [List.length_append]; exact eV_, oB_, oB_⟩, ?_⟩
      simp (decide := true) only [updO, hcl, hcl5, rdI, and_self, and_true, true_and, false_and, and_false, ↓reduceIte, List.set_cons_succ, List.set_cons_zero]; omega

theorem rowR_gen (s : ByteArray) (hs : s.size ≤ 10000) (q f : Nat) (i op : Nat) (dp : Bool) (hi : i ≤ s.size) (hoi : op ≤ i) (hfu : 5 * (s.size - i) + 3 ≤ f + 1) (hR : ∀ f' i' o' d', f' ≤ f → i' ≤ s.size → o' ≤ i' → 5 * (s.size - i') + 2 ≤ f' → TxtC 82 s q i' o' d' (pFac s f' i' o' d') (fun a b => a = b)) : FnX Try.prog 58 [.ptr q 13 0] [(q, 13)] [.cells 72 (txL s i (-1) op dp)] (fun g r ob g' => PostT s i op (pRow s (f + 1) (bl s i) op dp) (fun a b => a = b) r (ob q 13)) := by
  refine FnX.of (fn := Try.f58) ⟨Try.func58, by kernel_rfl, rfl⟩ Try.ntmps58 (by simp) fun w0 S0 l ob0 g0 K hrow hgl hK0 => ?_
  simp only [valsO, List.cons.injEq, and_true] at hrow
  simp only [List.mem_cons, List.not_mem_nil, or_false, forall_eq_or_imp, forall_eq, forall_const] at hgl
  have hE := hrow
  refine p_go fun hf => ?_
  have hbi := bl_le hi
  refine p_callX ([(g0 + 1, 2)]) (hf := blanksR q s i op (-1) dp hi (by omega)) (hg := by simp; omega) (hos := by simp <;> omega) (h := fun r o1 h1 hg1 hlw1 hos1 hR1 => ?_)
  obtain ⟨rfl, hcl1⟩ := hR1
  simp only [valsO, List.cons.injEq, and_true] at hos1
  have hlow : LowQ g0 [(q, 13)] ob0 o1 := LowQ.trans (by (try dsimp only); repeat (first | exact hlow | exact LowQ.refl | refine LowQ.or_ ?_ (by assumption) | refine LowQ.up ?_ (by omega) | refine LowQ.at_ ?_ (by simp))) hlw1 (by first | (dsimp only; omega) | omega) (fun k hk => .inl hk)
  have hE := (⟨hos1, hcl1⟩ : _ ∧ _)
  refine p_go ?_
  refine p_fresh fun hf => ?_
  refine p_nilSlot (s := 3) (el := 25) 900 (h := ?_)
  refine p_loopK [0, 2] [(g0 + 1, 2)] (fun st => ∃ (f1 j c1 : Nat) (l1 : List Rx) (e1 : Bool), (f1 ≤ f) ∧ (5 * (s.size - j) + 2 ≤ f1) ∧ (j ≤ s.size) ∧ (i ≤ j) ∧ (Rx.szL l1 + l1.length ≤ 2 * (j - i)) ∧ ((match pFac s f1 j op e1 with | .bad a => PR.bad a | .ok x k e => pRowT s f1 k op e (l1 ++ [x])) = pRow s (f + 1) (bl s i) op dp) ∧ (g0 + 1 < c1) ∧ (c1 ≤ st.gen) ∧ (g0 + 1 ≤ st.gen) ∧ (LowQ g0 [(q, 13)] ob0 st.obj) ∧ st.env 3 = .row c1 900 l1.length ∧ st.obj q 13 = .cells 72 (txL s j (-1) op e1) ∧ st.obj c1 900 = .row 25 (l1.map rxV)) (fun st => s.size - rdI (st.obj q 13)) ?_ fun e ob g1 hK hO hI => ?_
  · exact ⟨f, bl s i, _, [], dp, Nat.le_refl _, by omega, hbi.2, hbi.1, by simp [Rx.szL], by rw [pRow]; rfl, by (try dsimp only); omega, Nat.le_refl _, by (try dsimp only); omega, (by (try dsimp only); repeat (first | exact hlow | exact LowQ.refl | refine LowQ.or_ ?_ (by assumption) | refine LowQ.up ?_ (by omega) | refine LowQ.at_ ?_ (by simp))), eV_, oB_, oB_⟩
  · obtain ⟨f1, j, c1, l1, e1, hf1, hfn, hj, hij, hsz, hpp, hc1, hcg1, hgen1, hlow, e3, hcl, hrw⟩ := hI
    dsimp only at e3 hcl hrw
    simp only [valsE, List.cons.injEq, and_true] at hK
    simp only [valsO, List.cons.injEq, and_true] at hO
    have hE := (⟨hK, hO, e3, hcl, hrw⟩ : _ ∧ _ ∧ _ ∧ _ ∧ _)
    dsimp only at hcg1 hgen1 hlow
    obtain ⟨f2, rfl⟩ : ∃ f2, f1 = f2 + 1 := ⟨f1 - 1, by omega⟩
    refine p_go fun hf => ?_
    refine p_callX ([(g0 + 1, 2), (c1, 900)]) (hf := hR (f2 + 1) j op e1 hf1 hj (by omega) (by omega)) (hg := by simp; omega) (hos := by simp <;> omega) (h := fun r o3 h3 hg3 hlw3 hos3 hR3 => ?_)
    obtain ⟨y3, k3, b3, p3, d3, rfl, hcl3, hik, hks, hsz3, hpost⟩ := hR3
    simp only [valsO, List.cons.injEq, and_true] at hos3
    have hlow : LowQ g0 [(q, 13)] ob0 o3 := LowQ.trans (by (try dsimp only); repeat (first | exact hlow | exact LowQ.refl | refine LowQ.or_ ?_ (by assumption) | refine LowQ.up ?_ (by omega) | refine LowQ.at_ ?_ (by simp))) hlw3 (by first | (dsimp only; omega) | omega) (fun k hk => .inl hk)
    have hE := (⟨hK, hos3, hcl3⟩ : _ ∧ _ ∧ _)
    refine p_bump fun hf => ?_
    refine p_buildSlice (ht := Try.underlying23) (hi := F.ti25.h) (h := ?_)
    refine p_append (ht := Try.underlying23) (hi := F.ti25.h) (u := .row _ 9 1) (ys := [rxA y3]) (hnl := by simp) (hy := ⟨.inl oB_, rfl⟩) (k := l1.length + 1) (hm := by simp) (hlim := by omega) (h := ?_)
    refine p_assign (h := ?_)
    refine p_end ?_
    refine p_fresh fun hf => ?_
    refine p_renSlot (s := 3) (xs := (l1 ++ [y3]).map rxV) 900 (ho2 := by rw [List.map_append, List.map_singleton, rxV_eq]; exact oB_) (h := ?_)
    refine p_go fun hf => ?_
    have hb3 := bl_le hks
    refine p_callX ([(g0 + 1, 2), (h3 + 1 + 1, 900)]) (hf := blanksR q s k3 p3 b3 d3 hks (by omega)) (hg := by simp; omega) (hos := by simp <;> omega) (h := fun r o5 h5 hg5 hlw5 hos5 hR5 => ?_)
    obtain ⟨rfl, hcl5⟩ := hR5
    simp only [valsO, List.cons.injEq, and_true] at hos5
    have hlow : LowQ g0 [(q, 13)] ob0 o5 := LowQ.trans (by (try dsimp only); repeat (first | exact hlow | exact LowQ.refl | refine LowQ.or_ ?_ (by assumption) | refine LowQ.up ?_ (by omega) | refine LowQ.at_ ?_ (by simp))) hlw5 (by first | (dsimp only; omega) | omega) (fun k hk => .inl hk)
    have hE := (⟨hK, hos5, hcl5⟩ : _ ∧ _ ∧ _)
    refine p_go fun hf => ?_
    refine p_callX ([(g0 + 1, 2), (h3 + 1 + 1, 900)]) (hf := beginsR q s (bl s k3) p3 b3 d3 hb3.2 (by omega)) (hg := by simp; omega) (hos := by simp <;> omega) (h := fun r o6 h6 hg6 hlw6 hos6 hR6 => ?_)
    obtain ⟨rfl, hcl6⟩ := hR6
    simp only [valsO, List.cons.injEq, and_true] at hos6
    have hlow : LowQ g0 [(q, 13)] ob0 o6 := LowQ.trans (by (try dsimp only); repeat (first | exact hlow | exact LowQ.refl | refine LowQ.or_ ?_ (by assumption) | refine LowQ.up ?_ (by omega) | refine LowQ.at_ ?_ (by simp))) hlw6 (by first | (dsimp only; omega) | omega) (fun k hk => .inl hk)
    have hE := (⟨hK, hos6, hcl6⟩ : _ ∧ _ ∧ _)
    refine p_go ?_
    refine p_splitC (s := 15) (ht := fun hc15 => ?_) (hf := fun hc15 => ?_)
    · have hne : bgT (byB s (bl s k3) b3) = false := by simpa using hc15
      have hjs := joinR_sz 5 (l := l1 ++ [y3]) (by simp)
      rw [szL_snoc, List.length_append, List.length_singleton] at hjs
      have hend : EndT (pRow s (f + 1) (bl s i) op dp) (fun a b => a = b) (joinR 5 (l1 ++ [y3])) (bl s k3) b3 p3 op d3 := by
        rcases hpost.cases with ⟨hb, ⟨k, hp, hk⟩, ho⟩ | ⟨a, hb, hp⟩
        · subst hk
          have hbl := pFac_bl hp
          refine .inl ⟨hb, ⟨k3, ?_, hbl⟩, ho⟩
          rw [hbl, byB_neg (by omega)] at hne
          rw [← hpp, hp]; dsimp only
          rw [pRowT, if_neg (by rw [show bgB s k3 = false from hne]; decide)]
        · exact .inr ⟨a, hb, by rw [← hpp, hp]⟩
      refine p_condT (h := ?_)
      refine p_frzS (s := 3) eV_ oB_ (by simp) ?_
      refine p_go fun hf => ?_
      refine p_call (hx := rfl) (hb := ⟨Try.func53, by kernel_rfl, rfl⟩) (hf := joinedR 5 (l1 ++ [y3]) (by simp; omega) (Nat.le_trans (jkL_len ..) (by rw [szL_snoc]; omega))) (h := ?_)
      refine p_go ?_
      refine p_retW1 (v := rxA (joinR 5 (l1 ++ [y3]))) rfl (w_agg eV_ oB_ F.agg25.h F.ti25.h rfl) (hK0 _ _ _ (by first | (dsimp only; omega) | omega) (by (try dsimp only); repeat (first | exact hlow | exact LowQ.refl | refine LowQ.or_ ?_ (by assumption) | refine LowQ.up ?_ (by omega) | refine LowQ.at_ ?_ (by simp))) (⟨_, bl s k3, b3, p3, d3, rfl, oB_, by omega, hb3.2, by omega, hend⟩))
    · have hbg : bgT (byB s (bl s k3) b3) = true := by simpa using hc15
      have hok : b3 = -1 ∧ pFac s (f2 + 1) j op e1 = .ok y3 k3 d3 ∧ op = p3 := by
        rcases hpost.cases with ⟨hb, ⟨k, hp, hk⟩, ho⟩ | ⟨a, hb, hp⟩
        · exact ⟨hb, hk ▸ hp, ho.symm⟩
        · rw [byB_pos (by omega)] at hbg; exact absurd hbg (by decide)
      obtain ⟨rfl, hp3, rfl⟩ := hok
      have hbl := pFac_bl hp3
      rw [hbl] at hcl6 hbg
      rw [byB_neg (by omega)] at hbg
      have htk : bgB s k3 = true := hbg
      have hle3 := (pr_le s (f2 + 1)).2.2.2.2.1 j op e1 hj
      rw [hp3] at hle3
      obtain ⟨hji3, hj3, hszz⟩ := hle3
      have hE := (⟨hK, hos6, hcl6⟩ : _ ∧ _ ∧ _)
      refine p_go ?_
      refine p_some ?_
      refine ⟨⟨(by simp (decide := true) only [valsE, evE, upd, cv, args0, argsFrom, List.length_map, ↓reduceIte, hE] <;> rfl), (by simp (decide := true) only [valsO, updO, upd, true_and, and_true, false_and, and_false, ↓reduceIte, hE] <;> rfl)⟩, ⟨f2, k3, h3 + 1 + 1, l1 ++ [y3], d3, by omega, by omega, by omega, by omega, by rw [szL_snoc, List.length_append, List.length_singleton]; omega, by rw [← hpp, hp3]; dsimp only; rw [pRowT, if_pos htk]; rfl, by (try dsimp only); omega, by (try dsimp only); omega, by (try dsimp only); omega, (by (try dsimp only); repeat (first | exact hlow | exact LowQ.refl | refine LowQ.or_ ?_ (by assumption) | refine LowQ.up ?_ (by omega) | refine LowQ.at_ ?_ (by simp))), by rw [List.length_append]; exact eV_, oB_, oB_⟩, ?_⟩
      simp (decide := true) only [updO, hcl, hcl6, rdI, and_self, and_true, true_and, false_and, and_false, ↓reduceIte, List.set_cons_succ, List.set_cons_zero]; omega

theorem facR_gen (s : ByteArray) (hs : s.size ≤ 10000) (q f : Nat) (i op : Nat) (dp : Bool) (hi : i ≤ s.size) (hoi : op ≤ i) (hA : TxtC 104 s q (tks s 33 i).2 op dp (pAtom s f (tks s 33 i).2 op dp) (fun a b => bl s a = bl s b)) : FnX Try.prog 82 [.ptr q 13 0] [(q, 13)] [.cells 72 (txL s i (-1) op dp)] (fun g r ob g' => PostT s i op (pFac s (f + 1) i op dp) (fun a b => a = b) r (ob q 13)) := by
  refine FnX.of (fn := Try.f82) ⟨Try.func82, by kernel_rfl, rfl⟩ Try.ntmps82 (by simp) fun w0 S0 l ob0 g0 K hrow hgl hK0 => ?_
  simp only [valsO, List.cons.injEq, and_true] at hrow
  simp only [List.mem_cons, List.not_mem_nil, or_false, forall_eq_or_imp, forall_eq, forall_const] at hgl
  have hE := hrow
  refine p_go ?_
  refine p_loopK [0, 2] [(g0 + 1, 2)] (fun st => ∃ (j n : Nat), (j ≤ s.size) ∧ (i + n ≤ j) ∧ (n + (tks s 33 j).1 = (tks s 33 i).1) ∧ ((tks s 33 j).2 = (tks s 33 i).2) ∧ (g0 + 1 ≤ st.gen) ∧ (LowQ g0 [(q, 13)] ob0 st.obj) ∧ st.env 3 = inV n ∧ st.obj q 13 = .cells 72 (txL s j (-1) op dp)) (fun st => s.size - rdI (st.obj q 13)) ?_ fun e ob g1 hK hO hI => ?_
  · exact ⟨i, 0, hi, Nat.le_refl _, by omega, rfl, by (try dsimp only); omega, (by (try dsimp only); repeat (first | exact hlow | exact LowQ.refl | refine LowQ.or_ ?_ (by assumption) | refine LowQ.up ?_ (by omega) | refine LowQ.at_ ?_ (by simp))), eV_, oB_⟩
  · obtain ⟨j, n, hj, hij, hn, he, hgen1, hlow, e3, hcl⟩ := hI
    dsimp only at e3 hcl
    simp only [valsE, List.cons.injEq, and_true] at hK
    simp only [valsO, List.cons.injEq, and_true] at hO
    have hE := (⟨hK, hO, e3, hcl⟩ : _ ∧ _ ∧ _ ∧ _)
    dsimp only at hgen1 hlow
    have hnl := tks_le (c := 33) hi
    refine p_go fun hf => ?_
    refine p_callX ([(g0 + 1, 2)]) (hf := byteR q s j op (-1) dp hj (by omega)) (hg := by simp; omega) (hos := by simp <;> omega) (h := fun r o2 h2 hg2 hlw2 hos2 hR2 => ?_)
    obtain ⟨rfl, hcl2⟩ := hR2
    simp only [valsO, List.cons.injEq, and_true] at hos2
    have hlow : LowQ g0 [(q, 13)] ob0 o2 := LowQ.trans (by (try dsimp only); repeat (first | exact hlow | exact LowQ.refl | refine LowQ.or_ ?_ (by assumption) | refine LowQ.up ?_ (by omega) | refine LowQ.at_ ?_ (by simp))) hlw2 (by first | (dsimp only; omega) | omega) (fun k hk => .inl hk)
    have hE := (⟨hK, hos2, hcl2, e3⟩ : _ ∧ _ ∧ _ ∧ _)
    refine p_go ?_
    refine p_splitC (s := 7) (ht := fun hc7 => ?_) (hf := fun hc7 => ?_)
    · have hby : byB s j (-1) = 33 := by simpa using hc7
      rw [byB_neg (by decide)] at hby
      have htk := tkB_bt (by decide) hby
      have hlt := tkB_lt htk
      refine p_go fun hf => ?_
      refine p_add (r := ((n + 1 : Nat) : Int)) (hr := (by first | omega | (simp only [decide_eq_true_eq, decide_eq_false_iff_not, Bool.or_eq_false_iff, Bool.and_eq_true, Bool.not_eq_true', Bool.not_eq_false'] at *; omega))) (hb := (by first | omega | (simp only [decide_eq_true_eq, decide_eq_false_iff_not, Bool.or_eq_false_iff, Bool.and_eq_true, Bool.not_eq_true', Bool.not_eq_false'] at *; omega))) (h := ?_)
      refine p_go fun hf => ?_
      refine p_nilChk (h := ?_)
      refine p_go fun hf => ?_
      refine p_add (r := ((j + 1 : Nat) : Int)) (hr := (by first | omega | (simp only [decide_eq_true_eq, decide_eq_false_iff_not, Bool.or_eq_false_iff, Bool.and_eq_true, Bool.not_eq_true', Bool.not_eq_false'] at *; omega))) (hb := (by first | omega | (simp only [decide_eq_true_eq, decide_eq_false_iff_not, Bool.or_eq_false_iff, Bool.and_eq_true, Bool.not_eq_true', Bool.not_eq_false'] at *; omega))) (h := ?_)
      refine p_nilChk (h := ?_)
      refine p_go fun hf => ?_
      have hb2 := bl_le (s := s) (i := j + 1) (by omega)
      refine p_callX ([(g0 + 1, 2)]) (hf := blanksR q s (j + 1) op (-1) dp (by omega) (by omega)) (hg := by simp; omega) (hos := by simp <;> omega) (h := fun r o4 h4 hg4 hlw4 hos4 hR4 => ?_)
      obtain ⟨rfl, hcl4⟩ := hR4
      simp only [valsO, List.cons.injEq, and_true] at hos4
      have hlow : LowQ g0 [(q, 13)] ob0 o4 := LowQ.trans (by (try dsimp only); repeat (first | exact hlow | exact LowQ.refl | refine LowQ.or_ ?_ (by assumption) | refine LowQ.up ?_ (by omega) | refine LowQ.at_ ?_ (by simp))) hlw4 (by first | (dsimp only; omega) | omega) (fun k hk => .inl hk)
      have hE := (⟨hK, hos4, hcl4⟩ : _ ∧ _ ∧ _)
      refine p_go ?_
      refine p_some ?_
      refine ⟨⟨(by simp (decide := true) only [valsE, evE, upd, cv, args0, argsFrom, List.length_map, ↓reduceIte, hE] <;> rfl), (by simp (decide := true) only [valsO, updO, upd, true_and, and_true, false_and, and_false, ↓reduceIte, hE] <;> rfl)⟩, ⟨bl s (j + 1), n + 1, hb2.2, by omega, by rw [tks_step htk, tkI, if_pos htk] at hn; dsimp only at hn; omega, by rw [tks_step htk, tkI, if_pos htk] at he; exact he, by (try dsimp only); omega, (by (try dsimp only); repeat (first | exact hlow | exact LowQ.refl | refine LowQ.or_ ?_ (by assumption) | refine LowQ.up ?_ (by omega) | refine LowQ.at_ ?_ (by simp))), eV_, oB_⟩, ?_⟩
      simp (decide := true) only [updO, hcl, hcl4, rdI, and_self, and_true, true_and, false_and, and_false, ↓reduceIte, List.set_cons_succ, List.set_cons_zero]; omega
    · have hby : ¬ byB s j (-1) = 33 := by simpa using hc7
      rw [byB_neg (by decide)] at hby
      rw [tks_stop (tkB_nbt hby)] at hn he
      dsimp only at hn he
      rw [he] at hcl2
      rw [he] at hij
      have hE := (⟨hK, hos2, hcl2, e3⟩ : _ ∧ _ ∧ _ ∧ _)
      refine p_go fun hf => ?_
      refine p_callX ([(g0 + 1, 2)]) (hf := hA) (hg := by simp; omega) (hos := by simp <;> omega) (h := fun r o1 h1 hg1 hlw1 hos1 hR1 => ?_)
      obtain ⟨y1, k1, b1, p1, d1, rfl, hcl1, hik, hks, hsz1, hpost⟩ := hR1
      simp only [valsO, List.cons.injEq, and_true] at hos1
      have hlow : LowQ g0 [(q, 13)] ob0 o1 := LowQ.trans (by (try dsimp only); repeat (first | exact hlow | exact LowQ.refl | refine LowQ.or_ ?_ (by assumption) | refine LowQ.up ?_ (by omega) | refine LowQ.at_ ?_ (by simp))) hlw1 (by first | (dsimp only; omega) | omega) (fun k hk => .inl hk)
      have hE := (⟨hK, hos1, hcl1, e3⟩ : _ ∧ _ ∧ _ ∧ _)
      refine p_bump fun hf => ?_
      refine p_go fun hf => ?_
      have hb1 := bl_le hks
      refine p_callX ([(g0 + 1, 2), (h1 + 1, 4)]) (hf := blanksR q s k1 p1 b1 d1 hks (by omega)) (hg := by simp; omega) (hos := by simp <;> omega) (h := fun r o5 h5 hg5 hlw5 hos5 hR5 => ?_)
      obtain ⟨rfl, hcl5⟩ := hR5
      simp only [valsO, List.cons.injEq, and_true] at hos5
      have hlow : LowQ g0 [(q, 13)] ob0 o5 := LowQ.trans (by (try dsimp only); repeat (first | exact hlow | exact LowQ.refl | refine LowQ.or_ ?_ (by assumption) | refine LowQ.up ?_ (by omega) | refine LowQ.at_ ?_ (by simp))) hlw5 (by first | (dsimp only; omega) | omega) (fun k hk => .inl hk)
      have hE := (⟨hK, hos5, hcl5, e3⟩ : _ ∧ _ ∧ _ ∧ _)
      refine p_go ?_
      refine p_loopK [0, 2, 3, 4] [(g0 + 1, 2)] (fun st => ∃ (j2 : Nat) (y2 : Rx), (j2 ≤ s.size) ∧ (bl s k1 ≤ j2) ∧ (y2.sz ≤ y1.sz + (j2 - bl s k1)) ∧ (b1 < 0 → (wrN 7 (tks s 42 j2).1 y2 = wrN 7 (tks s 42 (bl s k1)).1 y1 ∧ (tks s 42 j2).2 = (tks s 42 (bl s k1)).2)) ∧ (h1 + 1 ≤ st.gen) ∧ (LowQ g0 [(q, 13)] ob0 st.obj) ∧ st.obj q 13 = .cells 72 (txL s j2 b1 p1 d1) ∧ st.obj (h1 + 1) 4 = .cells 25 (rxL y2)) (fun st => s.size - rdI (st.obj q 13)) ?_ fun e ob g2 hK hO hI => ?_
      · exact ⟨bl s k1, y1, hb1.2, Nat.le_refl _, by omega, fun _ => ⟨rfl, rfl⟩, by (try dsimp only); omega, (by (try dsimp only); repeat (first | exact hlow | exact LowQ.refl | refine LowQ.or_ ?_ (by assumption) | refine LowQ.up ?_ (by omega) | refine LowQ.at_ ?_ (by simp))), oB_, oB_⟩
      · obtain ⟨j2, y2, hj2, hjb, hys, hn2, hgen1, hlow, hcl, hc4⟩ := hI
        dsimp only at hcl hc4
        simp only [valsE, List.cons.injEq, and_true] at hK
        simp only [valsO, List.cons.injEq, and_true] at hO
        have hE := (⟨hK, hO, hcl, hc4⟩ : _ ∧ _ ∧ _ ∧ _)
        dsimp only at hgen1 hlow
        refine p_go fun hf => ?_
        refine p_callX ([(g0 + 1, 2), (h1 + 1, 4)]) (hf := byteR q s j2 p1 b1 d1 hj2 (by omega)) (hg := by simp; omega) (hos := by simp <;> omega) (h := fun r o7 h7 hg7 hlw7 hos7 hR7 => ?_)
        obtain ⟨rfl, hcl7⟩ := hR7
        simp only [valsO, List.cons.injEq, and_true] at hos7
        have hlow : LowQ g0 [(q, 13)] ob0 o7 := LowQ.trans (by (try dsimp only); repeat (first | exact hlow | exact LowQ.refl | refine LowQ.or_ ?_ (by assumption) | refine LowQ.up ?_ (by omega) | refine LowQ.at_ ?_ (by simp))) hlw7 (by first | (dsimp only; omega) | omega) (fun k hk => .inl hk)
        have hE := (⟨hK, hos7, hcl7⟩ : _ ∧ _ ∧ _)
        refine p_go ?_
        refine p_splitC (s := 25) (ht := fun hc25 => ?_) (hf := fun hc25 => ?_)
        · have hby : byB s j2 b1 = 42 := by simpa using hc25
          have hb1n : b1 < 0 := by
            refine Decidable.byContradiction fun h => ?_
            rw [byB_pos h] at hby; exact absurd hby (by decide)
          rw [byB_neg hb1n] at hby
          have htk := tkB_bt (by decide) hby
          have hlt := tkB_lt htk
          refine p_go fun hf => ?_
          refine p_buildSlice (ht := Try.underlying23) (hi := F.ti25.h) (h := ?_)
          refine p_build (hi := F.ti25.h) (hpl := F.pl25.h) (h := ?_)
          refine p_storeAll F.ti25.h (h := ?_)
          refine p_end ?_
          refine p_freeze (g1 := h7 + 1) (d1 := 27) (h := ?_)
          refine p_cellSl (g1 := h1 + 1) (d1 := 4) (i := 2) (g2 := h7 + 1) (d2 := 27) (hn := by simp) (h := ?_)
          refine p_go fun hf => ?_
          refine p_nilChk (h := ?_)
          refine p_go fun hf => ?_
          refine p_add (r := ((j2 + 1 : Nat) : Int)) (hr := (by first | omega | (simp only [decide_eq_true_eq, decide_eq_false_iff_not, Bool.or_eq_false_iff, Bool.and_eq_true, Bool.not_eq_true', Bool.not_eq_false'] at *; omega))) (hb := (by first | omega | (simp only [decide_eq_true_eq, decide_eq_false_iff_not, Bool.or_eq_false_iff, Bool.and_eq_true, Bool.not_eq_true', Bool.not_eq_false'] at *; omega))) (h := ?_)
          refine p_nilChk (h := ?_)
          refine p_go fun hf => ?_
          have hb2 := bl_le (s := s) (i := j2 + 1) (by omega)
          refine p_callX ([(g0 + 1, 2), (h1 + 1, 4)]) (hf := blanksR q s (j2 + 1) p1 b1 d1 (by omega) (by omega)) (hg := by simp; omega) (hos := by simp <;> omega) (h := fun r o8 h8 hg8 hlw8 hos8 hR8 => ?_)
          obtain ⟨rfl, hcl8⟩ := hR8
          simp only [valsO, List.cons.injEq, and_true] at hos8
          have hlow : LowQ g0 [(q, 13)] ob0 o8 := LowQ.trans (by (try dsimp only); repeat (first | exact hlow | exact LowQ.refl | refine LowQ.or_ ?_ (by assumption) | refine LowQ.up ?_ (by omega) | refine LowQ.at_ ?_ (by simp))) hlw8 (by first | (dsimp only; omega) | omega) (fun k hk => .inl hk)
          have hE := (⟨hK, hos8, hcl8⟩ : _ ∧ _ ∧ _)
          refine p_go ?_
          refine p_some ?_
          refine ⟨⟨(by simp (decide := true) only [valsE, evE, upd, cv, args0, argsFrom, List.length_map, ↓reduceIte, hE] <;> rfl), (by simp (decide := true) only [valsO, updO, upd, true_and, and_true, false_and, and_false, ↓reduceIte, hE] <;> rfl)⟩, ⟨bl s (j2 + 1), .mk 7 ⟨#[]⟩ [y2], hb2.2, by omega, by rw [Rx.sz, Rx.szL, Rx.szL]; omega, fun hb => by have h := hn2 hb; rw [tks_step htk, tkI, if_pos htk] at h; exact h, by (try dsimp only); omega, (by (try dsimp only); repeat (first | exact hlow | exact LowQ.refl | refine LowQ.or_ ?_ (by assumption) | refine LowQ.up ?_ (by omega) | refine LowQ.at_ ?_ (by simp))), oB_, by rw [rxL_one]; exact oB_⟩, ?_⟩
          simp (decide := true) only [updO, hcl, hcl8, rdI, and_self, and_true, true_and, false_and, and_false, ↓reduceIte, List.set_cons_succ, List.set_cons_zero]; omega
        · have hby : ¬ byB s j2 b1 = 42 := by simpa using hc25
          have hfin : b1 < 0 → (y2 = wrN 7 (tks s 42 (bl s k1)).1 y1 ∧ j2 = (tks s 42 (bl s k1)).2) := fun hb => by
            have h := hn2 hb
            rw [byB_neg hb] at hby
            rw [tks_stop (tkB_nbt hby)] at h
            exact h
          refine p_go ?_
          refine p_loopK [2, 4] [(g0 + 1, 2), (q, 13)] (fun st => ∃ (m : Nat) (y3 : Rx), (m ≤ n) ∧ (wrN 8 m y3 = wrN 8 n y2) ∧ (h1 + 1 ≤ st.gen) ∧ (LowQ g0 [(q, 13)] ob0 st.obj) ∧ st.env 3 = inV m ∧ st.obj (h1 + 1) 4 = .cells 25 (rxL y3)) (fun st => (st.env 3).toN) ?_ fun e ob g3 hK hO hI => ?_
          · exact ⟨n, y2, Nat.le_refl _, rfl, by (try dsimp only); omega, (by (try dsimp only); repeat (first | exact hlow | exact LowQ.refl | refine LowQ.or_ ?_ (by assumption) | refine LowQ.up ?_ (by omega) | refine LowQ.at_ ?_ (by simp))), eV_, oB_⟩
          · obtain ⟨m, y3, hm, hn3, hgen1, hlow, e3, hc4⟩ := hI
            dsimp only at e3 hc4
            simp only [valsE, List.cons.injEq, and_true] at hK
            simp only [valsO, List.cons.injEq, and_true] at hO
            have hE := (⟨hK, hO, e3, hc4⟩ : _ ∧ _ ∧ _ ∧ _)
            dsimp only at hgen1 hlow
            refine p_go ?_
            refine p_splitC (s := 39) (ht := fun hc39 => ?_) (hf := fun hc39 => ?_)
            · have hm0 : 0 < m := by have h := hc39; simp at h; omega
              refine p_go fun hf => ?_
              refine p_buildSlice (ht := Try.underlying23) (hi := F.ti25.h) (h := ?_)
              refine p_build (hi := F.ti25.h) (hpl := F.pl25.h) (h := ?_)
              refine p_storeAll F.ti25.h (h := ?_)
              refine p_end ?_
              refine p_freeze (g1 := g3 + 1 + 1) (d1 := 43) (h := ?_)
              refine p_cellSl (g1 := h1 + 1) (d1 := 4) (i := 2) (g2 := g3 + 1 + 1) (d2 := 43) (hn := by simp) (h := ?_)
              refine p_go fun hf => ?_
              refine p_sub (r := ((m - 1 : Nat) : Int)) (hr := by omega) (hb := by omega) (h := ?_)
              refine p_go ?_
              refine p_some ?_
              have hms : m = (m - 1) + 1 := by omega
              rw [hms] at hn3
              refine ⟨⟨(by simp (decide := true) only [valsE, evE, upd, cv, args0, argsFrom, List.length_map, ↓reduceIte, hE] <;> rfl), (by simp (decide := true) only [valsO, updO, upd, true_and, and_true, false_and, and_false, ↓reduceIte, hE] <;> rfl)⟩, ⟨m - 1, .mk 8 ⟨#[]⟩ [y3], by omega, by rw [← hn3]; rfl, by (try dsimp only); omega, (by (try dsimp only); repeat (first | exact hlow | exact LowQ.refl | refine LowQ.or_ ?_ (by assumption) | refine LowQ.up ?_ (by omega) | refine LowQ.at_ ?_ (by simp))), eV_, by rw [rxL_one]; exact oB_⟩, ?_⟩
              simp (decide := true) only [upd, e3, V.toN, ↓reduceIte]; omega
            · have hm0 : m = 0 := by have h := hc39; simp at h; omega
              subst hm0
              dsimp only [wrN] at hn3
              have hsz3 : y3.sz = n + y2.sz := by rw [hn3, wrN_sz]
              have hend : EndT (pFac s (f + 1) i op dp) (fun a b => a = b) y3 j2 b1 p1 op d1 := by
                rcases hpost.cases with ⟨hb, ⟨k, hp, hk⟩, ho⟩ | ⟨a, hb, hp⟩
                · obtain ⟨e1_, e2_⟩ := hfin (by omega)
                  refine .inl ⟨hb, ⟨j2, ?_, rfl⟩, ho⟩
                  rw [pFac, hp]; dsimp only
                  rw [← hk, hn3, e1_, e2_, ← hn, Nat.add_zero]
                · exact .inr ⟨a, hb, by rw [pFac, hp]⟩
              refine p_go ?_
              refine p_retW1 (v := rxA y3) rfl (w_agg eV_ oB_ F.agg25.h F.ti25.h rfl) (hK0 _ _ _ (by first | (dsimp only; omega) | omega) (by (try dsimp only); repeat (first | exact hlow | exact LowQ.refl | refine LowQ.or_ ?_ (by assumption) | refine LowQ.up ?_ (by omega) | refine LowQ.at_ ?_ (by simp))) (⟨_, j2, b1, p1, d1, rfl, oB_, by omega, hj2, by omega, hend⟩))

/-- A text in parentheses. -/
def pPar (s : ByteArray) (f i o : Nat) (d : Bool) : PR := match pAlt s f (tkI s i 40) (o + 1) (d || decide (50 < o + 1)) with
  | .bad a => .bad a
  | .ok x j e => if tkB s j 41 = true then .ok x (tkI s j 41) e else .bad j

theorem parR_gen (s : ByteArray) (hs : s.size ≤ 10000) (q f : Nat) (i op : Nat) (dp : Bool) (hi : i ≤ s.size) (hoi : op ≤ i) (htk : tkB s i 40 = true) (hL : ∀ d', d' = (dp || decide (50 < op + 1)) → TxtC 31 s q (i + 1) (op + 1) d' (pAlt s (f + 1) (i + 1) (op + 1) (dp || decide (50 < op + 1))) (fun a b => a = b)) : FnX Try.prog 116 [.ptr q 13 0] [(q, 13)] [.cells 72 (txL s i (-1) op dp)] (fun g r ob g' => PostT s i op (pPar s (f + 1) i op dp) (fun a b => bl s a = bl s b) r (ob q 13)) := by
  refine FnX.of (fn := Try.f116) ⟨Try.func116, by kernel_rfl, rfl⟩ Try.ntmps116 (by simp) fun w0 S0 l ob0 g0 K hrow hgl hK0 => ?_
  simp only [valsO, List.cons.injEq, and_true] at hrow
  simp only [List.mem_cons, List.not_mem_nil, or_false, forall_eq_or_imp, forall_eq, forall_const] at hgl
  have hE := hrow
  have hlt := tkB_lt htk
  have hdd : decide ((50 : Int) < ((op + 1 : Nat) : Int)) = decide (50 < op + 1) := by rw [Bool.eq_iff_iff, decide_eq_true_eq, decide_eq_true_eq]; omega
  have hpp : pPar s (f + 1) i op dp = (match pAlt s (f + 1) (i + 1) (op + 1) (dp || decide (50 < op + 1)) with | .bad a => PR.bad a | .ok x j e => if tkB s j 41 = true then .ok x (tkI s j 41) e else .bad j) := by rw [pPar, tkI, if_pos htk, pAlt_bl]
  refine p_go fun hf => ?_
  refine p_nilChk (h := ?_)
  refine p_go fun hf => ?_
  refine p_add (r := ((i + 1 : Nat) : Int)) (hr := (by first | omega | (simp only [decide_eq_true_eq, decide_eq_false_iff_not, Bool.or_eq_false_iff, Bool.and_eq_true, Bool.not_eq_true', Bool.not_eq_false'] at *; omega))) (hb := (by first | omega | (simp only [decide_eq_true_eq, decide_eq_false_iff_not, Bool.or_eq_false_iff, Bool.and_eq_true, Bool.not_eq_true', Bool.not_eq_false'] at *; omega))) (h := ?_)
  refine p_nilChk (h := ?_)
  refine p_go fun hf => ?_
  refine p_nilChk (h := ?_)
  refine p_go fun hf => ?_
  refine p_add (r := ((op + 1 : Nat) : Int)) (hr := (by first | omega | (simp only [decide_eq_true_eq, decide_eq_false_iff_not, Bool.or_eq_false_iff, Bool.and_eq_true, Bool.not_eq_true', Bool.not_eq_false'] at *; omega))) (hb := (by first | omega | (simp only [decide_eq_true_eq, decide_eq_false_iff_not, Bool.or_eq_false_iff, Bool.and_eq_true, Bool.not_eq_true', Bool.not_eq_false'] at *; omega))) (h := ?_)
  refine p_nilChk (h := ?_)
  refine p_go fun hf => ?_
  refine p_nilChk (h := ?_)
  refine p_go fun hf => ?_
  refine p_or2 (h1 := fun hb_ => by (repeat (first | refine p_guardYes (h := ?_) | refine p_move (h := ?_) | refine p_nilChk (h := ?_) | refine q_fP (h := ?_) | refine q_load (h := ?_) | refine q_cmp (h := ?_))); refine w_end ?_; exact p_endK) (h := ?_)
  refine p_nilChk (h := ?_)
  refine p_go fun hf => ?_
  refine p_callX ([(g0 + 1, 2)]) (hf := hL (dp || decide ((50 : Int) < ((op + 1 : Nat) : Int))) (by rw [hdd])) (hg := by simp; omega) (hos := by simp <;> omega) (h := fun r o1 h1 hg1 hlw1 hos1 hR1 => ?_)
  obtain ⟨y1, k1, b1, p1, d1, rfl, hcl1, hik, hks, hsz1, hpost⟩ := hR1
  simp only [valsO, List.cons.injEq, and_true] at hos1
  have hlow : LowQ g0 [(q, 13)] ob0 o1 := LowQ.trans (by (try dsimp only); repeat (first | exact hlow | exact LowQ.refl | refine LowQ.or_ ?_ (by assumption) | refine LowQ.up ?_ (by omega) | refine LowQ.at_ ?_ (by simp))) hlw1 (by first | (dsimp only; omega) | omega) (fun k hk => .inl hk)
  have hE := (⟨hos1, hcl1⟩ : _ ∧ _)
  refine p_bump fun hf => ?_
  refine p_go fun hf => ?_
  refine p_callX ([(g0 + 1, 2), (h1 + 1, 3)]) (hf := byteR q s k1 p1 b1 d1 hks (by omega)) (hg := by simp; omega) (hos := by simp <;> omega) (h := fun r o2 h2 hg2 hlw2 hos2 hR2 => ?_)
  obtain ⟨rfl, hcl2⟩ := hR2
  simp only [valsO, List.cons.injEq, and_true] at hos2
  have hlow : LowQ g0 [(q, 13)] ob0 o2 := LowQ.trans (by (try dsimp only); repeat (first | exact hlow | exact LowQ.refl | refine LowQ.or_ ?_ (by assumption) | refine LowQ.up ?_ (by omega) | refine LowQ.at_ ?_ (by simp))) hlw2 (by first | (dsimp only; omega) | omega) (fun k hk => .inl hk)
  have hE := (⟨hos2, hcl2⟩ : _ ∧ _)
  refine p_go ?_
  refine p_splitC (s := 36) (ht := fun hc36 => ?_) (hf := fun hc36 => ?_)
  · have hne : byB s k1 b1 ≠ 41 := by simpa using hc36
    have hend : EndT (pPar s (f + 1) i op dp) (fun a b => bl s a = bl s b) y1 k1 (if b1 < 0 then (k1 : Int) else b1) p1 op d1 := by
      rcases hpost.cases with ⟨hb, ⟨k, hp, hk⟩, ho⟩ | ⟨a, hb, hp⟩
      · subst hk
        rw [byB_neg (by omega)] at hne
        refine .inr ⟨k1, if_pos (by omega), ?_⟩
        rw [hpp, hp]; dsimp only
        rw [if_neg (by rw [tkB_nbt hne]; decide)]
      · exact .inr ⟨a, by rw [if_neg (by omega)]; exact hb, by rw [hpp, hp]⟩
    refine p_go fun hf => ?_
    refine p_callX ([(g0 + 1, 2), (h1 + 1, 3)]) (hf := failR q s k1 p1 b1 d1 hks (by omega)) (hg := by simp; omega) (hos := by simp <;> omega) (h := fun r o3 h3 hg3 hlw3 hos3 hR3 => ?_)
    obtain ⟨rfl, hcl3⟩ := hR3
    simp only [valsO, List.cons.injEq, and_true] at hos3
    have hlow : LowQ g0 [(q, 13)] ob0 o3 := LowQ.trans (by (try dsimp only); repeat (first | exact hlow | exact LowQ.refl | refine LowQ.or_ ?_ (by assumption) | refine LowQ.up ?_ (by omega) | refine LowQ.at_ ?_ (by simp))) hlw3 (by first | (dsimp only; omega) | omega) (fun k hk => .inl hk)
    have hE := (⟨hos3, hcl3⟩ : _ ∧ _)
    refine p_go ?_
    refine p_retW1 (v := rxA y1) rfl (w_agg eV_ oB_ F.agg25.h F.ti25.h rfl) (hK0 _ _ _ (by first | (dsimp only; omega) | omega) (by (try dsimp only); repeat (first | exact hlow | exact LowQ.refl | refine LowQ.or_ ?_ (by assumption) | refine LowQ.up ?_ (by omega) | refine LowQ.at_ ?_ (by simp))) (⟨_, k1, _, p1, d1, rfl, oB_, by omega, hks, by omega, hend⟩))
  · have h41 : byB s k1 b1 = 41 := by simpa using hc36
    have hok : b1 = -1 ∧ pAlt s (f + 1) (i + 1) (op + 1) (dp || decide (50 < op + 1)) = .ok y1 k1 d1 ∧ op + 1 = p1 := by
      rcases hpost.cases with ⟨hb, ⟨k, hp, hk⟩, ho⟩ | ⟨a, hb, hp⟩
      · exact ⟨hb, hk ▸ hp, ho.symm⟩
      · rw [byB_pos (by omega)] at h41; exact absurd h41 (by decide)
    obtain ⟨rfl, hp1, rfl⟩ := hok
    rw [byB_neg (by omega)] at h41
    have ht41 := tkB_bt (by decide) h41
    have hlt1 := tkB_lt ht41
    have hend : EndT (pPar s (f + 1) i op dp) (fun a b => bl s a = bl s b) y1 (k1 + 1) (-1) op op d1 := .inl ⟨rfl, ⟨tkI s k1 41, by rw [hpp, hp1]; exact if_pos ht41, by show bl s (k1 + 1) = bl s (tkI s k1 41); rw [tkI, if_pos ht41, bl_idem]⟩, rfl⟩
    have hE := (⟨hos2, hcl2⟩ : _ ∧ _)
    refine p_go fun hf => ?_
    refine p_nilChk (h := ?_)
    refine p_go fun hf => ?_
    refine p_add (r := ((k1 + 1 : Nat) : Int)) (hr := (by first | omega | (simp only [decide_eq_true_eq, decide_eq_false_iff_not, Bool.or_eq_false_iff, Bool.and_eq_true, Bool.not_eq_true', Bool.not_eq_false'] at *; omega))) (hb := (by first | omega | (simp only [decide_eq_true_eq, decide_eq_false_iff_not, Bool.or_eq_false_iff, Bool.and_eq_true, Bool.not_eq_true', Bool.not_eq_false'] at *; omega))) (h := ?_)
    refine p_nilChk (h := ?_)
    refine p_go fun hf => ?_
    refine p_nilChk (h := ?_)
    refine p_go fun hf => ?_
    refine p_sub (r := ((op : Nat) : Int)) (hr := by omega) (hb := by omega) (h := ?_)
    refine p_nilChk (h := ?_)
    refine p_go ?_
    refine p_retW1 (v := rxA y1) rfl (w_agg eV_ oB_ F.agg25.h F.ti25.h rfl) (hK0 _ _ _ (by first | (dsimp only; omega) | omega) (by (try dsimp only); repeat (first | exact hlow | exact LowQ.refl | refine LowQ.or_ ?_ (by assumption) | refine LowQ.up ?_ (by omega) | refine LowQ.at_ ?_ (by simp))) (⟨_, k1 + 1, _, op, d1, rfl, oB_, by omega, by omega, by omega, hend⟩))

theorem byteG (q : Nat) (s : ByteArray) (i op : Nat) (dp : Bool) (hi : i ≤ s.size) (hs : s.size ≤ 1000000) : FnX Try.prog 59 [.ptr q 13 0] [(q, 13)] [.cells 72 (txL s i (-1) op dp)] (fun g r o g' => r = .int .u8 (bt s i) ∧ o q 13 = .cells 72 (txL s i (-1) op dp)) := (byteR q s i op (-1) dp hi hs).mono fun g r o g' h => ⟨h.1.trans (by rw [byB_neg (by decide)]), h.2⟩
theorem sz_one (op : Int) (n : ByteArray) : (Rx.mk op n []).sz = 1 := by rw [Rx.sz, Rx.szL]

theorem atomR_gen (s : ByteArray) (hs : s.size ≤ 10000) (q f : Nat) (i op : Nat) (dp : Bool) (hi : i ≤ s.size) (hoi : op ≤ i) (hP : tkB s i 40 = true → TxtC 116 s q i op dp (pPar s f i op dp) (fun a b => bl s a = bl s b)) : FnX Try.prog 104 [.ptr q 13 0] [(q, 13)] [.cells 72 (txL s i (-1) op dp)] (fun g r ob g' => PostT s i op (pAtom s (f + 1) i op dp) (fun a b => bl s a = bl s b) r (ob q 13)) := by
  refine FnX.of (fn := Try.f104) ⟨Try.func104, by kernel_rfl, rfl⟩ Try.ntmps104 (by simp) fun w0 S0 l ob0 g0 K hrow hgl hK0 => ?_
  simp only [valsO, List.cons.injEq, and_true] at hrow
  simp only [List.mem_cons, List.not_mem_nil, or_false, forall_eq_or_imp, forall_eq, forall_const] at hgl
  have hE := hrow
  refine p_goJ fun hf => ?_
  refine p_callX ([(g0 + 1, 2)]) (hf := byteG q s i op dp hi (by omega)) (hg := by simp; omega) (hos := by simp <;> omega) (h := fun r o1 h1 hg1 hlw1 hos1 hR1 => ?_)
  obtain ⟨rfl, hcl1⟩ := hR1
  simp only [valsO, List.cons.injEq, and_true] at hos1
  have hlow : LowQ g0 [(q, 13)] ob0 o1 := LowQ.trans (by (try dsimp only); repeat (first | exact hlow | exact LowQ.refl | refine LowQ.or_ ?_ (by assumption) | refine LowQ.up ?_ (by omega) | refine LowQ.at_ ?_ (by simp))) hlw1 (by first | (dsimp only; omega) | omega) (fun k hk => .inl hk)
  have hE := (⟨hos1, hcl1⟩ : _ ∧ _)
  refine p_goJ ?_
  refine p_seq ?_
  refine p_goJ fun hf => ?_
  refine p_split (s := 10) (ht := fun hb10 => ?_) (hf := fun hb10 => ?_)
  · have h0 : bt s i ≠ 0 := by simpa using hb10
    refine p_goJ fun hf => ?_
    refine p_call (hx := rfl) (hb := ⟨Try.func105, by kernel_rfl, rfl⟩) (hf := letterR (bt s i)) (h := ?_)
    refine p_goJ ?_
    refine p_splitC (s := 7) (ht := fun hc7 => ?_) (hf := fun hc7 => ?_)
    · have hl : letB (bt s i) = true := hc7
      refine p_goJ fun hf => ?_
      refine p_nilChk (h := ?_)
      refine p_goJ ?_
      refine p_joinK [0, 2, 4] [(g0 + 1, 2)] (fun st => ∃ (j : Nat), (j ≤ s.size) ∧ (i ≤ j) ∧ (j - i ≤ 64) ∧ (anE s j = anE s i) ∧ (alnB (bt s j) = true → j - i = 64) ∧ (g0 + 1 ≤ st.gen) ∧ (LowQ g0 [(q, 13)] ob0 st.obj) ∧ st.obj q 13 = .cells 72 (txL s j (-1) op dp)) ?_ fun e ob gJ1 hK hO hI => ?_
      ·
        refine p_goJ ?_
        refine p_loopK [0, 2, 4] [(g0 + 1, 2)] (fun st => ∃ (j : Nat), (j ≤ s.size) ∧ (i ≤ j) ∧ (j - i ≤ 64) ∧ (anE s j = anE s i) ∧ (g0 + 1 ≤ st.gen) ∧ (LowQ g0 [(q, 13)] ob0 st.obj) ∧ st.obj q 13 = .cells 72 (txL s j (-1) op dp)) (fun st => s.size - rdI (st.obj q 13)) ?_ fun e ob g1 hK hO hI => ?_
        · exact ⟨i, hi, Nat.le_refl _, by omega, rfl, by (try dsimp only); omega, (by (try dsimp only); repeat (first | exact hlow | exact LowQ.refl | refine LowQ.or_ ?_ (by assumption) | refine LowQ.up ?_ (by omega) | refine LowQ.at_ ?_ (by simp))), oB_⟩
        · obtain ⟨j, hj, hij, hj64, hae, hgen1, hlow, hcl⟩ := hI
          dsimp only at hcl
          simp only [valsE, List.cons.injEq, and_true] at hK
          simp only [valsO, List.cons.injEq, and_true] at hO
          have hE := (⟨hK, hO, hcl⟩ : _ ∧ _ ∧ _)
          dsimp only at hgen1 hlow
          refine p_seq ?_
          refine p_goJ fun hf => ?_
          refine p_nilChk (h := ?_)
          refine p_goJ fun hf => ?_
          refine p_nilChk (h := ?_)
          refine p_goJ fun hf => ?_
          refine p_split (s := 28) (ht := fun hb28 => ?_) (hf := fun hb28 => ?_)
          · have hlt : j < s.size := by simpa using hb28
            refine p_goJ fun hf => ?_
            refine p_nilChk (h := ?_)
            refine p_goJ fun hf => ?_
            refine p_nilChk (h := ?_)
            refine p_goJ fun hf => ?_
            refine p_idxB (j) (hj := hlt) (h := ?_)
            refine p_goJ fun hf => ?_
            refine p_call (hx := rfl) (hb := ⟨Try.func105, by kernel_rfl, rfl⟩) (hf := letterR (bt s j)) (h := ?_)
            refine p_goJ fun hf => ?_
            refine p_split (s := 39) (ht := fun hb39 => ?_) (hf := fun hb39 => ?_)
            · have hal : alnB (bt s j) = true := by rw [alnB, show letB (bt s j) = true from hb39]; rfl
              have hle1 := anE_le (s := s) (i := j + 1) hlt
              rw [← anE_step hal] at hle1
              refine p_goJ fun hf => ?_
              refine p_nilChk (h := ?_)
              refine p_goJ fun hf => ?_
              refine p_sub (r := ((j - i : Nat) : Int)) (hr := by omega) (hb := by omega) (h := ?_)
              refine p_goJ ?_
              refine p_splitC (s := 60) (ht := fun hc60 => ?_) (hf := fun hc60 => ?_)
              · have h64 : j - i < 64 := by have h := hc60; simp at h; omega
                refine p_goJ fun hf => ?_
                refine p_nilChk (h := ?_)
                refine p_goJ fun hf => ?_
                refine p_add (r := ((j + 1 : Nat) : Int)) (hr := (by first | omega | (simp only [decide_eq_true_eq, decide_eq_false_iff_not, Bool.or_eq_false_iff, Bool.and_eq_true, Bool.not_eq_true', Bool.not_eq_false'] at *; omega))) (hb := (by first | omega | (simp only [decide_eq_true_eq, decide_eq_false_iff_not, Bool.or_eq_false_iff, Bool.and_eq_true, Bool.not_eq_true', Bool.not_eq_false'] at *; omega))) (h := ?_)
                refine p_nilChk (h := ?_)
                refine p_goJ ?_
                refine p_some ?_
                refine ⟨⟨(by simp (decide := true) only [valsE, evE, upd, cv, args0, argsFrom, List.length_map, ↓reduceIte, hE] <;> rfl), (by simp (decide := true) only [valsO, updO, upd, true_and, and_true, false_and, and_false, ↓reduceIte, hE] <;> rfl)⟩, ⟨j + 1, hlt, by omega, by omega, by rw [← anE_step hal]; exact hae, by (try dsimp only); omega, (by (try dsimp only); repeat (first | exact hlow | exact LowQ.refl | refine LowQ.or_ ?_ (by assumption) | refine LowQ.up ?_ (by omega) | refine LowQ.at_ ?_ (by simp))), oB_⟩, ?_⟩
                simp (decide := true) only [updO, hcl, hcl, rdI, and_self, and_true, true_and, false_and, and_false, ↓reduceIte, List.set_cons_succ, List.set_cons_zero]; omega
              · have h64 : ¬ j - i < 64 := by have h := hc60; simp at h; omega
                refine p_goJ ?_
                refine p_some ?_
                refine ⟨⟨(by simp (decide := true) only [valsE, evE, upd, cv, args0, argsFrom, List.length_map, ↓reduceIte, hE] <;> rfl), (by simp (decide := true) only [valsO, updO, upd, true_and, and_true, false_and, and_false, ↓reduceIte, hE] <;> rfl)⟩, j, hj, hij, hj64, hae, fun _ => by omega, by (try dsimp only); omega, (by (try dsimp only); repeat (first | exact hlow | exact LowQ.refl | refine LowQ.or_ ?_ (by assumption) | refine LowQ.up ?_ (by omega) | refine LowQ.at_ ?_ (by simp))), oB_⟩
            · -- slot 39 is false
              refine p_goJ fun hf => ?_
              refine p_nilChk (h := ?_)
              refine p_goJ fun hf => ?_
              refine p_nilChk (h := ?_)
              refine p_goJ fun hf => ?_
              refine p_idxB (j) (hj := hlt) (h := ?_)
              refine p_goJ fun hf => ?_
              refine p_call (hx := rfl) (hb := ⟨Try.func108, by kernel_rfl, rfl⟩) (hf := digitR (bt s j)) (h := ?_)
              refine p_goJ fun hf => ?_
              refine p_split (s := 52) (ht := fun hb52 => ?_) (hf := fun hb52 => ?_)
              · have hal : alnB (bt s j) = true := by rw [alnB, show digB (bt s j) = true from hb52, Bool.or_true]
                have hle1 := anE_le (s := s) (i := j + 1) hlt
                rw [← anE_step hal] at hle1
                refine p_goJ fun hf => ?_
                refine p_nilChk (h := ?_)
                refine p_goJ fun hf => ?_
                refine p_sub (r := ((j - i : Nat) : Int)) (hr := by omega) (hb := by omega) (h := ?_)
                refine p_goJ ?_
                refine p_splitC (s := 60) (ht := fun hc60 => ?_) (hf := fun hc60 => ?_)
                · have h64 : j - i < 64 := by have h := hc60; simp at h; omega
                  refine p_goJ fun hf => ?_
                  refine p_nilChk (h := ?_)
                  refine p_goJ fun hf => ?_
                  refine p_add (r := ((j + 1 : Nat) : Int)) (hr := (by first | omega | (simp only [decide_eq_true_eq, decide_eq_false_iff_not, Bool.or_eq_false_iff, Bool.and_eq_true, Bool.not_eq_true', Bool.not_eq_false'] at *; omega))) (hb := (by first | omega | (simp only [decide_eq_true_eq, decide_eq_false_iff_not, Bool.or_eq_false_iff, Bool.and_eq_true, Bool.not_eq_true', Bool.not_eq_false'] at *; omega))) (h := ?_)
                  refine p_nilChk (h := ?_)
                  refine p_goJ ?_
                  refine p_some ?_
                  refine ⟨⟨(by simp (decide := true) only [valsE, evE, upd, cv, args0, argsFrom, List.length_map, ↓reduceIte, hE] <;> rfl), (by simp (decide := true) only [valsO, updO, upd, true_and, and_true, false_and, and_false, ↓reduceIte, hE] <;> rfl)⟩, ⟨j + 1, hlt, by omega, by omega, by rw [← anE_step hal]; exact hae, by (try dsimp only); omega, (by (try dsimp only); repeat (first | exact hlow | exact LowQ.refl | refine LowQ.or_ ?_ (by assumption) | refine LowQ.up ?_ (by omega) | refine LowQ.at_ ?_ (by simp))), oB_⟩, ?_⟩
                  simp (decide := true) only [updO, hcl, hcl, rdI, and_self, and_true, true_and, false_and, and_false, ↓reduceIte, List.set_cons_succ, List.set_cons_zero]; omega
                · have h64 : ¬ j - i < 64 := by have h := hc60; simp at h; omega
                  refine p_goJ ?_
                  refine p_some ?_
                  refine ⟨⟨(by simp (decide := true) only [valsE, evE, upd, cv, args0, argsFrom, List.length_map, ↓reduceIte, hE] <;> rfl), (by simp (decide := true) only [valsO, updO, upd, true_and, and_true, false_and, and_false, ↓reduceIte, hE] <;> rfl)⟩, j, hj, hij, hj64, hae, fun _ => by omega, by (try dsimp only); omega, (by (try dsimp only); repeat (first | exact hlow | exact LowQ.refl | refine LowQ.or_ ?_ (by assumption) | refine LowQ.up ?_ (by omega) | refine LowQ.at_ ?_ (by simp))), oB_⟩
              · have hna : alnB (bt s j) = false := by rw [alnB, show letB (bt s j) = false from hb39, show digB (bt s j) = false from hb52]; rfl
                refine p_goJ ?_
                refine p_some ?_
                refine ⟨⟨(by simp (decide := true) only [valsE, evE, upd, cv, args0, argsFrom, List.length_map, ↓reduceIte, hE] <;> rfl), (by simp (decide := true) only [valsO, updO, upd, true_and, and_true, false_and, and_false, ↓reduceIte, hE] <;> rfl)⟩, j, hj, hij, hj64, hae, fun h => (by rw [hna] at h; cases h), by (try dsimp only); omega, (by (try dsimp only); repeat (first | exact hlow | exact LowQ.refl | refine LowQ.or_ ?_ (by assumption) | refine LowQ.up ?_ (by omega) | refine LowQ.at_ ?_ (by simp))), oB_⟩
          · have hge : ¬ j < s.size := by simpa using hb28
            refine p_goJ ?_
            refine p_some ?_
            refine ⟨⟨(by simp (decide := true) only [valsE, evE, upd, cv, args0, argsFrom, List.length_map, ↓reduceIte, hE] <;> rfl), (by simp (decide := true) only [valsO, updO, upd, true_and, and_true, false_and, and_false, ↓reduceIte, hE] <;> rfl)⟩, j, hj, hij, hj64, hae, fun h => absurd (aln_lt h) hge, by (try dsimp only); omega, (by (try dsimp only); repeat (first | exact hlow | exact LowQ.refl | refine LowQ.or_ ?_ (by assumption) | refine LowQ.up ?_ (by omega) | refine LowQ.at_ ?_ (by simp))), oB_⟩
      · obtain ⟨j, hj, hij, hj64, hae, hdone, hgen1, hlow, hcl⟩ := hI
        dsimp only at hcl
        simp only [valsE, List.cons.injEq, and_true] at hK
        simp only [valsO, List.cons.injEq, and_true] at hO
        have hE := (⟨hK, hO, hcl⟩ : _ ∧ _ ∧ _)
        dsimp only at hgen1 hlow
        refine p_seq ?_
        refine p_goJ fun hf => ?_
        refine p_nilChk (h := ?_)
        refine p_goJ fun hf => ?_
        refine p_nilChk (h := ?_)
        refine p_goJ fun hf => ?_
        refine p_split (s := 78) (ht := fun hb78 => ?_) (hf := fun hb78 => ?_)
        · have hlt : j < s.size := by simpa using hb78
          refine p_goJ fun hf => ?_
          refine p_nilChk (h := ?_)
          refine p_goJ fun hf => ?_
          refine p_nilChk (h := ?_)
          refine p_goJ fun hf => ?_
          refine p_idxB (j) (hj := hlt) (h := ?_)
          refine p_goJ fun hf => ?_
          refine p_call (hx := rfl) (hb := ⟨Try.func105, by kernel_rfl, rfl⟩) (hf := letterR (bt s j)) (h := ?_)
          refine p_goJ fun hf => ?_
          refine p_split (s := 89) (ht := fun hb89 => ?_) (hf := fun hb89 => ?_)
          · have hal : alnB (bt s j) = true := by rw [alnB, show letB (bt s j) = true from hb89]; rfl
            have hle1 := anE_le (s := s) (i := j + 1) hlt
            rw [← anE_step hal] at hle1
            have h64 := hdone hal
            have hend : EndT (pAtom s (f + 1) i op dp) (fun a b => bl s a = bl s b) (.mk 1 (s.extract i j) []) j (if (-1 : Int) < 0 then (j : Int) else -1) op op dp := .inr ⟨j, if_pos (by decide), by rw [pAtom, if_pos hl, if_pos (by omega), show i + 64 = j by omega]⟩
            refine p_goJ fun hf => ?_
            refine p_callX ([(g0 + 1, 2)]) (hf := failR q s j op (-1) dp hj (by omega)) (hg := by simp; omega) (hos := by simp <;> omega) (h := fun r o4 h4 hg4 hlw4 hos4 hR4 => ?_)
            obtain ⟨rfl, hcl4⟩ := hR4
            simp only [valsO, List.cons.injEq, and_true] at hos4
            have hlow : LowQ g0 [(q, 13)] ob0 o4 := LowQ.trans (by (try dsimp only); repeat (first | exact hlow | exact LowQ.refl | refine LowQ.or_ ?_ (by assumption) | refine LowQ.up ?_ (by omega) | refine LowQ.at_ ?_ (by simp))) hlw4 (by first | (dsimp only; omega) | omega) (fun k hk => .inl hk)
            have hE := (⟨hK, hos4, hcl4⟩ : _ ∧ _ ∧ _)
            refine p_goJ fun hf => ?_
            refine p_nilChk (h := ?_)
            refine p_goJ fun hf => ?_
            refine p_nilChk (h := ?_)
            refine p_goJ fun hf => ?_
            refine p_strCut (l := i) (h' := j) (hl := hij) (hh := hj) (h := ?_)
            refine p_build (hi := F.ti25.h) (hpl := F.pl25.h) (h := ?_)
            refine p_storeAll F.ti25.h (h := ?_)
            refine p_endD ?_
            refine TrC.ret ?_
            refine p_cellNil (g1 := g0 + 1) (d1 := 2) (i := 2) (el := 25) (h := ?_)
            refine p_retW1 (v := rxA (.mk 1 (s.extract i j) [])) rfl (w_agg eV_ oB_ F.agg25.h F.ti25.h rfl) (hK0 _ _ _ (by first | (dsimp only; omega) | omega) (by (try dsimp only); repeat (first | exact hlow | exact LowQ.refl | refine LowQ.or_ ?_ (by assumption) | refine LowQ.up ?_ (by omega) | refine LowQ.at_ ?_ (by simp))) (⟨_, j, _, op, dp, rfl, oB_, hij, hj, by rw [sz_one]; omega, hend⟩))
          · -- slot 89 is false
            refine p_goJ fun hf => ?_
            refine p_nilChk (h := ?_)
            refine p_goJ fun hf => ?_
            refine p_nilChk (h := ?_)
            refine p_goJ fun hf => ?_
            refine p_idxB (j) (hj := hlt) (h := ?_)
            refine p_goJ fun hf => ?_
            refine p_call (hx := rfl) (hb := ⟨Try.func108, by kernel_rfl, rfl⟩) (hf := digitR (bt s j)) (h := ?_)
            refine p_goJ ?_
            refine p_splitC (s := 101) (ht := fun hc101 => ?_) (hf := fun hc101 => ?_)
            · have hal : alnB (bt s j) = true := by rw [alnB, show digB (bt s j) = true from hc101, Bool.or_true]
              have hle1 := anE_le (s := s) (i := j + 1) hlt
              rw [← anE_step hal] at hle1
              have h64 := hdone hal
              have hend : EndT (pAtom s (f + 1) i op dp) (fun a b => bl s a = bl s b) (.mk 1 (s.extract i j) []) j (if (-1 : Int) < 0 then (j : Int) else -1) op op dp := .inr ⟨j, if_pos (by decide), by rw [pAtom, if_pos hl, if_pos (by omega), show i + 64 = j by omega]⟩
              refine p_goJ fun hf => ?_
              refine p_callX ([(g0 + 1, 2)]) (hf := failR q s j op (-1) dp hj (by omega)) (hg := by simp; omega) (hos := by simp <;> omega) (h := fun r o4 h4 hg4 hlw4 hos4 hR4 => ?_)
              obtain ⟨rfl, hcl4⟩ := hR4
              simp only [valsO, List.cons.injEq, and_true] at hos4
              have hlow : LowQ g0 [(q, 13)] ob0 o4 := LowQ.trans (by (try dsimp only); repeat (first | exact hlow | exact LowQ.refl | refine LowQ.or_ ?_ (by assumption) | refine LowQ.up ?_ (by omega) | refine LowQ.at_ ?_ (by simp))) hlw4 (by first | (dsimp only; omega) | omega) (fun k hk => .inl hk)
              have hE := (⟨hK, hos4, hcl4⟩ : _ ∧ _ ∧ _)
              refine p_goJ fun hf => ?_
              refine p_nilChk (h := ?_)
              refine p_goJ fun hf => ?_
              refine p_nilChk (h := ?_)
              refine p_goJ fun hf => ?_
              refine p_strCut (l := i) (h' := j) (hl := hij) (hh := hj) (h := ?_)
              refine p_build (hi := F.ti25.h) (hpl := F.pl25.h) (h := ?_)
              refine p_storeAll F.ti25.h (h := ?_)
              refine p_endD ?_
              refine TrC.ret ?_
              refine p_cellNil (g1 := g0 + 1) (d1 := 2) (i := 2) (el := 25) (h := ?_)
              refine p_retW1 (v := rxA (.mk 1 (s.extract i j) [])) rfl (w_agg eV_ oB_ F.agg25.h F.ti25.h rfl) (hK0 _ _ _ (by first | (dsimp only; omega) | omega) (by (try dsimp only); repeat (first | exact hlow | exact LowQ.refl | refine LowQ.or_ ?_ (by assumption) | refine LowQ.up ?_ (by omega) | refine LowQ.at_ ?_ (by simp))) (⟨_, j, _, op, dp, rfl, oB_, hij, hj, by rw [sz_one]; omega, hend⟩))
            · have hna : alnB (bt s j) = false := by rw [alnB, show letB (bt s j) = false from hb89, show digB (bt s j) = false from hc101]; rfl
              rw [anE_stop hna] at hae
              have hend : EndT (pAtom s (f + 1) i op dp) (fun a b => bl s a = bl s b) (.mk 1 (s.extract i j) []) j (-1) op op dp := .inl ⟨rfl, ⟨j, by rw [pAtom, if_pos hl, if_neg (by omega), ← hae], rfl⟩, rfl⟩
              refine p_goJ fun hf => ?_
              refine p_nilChk (h := ?_)
              refine p_goJ fun hf => ?_
              refine p_nilChk (h := ?_)
              refine p_goJ fun hf => ?_
              refine p_strCut (l := i) (h' := j) (hl := hij) (hh := hj) (h := ?_)
              refine p_build (hi := F.ti25.h) (hpl := F.pl25.h) (h := ?_)
              refine p_storeAll F.ti25.h (h := ?_)
              refine p_endD ?_
              refine TrC.ret ?_
              refine p_cellNil (g1 := g0 + 1) (d1 := 2) (i := 2) (el := 25) (h := ?_)
              refine p_retW1 (v := rxA (.mk 1 (s.extract i j) [])) rfl (w_agg eV_ oB_ F.agg25.h F.ti25.h rfl) (hK0 _ _ _ (by first | (dsimp only; omega) | omega) (by (try dsimp only); repeat (first | exact hlow | exact LowQ.refl | refine LowQ.or_ ?_ (by assumption) | refine LowQ.up ?_ (by omega) | refine LowQ.at_ ?_ (by simp))) (⟨_, j, _, op, dp, rfl, oB_, hij, hj, by rw [sz_one]; omega, hend⟩))
        · have hge : ¬ j < s.size := by simpa using hb78
          have hna : alnB (bt s j) = false := by rw [bt_ge (by omega)]; rfl
          rw [anE_stop hna] at hae
          have hend : EndT (pAtom s (f + 1) i op dp) (fun a b => bl s a = bl s b) (.mk 1 (s.extract i j) []) j (-1) op op dp := .inl ⟨rfl, ⟨j, by rw [pAtom, if_pos hl, if_neg (by omega), ← hae], rfl⟩, rfl⟩
          refine p_goJ fun hf => ?_
          refine p_nilChk (h := ?_)
          refine p_goJ fun hf => ?_
          refine p_nilChk (h := ?_)
          refine p_goJ fun hf => ?_
          refine p_strCut (l := i) (h' := j) (hl := hij) (hh := hj) (h := ?_)
          refine p_build (hi := F.ti25.h) (hpl := F.pl25.h) (h := ?_)
          refine p_storeAll F.ti25.h (h := ?_)
          refine p_endD ?_
          refine TrC.ret ?_
          refine p_cellNil (g1 := g0 + 1) (d1 := 2) (i := 2) (el := 25) (h := ?_)
          refine p_retW1 (v := rxA (.mk 1 (s.extract i j) [])) rfl (w_agg eV_ oB_ F.agg25.h F.ti25.h rfl) (hK0 _ _ _ (by first | (dsimp only; omega) | omega) (by (try dsimp only); repeat (first | exact hlow | exact LowQ.refl | refine LowQ.or_ ?_ (by assumption) | refine LowQ.up ?_ (by omega) | refine LowQ.at_ ?_ (by simp))) (⟨_, j, _, op, dp, rfl, oB_, hij, hj, by rw [sz_one]; omega, hend⟩))
    · have hl : ¬ letB (bt s i) = true := by rw [show letB (bt s i) = false from hc7]; decide
      refine p_goJ ?_
      refine p_splitC (s := 115) (ht := fun hc115 => ?_) (hf := fun hc115 => ?_)
      · have e46_ : bt s i = 46 := by simpa using hc115
        have ht46 : tkB s i 46 = true := tkB_bt (by decide) e46_
        have hlt := tkB_lt ht46
        have hend : EndT (pAtom s (f + 1) i op dp) (fun a b => bl s a = bl s b) (.mk 2 ⟨#[]⟩ []) (i + 1) (-1) op op dp := .inl ⟨rfl, ⟨tkI s i 46, by rw [pAtom, if_neg hl, if_pos ht46], by show bl s (i + 1) = bl s (tkI s i 46); rw [tkI, if_pos ht46, bl_idem]⟩, rfl⟩
        refine p_goJ fun hf => ?_
        refine p_nilChk (h := ?_)
        refine p_goJ fun hf => ?_
        refine p_add (r := ((i + 1 : Nat) : Int)) (hr := (by first | omega | (simp only [decide_eq_true_eq, decide_eq_false_iff_not, Bool.or_eq_false_iff, Bool.and_eq_true, Bool.not_eq_true', Bool.not_eq_false'] at *; omega))) (hb := (by first | omega | (simp only [decide_eq_true_eq, decide_eq_false_iff_not, Bool.or_eq_false_iff, Bool.and_eq_true, Bool.not_eq_true', Bool.not_eq_false'] at *; omega))) (h := ?_)
        refine p_nilChk (h := ?_)
        refine p_goJ fun hf => ?_
        refine p_build (hi := F.ti25.h) (hpl := F.pl25.h) (h := ?_)
        refine p_storeAll F.ti25.h (h := ?_)
        refine p_end ?_
        refine TrC.ret ?_
        refine p_cellNil (g1 := g0 + 1) (d1 := 2) (i := 2) (el := 25) (h := ?_)
        refine p_retW1 (v := rxA (.mk 2 ⟨#[]⟩ [])) rfl (w_agg eV_ oB_ F.agg25.h F.ti25.h rfl) (hK0 _ _ _ (by first | (dsimp only; omega) | omega) (by (try dsimp only); repeat (first | exact hlow | exact LowQ.refl | refine LowQ.or_ ?_ (by assumption) | refine LowQ.up ?_ (by omega) | refine LowQ.at_ ?_ (by simp))) (⟨_, i + 1, _, op, dp, rfl, oB_, by omega, hlt, by rw [sz_one]; omega, hend⟩))
      · have n46 : ¬ bt s i = 46 := by simpa using hc115
        have ht46 : ¬ tkB s i 46 = true := by rw [tkB_nbt n46]; decide
        refine p_goJ ?_
        refine p_splitC (s := 126) (ht := fun hc126 => ?_) (hf := fun hc126 => ?_)
        · have e37_ : bt s i = 37 := by simpa using hc126
          have ht37 : tkB s i 37 = true := tkB_bt (by decide) e37_
          have hlt := tkB_lt ht37
          have hend : EndT (pAtom s (f + 1) i op dp) (fun a b => bl s a = bl s b) (.mk 3 ⟨#[]⟩ []) (i + 1) (-1) op op dp := .inl ⟨rfl, ⟨tkI s i 37, by rw [pAtom, if_neg hl, if_neg ht46, if_pos ht37], by show bl s (i + 1) = bl s (tkI s i 37); rw [tkI, if_pos ht37, bl_idem]⟩, rfl⟩
          refine p_goJ fun hf => ?_
          refine p_nilChk (h := ?_)
          refine p_goJ fun hf => ?_
          refine p_add (r := ((i + 1 : Nat) : Int)) (hr := (by first | omega | (simp only [decide_eq_true_eq, decide_eq_false_iff_not, Bool.or_eq_false_iff, Bool.and_eq_true, Bool.not_eq_true', Bool.not_eq_false'] at *; omega))) (hb := (by first | omega | (simp only [decide_eq_true_eq, decide_eq_false_iff_not, Bool.or_eq_false_iff, Bool.and_eq_true, Bool.not_eq_true', Bool.not_eq_false'] at *; omega))) (h := ?_)
          refine p_nilChk (h := ?_)
          refine p_goJ fun hf => ?_
          refine p_build (hi := F.ti25.h) (hpl := F.pl25.h) (h := ?_)
          refine p_storeAll F.ti25.h (h := ?_)
          refine p_end ?_
          refine TrC.ret ?_
          refine p_cellNil (g1 := g0 + 1) (d1 := 2) (i := 2) (el := 25) (h := ?_)
          refine p_retW1 (v := rxA (.mk 3 ⟨#[]⟩ [])) rfl (w_agg eV_ oB_ F.agg25.h F.ti25.h rfl) (hK0 _ _ _ (by first | (dsimp only; omega) | omega) (by (try dsimp only); repeat (first | exact hlow | exact LowQ.refl | refine LowQ.or_ ?_ (by assumption) | refine LowQ.up ?_ (by omega) | refine LowQ.at_ ?_ (by simp))) (⟨_, i + 1, _, op, dp, rfl, oB_, by omega, hlt, by rw [sz_one]; omega, hend⟩))
        · have n37 : ¬ bt s i = 37 := by simpa using hc126
          have ht37 : ¬ tkB s i 37 = true := by rw [tkB_nbt n37]; decide
          refine p_goJ ?_
          refine p_splitC (s := 137) (ht := fun hc137 => ?_) (hf := fun hc137 => ?_)
          · have e35_ : bt s i = 35 := by simpa using hc137
            have ht35 : tkB s i 35 = true := tkB_bt (by decide) e35_
            have hlt := tkB_lt ht35
            have hend : EndT (pAtom s (f + 1) i op dp) (fun a b => bl s a = bl s b) (.mk 4 ⟨#[]⟩ []) (i + 1) (-1) op op dp := .inl ⟨rfl, ⟨tkI s i 35, by rw [pAtom, if_neg hl, if_neg ht46, if_neg ht37, if_pos ht35], by show bl s (i + 1) = bl s (tkI s i 35); rw [tkI, if_pos ht35, bl_idem]⟩, rfl⟩
            refine p_goJ fun hf => ?_
            refine p_nilChk (h := ?_)
            refine p_goJ fun hf => ?_
            refine p_add (r := ((i + 1 : Nat) : Int)) (hr := (by first | omega | (simp only [decide_eq_true_eq, decide_eq_false_iff_not, Bool.or_eq_false_iff, Bool.and_eq_true, Bool.not_eq_true', Bool.not_eq_false'] at *; omega))) (hb := (by first | omega | (simp only [decide_eq_true_eq, decide_eq_false_iff_not, Bool.or_eq_false_iff, Bool.and_eq_true, Bool.not_eq_true', Bool.not_eq_false'] at *; omega))) (h := ?_)
            refine p_nilChk (h := ?_)
            refine p_goJ fun hf => ?_
            refine p_build (hi := F.ti25.h) (hpl := F.pl25.h) (h := ?_)
            refine p_storeAll F.ti25.h (h := ?_)
            refine p_end ?_
            refine TrC.ret ?_
            refine p_cellNil (g1 := g0 + 1) (d1 := 2) (i := 2) (el := 25) (h := ?_)
            refine p_retW1 (v := rxA (.mk 4 ⟨#[]⟩ [])) rfl (w_agg eV_ oB_ F.agg25.h F.ti25.h rfl) (hK0 _ _ _ (by first | (dsimp only; omega) | omega) (by (try dsimp only); repeat (first | exact hlow | exact LowQ.refl | refine LowQ.or_ ?_ (by assumption) | refine LowQ.up ?_ (by omega) | refine LowQ.at_ ?_ (by simp))) (⟨_, i + 1, _, op, dp, rfl, oB_, by omega, hlt, by rw [sz_one]; omega, hend⟩))
          · have n35 : ¬ bt s i = 35 := by simpa using hc137
            have ht35 : ¬ tkB s i 35 = true := by rw [tkB_nbt n35]; decide
            refine p_goJ ?_
            refine p_splitC (s := 148) (ht := fun hc148 => ?_) (hf := fun hc148 => ?_)
            · have e40_ : bt s i = 40 := by simpa using hc148
              have ht40 : tkB s i 40 = true := tkB_bt (by decide) e40_
              have hlt := tkB_lt ht40
              have hpe : pPar s f i op dp = pAtom s (f + 1) i op dp := by rw [pAtom, if_neg hl, if_neg ht46, if_neg ht37, if_neg ht35, if_pos ht40]; rfl
              refine p_goJ fun hf => ?_
              refine p_callX ([(g0 + 1, 2)]) (hf := hP ht40) (hg := by simp; omega) (hos := by simp <;> omega) (h := fun r o6 h6 hg6 hlw6 hos6 hR6 => ?_)
              obtain ⟨y1, k1, b1, p1, d1, rfl, hcl6, hik, hks, hsz1, hpost⟩ := hR6
              simp only [valsO, List.cons.injEq, and_true] at hos6
              have hlow : LowQ g0 [(q, 13)] ob0 o6 := LowQ.trans (by (try dsimp only); repeat (first | exact hlow | exact LowQ.refl | refine LowQ.or_ ?_ (by assumption) | refine LowQ.up ?_ (by omega) | refine LowQ.at_ ?_ (by simp))) hlw6 (by first | (dsimp only; omega) | omega) (fun k hk => .inl hk)
              have hE := (⟨hos6, hcl6⟩ : _ ∧ _)
              refine p_goJ ?_
              refine p_retW1 (v := rxA y1) rfl (w_agg eV_ oB_ F.agg25.h F.ti25.h rfl) (hK0 _ _ _ (by first | (dsimp only; omega) | omega) (by (try dsimp only); repeat (first | exact hlow | exact LowQ.refl | refine LowQ.or_ ?_ (by assumption) | refine LowQ.up ?_ (by omega) | refine LowQ.at_ ?_ (by simp))) (⟨_, k1, b1, p1, d1, rfl, oB_, hik, hks, hsz1, hpe ▸ hpost⟩))
            · have n40 : ¬ bt s i = 40 := by simpa using hc148
              have ht40 : ¬ tkB s i 40 = true := by rw [tkB_nbt n40]; decide
              have hend : EndT (pAtom s (f + 1) i op dp) (fun a b => bl s a = bl s b) (.mk 0 ⟨#[]⟩ []) i (if (-1 : Int) < 0 then (i : Int) else -1) op op dp := .inr ⟨i, if_pos (by decide), by rw [pAtom, if_neg hl, if_neg ht46, if_neg ht37, if_neg ht35, if_neg ht40]⟩
              refine p_goJ fun hf => ?_
              refine p_callX ([(g0 + 1, 2)]) (hf := failR q s i op (-1) dp hi (by omega)) (hg := by simp; omega) (hos := by simp <;> omega) (h := fun r o7 h7 hg7 hlw7 hos7 hR7 => ?_)
              obtain ⟨rfl, hcl7⟩ := hR7
              simp only [valsO, List.cons.injEq, and_true] at hos7
              have hlow : LowQ g0 [(q, 13)] ob0 o7 := LowQ.trans (by (try dsimp only); repeat (first | exact hlow | exact LowQ.refl | refine LowQ.or_ ?_ (by assumption) | refine LowQ.up ?_ (by omega) | refine LowQ.at_ ?_ (by simp))) hlw7 (by first | (dsimp only; omega) | omega) (fun k hk => .inl hk)
              have hE := (⟨hos7, hcl7⟩ : _ ∧ _)
              refine p_goJ fun hf => ?_
              refine p_build (hi := F.ti25.h) (hpl := F.pl25.h) (h := ?_)
              refine p_storeAll F.ti25.h (h := ?_)
              refine p_end ?_
              refine TrC.ret ?_
              refine p_cellNil (g1 := g0 + 1) (d1 := 2) (i := 2) (el := 25) (h := ?_)
              refine p_retW1 (v := rxA (.mk 0 ⟨#[]⟩ [])) rfl (w_agg eV_ oB_ F.agg25.h F.ti25.h rfl) (hK0 _ _ _ (by first | (dsimp only; omega) | omega) (by (try dsimp only); repeat (first | exact hlow | exact LowQ.refl | refine LowQ.or_ ?_ (by assumption) | refine LowQ.up ?_ (by omega) | refine LowQ.at_ ?_ (by simp))) (⟨_, i, _, op, dp, rfl, oB_, Nat.le_refl _, hi, by rw [sz_one]; omega, hend⟩))
  · have h0 : bt s i = 0 := by simpa using hb10
    have hl : ¬ letB (bt s i) = true := by rw [h0]; decide
    refine p_goJ ?_
    refine p_splitC (s := 115) (ht := fun hc115 => ?_) (hf := fun hc115 => ?_)
    · have e46_ : bt s i = 46 := by simpa using hc115
      have ht46 : tkB s i 46 = true := tkB_bt (by decide) e46_
      have hlt := tkB_lt ht46
      have hend : EndT (pAtom s (f + 1) i op dp) (fun a b => bl s a = bl s b) (.mk 2 ⟨#[]⟩ []) (i + 1) (-1) op op dp := .inl ⟨rfl, ⟨tkI s i 46, by rw [pAtom, if_neg hl, if_pos ht46], by show bl s (i + 1) = bl s (tkI s i 46); rw [tkI, if_pos ht46, bl_idem]⟩, rfl⟩
      refine p_goJ fun hf => ?_
      refine p_nilChk (h := ?_)
      refine p_goJ fun hf => ?_
      refine p_add (r := ((i + 1 : Nat) : Int)) (hr := (by first | omega | (simp only [decide_eq_true_eq, decide_eq_false_iff_not, Bool.or_eq_false_iff, Bool.and_eq_true, Bool.not_eq_true', Bool.not_eq_false'] at *; omega))) (hb := (by first | omega | (simp only [decide_eq_true_eq, decide_eq_false_iff_not, Bool.or_eq_false_iff, Bool.and_eq_true, Bool.not_eq_true', Bool.not_eq_false'] at *; omega))) (h := ?_)
      refine p_nilChk (h := ?_)
      refine p_goJ fun hf => ?_
      refine p_build (hi := F.ti25.h) (hpl := F.pl25.h) (h := ?_)
      refine p_storeAll F.ti25.h (h := ?_)
      refine p_end ?_
      refine TrC.ret ?_
      refine p_cellNil (g1 := g0 + 1) (d1 := 2) (i := 2) (el := 25) (h := ?_)
      refine p_retW1 (v := rxA (.mk 2 ⟨#[]⟩ [])) rfl (w_agg eV_ oB_ F.agg25.h F.ti25.h rfl) (hK0 _ _ _ (by first | (dsimp only; omega) | omega) (by (try dsimp only); repeat (first | exact hlow | exact LowQ.refl | refine LowQ.or_ ?_ (by assumption) | refine LowQ.up ?_ (by omega) | refine LowQ.at_ ?_ (by simp))) (⟨_, i + 1, _, op, dp, rfl, oB_, by omega, hlt, by rw [sz_one]; omega, hend⟩))
    · have n46 : ¬ bt s i = 46 := by simpa using hc115
      have ht46 : ¬ tkB s i 46 = true := by rw [tkB_nbt n46]; decide
      refine p_goJ ?_
      refine p_splitC (s := 126) (ht := fun hc126 => ?_) (hf := fun hc126 => ?_)
      · have e37_ : bt s i = 37 := by simpa using hc126
        have ht37 : tkB s i 37 = true := tkB_bt (by decide) e37_
        have hlt := tkB_lt ht37
        have hend : EndT (pAtom s (f + 1) i op dp) (fun a b => bl s a = bl s b) (.mk 3 ⟨#[]⟩ []) (i + 1) (-1) op op dp := .inl ⟨rfl, ⟨tkI s i 37, by rw [pAtom, if_neg hl, if_neg ht46, if_pos ht37], by show bl s (i + 1) = bl s (tkI s i 37); rw [tkI, if_pos ht37, bl_idem]⟩, rfl⟩
        refine p_goJ fun hf => ?_
        refine p_nilChk (h := ?_)
        refine p_goJ fun hf => ?_
        refine p_add (r := ((i + 1 : Nat) : Int)) (hr := (by first | omega | (simp only [decide_eq_true_eq, decide_eq_false_iff_not, Bool.or_eq_false_iff, Bool.and_eq_true, Bool.not_eq_true', Bool.not_eq_false'] at *; omega))) (hb := (by first | omega | (simp only [decide_eq_true_eq, decide_eq_false_iff_not, Bool.or_eq_false_iff, Bool.and_eq_true, Bool.not_eq_true', Bool.not_eq_false'] at *; omega))) (h := ?_)
        refine p_nilChk (h := ?_)
        refine p_goJ fun hf => ?_
        refine p_build (hi := F.ti25.h) (hpl := F.pl25.h) (h := ?_)
        refine p_storeAll F.ti25.h (h := ?_)
        refine p_end ?_
        refine TrC.ret ?_
        refine p_cellNil (g1 := g0 + 1) (d1 := 2) (i := 2) (el := 25) (h := ?_)
        refine p_retW1 (v := rxA (.mk 3 ⟨#[]⟩ [])) rfl (w_agg eV_ oB_ F.agg25.h F.ti25.h rfl) (hK0 _ _ _ (by first | (dsimp only; omega) | omega) (by (try dsimp only); repeat (first | exact hlow | exact LowQ.refl | refine LowQ.or_ ?_ (by assumption) | refine LowQ.up ?_ (by omega) | refine LowQ.at_ ?_ (by simp))) (⟨_, i + 1, _, op, dp, rfl, oB_, by omega, hlt, by rw [sz_one]; omega, hend⟩))
      · have n37 : ¬ bt s i = 37 := by simpa using hc126
        have ht37 : ¬ tkB s i 37 = true := by rw [tkB_nbt n37]; decide
        refine p_goJ ?_
        refine p_splitC (s := 137) (ht := fun hc137 => ?_) (hf := fun hc137 => ?_)
        · have e35_ : bt s i = 35 := by simpa using hc137
          have ht35 : tkB s i 35 = true := tkB_bt (by decide) e35_
          have hlt := tkB_lt ht35
          have hend : EndT (pAtom s (f + 1) i op dp) (fun a b => bl s a = bl s b) (.mk 4 ⟨#[]⟩ []) (i + 1) (-1) op op dp := .inl ⟨rfl, ⟨tkI s i 35, by rw [pAtom, if_neg hl, if_neg ht46, if_neg ht37, if_pos ht35], by show bl s (i + 1) = bl s (tkI s i 35); rw [tkI, if_pos ht35, bl_idem]⟩, rfl⟩
          refine p_goJ fun hf => ?_
          refine p_nilChk (h := ?_)
          refine p_goJ fun hf => ?_
          refine p_add (r := ((i + 1 : Nat) : Int)) (hr := (by first | omega | (simp only [decide_eq_true_eq, decide_eq_false_iff_not, Bool.or_eq_false_iff, Bool.and_eq_true, Bool.not_eq_true', Bool.not_eq_false'] at *; omega))) (hb := (by first | omega | (simp only [decide_eq_true_eq, decide_eq_false_iff_not, Bool.or_eq_false_iff, Bool.and_eq_true, Bool.not_eq_true', Bool.not_eq_false'] at *; omega))) (h := ?_)
          refine p_nilChk (h := ?_)
          refine p_goJ fun hf => ?_
          refine p_build (hi := F.ti25.h) (hpl := F.pl25.h) (h := ?_)
          refine p_storeAll F.ti25.h (h := ?_)
          refine p_end ?_
          refine TrC.ret ?_
          refine p_cellNil (g1 := g0 + 1) (d1 := 2) (i := 2) (el := 25) (h := ?_)
          refine p_retW1 (v := rxA (.mk 4 ⟨#[]⟩ [])) rfl (w_agg eV_ oB_ F.agg25.h F.ti25.h rfl) (hK0 _ _ _ (by first | (dsimp only; omega) | omega) (by (try dsimp only); repeat (first | exact hlow | exact LowQ.refl | refine LowQ.or_ ?_ (by assumption) | refine LowQ.up ?_ (by omega) | refine LowQ.at_ ?_ (by simp))) (⟨_, i + 1, _, op, dp, rfl, oB_, by omega, hlt, by rw [sz_one]; omega, hend⟩))
        · have n35 : ¬ bt s i = 35 := by simpa using hc137
          have ht35 : ¬ tkB s i 35 = true := by rw [tkB_nbt n35]; decide
          refine p_goJ ?_
          refine p_splitC (s := 148) (ht := fun hc148 => ?_) (hf := fun hc148 => ?_)
          · have e40_ : bt s i = 40 := by simpa using hc148
            have ht40 : tkB s i 40 = true := tkB_bt (by decide) e40_
            have hlt := tkB_lt ht40
            have hpe : pPar s f i op dp = pAtom s (f + 1) i op dp := by rw [pAtom, if_neg hl, if_neg ht46, if_neg ht37, if_neg ht35, if_pos ht40]; rfl
            refine p_goJ fun hf => ?_
            refine p_callX ([(g0 + 1, 2)]) (hf := hP ht40) (hg := by simp; omega) (hos := by simp <;> omega) (h := fun r o6 h6 hg6 hlw6 hos6 hR6 => ?_)
            obtain ⟨y1, k1, b1, p1, d1, rfl, hcl6, hik, hks, hsz1, hpost⟩ := hR6
            simp only [valsO, List.cons.injEq, and_true] at hos6
            have hlow : LowQ g0 [(q, 13)] ob0 o6 := LowQ.trans (by (try dsimp only); repeat (first | exact hlow | exact LowQ.refl | refine LowQ.or_ ?_ (by assumption) | refine LowQ.up ?_ (by omega) | refine LowQ.at_ ?_ (by simp))) hlw6 (by first | (dsimp only; omega) | omega) (fun k hk => .inl hk)
            have hE := (⟨hos6, hcl6⟩ : _ ∧ _)
            refine p_goJ ?_
            refine p_retW1 (v := rxA y1) rfl (w_agg eV_ oB_ F.agg25.h F.ti25.h rfl) (hK0 _ _ _ (by first | (dsimp only; omega) | omega) (by (try dsimp only); repeat (first | exact hlow | exact LowQ.refl | refine LowQ.or_ ?_ (by assumption) | refine LowQ.up ?_ (by omega) | refine LowQ.at_ ?_ (by simp))) (⟨_, k1, b1, p1, d1, rfl, oB_, hik, hks, hsz1, hpe ▸ hpost⟩))
          · have n40 : ¬ bt s i = 40 := by simpa using hc148
            have ht40 : ¬ tkB s i 40 = true := by rw [tkB_nbt n40]; decide
            have hend : EndT (pAtom s (f + 1) i op dp) (fun a b => bl s a = bl s b) (.mk 0 ⟨#[]⟩ []) i (if (-1 : Int) < 0 then (i : Int) else -1) op op dp := .inr ⟨i, if_pos (by decide), by rw [pAtom, if_neg hl, if_neg ht46, if_neg ht37, if_neg ht35, if_neg ht40]⟩
            refine p_goJ fun hf => ?_
            refine p_callX ([(g0 + 1, 2)]) (hf := failR q s i op (-1) dp hi (by omega)) (hg := by simp; omega) (hos := by simp <;> omega) (h := fun r o7 h7 hg7 hlw7 hos7 hR7 => ?_)
            obtain ⟨rfl, hcl7⟩ := hR7
            simp only [valsO, List.cons.injEq, and_true] at hos7
            have hlow : LowQ g0 [(q, 13)] ob0 o7 := LowQ.trans (by (try dsimp only); repeat (first | exact hlow | exact LowQ.refl | refine LowQ.or_ ?_ (by assumption) | refine LowQ.up ?_ (by omega) | refine LowQ.at_ ?_ (by simp))) hlw7 (by first | (dsimp only; omega) | omega) (fun k hk => .inl hk)
            have hE := (⟨hos7, hcl7⟩ : _ ∧ _)
            refine p_goJ fun hf => ?_
            refine p_build (hi := F.ti25.h) (hpl := F.pl25.h) (h := ?_)
            refine p_storeAll F.ti25.h (h := ?_)
            refine p_end ?_
            refine TrC.ret ?_
            refine p_cellNil (g1 := g0 + 1) (d1 := 2) (i := 2) (el := 25) (h := ?_)
            refine p_retW1 (v := rxA (.mk 0 ⟨#[]⟩ [])) rfl (w_agg eV_ oB_ F.agg25.h F.ti25.h rfl) (hK0 _ _ _ (by first | (dsimp only; omega) | omega) (by (try dsimp only); repeat (first | exact hlow | exact LowQ.refl | refine LowQ.or_ ?_ (by assumption) | refine LowQ.up ?_ (by omega) | refine LowQ.at_ ?_ (by simp))) (⟨_, i, _, op, dp, rfl, oB_, Nat.le_refl _, hi, by rw [sz_one]; omega, hend⟩))

end Go.Proofs.Ytjdhkopjigijfaa
