import Derived.Test.YtfpljljjjgicaaaGreatDoorSgh
/-
  Sorting places: pdqsort, SortFunc.
-/
set_option maxHeartbeats 4000000
set_option linter.unusedSimpArgs false
set_option linter.unusedVariables false
namespace Go.Proofs.YtfpljljjjgicaaaGreatDoor
open Go.RowKit
attribute [local irreducible] Wk Tr
theorem pdq1 (c : Pl → Pl → Int) (cf : FuncId) (cfn : Func) (ccode : Code) (hcf : HasBody Tryz.prog cf cfn ccode) (hcnt : ∀ x y, FnC Tryz.prog cf [plV x, plV y] (fun r => r = iV (c x y))) (hc : TotC c) (L : List Pl) (q : Nat) (a0 b0 lm0 : Nat) (hab0 : a0 ≤ b0) (hb0 : b0 ≤ L.length) (hl : L.length ≤ 17592186044416) (hlo0 : LeftOk c a0 b0 L) (hlm0 : lm0 ≤ 9223372036854775807) (ih : ∀ (L' : List Pl) (a' b' lm' : Nat), a' ≤ b' → b' ≤ L'.length → b' - a' < b0 - a0 → lm' ≤ 9223372036854775807 → L'.length ≤ 17592186044416 → LeftOk c a' b' L' → FnQ Tryz.prog 91 [.row q 900 L'.length, iV a', iV b', iV lm', .fn cf []] [(q, 900)] [.row 102 (L'.map plV)] (fun r us' => ∃ M, us' = [.row 102 (M.map plV)] ∧ Mix a' b' L' M ∧ SortedOn c a' b' M)) : FnQ Tryz.prog 91 [.row q 900 L.length, iV a0, iV b0, iV lm0, .fn cf []] [(q, 900)] [.row 102 (L.map plV)] (fun r us' => ∃ M, us' = [.row 102 (M.map plV)] ∧ Mix a0 b0 L M ∧ SortedOn c a0 b0 M) := by
  refine FnQ.of (fn := Tryz.f91) ⟨Tryz.func91, by kernel_rfl, rfl⟩ Tryz.ntmps91 (by simp) fun w0 S0 l ob0 g0 K hrow hgl hK0 => ?_
  simp only [valsO, List.cons.injEq, and_true] at hrow
  simp only [List.mem_cons, List.not_mem_nil, or_false, forall_eq_or_imp, forall_eq, forall_const] at hgl
  have hE := hrow
  refine p_goJ ?_
  refine p_loopK [0, 4] [] (fun st => ∃ (a b lm : Nat) (wb wp : Bool) (M : List Pl), (lm ≤ 9223372036854775807) ∧ (PdqI c a0 b0 a b L M) ∧ (LowQ g0 [(q, 900)] ob0 st.obj) ∧ (g0 ≤ st.gen) ∧ st.env 1 = iV a ∧ st.env 2 = iV b ∧ st.env 3 = iV lm ∧ st.env 10 = .bool wb ∧ st.env 11 = .bool wp ∧ st.obj q 900 = .row 102 (M.map plV)) (fun st => (st.env 2).toN - (st.env 1).toN) ?_ fun e ob g1 hK hO hI => ?_
  · exact ⟨a0, b0, lm0, true, true, L, hlm0, PdqI.start hab0 hlo0, (by (try dsimp only); repeat (first | exact hlow | exact LowQ.refl | refine LowQ.up ?_ (by omega) | refine LowQ.at_ ?_ (by simp))), (by first | (dsimp only; omega) | omega), eV_, eV_, eV_, eV_, eV_, oB_⟩
  · obtain ⟨a, b, lm, wb, wp, M, hlm2, hI, hlow, hgen, e1, e2, e3, e10, e11, o900⟩ := hI
    dsimp only at e1 e2 e3 e10 e11 o900
    simp only [valsE, List.cons.injEq, and_true] at hK
    have hE := (⟨hK, e1, e2, e3, e10, e11, o900⟩ : _ ∧ _ ∧ _ ∧ _ ∧ _ ∧ _ ∧ _)
    dsimp only at hlow hgen
    have hML := hI.mix.len
    have hab1 := hI.hab
    have hbb := hI.hb
    have haa := hI.ha
    have m1 := e1
    have m2 := e2
    refine p_goJ fun hf => ?_
    refine p_sub (r := (((b - a : Nat) : Int))) (hr := by omega) (hb := by omega) (h := ?_)
    refine p_goJ ?_
    refine p_seq ?_
    refine p_goJ ?_
    refine p_splitC (s := 25) (ht := fun hc25 => ?_) (hf := fun hc25 => ?_)
    · have hshort : b ≤ a + 12 := by have h := hc25; simp at h; omega
      refine p_goJ fun hf => ?_
      refine p_callQ ([]) (hf := by have h := insSort c cf cfn ccode hcf hcnt hc M q a b hI.hab (by omega) (by omega); rw [hML] at h; exact h) (hg := by simp; omega) (hos := by simp) (h := fun r o1 h1 hg1 hlw1 hos1 hR1 => ?_)
      obtain ⟨M1, hM1, hmx1, hs1⟩ := hR1
      have hlow : LowQ g0 [(q, 900)] ob0 o1 := LowQ.trans (by (try dsimp only); repeat (first | exact hlow | exact LowQ.refl | refine LowQ.up ?_ (by omega) | refine LowQ.at_ ?_ (by simp))) hlw1 (by first | (dsimp only; omega) | omega) (fun k hk => .inl hk)
      simp only [valsO, List.cons.injEq, and_true] at hos1 hM1
      have hE := (⟨hK, e1, e2, e3, e10, e11, hM1⟩ : _ ∧ _ ∧ _ ∧ _ ∧ _ ∧ _ ∧ _)
      refine p_goJ ?_
      refine p_retE0' rfl (hK0 _ _ _ (by first | (dsimp only; omega) | omega) (by (try dsimp only); repeat (first | exact hlow | exact LowQ.refl | refine LowQ.up ?_ (by omega) | refine LowQ.at_ ?_ (by simp))) (⟨M1, (by simp (decide := true) only [valsO, updO, upd, true_and, and_true, false_and, and_false, ↓reduceIte, hE] <;> rfl), hI.done hmx1 hs1⟩))
    · have hlong : a + 12 < b := by have h := hc25; simp at h; omega
      refine p_goJ ?_
      refine p_seq ?_
      refine p_goJ ?_
      refine p_splitC (s := 32) (ht := fun hc32 => ?_) (hf := fun hc32 => ?_)
      · refine p_goJ fun hf => ?_
        refine p_callQ ([]) (hf := by have h := heapSort c cf cfn ccode hcf hcnt hc M q a b hI.hab (by omega) (by omega) (by omega); rw [hML] at h; exact h) (hg := by simp; omega) (hos := by simp) (h := fun r o2 h2 hg2 hlw2 hos2 hR2 => ?_)
        obtain ⟨M2, hM2, hmx2, hs2⟩ := hR2
        have hlow : LowQ g0 [(q, 900)] ob0 o2 := LowQ.trans (by (try dsimp only); repeat (first | exact hlow | exact LowQ.refl | refine LowQ.up ?_ (by omega) | refine LowQ.at_ ?_ (by simp))) hlw2 (by first | (dsimp only; omega) | omega) (fun k hk => .inl hk)
        simp only [valsO, List.cons.injEq, and_true] at hos2 hM2
        have hE := (⟨hK, e1, e2, e3, e10, e11, hM2⟩ : _ ∧ _ ∧ _ ∧ _ ∧ _ ∧ _ ∧ _)
        refine p_goJ ?_
        refine p_retE0' rfl (hK0 _ _ _ (by first | (dsimp only; omega) | omega) (by (try dsimp only); repeat (first | exact hlow | exact LowQ.refl | refine LowQ.up ?_ (by omega) | refine LowQ.at_ ?_ (by simp))) (⟨M2, (by simp (decide := true) only [valsO, updO, upd, true_and, and_true, false_and, and_false, ↓reduceIte, hE] <;> rfl), hI.done hmx2 hs2⟩))
      · have hlm : lm ≠ 0 := by have h := hc32; simp at h; omega
        refine p_goJ ?_
        refine p_joinK [0, 1, 2, 4, 10, 11, 12] [] (fun st => ∃ (lm : Nat) (M : List Pl), (lm ≤ 9223372036854775807) ∧ (PdqI c a0 b0 a b L M) ∧ (LowQ g0 [(q, 900)] ob0 st.obj) ∧ (g0 ≤ st.gen) ∧ st.env 3 = iV lm ∧ st.obj q 900 = .row 102 (M.map plV)) ?_ fun e ob gS3 hK hO hI => ?_
        ·
          refine p_goJ ?_
          refine p_splitC (s := 39) (ht := fun hc39 => ?_) (hf := fun hc39 => ?_)
          · refine p_goJ fun hf => ?_
            refine p_callQ ([]) (hf := by have h := breakPat c cf cfn ccode hcf hcnt M q a b hI.hab (by omega) (by omega) (by omega); rw [hML] at h; exact h) (hg := by simp; omega) (hos := by simp) (h := fun r o3 h3 hg3 hlw3 hos3 hR3 => ?_)
            obtain ⟨M3, hM3, hmx3⟩ := hR3
            have hlow : LowQ g0 [(q, 900)] ob0 o3 := LowQ.trans (by (try dsimp only); repeat (first | exact hlow | exact LowQ.refl | refine LowQ.up ?_ (by omega) | refine LowQ.at_ ?_ (by simp))) hlw3 (by first | (dsimp only; omega) | omega) (fun k hk => .inl hk)
            simp only [valsO, List.cons.injEq, and_true] at hos3 hM3
            have hE := (⟨hK, e1, e2, e3, e10, e11, hM3⟩ : _ ∧ _ ∧ _ ∧ _ ∧ _ ∧ _ ∧ _)
            refine p_goJ fun hf => ?_
            refine p_sub (r := (((lm - 1 : Nat) : Int))) (hr := by omega) (hb := by omega) (h := ?_)
            refine p_goJ ?_
            refine p_some ?_
            refine ⟨⟨(by simp (decide := true) only [valsE, evE, upd, cv, args0, argsFrom, List.length_map, ↓reduceIte, hE] <;> rfl), (by simp (decide := true) only [valsO, updO, upd, true_and, and_true, false_and, and_false, ↓reduceIte, hE] <;> rfl)⟩, lm - 1, M3, by omega, hI.mixed hb0 hmx3, (by (try dsimp only); repeat (first | exact hlow | exact LowQ.refl | refine LowQ.up ?_ (by omega) | refine LowQ.at_ ?_ (by simp))), (by first | (dsimp only; omega) | omega), eV_, oB_⟩
          · refine p_goJ ?_
            refine p_some ?_
            refine ⟨⟨(by simp (decide := true) only [valsE, evE, upd, cv, args0, argsFrom, List.length_map, ↓reduceIte, hE] <;> rfl), (by simp (decide := true) only [valsO, updO, upd, true_and, and_true, false_and, and_false, ↓reduceIte, hE] <;> rfl)⟩, lm, M, hlm2, hI, (by (try dsimp only); repeat (first | exact hlow | exact LowQ.refl | refine LowQ.up ?_ (by omega) | refine LowQ.at_ ?_ (by simp))), (by first | (dsimp only; omega) | omega), eV_, oB_⟩
        · obtain ⟨lm, M, hlm2, hI, hlow, hgen, e3, o900⟩ := hI
          dsimp only at e3 o900
          simp only [valsE, List.cons.injEq, and_true] at hK
          have hE := (⟨hK, e3, o900⟩ : _ ∧ _ ∧ _)
          dsimp only at hlow hgen
          have hML := hI.mix.len
          have hab1 := hI.hab
          have hbb := hI.hb
          have haa := hI.ha
          refine p_goJ fun hf => ?_
          refine p_callQ ([]) (hf := by have h := choose c cf cfn ccode hcf hcnt M q a b hI.hab (by omega) (by omega) (by omega); rw [hML] at h; exact h) (hg := by simp; omega) (hos := by simp) (h := fun r o4 h4 hg4 hlw4 hos4 hR4 => ?_)
          obtain ⟨⟨p, hint, rfl, hp1, hp2⟩, hM4⟩ := hR4
          have hlow : LowQ g0 [(q, 900)] ob0 o4 := LowQ.trans (by (try dsimp only); repeat (first | exact hlow | exact LowQ.refl | refine LowQ.up ?_ (by omega) | refine LowQ.at_ ?_ (by simp))) hlw4 (by first | (dsimp only; omega) | omega) (fun k hk => .inl hk)
          simp only [valsO, List.cons.injEq, and_true] at hos4 hM4
          have hE := (⟨hK, e3, hM4⟩ : _ ∧ _ ∧ _)
          refine p_goJ ?_
          refine p_joinK [0, 1, 2, 3, 4, 10, 11, 12] [] (fun st => ∃ (p : Nat) (hint : Int) (M : List Pl), (a ≤ p) ∧ (p < b) ∧ (PdqI c a0 b0 a b L M) ∧ (LowQ g0 [(q, 900)] ob0 st.obj) ∧ (g0 ≤ st.gen) ∧ st.env 13 = iV p ∧ st.env 14 = iV hint ∧ st.obj q 900 = .row 102 (M.map plV)) ?_ fun e ob gS4 hK hO hI => ?_
          ·
            refine p_goJ ?_
            refine p_splitC (s := 56) (ht := fun hc56 => ?_) (hf := fun hc56 => ?_)
            · refine p_goJ fun hf => ?_
              refine p_callQ ([]) (hf := by have h := reverse c cf cfn ccode hcf hcnt M q a b hI.hab (by omega) (by omega) (by omega); rw [hML] at h; exact h) (hg := by simp; omega) (hos := by simp) (h := fun r o5 h5 hg5 hlw5 hos5 hR5 => ?_)
              obtain ⟨M5, hM5, hmx5⟩ := hR5
              have hlow : LowQ g0 [(q, 900)] ob0 o5 := LowQ.trans (by (try dsimp only); repeat (first | exact hlow | exact LowQ.refl | refine LowQ.up ?_ (by omega) | refine LowQ.at_ ?_ (by simp))) hlw5 (by first | (dsimp only; omega) | omega) (fun k hk => .inl hk)
              simp only [valsO, List.cons.injEq, and_true] at hos5 hM5
              have hE := (⟨hK, e3, hM5⟩ : _ ∧ _ ∧ _)
              refine p_goJ fun hf => ?_
              refine p_sub (r := (((b - 1 : Nat) : Int))) (hr := by omega) (hb := by omega) (h := ?_)
              refine p_goJ fun hf => ?_
              refine p_sub (r := (((p - a : Nat) : Int))) (hr := by omega) (hb := by omega) (h := ?_)
              refine p_sub (r := (((b - 1 - (p - a) : Nat) : Int))) (hr := by omega) (hb := by omega) (h := ?_)
              refine p_goJ ?_
              refine p_some ?_
              refine ⟨⟨(by simp (decide := true) only [valsE, evE, upd, cv, args0, argsFrom, List.length_map, ↓reduceIte, hE] <;> rfl), (by simp (decide := true) only [valsO, updO, upd, true_and, and_true, false_and, and_false, ↓reduceIte, hE] <;> rfl)⟩, b - 1 - (p - a), 1, M5, by omega, by omega, hI.mixed hb0 hmx5, (by (try dsimp only); repeat (first | exact hlow | exact LowQ.refl | refine LowQ.up ?_ (by omega) | refine LowQ.at_ ?_ (by simp))), (by first | (dsimp only; omega) | omega), eV_, eV_, oB_⟩
            · refine p_goJ ?_
              refine p_some ?_
              refine ⟨⟨(by simp (decide := true) only [valsE, evE, upd, cv, args0, argsFrom, List.length_map, ↓reduceIte, hE] <;> rfl), (by simp (decide := true) only [valsO, updO, upd, true_and, and_true, false_and, and_false, ↓reduceIte, hE] <;> rfl)⟩, p, hint, M, hp1, hp2, hI, (by (try dsimp only); repeat (first | exact hlow | exact LowQ.refl | refine LowQ.up ?_ (by omega) | refine LowQ.at_ ?_ (by simp))), (by first | (dsimp only; omega) | omega), eV_, eV_, oB_⟩
          · obtain ⟨p, hint, M, hp1, hp2, hI, hlow, hgen, e13, e14, o900⟩ := hI
            dsimp only at e13 e14 o900
            simp only [valsE, List.cons.injEq, and_true] at hK
            have hE := (⟨hK, e13, e14, o900⟩ : _ ∧ _ ∧ _ ∧ _)
            dsimp only at hlow hgen
            have hML := hI.mix.len
            have hab1 := hI.hab
            have hbb := hI.hb
            have haa := hI.ha
            refine p_joinK [0, 1, 2, 3, 4, 10, 11, 12, 13] [] (fun st => ∃ (M : List Pl), (PdqI c a0 b0 a b L M) ∧ (LowQ g0 [(q, 900)] ob0 st.obj) ∧ (g0 ≤ st.gen) ∧ st.obj q 900 = .row 102 (M.map plV)) ?_ fun e ob gS5 hK hO hI => ?_
            ·
              refine p_goJ ?_
              refine p_splitC (s := 75) (ht := fun hc75 => ?_) (hf := fun hc75 => ?_)
              · refine p_goJ fun hf => ?_
                refine p_callQ ([]) (hf := by have h := partIns c cf cfn ccode hcf hcnt hc M q a b hI.hab (by omega) (by omega) (by omega) hI.left; rw [hML] at h; exact h) (hg := by simp; omega) (hos := by simp) (h := fun r o6 h6 hg6 hlw6 hos6 hR6 => ?_)
                obtain ⟨w6, M6, rfl, hM6, hmx6, hs6⟩ := hR6
                have hlow : LowQ g0 [(q, 900)] ob0 o6 := LowQ.trans (by (try dsimp only); repeat (first | exact hlow | exact LowQ.refl | refine LowQ.up ?_ (by omega) | refine LowQ.at_ ?_ (by simp))) hlw6 (by first | (dsimp only; omega) | omega) (fun k hk => .inl hk)
                simp only [valsO, List.cons.injEq, and_true] at hos6 hM6
                have hE := (⟨hK, e13, e14, hM6⟩ : _ ∧ _ ∧ _ ∧ _)
                refine p_goJ ?_
                refine p_splitC (s := 80) (ht := fun hc80 => ?_) (hf := fun hc80 => ?_)
                · have hsd := hs6 hc80
                  refine p_goJ ?_
                  refine p_retE0' rfl (hK0 _ _ _ (by first | (dsimp only; omega) | omega) (by (try dsimp only); repeat (first | exact hlow | exact LowQ.refl | refine LowQ.up ?_ (by omega) | refine LowQ.at_ ?_ (by simp))) (⟨M6, (by simp (decide := true) only [valsO, updO, upd, true_and, and_true, false_and, and_false, ↓reduceIte, hE] <;> rfl), hI.done hmx6 hsd⟩))
                · refine p_goJ ?_
                  refine p_some ?_
                  refine ⟨⟨(by simp (decide := true) only [valsE, evE, upd, cv, args0, argsFrom, List.length_map, ↓reduceIte, hE] <;> rfl), (by simp (decide := true) only [valsO, updO, upd, true_and, and_true, false_and, and_false, ↓reduceIte, hE] <;> rfl)⟩, M6, hI.mixed hb0 hmx6, (by (try dsimp only); repeat (first | exact hlow | exact LowQ.refl | refine LowQ.up ?_ (by omega) | refine LowQ.at_ ?_ (by simp))), (by first | (dsimp only; omega) | omega), oB_⟩
              · refine p_goJ ?_
                refine p_some ?_
                refine ⟨⟨(by simp (decide := true) only [valsE, evE, upd, cv, args0, argsFrom, List.length_map, ↓reduceIte, hE] <;> rfl), (by simp (decide := true) only [valsO, updO, upd, true_and, and_true, false_and, and_false, ↓reduceIte, hE] <;> rfl)⟩, M, hI, (by (try dsimp only); repeat (first | exact hlow | exact LowQ.refl | refine LowQ.up ?_ (by omega) | refine LowQ.at_ ?_ (by simp))), (by first | (dsimp only; omega) | omega), oB_⟩
            · obtain ⟨M, hI, hlow, hgen, o900⟩ := hI
              dsimp only at o900
              simp only [valsE, List.cons.injEq, and_true] at hK
              have hE := (⟨hK, o900⟩ : _ ∧ _)
              dsimp only at hlow hgen
              have hML := hI.mix.len
              have hab1 := hI.hab
              have hbb := hI.hb
              have haa := hI.ha
              refine p_joinK [0, 2, 3, 4, 12, 13] [(q, 900)] (fun st => (LowQ g0 [(q, 900)] ob0 st.obj) ∧ (g0 ≤ st.gen) ∧ st.env 1 = iV a) ?_ fun e ob gS6 hK hO hI => ?_
              ·
                refine p_goJ fun hf => ?_
                refine p_split (s := 83) (ht := fun hb83 => ?_) (hf := fun hb83 => ?_)
                · have ha0 : 0 < a := by have h := hb83; simp at h; omega
                  refine p_goJ fun hf => ?_
                  refine p_sub (r := (((a - 1 : Nat) : Int))) (hr := by omega) (hb := by omega) (h := ?_)
                  refine p_goJ fun hf => ?_
                  refine p_idxRowN (a - 1) (ht := Tryz.underlying100) (hi := F.ti102.h) (hij := by omega) (hlt := by (try simp only [List.length_set]); omega) (h := ?_)
                  refine p_goJ fun hf => ?_
                  refine p_loadRowAM (ht := F.agg102.h) (hi := F.ti102.h) (hj := by (try simp only [List.length_set]); omega) (h := ?_)
                  refine p_goJ fun hf => ?_
                  refine p_idxRowN (p) (ht := Tryz.underlying100) (hi := F.ti102.h) (hij := by omega) (hlt := by (try simp only [List.length_set]); omega) (h := ?_)
                  refine p_goJ fun hf => ?_
                  refine p_loadRowAM (ht := F.agg102.h) (hi := F.ti102.h) (hj := by (try simp only [List.length_set]); omega) (h := ?_)
                  refine p_goJ fun hf => ?_
                  refine p_call (hb := hcf) (hf := hcnt (M[a - 1]) (M[p])) (h := ?_)
                  refine p_goJ ?_
                  refine p_splitC (s := 97) (ht := fun hc97 => ?_) (hf := fun hc97 => ?_)
                  · have hmin : ¬ c (el M (a - 1)) (el M (p)) < 0 := by
                      rw [el_at (L := M) (i := a - 1) (by omega), el_at (L := M) (i := p) (by omega)]; simpa using hc97
                    refine p_goJ fun hf => ?_
                    refine p_callQ ([]) (hf := by have h := partEq c cf cfn ccode hcf hcnt hc M q a b p hp1 hp2 (by omega) (by omega); rw [hML] at h; exact h) (hg := by simp; omega) (hos := by simp) (h := fun r o8 h8 hg8 hlw8 hos8 hR8 => ?_)
                    obtain ⟨m, M8, rfl, hM8, hP8⟩ := hR8
                    have hlow : LowQ g0 [(q, 900)] ob0 o8 := LowQ.trans (by (try dsimp only); repeat (first | exact hlow | exact LowQ.refl | refine LowQ.up ?_ (by omega) | refine LowQ.at_ ?_ (by simp))) hlw8 (by first | (dsimp only; omega) | omega) (fun k hk => .inl hk)
                    simp only [valsO, List.cons.injEq, and_true] at hos8 hM8
                    have hE := (⟨hK, hM8⟩ : _ ∧ _)
                    refine p_goJ ?_
                    refine p_some ?_
                    have hm1 := hP8.hl
                    have hm2 := hP8.hr
                    refine ⟨⟨(by simp (decide := true) only [valsE, evE, upd, cv, args0, argsFrom, List.length_map, ↓reduceIte, hE] <;> rfl), (by simp (decide := true) only [valsO, updO, upd, true_and, and_true, false_and, and_false, ↓reduceIte, hE] <;> rfl)⟩, ⟨m, b, lm, wb, wp, M8, hlm2, hI.equal hc hb0 ⟨hp1, hp2⟩ ha0 hmin hP8, (by (try dsimp only); repeat (first | exact hlow | exact LowQ.refl | refine LowQ.up ?_ (by omega) | refine LowQ.at_ ?_ (by simp))), (by first | (dsimp only; omega) | omega), eV_, eV_, eV_, eV_, eV_, oB_⟩, ?_⟩
                    simp (decide := true) only [upd, e2, e1, V.toN, ↓reduceIte]; (try simp only [m1, m2, V.toN]); (try simp only [hK, V.toN]); omega
                  · refine p_goJ ?_
                    refine p_some ?_
                    refine ⟨⟨(by simp (decide := true) only [valsE, evE, upd, cv, args0, argsFrom, List.length_map, ↓reduceIte, hE] <;> rfl), (by simp (decide := true) only [valsO, updO, upd, true_and, and_true, false_and, and_false, ↓reduceIte, hE] <;> rfl)⟩, (by (try dsimp only); repeat (first | exact hlow | exact LowQ.refl | refine LowQ.up ?_ (by omega) | refine LowQ.at_ ?_ (by simp))), (by first | (dsimp only; omega) | omega), eV_⟩
                · -- slot 83 is false
                  refine p_goJ ?_
                  refine p_some ?_
                  refine ⟨⟨(by simp (decide := true) only [valsE, evE, upd, cv, args0, argsFrom, List.length_map, ↓reduceIte, hE] <;> rfl), (by simp (decide := true) only [valsO, updO, upd, true_and, and_true, false_and, and_false, ↓reduceIte, hE] <;> rfl)⟩, (by (try dsimp only); repeat (first | exact hlow | exact LowQ.refl | refine LowQ.up ?_ (by omega) | refine LowQ.at_ ?_ (by simp))), (by first | (dsimp only; omega) | omega), eV_⟩
              · obtain ⟨hlow, hgen, e1⟩ := hI
                dsimp only at e1
                simp only [valsE, List.cons.injEq, and_true] at hK
                simp only [valsO, List.cons.injEq, and_true] at hO
                have hE := (⟨hK, hO, e1⟩ : _ ∧ _ ∧ _)
                dsimp only at hlow hgen
                refine p_goJ fun hf => ?_
                refine p_callQ ([]) (hf := by have h := parts c cf cfn ccode hcf hcnt M q a b p hp1 hp2 (by omega) (by omega); rw [hML] at h; exact h) (hg := by simp; omega) (hos := by simp) (h := fun r o7 h7 hg7 hlw7 hos7 hR7 => ?_)
                obtain ⟨m, w, M7, rfl, hM7, hP7⟩ := hR7
                have hlow : LowQ g0 [(q, 900)] ob0 o7 := LowQ.trans (by (try dsimp only); repeat (first | exact hlow | exact LowQ.refl | refine LowQ.up ?_ (by omega) | refine LowQ.at_ ?_ (by simp))) hlw7 (by first | (dsimp only; omega) | omega) (fun k hk => .inl hk)
                simp only [valsO, List.cons.injEq, and_true] at hos7 hM7
                have hE := (⟨hK, e1, hM7⟩ : _ ∧ _ ∧ _)
                have hm1 := hP7.hl
                have hm2 := hP7.hr
                have hML7 : M7.length = L.length := hP7.mix.len.trans hML
                refine p_goJ fun hf => ?_
                refine p_sub (r := (((m - a : Nat) : Int))) (hr := by omega) (hb := by omega) (h := ?_)
                refine p_goJ fun hf => ?_
                refine p_sub (r := (((b - m : Nat) : Int))) (hr := by omega) (hb := by omega) (h := ?_)
                refine p_goJ fun hf => ?_
                refine p_quo (r := ((((b - a) / 8 : Nat) : Int))) (by decide) eV_ eV_ (by omega) (by omega) ?_
                refine p_goJ ?_
                refine p_splitC (s := 125) (ht := fun hc125 => ?_) (hf := fun hc125 => ?_)
                · refine p_goJ fun hf => ?_
                  refine p_callQ ([]) (hf := by have h := ih M7 (a) (m) lm (by omega) (by omega) (by omega) hlm2 (by omega) (hP7.leftL hI.left (by omega)); rw [hML7] at h; exact h) (hg := by simp; omega) (hos := by simp) (h := fun r o9 h9 hg9 hlw9 hos9 hR9 => ?_)
                  obtain ⟨M9, hM9, hmx9, hs9⟩ := hR9
                  have hlow : LowQ g0 [(q, 900)] ob0 o9 := LowQ.trans (by (try dsimp only); repeat (first | exact hlow | exact LowQ.refl | refine LowQ.up ?_ (by omega) | refine LowQ.at_ ?_ (by simp))) hlw9 (by first | (dsimp only; omega) | omega) (fun k hk => .inl hk)
                  simp only [valsO, List.cons.injEq, and_true] at hos9 hM9
                  have hE := (⟨hK, e1, hM9⟩ : _ ∧ _ ∧ _)
                  refine p_goJ fun hf => ?_
                  refine p_add (r := ((m + 1 : Nat) : Int)) (hr := (by first | omega | (simp only [decide_eq_true_eq, decide_eq_false_iff_not, Bool.or_eq_false_iff, Bool.and_eq_true, Bool.not_eq_true', Bool.not_eq_false'] at *; omega))) (hb := (by first | omega | (simp only [decide_eq_true_eq, decide_eq_false_iff_not, Bool.or_eq_false_iff, Bool.and_eq_true, Bool.not_eq_true', Bool.not_eq_false'] at *; omega))) (h := ?_)
                  refine p_goJ ?_
                  refine p_some ?_
                  refine ⟨⟨(by simp (decide := true) only [valsE, evE, upd, cv, args0, argsFrom, List.length_map, ↓reduceIte, hE] <;> rfl), (by simp (decide := true) only [valsO, updO, upd, true_and, and_true, false_and, and_false, ↓reduceIte, hE] <;> rfl)⟩, ⟨m + 1, b, lm, _, w, M9, hlm2, hI.partL hc hb0 hP7 hmx9 hs9, (by (try dsimp only); repeat (first | exact hlow | exact LowQ.refl | refine LowQ.up ?_ (by omega) | refine LowQ.at_ ?_ (by simp))), (by first | (dsimp only; omega) | omega), eV_, eV_, eV_, eV_, eV_, oB_⟩, ?_⟩
                  simp (decide := true) only [upd, e2, e1, V.toN, ↓reduceIte]; (try simp only [m1, m2, V.toN]); (try simp only [hK, V.toN]); omega
                · refine p_goJ fun hf => ?_
                  refine p_add (r := ((m + 1 : Nat) : Int)) (hr := (by first | omega | (simp only [decide_eq_true_eq, decide_eq_false_iff_not, Bool.or_eq_false_iff, Bool.and_eq_true, Bool.not_eq_true', Bool.not_eq_false'] at *; omega))) (hb := (by first | omega | (simp only [decide_eq_true_eq, decide_eq_false_iff_not, Bool.or_eq_false_iff, Bool.and_eq_true, Bool.not_eq_true', Bool.not_eq_false'] at *; omega))) (h := ?_)
                  refine p_goJ fun hf => ?_
                  refine p_callQ ([]) (hf := by have h := ih M7 (m + 1) (b) lm (by omega) (by omega) (by omega) hlm2 (by omega) (hP7.leftR hc hI.left (by omega)); rw [hML7] at h; exact h) (hg := by simp; omega) (hos := by simp) (h := fun r o10 h10 hg10 hlw10 hos10 hR10 => ?_)
                  obtain ⟨M10, hM10, hmx10, hs10⟩ := hR10
                  have hlow : LowQ g0 [(q, 900)] ob0 o10 := LowQ.trans (by (try dsimp only); repeat (first | exact hlow | exact LowQ.refl | refine LowQ.up ?_ (by omega) | refine LowQ.at_ ?_ (by simp))) hlw10 (by first | (dsimp only; omega) | omega) (fun k hk => .inl hk)
                  simp only [valsO, List.cons.injEq, and_true] at hos10 hM10
                  have hE := (⟨hK, e1, hM10⟩ : _ ∧ _ ∧ _)
                  refine p_goJ ?_
                  refine p_some ?_
                  refine ⟨⟨(by simp (decide := true) only [valsE, evE, upd, cv, args0, argsFrom, List.length_map, ↓reduceIte, hE] <;> rfl), (by simp (decide := true) only [valsO, updO, upd, true_and, and_true, false_and, and_false, ↓reduceIte, hE] <;> rfl)⟩, ⟨a, m, lm, _, w, M10, hlm2, hI.partR hc hb0 hP7 hmx10 hs10, (by (try dsimp only); repeat (first | exact hlow | exact LowQ.refl | refine LowQ.up ?_ (by omega) | refine LowQ.at_ ?_ (by simp))), (by first | (dsimp only; omega) | omega), eV_, eV_, eV_, eV_, eV_, oB_⟩, ?_⟩
                  simp (decide := true) only [upd, e2, e1, V.toN, ↓reduceIte]; (try simp only [m1, m2, V.toN]); (try simp only [hK, V.toN]); omega
theorem pdq (c : Pl → Pl → Int) (cf : FuncId) (cfn : Func) (ccode : Code) (hcf : HasBody Tryz.prog cf cfn ccode) (hcnt : ∀ x y, FnC Tryz.prog cf [plV x, plV y] (fun r => r = iV (c x y))) (hc : TotC c) (q : Nat) : ∀ (n : Nat) (L : List Pl) (a b lm : Nat), b - a ≤ n → a ≤ b → b ≤ L.length → lm ≤ 9223372036854775807 → L.length ≤ 17592186044416 → LeftOk c a b L → FnQ Tryz.prog 91 [.row q 900 L.length, iV a, iV b, iV lm, .fn cf []] [(q, 900)] [.row 102 (L.map plV)] (fun r us' => ∃ M, us' = [.row 102 (M.map plV)] ∧ Mix a b L M ∧ SortedOn c a b M)
  | 0, L, a, b, lm, hn, hab, hb, hlm, hl, hlo => pdq1 c cf cfn ccode hcf hcnt hc L q a b lm hab hb hl hlo hlm fun _ _ _ _ _ _ h => by omega
  | n + 1, L, a, b, lm, hn, hab, hb, hlm, hl, hlo => pdq1 c cf cfn ccode hcf hcnt hc L q a b lm hab hb hl hlo hlm fun L' a' b' lm' h1 h2 h3 h4 h5 h6 => pdq c cf cfn ccode hcf hcnt hc q n L' a' b' lm' (by omega) h1 h2 h4 h5 h6
theorem sortF (c : Pl → Pl → Int) (cf : FuncId) (cfn : Func) (ccode : Code) (hcf : HasBody Tryz.prog cf cfn ccode) (hcnt : ∀ x y, FnC Tryz.prog cf [plV x, plV y] (fun r => r = iV (c x y))) (hc : TotC c) (L : List Pl) (q : Nat) (hl : L.length ≤ 17592186044416) : FnQ Tryz.prog 62 [.row q 900 L.length, .fn cf []] [(q, 900)] [.row 102 (L.map plV)] (fun r us' => ∃ M : List Pl, us' = [.row 102 (M.map plV)] ∧ M.Perm L ∧ M.Pairwise (fun x y => ¬ c y x < 0)) := by
  refine FnQ.of (fn := Tryz.f62) ⟨Tryz.func62, by kernel_rfl, rfl⟩ Tryz.ntmps62 (by simp) fun w0 S0 l ob0 g0 K hrow hgl hK0 => ?_
  simp only [valsO, List.cons.injEq, and_true] at hrow
  simp only [List.mem_cons, List.not_mem_nil, or_false, forall_eq_or_imp, forall_eq, forall_const] at hgl
  have hE := hrow
  refine p_go fun hf => ?_
  refine p_conv (hs := Tryz.underlying3) (ht := Tryz.underlying123) (h := ?_)
  rw [wrapZ (by omega)]
  refine p_call (hx := rfl) (hb := ⟨Tryz.func92, by kernel_rfl, rfl⟩) (hf := lenU L.length (by omega)) (h := ?_)
  refine p_go fun hf => ?_
  refine p_callQ ([]) (hf := pdq c cf cfn ccode hcf hcnt hc q L.length L 0 L.length (lenN L.length) (by omega) (by omega) (by omega) (by have := lenN_lt (n := L.length) (m := 64) (by omega); omega) hl (fun i j h1 h2 h3 => by omega)) (hg := by simp; omega) (hos := by simp) (h := fun r o1 h1 hg1 hlw1 hos1 hR1 => ?_)
  obtain ⟨M, hM, hmx, hs⟩ := hR1
  have hlow : LowQ g0 [(q, 900)] ob0 o1 := LowQ.trans (by (try dsimp only); repeat (first | exact hlow | exact LowQ.refl | refine LowQ.up ?_ (by omega) | refine LowQ.at_ ?_ (by simp))) hlw1 (by first | (dsimp only; omega) | omega) (fun k hk => .inl hk)
  simp only [valsO, List.cons.injEq, and_true] at hos1 hM
  have hE := hM
  refine p_go ?_
  refine p_retE0 rfl (hK0 _ _ _ (by first | (dsimp only; omega) | omega) (by (try dsimp only); repeat (first | exact hlow | exact LowQ.refl | refine LowQ.up ?_ (by omega) | refine LowQ.at_ ?_ (by simp))) (⟨M, (by simp (decide := true) only [valsO, updO, upd, true_and, and_true, false_and, and_false, ↓reduceIte, hE] <;> rfl), hmx.perm, by have := hmx.len; rw [← this] at hs; exact hs.pairwise⟩))
end Go.Proofs.YtfpljljjjgicaaaGreatDoor
/-
  The order of places: cmp.Compare, cmp.Or, Canon's comparison.
-/
set_option maxHeartbeats 4000000
set_option linter.unusedSimpArgs false
set_option linter.unusedVariables false
namespace Go.Proofs.YtfpljljjjgicaaaGreatDoor
open Go.RowKit
attribute [local irreducible] Wk Tr
def cmpI (x y : Int) : Int := if x < y then -1 else if y < x then 1 else 0
def orL : List Int → Int
  | [] => 0
  | x :: l => if x ≠ 0 then x else orL l
def cmpP (x y : Pl) : Int := orL [cmpI x.frm y.frm, cmpI x.sym y.sym, cmpI x.to y.to]
theorem cmpP_lt (x y : Pl) : cmpP x y < 0 ↔ x.frm < y.frm ∨ x.frm = y.frm ∧ (x.sym < y.sym ∨ x.sym = y.sym ∧ x.to < y.to) := by
  simp only [cmpP, orL, cmpI]
  repeat' split
  all_goals simp_all
  all_goals omega
theorem cmpP_tot : TotC cmpP where
  asy x y h1 h2 := by rw [cmpP_lt] at h1 h2; omega
  tr x y z h1 h2 h3 := by rw [cmpP_lt] at h1 h2 h3; omega
  tot x y h1 h2 := by
    rw [cmpP_lt] at h1 h2
    obtain ⟨a, b, c⟩ := x
    obtain ⟨a', b', c'⟩ := y
    simp only [Pl.mk.injEq]
    dsimp only at h1 h2
    omega
theorem orL_drop {l : List Int} {i : Nat} (h : i < l.length) (h0 : l[i] = 0) (he : orL l = orL (l.drop i)) : orL l = orL (l.drop (i + 1)) := by
  rw [he, List.drop_eq_getElem_cons h, orL, if_neg (by simp [h0])]
theorem orL_at {l : List Int} {i : Nat} (h : i < l.length) (h0 : l[i] ≠ 0) (he : orL l = orL (l.drop i)) : orL l = l[i] := by
  rw [he, List.drop_eq_getElem_cons h, orL, if_pos h0]
theorem isNaNC (x : Int) : FnC Tryz.prog 93 [iV x] (fun r => r = .bool false) := by
  refine FnC.of (fn := Tryz.f93) ⟨Tryz.func93, by kernel_rfl, rfl⟩ Tryz.ntmps93 (by simp) fun w0 S0 => ?_
  refine p_go ?_
  refine p_ret1 (hp := by simp)
theorem compareC (x y : Int) : FnC Tryz.prog 65 [iV x, iV y] (fun r => r = iV (cmpI x y)) := by
  refine FnC.of (fn := Tryz.f65) ⟨Tryz.func65, by kernel_rfl, rfl⟩ Tryz.ntmps65 (by simp) fun w0 S0 => ?_
  refine p_go fun hf => ?_
  refine p_call (hx := rfl) (hb := ⟨Tryz.func93, by kernel_rfl, rfl⟩) (hf := isNaNC x) (h := ?_)
  refine p_go fun hf => ?_
  refine p_call (hx := rfl) (hb := ⟨Tryz.func93, by kernel_rfl, rfl⟩) (hf := isNaNC y) (h := ?_)
  refine p_go ?_
  refine p_isC (s := 11) (b := false) (hc := by rfl) (h := ?_)
  refine p_go ?_
  refine p_isC (s := 13) (b := false) (hc := by rfl) (h := ?_)
  refine p_go ?_
  refine p_splitC (s := 16) (ht := fun hc16 => ?_) (hf := fun hc16 => ?_)
  · refine p_go ?_
    refine p_ret1 (hp := by rw [cmpI, if_pos (by simpa using hc16)])
  · refine p_go ?_
    refine p_splitC (s := 19) (ht := fun hc19 => ?_) (hf := fun hc19 => ?_)
    · refine p_go ?_
      refine p_ret1 (hp := by rw [cmpI, if_neg (by simpa using hc16), if_pos (by simpa using hc19)])
    · refine p_go ?_
      refine p_ret1 (hp := by rw [cmpI, if_neg (by simpa using hc16), if_neg (by simpa using hc19)])
theorem orC (l : List Int) (hl : l.length ≤ 17592186044416) : FnC Tryz.prog 64 [.sl 3 (l.map iV)] (fun r => r = iV (orL l)) := by
  refine FnC.of (fn := Tryz.f64) ⟨Tryz.func64, by kernel_rfl, rfl⟩ Tryz.ntmps64 (by simp) fun w0 S0 => ?_
  refine p_go ?_
  refine p_loopK [3, 6, 7] [] (fun st => ∃ i : Nat, (i ≤ l.length) ∧ (orL l = orL (l.drop i)) ∧ st.env 8 = iV i) (fun st => l.length - (st.env 8).toN) ?_ fun e ob g1 hK hO hI => ?_
  · exact ⟨0, by omega, rfl, eV_⟩
  · obtain ⟨i, hi, he, e8⟩ := hI
    dsimp only at e8
    simp only [valsE, List.cons.injEq, and_true] at hK
    have hE := (⟨hK, e8⟩ : _ ∧ _)
    refine p_go ?_
    refine p_splitC (s := 9) (ht := fun hc9 => ?_) (hf := fun hc9 => ?_)
    · have hlt : i < l.length := by simpa using hc9
      refine p_go fun hf => ?_
      refine p_idxMap (j := i) (ht := Tryz.underlying26) (hi := F.ti3.h) (hij := rfl) (hj := hlt) (h := ?_)
      refine p_go ?_
      refine p_splitC (s := 14) (ht := fun hc14 => ?_) (hf := fun hc14 => ?_)
      · refine p_go ?_
        refine p_ret1 (hp := by rw [orL_at hlt (by simpa using hc14) he])
      · refine p_go fun hf => ?_
        refine p_add (r := ((i + 1 : Nat) : Int)) (hr := (by first | omega | (simp only [decide_eq_true_eq, decide_eq_false_iff_not, Bool.or_eq_false_iff, Bool.and_eq_true, Bool.not_eq_true', Bool.not_eq_false'] at *; omega))) (hb := (by first | omega | (simp only [decide_eq_true_eq, decide_eq_false_iff_not, Bool.or_eq_false_iff, Bool.and_eq_true, Bool.not_eq_true', Bool.not_eq_false'] at *; omega))) (h := ?_)
        refine p_go ?_
        refine p_some ?_
        refine ⟨⟨(by simp (decide := true) only [valsE, evE, upd, cv, args0, argsFrom, List.length_map, ↓reduceIte, hE] <;> rfl), (by simp (decide := true) only [valsO, updO, upd, true_and, and_true, false_and, and_false, ↓reduceIte, hE] <;> rfl)⟩, ⟨i + 1, hlt, orL_drop hlt (by simpa using hc14) he, eV_⟩, ?_⟩
        simp (decide := true) only [upd, e8, V.toN, ↓reduceIte]; omega
    · have hge : l.length ≤ i := by simpa using hc9
      refine p_go ?_
      refine p_ret1 (hp := by rw [he, List.drop_eq_nil_of_le hge]; rfl)
theorem canon1 (x y : Pl) : FnC Tryz.prog 63 [plV x, plV y] (fun r => r = iV (cmpP x y)) := by
  refine FnC.of (fn := Tryz.f63) ⟨Tryz.func63, by kernel_rfl, rfl⟩ Tryz.ntmps63 (by simp) fun w0 S0 => ?_
  refine p_go fun hf => ?_
  refine p_call (hx := rfl) (hb := ⟨Tryz.func65, by kernel_rfl, rfl⟩) (hf := compareC x.frm y.frm) (h := ?_)
  refine p_go fun hf => ?_
  refine p_call (hx := rfl) (hb := ⟨Tryz.func65, by kernel_rfl, rfl⟩) (hf := compareC x.sym y.sym) (h := ?_)
  refine p_go fun hf => ?_
  refine p_call (hx := rfl) (hb := ⟨Tryz.func65, by kernel_rfl, rfl⟩) (hf := compareC x.to y.to) (h := ?_)
  refine p_buildSlice (ht := Tryz.underlying26) (hi := F.ti3.h) (h := ?_)
  refine p_callRow (vs := [.sl 3 ([cmpI x.frm y.frm, cmpI x.sym y.sym, cmpI x.to y.to].map iV)]) (0 + 1 + 1) 20 (hb := ⟨Tryz.func64, by kernel_rfl, rfl⟩) (hvs := by simp [V.frz]) (hf := orC [cmpI x.frm y.frm, cmpI x.sym y.sym, cmpI x.to y.to] (by simp)) (h := ?_)
  refine p_go ?_
  refine p_ret1 (hp := by rfl)
end Go.Proofs.YtfpljljjjgicaaaGreatDoor
