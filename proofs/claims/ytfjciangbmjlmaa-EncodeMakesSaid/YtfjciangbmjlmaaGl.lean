/-
  alive and EncodeBack, walked: EncodeBack answers true for every graph, node and sites.
-/
import Derived.Test.YtfjciangbmjlmaaGk
import Derived.Test.YtfjciangbmjlmaaL
set_option linter.unusedSimpArgs false
set_option linter.unusedVariables false
namespace Go.Proofs.Ytfjciangbmjlmaa
open Go.RowKit
def knownRules : List V := [ruleV 0 (.sl 3 [iV 3, iV 2]), ruleV 2 (.sl 3 [iV 1]), ruleV 3 (.sl 3 [iV 4]), ruleV 1 .nil, ruleV 4 .nil]
theorem pds_known : pdsR knownG = .tup [.agg [iV 1, iV 0, .nil, iV 1, iV 5, .sl 92 knownRules], iV 0] := by kernel_rfl
theorem conf_known : confR knownG 3 [0] = (⟨0, [3, 2]⟩, 0) := by kernel_rfl
theorem pds_k : FnC Try.prog 9 [graphV knownG, iV 1] (fun r => r = .tup [.agg [iV 1, iV 0, .nil, iV 1, iV 5, .sl 92 knownRules], iV 0]) := by
  have := pds1 knownG (by decide) (by decide) (by decide) (by decide)
  rwa [pds_known] at this
theorem conf_k : FnC Try.prog 10 [graphV knownG, iV 3, .sl 3 [iV 0]] (fun r => r = .tup [.agg [iV 0, .sl 3 [iV 3, iV 2]], iV 0]) := by
  have := conf knownG 3 [0] (by decide) (by decide) (by decide) (by decide)
  rwa [conf_known] at this
theorem small_bounds {G : Graph} (h : (!smallR G) = false) : G.steps.length ≤ 1000000000 ∧ G.points.length ≤ 1000000000 ∧ G.sinks.length ≤ 1000000000 ∧ G.sites.length ≤ 1000000000 := by
  simp [smallR] at h; omega
theorem conf_len (G : Graph) (node : Int) (sites : List Int) : (confR G node sites).1.w.length ≤ sites.length + 1 := by
  unfold confR; (repeat' split) <;> simp
theorem conf_err {G : Graph} {node : Int} {sites : List Int} (h : decide ((confR G node sites).2 ≠ 0) = true) : sameConfR (confR G node sites).1 ⟨0, []⟩ = true := by
  revert h; unfold confR; (repeat' split) <;> simp [sameConfR, intsR]
theorem backs_first {G : Graph} (hd : ∀ a b, b < a → a < G.sites.length → (siteN G a).back ≠ (siteN G b).back) : ∀ n, n ≤ G.sites.length → (∀ k, k < n → mget (siteN G k).back (backsAt G n) = some (k : Int)) ∧ ∀ b, (∀ k, k < n → (siteN G k).back ≠ b) → mget b (backsAt G n) = none
  | 0, _ => ⟨fun k hk => by omega, fun b _ => rfl⟩
  | n + 1, hn => by
    obtain ⟨h1, h2⟩ := backs_first hd n (by omega)
    have h3 := h2 (siteN G n).back fun k hk e => hd n k hk (by omega) e.symm
    have h4 : backsAt G (n + 1) = mput (siteN G n).back (n : Int) (backsAt G n) := by rw [backsAt, h3]; simp
    rw [h4]
    refine ⟨fun k hk => ?_, fun b hb => ?_⟩
    · rw [mget_mput]
      by_cases hkn : k = n
      · subst hkn; simp
      · rw [if_neg (fun e => hd n k (by omega) (by omega) e.symm)]; exact h1 k (by omega)
    · rw [mget_mput, if_neg (fun e => hb n (by omega) e.symm)]
      exact h2 b fun k hk => hb k (by omega)
theorem look_back {G : Graph} (hd : ∀ a b, b < a → a < G.sites.length → (siteN G a).back ≠ (siteN G b).back) {k : Int} (h : (decide (k < 0) || decide ((G.sites.length : Int) ≤ k)) = false) : lookB G (backAt G k) = some k := by
  simp only [Bool.or_eq_false_iff, decide_eq_false_iff_not] at h
  have h1 := (backs_first hd G.sites.length (Nat.le_refl _)).1 k.toNat (by omega)
  have h2 : ((k.toNat : Nat) : Int) = k := by omega
  rw [h2] at h1
  exact h1
theorem sites_conf {G : Graph} {node : Int} {sites : List Int} (hd : ∀ a b, b < a → a < G.sites.length → (siteN G a).back ≠ (siteN G b).back) (h : decide ((confR G node sites).2 ≠ 0) = false) : sitesR G (confR G node sites).1 = (node, sites, 0) := by
  have hk : decide (checkE G ≠ 0) = false := by
    cases hc : decide (checkE G ≠ 0) with
    | false => rfl
    | true => rw [confR, if_pos hc] at h; rw [hc] at h; cases h
  cases h1 : (decide (node < 0) || decide ((G.of.length : Int) ≤ node)) with
  | true => rw [confR, hk, h1] at h; cases h
  | false =>
    cases h2 : (sites.any fun k => decide (k < 0) || decide ((G.sites.length : Int) ≤ k)) with
    | true => rw [confR, hk, h1, h2] at h; cases h
    | false =>
      cases h3 : decide ((4096 : Int) < (node :: sites.map (backAt G)).length) with
      | true => rw [confR, hk, h1, h2, h3] at h; cases h
      | false =>
        have hc : confR G node sites = (⟨0, node :: sites.map (backAt G)⟩, 0) := by
          rw [confR, hk, h1, h2, h3]; rfl
        rw [hc]
        have hl : ∀ k ∈ sites, lookB G (backAt G k) = some k := fun k hk => look_back hd (by
          have := List.any_eq_false.1 h2 k hk
          simpa using this)
        have h4 : (((node :: sites.map (backAt G)).drop 1).any fun u => !(lookB G u).isSome) = false := by
          rw [List.any_eq_false]
          intro u hu
          simp only [List.drop_succ_cons, List.drop_zero, List.mem_map] at hu
          obtain ⟨k, hk, rfl⟩ := hu
          rw [hl k hk]; simp
        have h5 : (((node :: sites.map (backAt G)).drop 1).map fun u => (lookB G u).getD 0) = sites := by
          simp only [List.drop_succ_cons, List.drop_zero, List.map_map]
          conv => rhs; rw [← List.map_id sites]
          exact List.map_congr_left fun k hk => by simp [hl k hk]
        have h6 : decide ((((node :: sites.map (backAt G)).length : Nat) : Int) < 1) = false := by simp; omega
        have h7 : w0 ⟨0, node :: sites.map (backAt G)⟩ = node := rfl
        simp only [Bool.or_eq_false_iff] at h1
        simp only [sitesR, hk, h4, h5, h6, h7, h3, h1.1, h1.2, Bool.false_eq_true, ↓reduceIte, Bool.or_false, ne_eq, not_true_eq_false, decide_false]

theorem alive  : FnC Try.prog 8 [] (fun r => r = .bool true) := by
  refine FnC.of (fn := Try.f8) ⟨Try.func8, by kernel_rfl, rfl⟩ Try.ntmps8 (by simp) fun w0 S0 => ?_
  refine p_seq (p_region fun hf => ?_)
  refine p_assign (h := ?_)
  refine p_end ?_
  refine p_seq (p_region fun hf => ?_)
  refine p_call (hx := rfl) (hb := ⟨Try.func25, by kernel_rfl, rfl⟩) (hf := known) (h := ?_)
  refine p_alloc (hi := F.ti29) (h := ?_)
  refine p_storeAll F.ti29 (h := ?_)
  refine p_end ?_
  refine p_seq (p_region fun hf => ?_)
  (first | refine p_loadA (ht := F.agg29) (hi := F.ti29) (h := ?_) | refine p_loadRefA (ht := F.agg29) (hi := F.ti29) (h := ?_))
  refine p_call (hx := rfl) (hb := ⟨Try.func9, by kernel_rfl, rfl⟩) (hf := pds_k) (h := ?_)
  refine p_move (h := ?_)
  refine p_extract (h := ?_)
  refine p_extract (h := ?_)
  refine p_alloc (hi := F.ti38) (h := ?_)
  refine p_storeAll F.ti38 (h := ?_)
  refine p_assign (h := ?_)
  refine p_end ?_
  refine p_seq (p_region fun hf => ?_)
  (first | refine p_loadA (ht := F.agg29) (hi := F.ti29) (h := ?_) | refine p_loadRefA (ht := F.agg29) (hi := F.ti29) (h := ?_))
  refine p_buildSlice (ht := Try.underlying23) (hi := F.ti3) (h := ?_)
  refine p_freezeW (g1 := 0 + 1 + 1 + 1 + 1) (d1 := 14) (h := ?_)
  refine p_toSlW (s := 14) (hn := by rfl) (h := ?_)
  refine p_call (hx := rfl) (hb := ⟨Try.func10, by kernel_rfl, rfl⟩) (hf := conf_k) (h := ?_)
  refine p_move (h := ?_)
  refine p_extract (h := ?_)
  refine p_extract (h := ?_)
  refine p_alloc (hi := F.ti44) (h := ?_)
  refine p_storeAll F.ti44 (h := ?_)
  refine p_assign (h := ?_)
  refine p_end ?_
  refine p_seq (p_region fun hf => ?_)
  refine p_move (h := ?_)
  refine p_num (h := ?_)
  refine p_move (h := ?_)
  refine p_split (s := 20) (ht := fun hb20 => ?_) (hf := fun hb20 => ?_)
  · -- slot 20 is true
    refine p_guardYes (h := ?_)
    refine p_move (h := ?_)
    refine p_guardYes (h := ?_)
    refine p_num (h := ?_)
    refine p_pick (h := ?_)
    refine p_move (h := ?_)
    refine p_split (s := 24) (ht := fun hb24 => ?_) (hf := fun hb24 => ?_)
    · -- slot 24 is true
      refine p_guardYes (h := ?_)
      (first | refine p_fieldPtr (hf := F.fld38_3) (h := ?_) | refine p_fieldRef (hf := F.fld38_3) (h := ?_) | refine p_fieldRow (hf := F.fld38_3) (h := ?_))
      refine p_guardYes (h := ?_)
      (first | refine p_load (ht := F.leaf36) (h := ?_) | refine p_loadRef (ht := F.leaf36) (h := ?_))
      refine p_guardYes (h := ?_)
      refine p_len (ht := Try.underlying36) (h := ?_)
      refine p_guardYes (h := ?_)
      refine p_num (h := ?_)
      refine p_pick (h := ?_)
      refine p_move (h := ?_)
      refine p_split (s := 30) (ht := fun hb30 => ?_) (hf := fun hb30 => ?_)
      · -- slot 30 is true
        refine p_guardYes (h := ?_)
        (first | refine p_fieldPtr (hf := F.fld38_3) (h := ?_) | refine p_fieldRef (hf := F.fld38_3) (h := ?_) | refine p_fieldRow (hf := F.fld38_3) (h := ?_))
        refine p_guardYes (h := ?_)
        (first | refine p_load (ht := F.leaf36) (h := ?_) | refine p_loadRef (ht := F.leaf36) (h := ?_))
        refine p_guardYes (h := ?_)
        refine p_idxSl (ht := Try.underlying36) (hi := F.ti92) (h0 := by decide) (hv := by rfl) (h := ?_)
        refine p_guardYes (h := ?_)
        (first | refine p_fieldPtr (hf := F.fld92_3) (h := ?_) | refine p_fieldRef (hf := F.fld92_3) (h := ?_) | refine p_fieldRow (hf := F.fld92_3) (h := ?_))
        refine p_guardYes (h := ?_)
        (first | refine p_load (ht := F.leaf23) (h := ?_) | refine p_loadRef (ht := F.leaf23) (h := ?_))
        refine p_guardYes (h := ?_)
        refine p_len (ht := Try.underlying23) (h := ?_)
        refine p_guardYes (h := ?_)
        refine p_num (h := ?_)
        refine p_pick (h := ?_)
        refine p_move (h := ?_)
        refine p_split (s := 39) (ht := fun hb39 => ?_) (hf := fun hb39 => ?_)
        · -- slot 39 is true
          refine p_guardYes (h := ?_)
          (first | refine p_fieldPtr (hf := F.fld38_3) (h := ?_) | refine p_fieldRef (hf := F.fld38_3) (h := ?_) | refine p_fieldRow (hf := F.fld38_3) (h := ?_))
          refine p_guardYes (h := ?_)
          (first | refine p_load (ht := F.leaf36) (h := ?_) | refine p_loadRef (ht := F.leaf36) (h := ?_))
          refine p_guardYes (h := ?_)
          refine p_idxSl (ht := Try.underlying36) (hi := F.ti92) (h0 := by decide) (hv := by rfl) (h := ?_)
          refine p_guardYes (h := ?_)
          (first | refine p_fieldPtr (hf := F.fld92_3) (h := ?_) | refine p_fieldRef (hf := F.fld92_3) (h := ?_) | refine p_fieldRow (hf := F.fld92_3) (h := ?_))
          refine p_guardYes (h := ?_)
          (first | refine p_load (ht := F.leaf23) (h := ?_) | refine p_loadRef (ht := F.leaf23) (h := ?_))
          refine p_guardYes (h := ?_)
          refine p_idxSl (ht := Try.underlying23) (hi := F.ti3) (h0 := by decide) (hv := by rfl) (h := ?_)
          refine p_guardYes (h := ?_)
          (first | refine p_load (ht := F.leaf3) (h := ?_) | refine p_loadRef (ht := F.leaf3) (h := ?_))
          refine p_guardYes (h := ?_)
          refine p_num (h := ?_)
          refine p_pick (h := ?_)
          refine p_move (h := ?_)
          refine p_split (s := 49) (ht := fun hb49 => ?_) (hf := fun hb49 => ?_)
          · -- slot 49 is true
            refine p_guardYes (h := ?_)
            (first | refine p_fieldPtr (hf := F.fld38_3) (h := ?_) | refine p_fieldRef (hf := F.fld38_3) (h := ?_) | refine p_fieldRow (hf := F.fld38_3) (h := ?_))
            refine p_guardYes (h := ?_)
            (first | refine p_load (ht := F.leaf36) (h := ?_) | refine p_loadRef (ht := F.leaf36) (h := ?_))
            refine p_guardYes (h := ?_)
            refine p_idxSl (ht := Try.underlying36) (hi := F.ti92) (h0 := by decide) (hv := by rfl) (h := ?_)
            refine p_guardYes (h := ?_)
            (first | refine p_fieldPtr (hf := F.fld92_3) (h := ?_) | refine p_fieldRef (hf := F.fld92_3) (h := ?_) | refine p_fieldRow (hf := F.fld92_3) (h := ?_))
            refine p_guardYes (h := ?_)
            (first | refine p_load (ht := F.leaf23) (h := ?_) | refine p_loadRef (ht := F.leaf23) (h := ?_))
            refine p_guardYes (h := ?_)
            refine p_idxSl (ht := Try.underlying23) (hi := F.ti3) (h0 := by decide) (hv := by rfl) (h := ?_)
            refine p_guardYes (h := ?_)
            (first | refine p_load (ht := F.leaf3) (h := ?_) | refine p_loadRef (ht := F.leaf3) (h := ?_))
            refine p_guardYes (h := ?_)
            refine p_num (h := ?_)
            refine p_pick (h := ?_)
            refine p_move (h := ?_)
            refine p_split (s := 59) (ht := fun hb59 => ?_) (hf := fun hb59 => ?_)
            · -- slot 59 is true
              refine p_guardYes (h := ?_)
              (first | refine p_fieldPtr (hf := F.fld38_3) (h := ?_) | refine p_fieldRef (hf := F.fld38_3) (h := ?_) | refine p_fieldRow (hf := F.fld38_3) (h := ?_))
              refine p_guardYes (h := ?_)
              (first | refine p_load (ht := F.leaf36) (h := ?_) | refine p_loadRef (ht := F.leaf36) (h := ?_))
              refine p_guardYes (h := ?_)
              refine p_idxSl (ht := Try.underlying36) (hi := F.ti92) (h0 := by decide) (hv := by rfl) (h := ?_)
              refine p_guardYes (h := ?_)
              (first | refine p_fieldPtr (hf := F.fld92_3) (h := ?_) | refine p_fieldRef (hf := F.fld92_3) (h := ?_) | refine p_fieldRow (hf := F.fld92_3) (h := ?_))
              refine p_guardYes (h := ?_)
              (first | refine p_load (ht := F.leaf23) (h := ?_) | refine p_loadRef (ht := F.leaf23) (h := ?_))
              refine p_guardYes (h := ?_)
              refine p_len (ht := Try.underlying23) (h := ?_)
              refine p_guardYes (h := ?_)
              refine p_num (h := ?_)
              refine p_pick (h := ?_)
              refine p_move (h := ?_)
              refine p_split (s := 68) (ht := fun hb68 => ?_) (hf := fun hb68 => ?_)
              · -- slot 68 is true
                refine p_guardYes (h := ?_)
                (first | refine p_fieldPtr (hf := F.fld38_3) (h := ?_) | refine p_fieldRef (hf := F.fld38_3) (h := ?_) | refine p_fieldRow (hf := F.fld38_3) (h := ?_))
                refine p_guardYes (h := ?_)
                (first | refine p_load (ht := F.leaf36) (h := ?_) | refine p_loadRef (ht := F.leaf36) (h := ?_))
                refine p_guardYes (h := ?_)
                refine p_idxSl (ht := Try.underlying36) (hi := F.ti92) (h0 := by decide) (hv := by rfl) (h := ?_)
                refine p_guardYes (h := ?_)
                (first | refine p_fieldPtr (hf := F.fld92_1) (h := ?_) | refine p_fieldRef (hf := F.fld92_1) (h := ?_) | refine p_fieldRow (hf := F.fld92_1) (h := ?_))
                refine p_guardYes (h := ?_)
                (first | refine p_load (ht := F.leaf3) (h := ?_) | refine p_loadRef (ht := F.leaf3) (h := ?_))
                refine p_guardYes (h := ?_)
                refine p_num (h := ?_)
                refine p_pick (h := ?_)
                refine p_move (h := ?_)
                refine p_split (s := 76) (ht := fun hb76 => ?_) (hf := fun hb76 => ?_)
                · -- slot 76 is true
                  refine p_guardYes (h := ?_)
                  (first | refine p_fieldPtr (hf := F.fld44_1) (h := ?_) | refine p_fieldRef (hf := F.fld44_1) (h := ?_) | refine p_fieldRow (hf := F.fld44_1) (h := ?_))
                  refine p_guardYes (h := ?_)
                  (first | refine p_load (ht := F.leaf23) (h := ?_) | refine p_loadRef (ht := F.leaf23) (h := ?_))
                  refine p_guardYes (h := ?_)
                  refine p_len (ht := Try.underlying23) (h := ?_)
                  refine p_guardYes (h := ?_)
                  refine p_num (h := ?_)
                  refine p_pick (h := ?_)
                  refine p_move (h := ?_)
                  refine p_split (s := 82) (ht := fun hb82 => ?_) (hf := fun hb82 => ?_)
                  · -- slot 82 is true
                    refine p_guardYes (h := ?_)
                    (first | refine p_fieldPtr (hf := F.fld44_1) (h := ?_) | refine p_fieldRef (hf := F.fld44_1) (h := ?_) | refine p_fieldRow (hf := F.fld44_1) (h := ?_))
                    refine p_guardYes (h := ?_)
                    (first | refine p_load (ht := F.leaf23) (h := ?_) | refine p_loadRef (ht := F.leaf23) (h := ?_))
                    refine p_guardYes (h := ?_)
                    refine p_idxSl (ht := Try.underlying23) (hi := F.ti3) (h0 := by decide) (hv := by rfl) (h := ?_)
                    refine p_guardYes (h := ?_)
                    (first | refine p_load (ht := F.leaf3) (h := ?_) | refine p_loadRef (ht := F.leaf3) (h := ?_))
                    refine p_guardYes (h := ?_)
                    refine p_num (h := ?_)
                    refine p_pick (h := ?_)
                    refine p_assign (h := ?_)
                    refine p_end ?_
                    refine TrC.ret ?_
                    refine p_ret1 (hp := by first | rfl | simp)
                  · exact absurd hb82 (by decide)
                · exact absurd hb76 (by decide)
              · exact absurd hb68 (by decide)
            · exact absurd hb59 (by decide)
          · exact absurd hb49 (by decide)
        · exact absurd hb39 (by decide)
      · exact absurd hb30 (by decide)
    · exact absurd hb24 (by decide)
  · exact absurd hb20 (by decide)
theorem encodeBack (G : Graph) (node : Int) (sites : List Int) : FnC Try.prog 5 [graphV G, iV node, .sl 3 (sites.map iV)] (fun r => r = .bool true) := by
  refine FnC.of (fn := Try.f5) ⟨Try.func5, by kernel_rfl, rfl⟩ Try.ntmps5 (by simp) fun w0 S0 => ?_
  refine p_seq (p_region fun hf => ?_)
  refine p_box (h := ?_)
  refine p_assign (h := ?_)
  refine p_end ?_
  refine p_seq ?_
  refine p_seq (p_region fun hf => ?_)
  (first | refine p_loadA (ht := F.agg29) (hi := F.ti29) (h := ?_) | refine p_loadRefA (ht := F.agg29) (hi := F.ti29) (h := ?_))
  refine p_call (hx := rfl) (hb := ⟨Try.func7, by kernel_rfl, rfl⟩) (hf := small G) (h := ?_)
  refine p_not (h := ?_)
  refine p_move (h := ?_)
  refine p_split (s := 17) (ht := fun hb17 => ?_) (hf := fun hb17 => ?_)
  · -- slot 17 is true
    iterate 3 (refine p_guardNo (h := ?_))
    refine p_pick (h := ?_)
    refine p_end ?_
    refine p_condT (h := ?_)
    refine p_seq (p_region fun hf => ?_)
    refine p_call (hx := rfl) (hb := ⟨Try.func8, by kernel_rfl, rfl⟩) (hf := alive) (h := ?_)
    refine p_assign (h := ?_)
    refine p_end ?_
    refine TrC.ret ?_
    refine p_ret1 (hp := by rfl)
  · -- slot 17 is false
    have hs := small_bounds hb17
    refine p_guardYes (h := ?_)
    refine p_move (h := ?_)
    refine p_guardYes (h := ?_)
    refine p_len (ht := Try.underlying23) (h := ?_)
    refine p_guardYes (h := ?_)
    refine p_num (h := ?_)
    refine p_pick (h := ?_)
    refine p_end ?_
    refine p_splitC (s := 21) (ht := fun hc21 => ?_) (hf := fun hc21 => ?_)
    · refine p_condT (h := ?_)
      refine p_seq (p_region fun hf => ?_)
      refine p_call (hx := rfl) (hb := ⟨Try.func8, by kernel_rfl, rfl⟩) (hf := alive) (h := ?_)
      refine p_assign (h := ?_)
      refine p_end ?_
      refine TrC.ret ?_
      refine p_ret1 (hp := by rfl)
    · refine p_condF (h := ?_)
      have hsl : sites.length ≤ 200 := by simp at hc21; omega
      refine p_skip ?_
      refine p_seq ?_
      refine p_seq (p_region fun hf => ?_)
      refine p_assign (h := ?_)
      refine p_end ?_
      refine TrC.block ?_
      refine p_loop (fun st => ∃ i : Nat, i ≤ G.sites.length ∧ (∀ a b, b < a → a < i → (siteN G a).back ≠ (siteN G b).back) ∧ st.env 1 = iV node ∧ st.env 2 = .sl 3 (sites.map iV) ∧ st.env 3 = .ptr (0 + 1) 3 0 ∧ st.env 7 = iV i ∧ st.obj (0 + 1) 3 = .cells 29 (graphL G)) (fun st => G.sites.length - (st.env 7).toN) ?_ fun e ob g1 hI => ?_
      · exact ⟨0, by omega, fun a b _ h => by omega, eV_, eV_, eV_, eV_, oB_⟩
      · obtain ⟨i, hi, hd, e1, e2, e3, e7, o3⟩ := hI
        dsimp only at e1 e2 e3 e7 o3
        have hE := (⟨e1, e2, e3, e7, o3⟩ : _ ∧ _ ∧ _ ∧ _ ∧ _)
        refine p_seq ?_
        refine p_seq (p_region fun hf => ?_)
        refine p_move (h := ?_)
        (first | refine p_fieldPtr (hf := F.fld29_7) (h := ?_) | refine p_fieldRef (hf := F.fld29_7) (h := ?_) | refine p_fieldRow (hf := F.fld29_7) (h := ?_))
        (first | refine p_load (ht := F.leaf25) (h := ?_) | refine p_loadRef (ht := F.leaf25) (h := ?_))
        refine p_len (ht := Try.underlying25) (h := ?_)
        refine p_num (h := ?_)
        refine p_end ?_
        refine p_splitC (s := 27) (ht := fun hc27 => ?_) (hf := fun hc27 => ?_)
        · refine p_condT (h := ?_)
          have hlt : i < G.sites.length := by simpa using hc27
          refine p_skip ?_
          refine p_seq ?_
          refine TrC.block ?_
          refine p_seq (p_region fun hf => ?_)
          refine p_assign (h := ?_)
          refine p_end ?_
          refine TrC.block ?_
          refine p_loop (fun st => ∃ k : Nat, k ≤ i ∧ (∀ b, b < k → (siteN G i).back ≠ (siteN G b).back) ∧ st.env 1 = iV node ∧ st.env 2 = .sl 3 (sites.map iV) ∧ st.env 3 = .ptr (0 + 1) 3 0 ∧ st.env 7 = iV i ∧ st.env 8 = iV k ∧ st.obj (0 + 1) 3 = .cells 29 (graphL G)) (fun st => i - (st.env 8).toN) ?_ fun e ob g2 hI => ?_
          · exact ⟨0, by omega, fun b h => by omega, eV_, eV_, eV_, eV_, eV_, oB_⟩
          · obtain ⟨k, hk, hq, f1, f2, f3, f7, f8, p3⟩ := hI
            dsimp only at f1 f2 f3 f7 f8 p3
            have hE := (⟨f1, f2, f3, f7, f8, p3⟩ : _ ∧ _ ∧ _ ∧ _ ∧ _ ∧ _)
            refine p_seq ?_
            refine p_seq (p_region fun hf => ?_)
            refine p_move (h := ?_)
            refine p_move (h := ?_)
            refine p_num (h := ?_)
            refine p_end ?_
            refine p_splitC (s := 32) (ht := fun hc32 => ?_) (hf := fun hc32 => ?_)
            · refine p_condT (h := ?_)
              have hki : k < i := by simpa using hc32
              have hlt2 : k < G.sites.length := by omega
              refine p_skip ?_
              refine p_seq ?_
              refine TrC.block ?_
              refine p_seq (p_draw F.mixed fun hf => ?_)
              (first | refine p_fieldPtr (hf := F.fld29_7) (h := ?_) | refine p_fieldRef (hf := F.fld29_7) (h := ?_) | refine p_fieldRow (hf := F.fld29_7) (h := ?_))
              (first | refine p_load (ht := F.leaf25) (h := ?_) | refine p_loadRef (ht := F.leaf25) (h := ?_))
              refine p_move (h := ?_)
              refine p_idxMap (j := i) (ht := Try.underlying25) (hi := F.ti54) (hij := rfl) (hj := hlt) (h := ?_)
              rw [siteN_eq hlt]
              (first | refine p_fieldPtr (hf := F.fld54_3) (h := ?_) | refine p_fieldRef (hf := F.fld54_3) (h := ?_) | refine p_fieldRow (hf := F.fld54_3) (h := ?_))
              (first | refine p_load (ht := F.leaf3) (h := ?_) | refine p_loadRef (ht := F.leaf3) (h := ?_))
              (first | refine p_fieldPtr (hf := F.fld29_7) (h := ?_) | refine p_fieldRef (hf := F.fld29_7) (h := ?_) | refine p_fieldRow (hf := F.fld29_7) (h := ?_))
              (first | refine p_load (ht := F.leaf25) (h := ?_) | refine p_loadRef (ht := F.leaf25) (h := ?_))
              refine p_move (h := ?_)
              refine p_idxMap (j := k) (ht := Try.underlying25) (hi := F.ti54) (hij := rfl) (hj := hlt2) (h := ?_)
              rw [siteN_eq hlt2]
              (first | refine p_fieldPtr (hf := F.fld54_3) (h := ?_) | refine p_fieldRef (hf := F.fld54_3) (h := ?_) | refine p_fieldRow (hf := F.fld54_3) (h := ?_))
              (first | refine p_load (ht := F.leaf3) (h := ?_) | refine p_loadRef (ht := F.leaf3) (h := ?_))
              refine p_num (h := ?_)
              refine p_endD ?_
              refine p_splitC (s := 47) (ht := fun hc47 => ?_) (hf := fun hc47 => ?_)
              · refine p_condT (h := ?_)
                refine p_seq (p_region fun hf => ?_)
                refine p_call (hx := rfl) (hb := ⟨Try.func8, by kernel_rfl, rfl⟩) (hf := alive) (h := ?_)
                refine p_assign (h := ?_)
                refine p_end ?_
                refine TrC.ret ?_
                refine p_ret1 (hp := by rfl)
              · refine p_condF (h := ?_)
                refine p_skip ?_
                refine p_region fun hf => ?_
                refine p_move (h := ?_)
                refine p_add (r := ((k + 1 : Nat) : Int)) (hr := by omega) (hb := by omega) (h := ?_)
                refine p_assign (h := ?_)
                refine p_end ?_
                refine p_some ?_
                refine ⟨⟨k + 1, by omega, fun b hb => ?_, eV_, eV_, eV_, eV_, eV_, oB_⟩, ?_⟩
                · rcases Nat.lt_succ_iff_lt_or_eq.1 hb with h | h
                  · exact hq b h
                  · subst h; simpa using hc47
                · simp (decide := true) only [upd, f8, V.toN, ↓reduceIte]; omega
            · refine p_condF (h := ?_)
              refine p_exit ?_
              refine p_region fun hf => ?_
              refine p_move (h := ?_)
              refine p_add (r := ((i + 1 : Nat) : Int)) (hr := by omega) (hb := by omega) (h := ?_)
              refine p_assign (h := ?_)
              refine p_end ?_
              refine p_some ?_
              refine ⟨⟨i + 1, hlt, fun a b hb ha => ?_, eV_, eV_, eV_, eV_, oB_⟩, ?_⟩
              · rcases Nat.lt_succ_iff_lt_or_eq.1 ha with h | h
                · exact hd a b hb h
                · subst h; exact hq b (by simp at hc32; omega)
              · simp (decide := true) only [upd, e7, V.toN, ↓reduceIte]; omega
        · refine p_condF (h := ?_)
          have hdist : ∀ a b, b < a → a < G.sites.length → (siteN G a).back ≠ (siteN G b).back := fun a b hb ha => hd a b hb (by simp at hc27; omega)
          refine p_exit ?_
          refine p_seq (p_region fun hf => ?_)
          (first | refine p_loadA (ht := F.agg29) (hi := F.ti29) (h := ?_) | refine p_loadRefA (ht := F.agg29) (hi := F.ti29) (h := ?_))
          refine p_move (h := ?_)
          refine p_move (h := ?_)
          refine p_call (hx := rfl) (hb := ⟨Try.func10, by kernel_rfl, rfl⟩) (hf := conf G node sites hs.1 hs.2.1 hs.2.2.1 (by omega)) (h := ?_)
          refine p_move (h := ?_)
          refine p_extract (h := ?_)
          refine p_extract (h := ?_)
          refine p_alloc (hi := F.ti44) (h := ?_)
          refine p_storeAll F.ti44 (h := ?_)
          refine p_assign (h := ?_)
          refine p_end ?_
          refine p_seq ?_
          refine p_seq (p_region fun hf => ?_)
          refine p_move (h := ?_)
          refine p_num (h := ?_)
          refine p_end ?_
          refine p_splitC (s := 57) (ht := fun hc57 => ?_) (hf := fun hc57 => ?_)
          · refine p_condT (h := ?_)
            refine p_seq (p_region fun hf => ?_)
            (first | refine p_loadA (ht := F.agg44) (hi := F.ti44) (h := ?_) | refine p_loadRefA (ht := F.agg44) (hi := F.ti44) (h := ?_))
            refine p_build (hi := F.ti44) (hpl := F.pl44) (h := ?_)
            refine p_aggNilW (s := 59) (i := 1) (el := 3) (h := ?_)
            refine p_call (hx := rfl) (hb := ⟨Try.func13, by kernel_rfl, rfl⟩) (hf := sameConf (confR G node sites).1 ⟨0, []⟩ (by have := conf_len G node sites; omega)) (h := ?_)
            refine p_move (h := ?_)
            refine p_split (s := 61) (ht := fun hb61 => ?_) (hf := fun hb61 => ?_)
            · -- slot 61 is true
              refine p_guardYes (h := ?_)
              refine p_call (hx := rfl) (hb := ⟨Try.func8, by kernel_rfl, rfl⟩) (hf := alive) (h := ?_)
              refine p_pick (h := ?_)
              refine p_assign (h := ?_)
              refine p_end ?_
              refine TrC.ret ?_
              refine p_ret1 (hp := by rfl)
            · exact absurd hb61 (by rw [conf_err hc57]; decide)
          · refine p_condF (h := ?_)
            have heq := sites_conf hdist hc57
            refine p_skip ?_
            refine p_seq (p_region fun hf => ?_)
            (first | refine p_loadA (ht := F.agg29) (hi := F.ti29) (h := ?_) | refine p_loadRefA (ht := F.agg29) (hi := F.ti29) (h := ?_))
            (first | refine p_loadA (ht := F.agg44) (hi := F.ti44) (h := ?_) | refine p_loadRefA (ht := F.agg44) (hi := F.ti44) (h := ?_))
            refine p_call (hx := rfl) (hb := ⟨Try.func14, by kernel_rfl, rfl⟩) (hf := sitesF G (confR G node sites).1 hs.1 hs.2.1 hs.2.2.1 hs.2.2.2) (h := ?_)
            refine p_move (h := ?_)
            refine p_extract (h := ?_)
            refine p_extract (h := ?_)
            refine p_extract (h := ?_)
            refine p_assign (h := ?_)
            refine p_assign (h := ?_)
            refine p_assign (h := ?_)
            refine p_end ?_
            refine p_seq (p_region fun hf => ?_)
            refine p_move (h := ?_)
            refine p_num (h := ?_)
            refine p_move (h := ?_)
            refine p_split (s := 73) (ht := fun hb73 => ?_) (hf := fun hb73 => ?_)
            · -- slot 73 is true
              refine p_guardYes (h := ?_)
              refine p_move (h := ?_)
              refine p_guardYes (h := ?_)
              refine p_move (h := ?_)
              refine p_guardYes (h := ?_)
              refine p_num (h := ?_)
              refine p_pick (h := ?_)
              refine p_move (h := ?_)
              refine p_split (s := 78) (ht := fun hb78 => ?_) (hf := fun hb78 => ?_)
              · -- slot 78 is true
                refine p_guardYes (h := ?_)
                refine p_move (h := ?_)
                refine p_guardYes (h := ?_)
                refine p_move (h := ?_)
                refine p_guardYes (h := ?_)
                refine p_call (hx := rfl) (hb := ⟨Try.func16, by kernel_rfl, rfl⟩) (hf := ints (sitesR G (confR G node sites).1).2.1 sites (by rw [heq]; show sites.length ≤ 1000000000; omega)) (h := ?_)
                refine p_pick (h := ?_)
                refine p_move (h := ?_)
                refine p_split (s := 83) (ht := fun hb83 => ?_) (hf := fun hb83 => ?_)
                · -- slot 83 is true
                  refine p_guardYes (h := ?_)
                  refine p_call (hx := rfl) (hb := ⟨Try.func8, by kernel_rfl, rfl⟩) (hf := alive) (h := ?_)
                  refine p_pick (h := ?_)
                  refine p_assign (h := ?_)
                  refine p_end ?_
                  refine TrC.ret ?_
                  refine p_ret1 (hp := by rfl)
                · exact absurd hb83 (by rw [heq]; simp [intsR])
              · exact absurd hb78 (by rw [heq]; simp)
            · exact absurd hb73 (by rw [heq]; simp)
end Go.Proofs.Ytfjciangbmjlmaa
