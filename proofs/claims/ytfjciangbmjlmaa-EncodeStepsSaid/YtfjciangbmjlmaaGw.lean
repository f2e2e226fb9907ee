/-
  EncodeSteps, walked: it answers true for every graph, node and sites.
-/
import Derived.Test.YtfjciangbmjlmaaGv
set_option linter.unusedSimpArgs false
set_option linter.unusedVariables false
namespace Go.Proofs.Ytfjciangbmjlmaa
open Go.RowKit
theorem small_more {G : Graph} (h : (!smallR G) = false) : G.exit.length ≤ 1000000000 ∧ G.of.length ≤ 4096 ∧ G.steps.length + G.exit.length ≤ 16384 := by
  simp [smallR] at h; omega
theorem exitConf_pos {G : Graph} {sites : List Int} (h : 0 < sites.length) : exitConf G sites = (confR G (backAt G sites[0]) (sites.drop 1)).1 := by
  cases sites with
  | nil => simp at h
  | cons k l => rfl
theorem wantB_w {G : Graph} {node : Int} {sites : List Int} {j : Nat} : ∀ c ∈ wantB G node sites j, c.w.length ≤ sites.length + 2 := by
  intro c hc
  simp only [wantB, wantA, List.mem_append, List.mem_map] at hc
  rcases hc with ⟨s, _, rfl⟩ | ⟨n, _, rfl⟩
  · unfold stepConf
    split
    · have := conf_len G (entryZ G (siteAt G s.site).proc) (s.site :: sites); simp at this; omega
    · have := conf_len G s.to sites; omega
  · cases sites with
    | nil => simp [exitConf]
    | cons k l => have := conf_len G (backAt G k) l; simp [exitConf] at this ⊢; omega

theorem encodeSteps_bad (G : Graph) (node : Int) (sites : List Int) (h : checkB G = false) : FnC Try.prog 3 [graphV G, iV node, .sl 3 (sites.map iV)] (fun r => r = .bool true) := by
  refine FnC.of (fn := Try.f3) ⟨Try.func3, by kernel_rfl, rfl⟩ Try.ntmps3 (by simp) fun w0 S0 => ?_
  refine p_seq (p_region fun hf => ?_)
  refine p_box (h := ?_)
  refine p_assign (h := ?_)
  refine p_end ?_
  refine p_seq ?_
  refine p_seq (p_region fun hf => ?_)
  (first | refine p_loadA (ht := F.agg29) (hi := F.ti29) (h := ?_) | refine p_loadRefA (ht := F.agg29) (hi := F.ti29) (h := ?_))
  refine p_call (hx := rfl) (hb := ⟨Try.func7, by kernel_rfl, rfl⟩) (hf := small G) (h := ?_)
  refine p_not (h := ?_)
  refine p_move (h := ?_)
  refine p_split (s := 25) (ht := fun hb25 => ?_) (hf := fun hb25 => ?_)
  · -- slot 25 is true
    iterate 3 (refine p_guardNo (h := ?_))
    refine p_pick (h := ?_)
    refine p_end ?_
    refine p_condT (h := ?_)
    refine p_seq (p_region fun hf => ?_)
    refine p_call (hx := rfl) (hb := ⟨Try.func8, by kernel_rfl, rfl⟩) (hf := alive) (h := ?_)
    refine p_assign (h := ?_)
    refine p_end ?_
    refine TrC.ret ?_
    refine p_ret1 (hp := by rfl)
  · -- slot 25 is false
    have hs := small_bounds hb25
    have hs' := small_more hb25
    refine p_guardYes (h := ?_)
    refine p_move (h := ?_)
    refine p_guardYes (h := ?_)
    refine p_len (ht := Try.underlying23) (h := ?_)
    refine p_guardYes (h := ?_)
    refine p_num (h := ?_)
    refine p_pick (h := ?_)
    refine p_end ?_
    refine p_splitC (s := 29) (ht := fun hc29 => ?_) (hf := fun hc29 => ?_)
    · refine p_condT (h := ?_)
      refine p_seq (p_region fun hf => ?_)
      refine p_call (hx := rfl) (hb := ⟨Try.func8, by kernel_rfl, rfl⟩) (hf := alive) (h := ?_)
      refine p_assign (h := ?_)
      refine p_end ?_
      refine TrC.ret ?_
      refine p_ret1 (hp := by rfl)
    · refine p_condF (h := ?_)
      have hsl : sites.length ≤ 50 := by simp at hc29; omega
      refine p_skip ?_
      refine p_seq (p_region fun hf => ?_)
      (first | refine p_loadA (ht := F.agg29) (hi := F.ti29) (h := ?_) | refine p_loadRefA (ht := F.agg29) (hi := F.ti29) (h := ?_))
      refine p_call (hx := rfl) (hb := ⟨Try.func9, by kernel_rfl, rfl⟩) (hf := pds_bad h hs.1 hs.2.1 hs.2.2.1 hs'.1) (h := ?_)
      refine p_move (h := ?_)
      refine p_extract (h := ?_)
      refine p_extract (h := ?_)
      refine p_alloc (hi := F.ti38) (h := ?_)
      refine p_storeAll F.ti38 (h := ?_)
      refine p_assign (h := ?_)
      refine p_end ?_
      refine p_seq (p_region fun hf => ?_)
      (first | refine p_loadA (ht := F.agg29) (hi := F.ti29) (h := ?_) | refine p_loadRefA (ht := F.agg29) (hi := F.ti29) (h := ?_))
      refine p_move (h := ?_)
      refine p_move (h := ?_)
      refine p_call (hx := rfl) (hb := ⟨Try.func10, by kernel_rfl, rfl⟩) (hf := conf G node sites hs.1 hs.2.1 hs.2.2.1 (by omega)) (h := ?_)
      refine p_move (h := ?_)
      refine p_extract (h := ?_)
      refine p_extract (h := ?_)
      refine p_alloc (hi := F.ti44) (h := ?_)
      refine p_storeAll F.ti44 (h := ?_)
      refine p_assign (h := ?_)
      refine p_end ?_
      refine p_seq ?_
      refine p_seq (p_region fun hf => ?_)
      refine p_move (h := ?_)
      refine p_num (h := ?_)
      refine p_move (h := ?_)
      refine p_isW (s := 45) (b := true) (hc := by rfl) (h := ?_)
      iterate 2 (refine p_guardNo (h := ?_))
      refine p_pick (h := ?_)
      refine p_end ?_
      refine p_condT (h := ?_)
      refine p_seq (p_region fun hf => ?_)
      refine p_call (hx := rfl) (hb := ⟨Try.func8, by kernel_rfl, rfl⟩) (hf := alive) (h := ?_)
      refine p_assign (h := ?_)
      refine p_end ?_
      refine TrC.ret ?_
      refine p_ret1 (hp := by rfl)

theorem encodeSteps_good (G : Graph) (node : Int) (sites : List Int) (hok : checkB G = true) : FnC Try.prog 3 [graphV G, iV node, .sl 3 (sites.map iV)] (fun r => r = .bool true) := by
  refine FnC.of (fn := Try.f3) ⟨Try.func3, by kernel_rfl, rfl⟩ Try.ntmps3 (by simp) fun w0 S0 => ?_
  refine p_seq (p_region fun hf => ?_)
  refine p_box (h := ?_)
  refine p_assign (h := ?_)
  refine p_end ?_
  refine p_seq ?_
  refine p_seq (p_region fun hf => ?_)
  (first | refine p_loadA (ht := F.agg29) (hi := F.ti29) (h := ?_) | refine p_loadRefA (ht := F.agg29) (hi := F.ti29) (h := ?_))
  refine p_call (hx := rfl) (hb := ⟨Try.func7, by kernel_rfl, rfl⟩) (hf := small G) (h := ?_)
  refine p_not (h := ?_)
  refine p_move (h := ?_)
  refine p_split (s := 25) (ht := fun hb25 => ?_) (hf := fun hb25 => ?_)
  · -- slot 25 is true
    iterate 3 (refine p_guardNo (h := ?_))
    refine p_pick (h := ?_)
    refine p_end ?_
    refine p_condT (h := ?_)
    refine p_seq (p_region fun hf => ?_)
    refine p_call (hx := rfl) (hb := ⟨Try.func8, by kernel_rfl, rfl⟩) (hf := alive) (h := ?_)
    refine p_assign (h := ?_)
    refine p_end ?_
    refine TrC.ret ?_
    refine p_ret1 (hp := by rfl)
  · -- slot 25 is false
    have hs := small_bounds hb25
    have hs' := small_more hb25
    refine p_guardYes (h := ?_)
    refine p_move (h := ?_)
    refine p_guardYes (h := ?_)
    refine p_len (ht := Try.underlying23) (h := ?_)
    refine p_guardYes (h := ?_)
    refine p_num (h := ?_)
    refine p_pick (h := ?_)
    refine p_end ?_
    refine p_splitC (s := 29) (ht := fun hc29 => ?_) (hf := fun hc29 => ?_)
    · refine p_condT (h := ?_)
      refine p_seq (p_region fun hf => ?_)
      refine p_call (hx := rfl) (hb := ⟨Try.func8, by kernel_rfl, rfl⟩) (hf := alive) (h := ?_)
      refine p_assign (h := ?_)
      refine p_end ?_
      refine TrC.ret ?_
      refine p_ret1 (hp := by rfl)
    · refine p_condF (h := ?_)
      have hsl : sites.length ≤ 50 := by simp at hc29; omega
      refine p_skip ?_
      refine p_seq (p_region fun hf => ?_)
      (first | refine p_loadA (ht := F.agg29) (hi := F.ti29) (h := ?_) | refine p_loadRefA (ht := F.agg29) (hi := F.ti29) (h := ?_))
      refine p_call (hx := rfl) (hb := ⟨Try.func9, by kernel_rfl, rfl⟩) (hf := pds_good hok hs.1 hs.2.1 hs.2.2.1 hs'.1) (h := ?_)
      refine p_move (h := ?_)
      refine p_extract (h := ?_)
      refine p_extract (h := ?_)
      refine p_alloc (hi := F.ti38) (h := ?_)
      refine p_storeAll F.ti38 (h := ?_)
      refine p_assign (h := ?_)
      refine p_end ?_
      refine p_seq (p_region fun hf => ?_)
      (first | refine p_loadA (ht := F.agg29) (hi := F.ti29) (h := ?_) | refine p_loadRefA (ht := F.agg29) (hi := F.ti29) (h := ?_))
      refine p_move (h := ?_)
      refine p_move (h := ?_)
      refine p_call (hx := rfl) (hb := ⟨Try.func10, by kernel_rfl, rfl⟩) (hf := conf G node sites hs.1 hs.2.1 hs.2.2.1 (by omega)) (h := ?_)
      refine p_move (h := ?_)
      refine p_extract (h := ?_)
      refine p_extract (h := ?_)
      refine p_alloc (hi := F.ti44) (h := ?_)
      refine p_storeAll F.ti44 (h := ?_)
      refine p_assign (h := ?_)
      refine p_end ?_
      refine p_seq ?_
      refine p_seq (p_region fun hf => ?_)
      refine p_move (h := ?_)
      refine p_num (h := ?_)
      refine p_move (h := ?_)
      refine p_isW (s := 45) (b := false) (hc := by first | rfl | decide | simp) (h := ?_)
      refine p_guardYes (h := ?_)
      refine p_move (h := ?_)
      refine p_guardYes (h := ?_)
      refine p_num (h := ?_)
      refine p_pick (h := ?_)
      refine p_end ?_
      refine p_splitC (s := 48) (ht := fun hc48 => ?_) (hf := fun hc48 => ?_)
      · refine p_condT (h := ?_)
        refine p_seq (p_region fun hf => ?_)
        refine p_call (hx := rfl) (hb := ⟨Try.func8, by kernel_rfl, rfl⟩) (hf := alive) (h := ?_)
        refine p_assign (h := ?_)
        refine p_end ?_
        refine TrC.ret ?_
        refine p_ret1 (hp := by rfl)
      · refine p_condF (h := ?_)
        obtain ⟨hnode, hsites⟩ := conf_inv hok hc48
        have hcv := conf_val hok hnode hsites (by omega)
        have hW0 : wantB G node sites 0 = wantA G node sites G.steps.length := by simp [wantB]
        have hnext : FnC Try.prog 12 [pdsW G.of.length (rulesL G), confV (confR G node sites).1] fun r => r = .tup [.sl 3 ((idxAt (rulesL G) (confR G node sites).1 (rulesL G).length).map iV), .sl 44 ((wantB G node sites G.exit.length).map confV), iV 0] := by
          have h1 := next12 G.of.length (rulesL G) (confR G node sites).1 (fun r hr => (rules_ok hok r hr).1) (by omega) (by simp [rulesL]; omega) (by rw [hcv]; exact conf_ok hok hnode hsites hsl) (fun r hr => by have := (rules_ok hok r hr).2; rw [hcv]; simp; omega)
          have h2 : nextR (rulesL G) (confR G node sites).1 = wantB G node sites G.exit.length := by rw [hcv]; exact next_want hok hnode hsites hsl
          rwa [h2] at h1
        refine p_skip ?_
        refine p_seq (p_region fun hf => ?_)
        refine p_assign (h := ?_)
        refine p_end ?_
        refine p_seq ?_
        refine p_seq (p_region fun hf => ?_)
        refine p_assign (h := ?_)
        refine p_end ?_
        refine p_nilSlot (s := 11) (el := 44) 101 (h := ?_)
        refine TrC.block ?_
        refine p_loop (fun st => ∃ (i r : Nat), i ≤ G.steps.length ∧ st.env 1 = iV node ∧ st.env 2 = .sl 3 (sites.map iV) ∧ st.env 3 = .ptr (0 + 1) 3 0 ∧ st.env 7 = .ptr (0 + 1 + 1 + 1) 7 0 ∧ st.env 9 = .ptr (0 + 1 + 1 + 1 + 1) 9 0 ∧ st.env 11 = .row r 101 (wantA G node sites i).length ∧ st.env 12 = iV i ∧ st.obj (0 + 1) 3 = .cells 29 (graphL G) ∧ st.obj (0 + 1 + 1 + 1) 7 = .cells 38 [iV 1, iV 0, .nil, iV 1, iV G.of.length, .sl 92 ((rulesL G).map ruleW)] ∧ st.obj (0 + 1 + 1 + 1 + 1) 9 = .cells 44 (confL (confR G node sites).1) ∧ st.obj r 101 = .row 44 ((wantA G node sites i).map confV)) (fun st => G.steps.length - (st.env 12).toN) ?_ fun e ob g1 hI => ?_
        · exact ⟨0, _, by omega, eV_, eV_, eV_, eV_, eV_, eV_, eV_, oB_, oB_, oB_, oB_⟩
        · obtain ⟨i, r, hi, e1, e2, e3, e7, e9, e11, e12, o3, o7, o9, o101⟩ := hI
          dsimp only at e1 e2 e3 e7 e9 e11 e12 o3 o7 o9 o101
          have hE := (⟨e1, e2, e3, e7, e9, e11, e12, o3, o7, o9, o101⟩ : _ ∧ _ ∧ _ ∧ _ ∧ _ ∧ _ ∧ _ ∧ _ ∧ _ ∧ _ ∧ _)
          refine p_seq ?_
          refine p_seq (p_region fun hf => ?_)
          refine p_move (h := ?_)
          (first | refine p_fieldPtr (hf := F.fld29_6) (h := ?_) | refine p_fieldRef (hf := F.fld29_6) (h := ?_) | refine p_fieldRow (hf := F.fld29_6) (h := ?_))
          (first | refine p_load (ht := F.leaf24) (h := ?_) | refine p_loadRef (ht := F.leaf24) (h := ?_))
          refine p_len (ht := Try.underlying24) (h := ?_)
          refine p_num (h := ?_)
          refine p_end ?_
          refine p_splitC (s := 54) (ht := fun hc54 => ?_) (hf := fun hc54 => ?_)
          · refine p_condT (h := ?_)
            have hlt : i < G.steps.length := by simpa using hc54
            refine p_skip ?_
            refine p_seq ?_
            refine TrC.block ?_
            refine p_seq (p_region fun hf => ?_)
            (first | refine p_fieldPtr (hf := F.fld29_6) (h := ?_) | refine p_fieldRef (hf := F.fld29_6) (h := ?_) | refine p_fieldRow (hf := F.fld29_6) (h := ?_))
            (first | refine p_load (ht := F.leaf24) (h := ?_) | refine p_loadRef (ht := F.leaf24) (h := ?_))
            refine p_move (h := ?_)
            refine p_idxMap (j := i) (ht := Try.underlying24) (hi := F.ti50) (hij := rfl) (hj := hlt) (h := ?_)
            (first | refine p_loadA (ht := F.agg50) (hi := F.ti50) (h := ?_) | refine p_loadRefA (ht := F.agg50) (hi := F.ti50) (h := ?_))
            refine p_alloc (hi := F.ti50) (h := ?_)
            refine p_storeAll F.ti50 (h := ?_)
            refine p_end ?_
            refine p_seq ?_
            refine p_seq (p_region fun hf => ?_)
            (first | refine p_fieldPtr (hf := F.fld50_0) (h := ?_) | refine p_fieldRef (hf := F.fld50_0) (h := ?_) | refine p_fieldRow (hf := F.fld50_0) (h := ?_))
            (first | refine p_load (ht := F.leaf3) (h := ?_) | refine p_loadRef (ht := F.leaf3) (h := ?_))
            refine p_move (h := ?_)
            refine p_num (h := ?_)
            refine p_end ?_
            refine p_splitC (s := 65) (ht := fun hc65 => ?_) (hf := fun hc65 => ?_)
            · refine p_condT (h := ?_)
              refine p_exit ?_
              refine p_region fun hf => ?_
              refine p_move (h := ?_)
              refine p_add (r := ((i + 1 : Nat) : Int)) (hr := by omega) (hb := by omega) (h := ?_)
              refine p_assign (h := ?_)
              refine p_end ?_
              refine p_some ?_
              have hx := wantA_miss (sites := sites) hlt hc65
              refine ⟨⟨i + 1, _, hlt, eV_, eV_, eV_, eV_, eV_, by rw [hx]; exact eV_, eV_, oB_, oB_, oB_, by rw [hx]; exact oB_⟩, ?_⟩
              simp (decide := true) only [upd, e12, V.toN, ↓reduceIte]; omega
            · refine p_condF (h := ?_)
              refine p_skip ?_
              refine p_seq (p_region fun hf => ?_)
              (first | refine p_loadA (ht := F.agg29) (hi := F.ti29) (h := ?_) | refine p_loadRefA (ht := F.agg29) (hi := F.ti29) (h := ?_))
              (first | refine p_fieldPtr (hf := F.fld50_1) (h := ?_) | refine p_fieldRef (hf := F.fld50_1) (h := ?_) | refine p_fieldRow (hf := F.fld50_1) (h := ?_))
              (first | refine p_load (ht := F.leaf3) (h := ?_) | refine p_loadRef (ht := F.leaf3) (h := ?_))
              refine p_move (h := ?_)
              refine p_call (hx := rfl) (hb := ⟨Try.func11, by kernel_rfl, rfl⟩) (hf := conf23 G G.steps[i].to sites hs.1 hs.2.1 hs.2.2.1 (by omega) hs.2.2.2) (h := ?_)
              refine p_move (h := ?_)
              refine p_extract (h := ?_)
              refine p_extract (h := ?_)
              refine p_alloc (hi := F.ti44) (h := ?_)
              refine p_storeAll F.ti44 (h := ?_)
              refine p_assign (h := ?_)
              refine p_end ?_
              refine p_seq ?_
              refine p_seq (p_region fun hf => ?_)
              (first | refine p_fieldPtr (hf := F.fld50_2) (h := ?_) | refine p_fieldRef (hf := F.fld50_2) (h := ?_) | refine p_fieldRow (hf := F.fld50_2) (h := ?_))
              (first | refine p_load (ht := F.leaf48) (h := ?_) | refine p_loadRef (ht := F.leaf48) (h := ?_))
              refine p_num (h := ?_)
              refine p_end ?_
              refine p_splitC (s := 76) (ht := fun hc76 => ?_) (hf := fun hc76 => ?_)
              · refine p_condT (h := ?_)
                have hin := step_site hok hlt hc76
                have hpr := site_proc hok hin
                refine p_draw F.mixed fun hf => ?_
                (first | refine p_loadA (ht := F.agg29) (hi := F.ti29) (h := ?_) | refine p_loadRefA (ht := F.agg29) (hi := F.ti29) (h := ?_))
                (first | refine p_fieldPtr (hf := F.fld29_2) (h := ?_) | refine p_fieldRef (hf := F.fld29_2) (h := ?_) | refine p_fieldRow (hf := F.fld29_2) (h := ?_))
                (first | refine p_load (ht := F.leaf23) (h := ?_) | refine p_loadRef (ht := F.leaf23) (h := ?_))
                (first | refine p_fieldPtr (hf := F.fld29_7) (h := ?_) | refine p_fieldRef (hf := F.fld29_7) (h := ?_) | refine p_fieldRow (hf := F.fld29_7) (h := ?_))
                (first | refine p_load (ht := F.leaf25) (h := ?_) | refine p_loadRef (ht := F.leaf25) (h := ?_))
                (first | refine p_fieldPtr (hf := F.fld50_6) (h := ?_) | refine p_fieldRef (hf := F.fld50_6) (h := ?_) | refine p_fieldRow (hf := F.fld50_6) (h := ?_))
                (first | refine p_load (ht := F.leaf3) (h := ?_) | refine p_loadRef (ht := F.leaf3) (h := ?_))
                refine p_idxMap (j := G.steps[i].site.toNat) (ht := Try.underlying25) (hi := F.ti54) (hij := inB_nat hin) (hj := inB_lt hin) (h := ?_)
                rw [siteAt_eq (inB_lt hin)]
                (first | refine p_fieldPtr (hf := F.fld54_1) (h := ?_) | refine p_fieldRef (hf := F.fld54_1) (h := ?_) | refine p_fieldRow (hf := F.fld54_1) (h := ?_))
                (first | refine p_load (ht := F.leaf3) (h := ?_) | refine p_loadRef (ht := F.leaf3) (h := ?_))
                refine p_idxMap (j := (siteAt G G.steps[i].site).proc.toNat) (ht := Try.underlying23) (hi := F.ti3) (hij := inB_nat hpr) (hj := inB_lt hpr) (h := ?_)
                rw [entryZ_eq (inB_lt hpr)]
                (first | refine p_load (ht := F.leaf3) (h := ?_) | refine p_loadRef (ht := F.leaf3) (h := ?_))
                (first | refine p_fieldPtr (hf := F.fld50_6) (h := ?_) | refine p_fieldRef (hf := F.fld50_6) (h := ?_) | refine p_fieldRow (hf := F.fld50_6) (h := ?_))
                (first | refine p_load (ht := F.leaf3) (h := ?_) | refine p_loadRef (ht := F.leaf3) (h := ?_))
                refine p_buildSlice (ht := Try.underlying23) (hi := F.ti3) (h := ?_)
                refine p_move (h := ?_)
                refine p_append (k := sites.length + 1) (ht := Try.underlying23) (hi := F.ti3) (hnl := by simp) (hy := by exact .inl ⟨rfl, rfl⟩) (hm := by simp; omega) (hlim := by omega) (h := ?_)
                refine p_callRow (vs := [graphV G, iV (entryZ G (siteAt G G.steps[i].site).proc), .sl 3 ((G.steps[i].site :: sites).map iV)]) (g1 + 1 + 1 + 1 + 1 + 1 + 1) 94 (hb := ⟨Try.func11, by kernel_rfl, rfl⟩) (hvs := by simp [V.frz]) (hf := conf23 G (entryZ G (siteAt G G.steps[i].site).proc) (G.steps[i].site :: sites) hs.1 hs.2.1 hs.2.2.1 (by simp; omega) hs.2.2.2) (h := ?_)
                refine p_move (h := ?_)
                refine p_extract (h := ?_)
                refine p_extract (h := ?_)
                refine p_storeAll F.ti44 (h := ?_)
                refine p_endD ?_
                refine p_region fun hf => ?_
                refine p_move (h := ?_)
                (first | refine p_loadA (ht := F.agg44) (hi := F.ti44) (h := ?_) | refine p_loadRefA (ht := F.agg44) (hi := F.ti44) (h := ?_))
                refine p_buildSlice (ht := Try.underlying47) (hi := F.ti44) (h := ?_)
                refine p_append (k := (wantA G node sites i).length + 1) (ht := Try.underlying47) (hi := F.ti44) (hnl := by simp) (hy := by exact ⟨.inl oB_, rfl⟩) (hm := by simp) (hlim := by have := wantA_len (G := G) (node := node) (sites := sites) (i := i); omega) (h := ?_)
                refine p_assign (h := ?_)
                refine p_end ?_
                refine p_region fun hf => ?_
                refine p_move (h := ?_)
                refine p_add (r := ((i + 1 : Nat) : Int)) (hr := by omega) (hb := by omega) (h := ?_)
                refine p_assign (h := ?_)
                refine p_end ?_
                refine p_some ?_
                have hx := wantA_hit (sites := sites) hlt hc65
                refine ⟨⟨i + 1, _, hlt, eV_, eV_, eV_, eV_, eV_, by rw [hx, List.length_append]; exact eV_, eV_, oB_, oB_, oB_, by refine Eq.trans oB_ ?_; rw [hx]; simp only [stepConf, hc76, Bool.false_eq_true, ↓reduceIte, List.map_append]; rfl⟩, ?_⟩
                simp (decide := true) only [upd, e12, V.toN, ↓reduceIte]; omega
              · refine p_condF (h := ?_)
                refine p_skip ?_
                refine p_region fun hf => ?_
                refine p_move (h := ?_)
                (first | refine p_loadA (ht := F.agg44) (hi := F.ti44) (h := ?_) | refine p_loadRefA (ht := F.agg44) (hi := F.ti44) (h := ?_))
                refine p_buildSlice (ht := Try.underlying47) (hi := F.ti44) (h := ?_)
                refine p_append (k := (wantA G node sites i).length + 1) (ht := Try.underlying47) (hi := F.ti44) (hnl := by simp) (hy := by exact ⟨.inl oB_, rfl⟩) (hm := by simp) (hlim := by have := wantA_len (G := G) (node := node) (sites := sites) (i := i); omega) (h := ?_)
                refine p_assign (h := ?_)
                refine p_end ?_
                refine p_region fun hf => ?_
                refine p_move (h := ?_)
                refine p_add (r := ((i + 1 : Nat) : Int)) (hr := by omega) (hb := by omega) (h := ?_)
                refine p_assign (h := ?_)
                refine p_end ?_
                refine p_some ?_
                have hx := wantA_hit (sites := sites) hlt hc65
                refine ⟨⟨i + 1, _, hlt, eV_, eV_, eV_, eV_, eV_, by rw [hx, List.length_append]; exact eV_, eV_, oB_, oB_, oB_, by refine Eq.trans oB_ ?_; rw [hx]; simp only [stepConf, hc76, Bool.false_eq_true, ↓reduceIte, List.map_append]; rfl⟩, ?_⟩
                simp (decide := true) only [upd, e12, V.toN, ↓reduceIte]; omega
          · refine p_condF (h := ?_)
            obtain rfl : i = G.steps.length := by simp at hc54; omega
            refine p_exit ?_
            refine p_seq ?_
            refine p_seq (p_region fun hf => ?_)
            refine p_assign (h := ?_)
            refine p_end ?_
            refine p_renSlot (s := 11) 138 (h := ?_)
            refine TrC.block ?_
            refine p_loop (fun st => ∃ (j r : Nat), j ≤ G.exit.length ∧ st.env 1 = iV node ∧ st.env 2 = .sl 3 (sites.map iV) ∧ st.env 3 = .ptr (0 + 1) 3 0 ∧ st.env 7 = .ptr (0 + 1 + 1 + 1) 7 0 ∧ st.env 9 = .ptr (0 + 1 + 1 + 1 + 1) 9 0 ∧ st.env 11 = .row r 138 (wantB G node sites j).length ∧ st.env 16 = iV j ∧ st.obj (0 + 1) 3 = .cells 29 (graphL G) ∧ st.obj (0 + 1 + 1 + 1) 7 = .cells 38 [iV 1, iV 0, .nil, iV 1, iV G.of.length, .sl 92 ((rulesL G).map ruleW)] ∧ st.obj (0 + 1 + 1 + 1 + 1) 9 = .cells 44 (confL (confR G node sites).1) ∧ st.obj r 138 = .row 44 ((wantB G node sites j).map confV)) (fun st => G.exit.length - (st.env 16).toN) ?_ fun e ob g2 hI => ?_
            · exact ⟨0, _, by omega, eV_, eV_, eV_, eV_, eV_, by rw [hW0]; exact eV_, eV_, oB_, oB_, oB_, by rw [hW0]; exact oB_⟩
            · obtain ⟨j, r, hj, f1, f2, f3, f7, f9, f11, f16, p3, p7, p9, p138⟩ := hI
              dsimp only at f1 f2 f3 f7 f9 f11 f16 p3 p7 p9 p138
              have hE := (⟨f1, f2, f3, f7, f9, f11, f16, p3, p7, p9, p138⟩ : _ ∧ _ ∧ _ ∧ _ ∧ _ ∧ _ ∧ _ ∧ _ ∧ _ ∧ _ ∧ _)
              refine p_seq ?_
              refine p_seq (p_region fun hf => ?_)
              refine p_move (h := ?_)
              (first | refine p_fieldPtr (hf := F.fld29_3) (h := ?_) | refine p_fieldRef (hf := F.fld29_3) (h := ?_) | refine p_fieldRow (hf := F.fld29_3) (h := ?_))
              (first | refine p_load (ht := F.leaf23) (h := ?_) | refine p_loadRef (ht := F.leaf23) (h := ?_))
              refine p_len (ht := Try.underlying23) (h := ?_)
              refine p_num (h := ?_)
              refine p_end ?_
              refine p_splitC (s := 106) (ht := fun hc106 => ?_) (hf := fun hc106 => ?_)
              · refine p_condT (h := ?_)
                have hltj : j < G.exit.length := by simpa using hc106
                refine p_skip ?_
                refine p_seq ?_
                refine TrC.block ?_
                refine p_seq ?_
                refine p_seq (p_region fun hf => ?_)
                (first | refine p_fieldPtr (hf := F.fld29_3) (h := ?_) | refine p_fieldRef (hf := F.fld29_3) (h := ?_) | refine p_fieldRow (hf := F.fld29_3) (h := ?_))
                (first | refine p_load (ht := F.leaf23) (h := ?_) | refine p_loadRef (ht := F.leaf23) (h := ?_))
                refine p_move (h := ?_)
                refine p_idxMap (j := j) (ht := Try.underlying23) (hi := F.ti3) (hij := rfl) (hj := hltj) (h := ?_)
                (first | refine p_load (ht := F.leaf3) (h := ?_) | refine p_loadRef (ht := F.leaf3) (h := ?_))
                refine p_move (h := ?_)
                refine p_num (h := ?_)
                refine p_end ?_
                refine p_splitC (s := 115) (ht := fun hc115 => ?_) (hf := fun hc115 => ?_)
                · refine p_condT (h := ?_)
                  refine p_exit ?_
                  refine p_region fun hf => ?_
                  refine p_move (h := ?_)
                  refine p_add (r := ((j + 1 : Nat) : Int)) (hr := by omega) (hb := by omega) (h := ?_)
                  refine p_assign (h := ?_)
                  refine p_end ?_
                  refine p_some ?_
                  have hx := wantB_miss (sites := sites) hltj hc115
                  refine ⟨⟨j + 1, _, hltj, eV_, eV_, eV_, eV_, eV_, by rw [hx]; exact eV_, eV_, oB_, oB_, oB_, by rw [hx]; exact oB_⟩, ?_⟩
                  simp (decide := true) only [upd, f16, V.toN, ↓reduceIte]; omega
                · refine p_condF (h := ?_)
                  refine p_skip ?_
                  refine p_seq (p_region fun hf => ?_)
                  refine p_build (hi := F.ti44) (hpl := F.pl44) (h := ?_)
                  refine p_alloc (hi := F.ti44) (h := ?_)
                  refine p_storeAll F.ti44 (h := ?_)
                  refine p_end ?_
                  refine p_seq ?_
                  refine p_seq (p_region fun hf => ?_)
                  refine p_move (h := ?_)
                  refine p_len (ht := Try.underlying23) (h := ?_)
                  refine p_num (h := ?_)
                  refine p_end ?_
                  refine p_splitC (s := 119) (ht := fun hc119 => ?_) (hf := fun hc119 => ?_)
                  · refine p_condT (h := ?_)
                    have hpos : 0 < sites.length := by simpa using hc119
                    have hin0 := inBt (hsites _ (List.getElem_mem hpos))
                    refine p_draw F.mixed fun hf => ?_
                    (first | refine p_loadA (ht := F.agg29) (hi := F.ti29) (h := ?_) | refine p_loadRefA (ht := F.agg29) (hi := F.ti29) (h := ?_))
                    (first | refine p_fieldPtr (hf := F.fld29_7) (h := ?_) | refine p_fieldRef (hf := F.fld29_7) (h := ?_) | refine p_fieldRow (hf := F.fld29_7) (h := ?_))
                    (first | refine p_load (ht := F.leaf25) (h := ?_) | refine p_loadRef (ht := F.leaf25) (h := ?_))
                    refine p_move (h := ?_)
                    refine p_idxMap (j := 0) (ht := Try.underlying23) (hi := F.ti3) (hij := rfl) (hj := hpos) (h := ?_)
                    (first | refine p_load (ht := F.leaf3) (h := ?_) | refine p_loadRef (ht := F.leaf3) (h := ?_))
                    refine p_idxMap (j := sites[0].toNat) (ht := Try.underlying25) (hi := F.ti54) (hij := inB_nat hin0) (hj := inB_lt hin0) (h := ?_)
                    rw [siteAt_eq (inB_lt hin0)]
                    (first | refine p_fieldPtr (hf := F.fld54_3) (h := ?_) | refine p_fieldRef (hf := F.fld54_3) (h := ?_) | refine p_fieldRow (hf := F.fld54_3) (h := ?_))
                    (first | refine p_load (ht := F.leaf3) (h := ?_) | refine p_loadRef (ht := F.leaf3) (h := ?_))
                    refine p_move (h := ?_)
                    refine p_partLo (l := 1) (ys := (sites.drop 1).map iV) (ht := Try.underlying23) (hi := F.ti3) (hl := by simp; omega) (hys := by rw [List.map_drop]) (h := ?_)
                    refine p_call (hx := rfl) (hb := ⟨Try.func11, by kernel_rfl, rfl⟩) (hf := conf23 G (backAt G sites[0]) (sites.drop 1) hs.1 hs.2.1 hs.2.2.1 (by simp; omega) hs.2.2.2) (h := ?_)
                    refine p_move (h := ?_)
                    refine p_extract (h := ?_)
                    refine p_extract (h := ?_)
                    refine p_storeAll F.ti44 (h := ?_)
                    refine p_endD ?_
                    refine p_region fun hf => ?_
                    refine p_move (h := ?_)
                    (first | refine p_loadA (ht := F.agg44) (hi := F.ti44) (h := ?_) | refine p_loadRefA (ht := F.agg44) (hi := F.ti44) (h := ?_))
                    refine p_buildSlice (ht := Try.underlying47) (hi := F.ti44) (h := ?_)
                    refine p_append (k := (wantB G node sites j).length + 1) (ht := Try.underlying47) (hi := F.ti44) (hnl := by simp) (hy := by exact ⟨.inl oB_, rfl⟩) (hm := by simp) (hlim := by have := wantB_len (G := G) (node := node) (sites := sites) (j := j); omega) (h := ?_)
                    refine p_assign (h := ?_)
                    refine p_end ?_
                    refine p_region fun hf => ?_
                    refine p_move (h := ?_)
                    refine p_add (r := ((j + 1 : Nat) : Int)) (hr := by omega) (hb := by omega) (h := ?_)
                    refine p_assign (h := ?_)
                    refine p_end ?_
                    refine p_some ?_
                    have hx := wantB_hit (sites := sites) hltj hc115
                    refine ⟨⟨j + 1, _, hltj, eV_, eV_, eV_, eV_, eV_, by rw [hx, List.length_append]; exact eV_, eV_, oB_, oB_, oB_, by refine Eq.trans oB_ ?_; rw [hx]; simp only [exitConf_pos hpos, List.map_append]; rfl⟩, ?_⟩
                    simp (decide := true) only [upd, f16, V.toN, ↓reduceIte]; omega
                  · refine p_condF (h := ?_)
                    have hnil : sites = [] := by simpa using hc119
                    refine p_skip ?_
                    refine p_region fun hf => ?_
                    refine p_move (h := ?_)
                    (first | refine p_loadA (ht := F.agg44) (hi := F.ti44) (h := ?_) | refine p_loadRefA (ht := F.agg44) (hi := F.ti44) (h := ?_))
                    refine p_aggNilW (s := 136) (i := 1) (el := 3) (h := ?_)
                    refine p_buildSlice (ht := Try.underlying47) (hi := F.ti44) (h := ?_)
                    refine p_append (k := (wantB G node sites j).length + 1) (ht := Try.underlying47) (hi := F.ti44) (hnl := by simp) (hy := by exact ⟨.inl oB_, rfl⟩) (hm := by simp) (hlim := by have := wantB_len (G := G) (node := node) (sites := sites) (j := j); omega) (h := ?_)
                    refine p_assign (h := ?_)
                    refine p_end ?_
                    refine p_region fun hf => ?_
                    refine p_move (h := ?_)
                    refine p_add (r := ((j + 1 : Nat) : Int)) (hr := by omega) (hb := by omega) (h := ?_)
                    refine p_assign (h := ?_)
                    refine p_end ?_
                    refine p_some ?_
                    have hx := wantB_hit (sites := sites) hltj hc115
                    refine ⟨⟨j + 1, _, hltj, eV_, eV_, eV_, eV_, eV_, by rw [hx, List.length_append]; exact eV_, eV_, oB_, oB_, oB_, by refine Eq.trans oB_ ?_; rw [hx, show exitConf G sites = ⟨0, []⟩ by rw [hnil]; rfl]; simp only [List.map_append]; rfl⟩, ?_⟩
                    simp (decide := true) only [upd, f16, V.toN, ↓reduceIte]; omega
              · refine p_condF (h := ?_)
                obtain rfl : j = G.exit.length := by simp at hc106; omega
                refine p_exit ?_
                refine p_seq (p_region fun hf => ?_)
                (first | refine p_loadA (ht := F.agg38) (hi := F.ti38) (h := ?_) | refine p_loadRefA (ht := F.agg38) (hi := F.ti38) (h := ?_))
                (first | refine p_loadA (ht := F.agg44) (hi := F.ti44) (h := ?_) | refine p_loadRefA (ht := F.agg44) (hi := F.ti44) (h := ?_))
                refine p_call (hx := rfl) (hb := ⟨Try.func12, by kernel_rfl, rfl⟩) (hf := hnext) (h := ?_)
                refine p_move (h := ?_)
                refine p_extract (h := ?_)
                refine p_extract (h := ?_)
                refine p_extract (h := ?_)
                refine p_assign (h := ?_)
                refine p_assign (h := ?_)
                refine p_assign (h := ?_)
                refine p_end ?_
                refine p_seq ?_
                refine p_seq (p_region fun hf => ?_)
                refine p_move (h := ?_)
                refine p_num (h := ?_)
                refine p_move (h := ?_)
                refine p_isW (s := 148) (b := false) (hc := by first | rfl | decide | simp) (h := ?_)
                refine p_guardYes (h := ?_)
                refine p_move (h := ?_)
                refine p_guardYes (h := ?_)
                refine p_len (ht := Try.underlying47) (h := ?_)
                refine p_guardYes (h := ?_)
                refine p_move (h := ?_)
                refine p_guardYes (h := ?_)
                refine p_len (ht := Try.underlying47) (h := ?_)
                refine p_guardYes (h := ?_)
                refine p_num (h := ?_)
                refine p_pick (h := ?_)
                refine p_end ?_
                refine p_isC (s := 154) (b := false) (hc := by simp) (h := ?_)
                refine p_condF (h := ?_)
                refine p_skip ?_
                refine p_seq ?_
                refine p_seq (p_region fun hf => ?_)
                refine p_assign (h := ?_)
                refine p_end ?_
                refine p_freeze (g1 := r) (d1 := 138) (h := ?_)
                refine p_toSl (s := 11) (hn := by simp) (h := ?_)
                refine TrC.block ?_
                refine p_loop (fun st => ∃ k : Nat, k ≤ (wantB G node sites G.exit.length).length ∧ st.env 11 = .sl 44 ((wantB G node sites G.exit.length).map confV) ∧ st.env 19 = .sl 44 ((wantB G node sites G.exit.length).map confV) ∧ st.env 21 = iV k) (fun st => (wantB G node sites G.exit.length).length - (st.env 21).toN) ?_ fun e ob g3 hI => ?_
                · exact ⟨0, by omega, eV_, eV_, eV_⟩
                · obtain ⟨k, hk, d11, d19, d21⟩ := hI
                  dsimp only at d11 d19 d21
                  have hE := (⟨d11, d19, d21⟩ : _ ∧ _ ∧ _)
                  refine p_seq ?_
                  refine p_seq (p_region fun hf => ?_)
                  refine p_move (h := ?_)
                  refine p_move (h := ?_)
                  refine p_len (ht := Try.underlying47) (h := ?_)
                  refine p_num (h := ?_)
                  refine p_end ?_
                  refine p_splitC (s := 158) (ht := fun hc158 => ?_) (hf := fun hc158 => ?_)
                  · refine p_condT (h := ?_)
                    have hltk : k < (wantB G node sites G.exit.length).length := by simpa using hc158
                    have hwl := wantB_len (G := G) (node := node) (sites := sites) (j := G.exit.length)
                    refine p_skip ?_
                    refine p_seq ?_
                    refine TrC.block ?_
                    refine p_seq (p_draw F.mixed fun hf => ?_)
                    refine p_move (h := ?_)
                    refine p_move (h := ?_)
                    refine p_idxMap (j := k) (ht := Try.underlying47) (hi := F.ti44) (hij := rfl) (hj := hltk) (h := ?_)
                    (first | refine p_loadA (ht := F.agg44) (hi := F.ti44) (h := ?_) | refine p_loadRefA (ht := F.agg44) (hi := F.ti44) (h := ?_))
                    refine p_move (h := ?_)
                    refine p_move (h := ?_)
                    refine p_idxMap (j := k) (ht := Try.underlying47) (hi := F.ti44) (hij := rfl) (hj := hltk) (h := ?_)
                    (first | refine p_loadA (ht := F.agg44) (hi := F.ti44) (h := ?_) | refine p_loadRefA (ht := F.agg44) (hi := F.ti44) (h := ?_))
                    refine p_call (hx := rfl) (hb := ⟨Try.func13, by kernel_rfl, rfl⟩) (hf := sameConf (wantB G node sites G.exit.length)[k] (wantB G node sites G.exit.length)[k] (by have := wantB_w _ (List.getElem_mem hltk); omega)) (h := ?_)
                    refine p_not (h := ?_)
                    refine p_endD ?_
                    refine p_isC (s := 170) (b := false) (hc := by rw [sameConf_refl]; rfl) (h := ?_)
                    refine p_condF (h := ?_)
                    refine p_skip ?_
                    refine p_region fun hf => ?_
                    refine p_move (h := ?_)
                    refine p_add (r := ((k + 1 : Nat) : Int)) (hr := by omega) (hb := by omega) (h := ?_)
                    refine p_assign (h := ?_)
                    refine p_end ?_
                    refine p_some ?_
                    refine ⟨⟨k + 1, hltk, eV_, eV_, eV_⟩, ?_⟩
                    simp (decide := true) only [upd, d21, V.toN, ↓reduceIte]; omega
                  · refine p_condF (h := ?_)
                    refine p_exit ?_
                    refine p_seq (p_region fun hf => ?_)
                    refine p_call (hx := rfl) (hb := ⟨Try.func8, by kernel_rfl, rfl⟩) (hf := alive) (h := ?_)
                    refine p_assign (h := ?_)
                    refine p_end ?_
                    refine TrC.ret ?_
                    refine p_ret1 (hp := by rfl)

theorem encodeSteps (G : Graph) (node : Int) (sites : List Int) : FnC Try.prog 3 [graphV G, iV node, .sl 3 (sites.map iV)] (fun r => r = .bool true) := by
  cases h : checkB G with
  | true => exact encodeSteps_good G node sites h
  | false => exact encodeSteps_bad G node sites h
end Go.Proofs.Ytfjciangbmjlmaa
