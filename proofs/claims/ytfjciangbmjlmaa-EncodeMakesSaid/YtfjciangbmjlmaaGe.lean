/-
  graph.Check, walked.
-/
import Derived.Test.YtfjciangbmjlmaaGd
set_option linter.unusedSimpArgs false
set_option linter.unusedVariables false
namespace Go.Proofs.Ytfjciangbmjlmaa
open Go.RowKit
def scan (G : Graph) : Nat → List Step → Bool × Nat
  | c, [] => (true, c)
  | c, s :: l => if stepRightB G s && (!decide (s.kind = 8) || decide (s.site = c)) then scan G (if decide (s.kind = 8) then c + 1 else c) l else (false, c)
def checkB (G : Graph) : Bool := procsRightB G && (scan G 0 G.steps).1 && decide (((scan G 0 G.steps).2 : Int) = G.sites.length) && !(G.points.any fun p => !inB p.node G.of.length) && !(G.sinks.any fun p => !inB p.node G.of.length || !inB p.x G.vars.length)
def checkE (G : Graph) : Int := if checkB G then 0 else 213
def ScanAt (G : Graph) (i c : Nat) (ok : Bool) : Prop := c ≤ i ∧ (ok = true → procsRightB G = true ∧ scan G 0 G.steps = scan G c (G.steps.drop i)) ∧ (ok = false → procsRightB G = false ∨ (scan G 0 G.steps).1 = false)
theorem scan_start (G : Graph) : ScanAt G 0 0 (procsRightB G) := ⟨by omega, fun h => ⟨h, rfl⟩, fun h => .inl h⟩
theorem scan_step {G : Graph} {i c c' : Nat} {ok ok' : Bool} (hlt : i < G.steps.length) (hok : ok = true) (h : ScanAt G i c ok) (h1 : ok' = (stepRightB G G.steps[i] && (!decide (G.steps[i].kind = 8) || decide (G.steps[i].site = c)))) (h2 : c' = if decide (G.steps[i].kind = 8) then c + 1 else c) : ScanAt G (i + 1) c' ok' := by
  obtain ⟨h3, h4, _⟩ := h
  obtain ⟨h5, h6⟩ := h4 hok
  rw [List.drop_eq_getElem_cons hlt, scan, ← h1, ← h2] at h6
  refine ⟨?_, fun h => ⟨h5, ?_⟩, fun h => .inr ?_⟩
  · rw [h2]; split <;> omega
  · rw [h6, h]; rfl
  · rw [h6, h]; rfl
theorem check_fin {G : Graph} {i c : Nat} {ok : Bool} (h : ScanAt G i c ok) (hi : ok = true → i = G.steps.length) : checkB G = (ok && decide ((c : Int) = G.sites.length) && !(G.points.any fun p => !inB p.node G.of.length) && !(G.sinks.any fun p => !inB p.node G.of.length || !inB p.x G.vars.length)) := by
  obtain ⟨_, h4, h5⟩ := h
  cases ok with
  | true =>
    obtain ⟨h6, h7⟩ := h4 rfl
    rw [hi rfl, List.drop_length] at h7
    simp [checkB, h6, h7, scan]
  | false =>
    rcases h5 rfl with h6 | h6 <;> simp [checkB, h6]

theorem check (G : Graph) (h1 : G.steps.length ≤ 1000000000) (h2 : G.points.length ≤ 1000000000) (h3 : G.sinks.length ≤ 1000000000) : FnC Try.prog 29 [graphV G] (fun r => r = iV (checkE G)) := by
  refine FnC.of (fn := Try.f29) ⟨Try.func29, by kernel_rfl, rfl⟩ Try.ntmps29 (by simp) fun w0 S0 => ?_
  refine p_seq (p_region fun hf => ?_)
  refine p_box (h := ?_)
  refine p_assign (h := ?_)
  refine p_end ?_
  refine p_seq (p_region fun hf => ?_)
  (first | refine p_loadA (ht := F.agg29) (hi := F.ti29) (h := ?_) | refine p_loadRefA (ht := F.agg29) (hi := F.ti29) (h := ?_))
  refine p_call (hx := rfl) (hb := ⟨Try.func47, by kernel_rfl, rfl⟩) (hf := procsRight G) (h := ?_)
  refine p_assign (h := ?_)
  refine p_end ?_
  refine p_seq (p_region fun hf => ?_)
  refine p_assign (h := ?_)
  refine p_end ?_
  refine p_seq ?_
  refine p_seq (p_region fun hf => ?_)
  refine p_assign (h := ?_)
  refine p_end ?_
  refine TrC.block ?_
  refine p_loop (fun st => ∃ (i c : Nat) (ok : Bool), i ≤ G.steps.length ∧ ScanAt G i c ok ∧ st.env 1 = .ptr (0 + 1) 1 0 ∧ st.env 3 = .bool ok ∧ st.env 4 = iV c ∧ st.env 5 = iV i ∧ st.obj (0 + 1) 1 = .cells 29 (graphL G)) (fun st => G.steps.length - (st.env 5).toN) ?_ fun e ob g1 hI => ?_
  · exact ⟨0, 0, procsRightB G, by omega, scan_start G, eV_, eV_, eV_, eV_, oB_⟩
  · obtain ⟨i, c, ok, hi, hS, e1, e3, e4, e5, o1⟩ := hI
    dsimp only at e1 e3 e4 e5 o1
    have hE := (⟨e1, e3, e4, e5, o1⟩ : _ ∧ _ ∧ _ ∧ _ ∧ _)
    have hci := hS.1
    refine p_seq ?_
    refine p_seq (p_region fun hf => ?_)
    refine p_move (h := ?_)
    refine p_move (h := ?_)
    refine p_split (s := 10) (ht := fun hb10 => ?_) (hf := fun hb10 => ?_)
    · -- slot 10 is true
      refine p_guardYes (h := ?_)
      refine p_move (h := ?_)
      refine p_guardYes (h := ?_)
      (first | refine p_fieldPtr (hf := F.fld29_6) (h := ?_) | refine p_fieldRef (hf := F.fld29_6) (h := ?_) | refine p_fieldRow (hf := F.fld29_6) (h := ?_))
      refine p_guardYes (h := ?_)
      (first | refine p_load (ht := F.leaf24) (h := ?_) | refine p_loadRef (ht := F.leaf24) (h := ?_))
      refine p_guardYes (h := ?_)
      refine p_len (ht := Try.underlying24) (h := ?_)
      refine p_guardYes (h := ?_)
      refine p_num (h := ?_)
      refine p_pick (h := ?_)
      refine p_end ?_
      refine p_splitC (s := 16) (ht := fun hc16 => ?_) (hf := fun hc16 => ?_)
      · refine p_condT (h := ?_)
        have hlt : i < G.steps.length := by simpa using hc16
        refine p_skip ?_
        refine p_seq ?_
        refine TrC.block ?_
        refine p_seq (p_region fun hf => ?_)
        (first | refine p_fieldPtr (hf := F.fld29_6) (h := ?_) | refine p_fieldRef (hf := F.fld29_6) (h := ?_) | refine p_fieldRow (hf := F.fld29_6) (h := ?_))
        (first | refine p_load (ht := F.leaf24) (h := ?_) | refine p_loadRef (ht := F.leaf24) (h := ?_))
        refine p_move (h := ?_)
        refine p_idxMap (j := i) (ht := Try.underlying24) (hi := F.ti50) (hij := rfl) (hj := hlt) (h := ?_)
        (first | refine p_loadA (ht := F.agg50) (hi := F.ti50) (h := ?_) | refine p_loadRefA (ht := F.agg50) (hi := F.ti50) (h := ?_))
        refine p_alloc (hi := F.ti50) (h := ?_)
        refine p_storeAll F.ti50 (h := ?_)
        refine p_end ?_
        refine p_seq (p_region fun hf => ?_)
        (first | refine p_loadA (ht := F.agg29) (hi := F.ti29) (h := ?_) | refine p_loadRefA (ht := F.agg29) (hi := F.ti29) (h := ?_))
        (first | refine p_loadA (ht := F.agg50) (hi := F.ti50) (h := ?_) | refine p_loadRefA (ht := F.agg50) (hi := F.ti50) (h := ?_))
        refine p_call (hx := rfl) (hb := ⟨Try.func48, by kernel_rfl, rfl⟩) (hf := stepRight G G.steps[i]) (h := ?_)
        refine p_assign (h := ?_)
        refine p_end ?_
        refine p_seq (p_region fun hf => ?_)
        (first | refine p_fieldPtr (hf := F.fld50_2) (h := ?_) | refine p_fieldRef (hf := F.fld50_2) (h := ?_) | refine p_fieldRow (hf := F.fld50_2) (h := ?_))
        (first | refine p_load (ht := F.leaf48) (h := ?_) | refine p_loadRef (ht := F.leaf48) (h := ?_))
        refine p_num (h := ?_)
        refine p_end ?_
        refine p_splitC (s := 29) (ht := fun hc29 => ?_) (hf := fun hc29 => ?_)
        · refine p_condT (h := ?_)
          refine p_seq (p_region fun hf => ?_)
          refine p_move (h := ?_)
          refine p_move (h := ?_)
          refine p_split (s := 31) (ht := fun hb31 => ?_) (hf := fun hb31 => ?_)
          · -- slot 31 is true
            refine p_guardYes (h := ?_)
            (first | refine p_fieldPtr (hf := F.fld50_6) (h := ?_) | refine p_fieldRef (hf := F.fld50_6) (h := ?_) | refine p_fieldRow (hf := F.fld50_6) (h := ?_))
            refine p_guardYes (h := ?_)
            (first | refine p_load (ht := F.leaf3) (h := ?_) | refine p_loadRef (ht := F.leaf3) (h := ?_))
            refine p_guardYes (h := ?_)
            refine p_move (h := ?_)
            refine p_guardYes (h := ?_)
            refine p_num (h := ?_)
            refine p_pick (h := ?_)
            refine p_assign (h := ?_)
            refine p_end ?_
            refine p_region fun hf => ?_
            refine p_move (h := ?_)
            refine p_add (r := ((c + 1 : Nat) : Int)) (hr := by omega) (hb := by omega) (h := ?_)
            refine p_assign (h := ?_)
            refine p_end ?_
            refine p_region fun hf => ?_
            refine p_move (h := ?_)
            refine p_add (r := ((i + 1 : Nat) : Int)) (hr := by omega) (hb := by omega) (h := ?_)
            refine p_assign (h := ?_)
            refine p_end ?_
            refine p_some ?_
            refine ⟨⟨i + 1, _, _, hlt, scan_step hlt hb10 hS ?_ ?_, eV_, eV_, eV_, eV_, oB_⟩, ?_⟩
            · simp [hc29, hb31]
            · simp [hc29, hb31]
            · simp (decide := true) only [upd, e5, V.toN, ↓reduceIte]; omega
          · -- slot 31 is false
            iterate 4 (refine p_guardNo (h := ?_))
            refine p_pick (h := ?_)
            refine p_assign (h := ?_)
            refine p_end ?_
            refine p_region fun hf => ?_
            refine p_move (h := ?_)
            refine p_add (r := ((c + 1 : Nat) : Int)) (hr := by omega) (hb := by omega) (h := ?_)
            refine p_assign (h := ?_)
            refine p_end ?_
            refine p_region fun hf => ?_
            refine p_move (h := ?_)
            refine p_add (r := ((i + 1 : Nat) : Int)) (hr := by omega) (hb := by omega) (h := ?_)
            refine p_assign (h := ?_)
            refine p_end ?_
            refine p_some ?_
            refine ⟨⟨i + 1, _, _, hlt, scan_step hlt hb10 hS ?_ ?_, eV_, eV_, eV_, eV_, oB_⟩, ?_⟩
            · simp [hc29, hb31]
            · simp [hc29, hb31]
            · simp (decide := true) only [upd, e5, V.toN, ↓reduceIte]; omega
        · refine p_condF (h := ?_)
          refine p_skip ?_
          refine p_region fun hf => ?_
          refine p_move (h := ?_)
          refine p_add (r := ((i + 1 : Nat) : Int)) (hr := by omega) (hb := by omega) (h := ?_)
          refine p_assign (h := ?_)
          refine p_end ?_
          refine p_some ?_
          refine ⟨⟨i + 1, _, _, hlt, scan_step hlt hb10 hS ?_ ?_, eV_, eV_, eV_, eV_, oB_⟩, ?_⟩
          · simp [hc29]
          · simp [hc29]
          · simp (decide := true) only [upd, e5, V.toN, ↓reduceIte]; omega
      · refine p_condF (h := ?_)
        have hfin := check_fin hS (fun _ => by simp at hc16; omega)
        refine p_exit ?_
        refine p_seq (p_region fun hf => ?_)
        refine p_move (h := ?_)
        refine p_move (h := ?_)
        refine p_split (s := 40) (ht := fun hb40 => ?_) (hf := fun hb40 => ?_)
        · -- slot 40 is true
          refine p_guardYes (h := ?_)
          refine p_move (h := ?_)
          refine p_guardYes (h := ?_)
          (first | refine p_fieldPtr (hf := F.fld29_7) (h := ?_) | refine p_fieldRef (hf := F.fld29_7) (h := ?_) | refine p_fieldRow (hf := F.fld29_7) (h := ?_))
          refine p_guardYes (h := ?_)
          (first | refine p_load (ht := F.leaf25) (h := ?_) | refine p_loadRef (ht := F.leaf25) (h := ?_))
          refine p_guardYes (h := ?_)
          refine p_len (ht := Try.underlying25) (h := ?_)
          refine p_guardYes (h := ?_)
          refine p_num (h := ?_)
          refine p_pick (h := ?_)
          refine p_assign (h := ?_)
          refine p_end ?_
          refine p_seq (p_region fun hf => ?_)
          refine p_move (h := ?_)
          refine p_move (h := ?_)
          refine p_split (s := 48) (ht := fun hb48 => ?_) (hf := fun hb48 => ?_)
          · -- slot 48 is true
            refine p_guardYes (h := ?_)
            (first | refine p_fieldPtr (hf := F.fld29_8) (h := ?_) | refine p_fieldRef (hf := F.fld29_8) (h := ?_) | refine p_fieldRow (hf := F.fld29_8) (h := ?_))
            refine p_guardYes (h := ?_)
            (first | refine p_load (ht := F.leaf26) (h := ?_) | refine p_loadRef (ht := F.leaf26) (h := ?_))
            refine p_guardYes (h := ?_)
            refine p_func (h := ?_)
            refine p_guardYes (h := ?_)
            refine p_callFlat (us := [.sl 121 (G.points.map pointV), .fn 50 [.ptr (0 + 1) 1 0]]) (vs := [.sl 121 (G.points.map pointV), .fn 50 [.ref (graphL G)]]) (vs' := []) [((0 + 1), 1)] (hx := rfl) (hb := ⟨Try.func49, by kernel_rfl, rfl⟩) (hvs := fun e' ob' g' hk => ⟨⟨⟨rfl, rfl⟩, .inl ⟨[.ref (graphL G)], ⟨⟨_, graphL G, graphL G, (hk (0 + 1, 1) (by simp)).trans oB_, ⟨⟨rfl, rfl⟩, ⟨rfl, rfl⟩, ⟨rfl, rfl⟩, ⟨rfl, rfl⟩, ⟨rfl, rfl⟩, ⟨rfl, rfl⟩, ⟨rfl, rfl⟩, ⟨rfl, rfl⟩, ⟨rfl, rfl⟩, ⟨rfl, rfl⟩, trivial⟩, rfl⟩, trivial⟩, rfl⟩, trivial⟩, trivial⟩) (hf := containsFunc_point (fun p => !inB p.node G.of.length) G.points h2 _ _ _ _ rfl ⟨Try.func50, by kernel_rfl, rfl⟩ fun k _ => check1 k _) (h := ?_)
            refine p_guardYes (h := ?_)
            refine p_not (h := ?_)
            refine p_pick (h := ?_)
            refine p_assign (h := ?_)
            refine p_end ?_
            refine p_seq (p_region fun hf => ?_)
            refine p_move (h := ?_)
            refine p_move (h := ?_)
            refine p_split (s := 56) (ht := fun hb56 => ?_) (hf := fun hb56 => ?_)
            · -- slot 56 is true
              refine p_guardYes (h := ?_)
              (first | refine p_fieldPtr (hf := F.fld29_9) (h := ?_) | refine p_fieldRef (hf := F.fld29_9) (h := ?_) | refine p_fieldRow (hf := F.fld29_9) (h := ?_))
              refine p_guardYes (h := ?_)
              (first | refine p_load (ht := F.leaf27) (h := ?_) | refine p_loadRef (ht := F.leaf27) (h := ?_))
              refine p_guardYes (h := ?_)
              refine p_func (h := ?_)
              refine p_guardYes (h := ?_)
              refine p_callFlat (us := [.sl 126 (G.sinks.map sinkV), .fn 53 [.ptr (0 + 1) 1 0]]) (vs := [.sl 126 (G.sinks.map sinkV), .fn 53 [.ref (graphL G)]]) (vs' := []) [((0 + 1), 1)] (hx := rfl) (hb := ⟨Try.func52, by kernel_rfl, rfl⟩) (hvs := fun e' ob' g' hk => ⟨⟨⟨rfl, rfl⟩, .inl ⟨[.ref (graphL G)], ⟨⟨_, graphL G, graphL G, (hk (0 + 1, 1) (by simp)).trans oB_, ⟨⟨rfl, rfl⟩, ⟨rfl, rfl⟩, ⟨rfl, rfl⟩, ⟨rfl, rfl⟩, ⟨rfl, rfl⟩, ⟨rfl, rfl⟩, ⟨rfl, rfl⟩, ⟨rfl, rfl⟩, ⟨rfl, rfl⟩, ⟨rfl, rfl⟩, trivial⟩, rfl⟩, trivial⟩, rfl⟩, trivial⟩, trivial⟩) (hf := containsFunc_sink (fun p => !inB p.node G.of.length || !inB p.x G.vars.length) G.sinks h3 _ _ _ _ rfl ⟨Try.func53, by kernel_rfl, rfl⟩ fun k _ => check2 k _) (h := ?_)
              refine p_guardYes (h := ?_)
              refine p_not (h := ?_)
              refine p_pick (h := ?_)
              refine p_assign (h := ?_)
              refine p_end ?_
              refine p_seq ?_
              refine p_seq (p_region fun hf => ?_)
              refine p_move (h := ?_)
              refine p_not (h := ?_)
              refine p_end ?_
              refine p_splitC (s := 64) (ht := fun hc64 => ?_) (hf := fun hc64 => ?_)
              · refine p_condT (h := ?_)
                refine p_seq (p_region fun hf => ?_)
                refine p_assign (h := ?_)
                refine p_end ?_
                refine TrC.ret ?_
                refine p_ret1 (hp := by first | (simp [checkE, hfin, hb10, hc16, hb40, hb48, hb56, hc64]; done) | (simp only [Bool.not_not] at hc64; simp only [checkE, hfin, hb10, hc16, hb40, hb48, hb56, hc64, Bool.and_true, Bool.true_and, Bool.and_false, Bool.false_and, Bool.not_true, Bool.not_false, ↓reduceIte, Bool.false_eq_true]; done) | exact absurd (hb10.symm.trans hb40) (by decide))
              · refine p_condF (h := ?_)
                refine p_skip ?_
                refine p_seq (p_region fun hf => ?_)
                refine p_assign (h := ?_)
                refine p_end ?_
                refine TrC.ret ?_
                refine p_ret1 (hp := by first | (simp [checkE, hfin, hb10, hc16, hb40, hb48, hb56, hc64]; done) | (simp only [Bool.not_not] at hc64; simp only [checkE, hfin, hb10, hc16, hb40, hb48, hb56, hc64, Bool.and_true, Bool.true_and, Bool.and_false, Bool.false_and, Bool.not_true, Bool.not_false, ↓reduceIte, Bool.false_eq_true]; done) | exact absurd (hb10.symm.trans hb40) (by decide))
            · -- slot 56 is false
              iterate 5 (refine p_guardNo (h := ?_))
              refine p_pick (h := ?_)
              refine p_assign (h := ?_)
              refine p_end ?_
              refine p_seq ?_
              refine p_seq (p_region fun hf => ?_)
              refine p_move (h := ?_)
              refine p_not (h := ?_)
              refine p_end ?_
              refine p_condT (h := ?_)
              refine p_seq (p_region fun hf => ?_)
              refine p_assign (h := ?_)
              refine p_end ?_
              refine TrC.ret ?_
              refine p_ret1 (hp := by first | (simp [checkE, hfin, hb10, hc16, hb40, hb48, hb56]; done) | (simp only [Bool.not_not] at hc64; simp only [checkE, hfin, hb10, hc16, hb40, hb48, hb56, Bool.and_true, Bool.true_and, Bool.and_false, Bool.false_and, Bool.not_true, Bool.not_false, ↓reduceIte, Bool.false_eq_true]; done) | exact absurd (hb10.symm.trans hb40) (by decide))
          · -- slot 48 is false
            iterate 5 (refine p_guardNo (h := ?_))
            refine p_pick (h := ?_)
            refine p_assign (h := ?_)
            refine p_end ?_
            refine p_seq (p_region fun hf => ?_)
            refine p_move (h := ?_)
            refine p_move (h := ?_)
            iterate 5 (refine p_guardNo (h := ?_))
            refine p_pick (h := ?_)
            refine p_assign (h := ?_)
            refine p_end ?_
            refine p_seq ?_
            refine p_seq (p_region fun hf => ?_)
            refine p_move (h := ?_)
            refine p_not (h := ?_)
            refine p_end ?_
            refine p_condT (h := ?_)
            refine p_seq (p_region fun hf => ?_)
            refine p_assign (h := ?_)
            refine p_end ?_
            refine TrC.ret ?_
            refine p_ret1 (hp := by first | (simp [checkE, hfin, hb10, hc16, hb40, hb48]; done) | (simp only [Bool.not_not] at hc64; simp only [checkE, hfin, hb10, hc16, hb40, hb48, Bool.and_true, Bool.true_and, Bool.and_false, Bool.false_and, Bool.not_true, Bool.not_false, ↓reduceIte, Bool.false_eq_true]; done) | exact absurd (hb10.symm.trans hb40) (by decide))
        · -- slot 40 is false
          iterate 5 (refine p_guardNo (h := ?_))
          refine p_pick (h := ?_)
          refine p_assign (h := ?_)
          refine p_end ?_
          refine p_seq (p_region fun hf => ?_)
          refine p_move (h := ?_)
          refine p_move (h := ?_)
          iterate 5 (refine p_guardNo (h := ?_))
          refine p_pick (h := ?_)
          refine p_assign (h := ?_)
          refine p_end ?_
          refine p_seq (p_region fun hf => ?_)
          refine p_move (h := ?_)
          refine p_move (h := ?_)
          iterate 5 (refine p_guardNo (h := ?_))
          refine p_pick (h := ?_)
          refine p_assign (h := ?_)
          refine p_end ?_
          refine p_seq ?_
          refine p_seq (p_region fun hf => ?_)
          refine p_move (h := ?_)
          refine p_not (h := ?_)
          refine p_end ?_
          refine p_condT (h := ?_)
          refine p_seq (p_region fun hf => ?_)
          refine p_assign (h := ?_)
          refine p_end ?_
          refine TrC.ret ?_
          refine p_ret1 (hp := by first | (simp [checkE, hfin, hb10, hc16, hb40]; done) | (simp only [Bool.not_not] at hc64; simp only [checkE, hfin, hb10, hc16, hb40, Bool.and_true, Bool.true_and, Bool.and_false, Bool.false_and, Bool.not_true, Bool.not_false, ↓reduceIte, Bool.false_eq_true]; done) | exact absurd (hb10.symm.trans hb40) (by decide))
    · -- slot 10 is false
      have hfin := check_fin hS (fun h => by rw [hb10] at h; cases h)
      iterate 5 (refine p_guardNo (h := ?_))
      refine p_pick (h := ?_)
      refine p_end ?_
      refine p_condF (h := ?_)
      refine p_exit ?_
      refine p_seq (p_region fun hf => ?_)
      refine p_move (h := ?_)
      refine p_move (h := ?_)
      refine p_split (s := 40) (ht := fun hb40 => ?_) (hf := fun hb40 => ?_)
      · -- slot 40 is true
        refine p_guardYes (h := ?_)
        refine p_move (h := ?_)
        refine p_guardYes (h := ?_)
        (first | refine p_fieldPtr (hf := F.fld29_7) (h := ?_) | refine p_fieldRef (hf := F.fld29_7) (h := ?_) | refine p_fieldRow (hf := F.fld29_7) (h := ?_))
        refine p_guardYes (h := ?_)
        (first | refine p_load (ht := F.leaf25) (h := ?_) | refine p_loadRef (ht := F.leaf25) (h := ?_))
        refine p_guardYes (h := ?_)
        refine p_len (ht := Try.underlying25) (h := ?_)
        refine p_guardYes (h := ?_)
        refine p_num (h := ?_)
        refine p_pick (h := ?_)
        refine p_assign (h := ?_)
        refine p_end ?_
        refine p_seq (p_region fun hf => ?_)
        refine p_move (h := ?_)
        refine p_move (h := ?_)
        refine p_split (s := 48) (ht := fun hb48 => ?_) (hf := fun hb48 => ?_)
        · -- slot 48 is true
          refine p_guardYes (h := ?_)
          (first | refine p_fieldPtr (hf := F.fld29_8) (h := ?_) | refine p_fieldRef (hf := F.fld29_8) (h := ?_) | refine p_fieldRow (hf := F.fld29_8) (h := ?_))
          refine p_guardYes (h := ?_)
          (first | refine p_load (ht := F.leaf26) (h := ?_) | refine p_loadRef (ht := F.leaf26) (h := ?_))
          refine p_guardYes (h := ?_)
          refine p_func (h := ?_)
          refine p_guardYes (h := ?_)
          refine p_callFlat (us := [.sl 121 (G.points.map pointV), .fn 50 [.ptr (0 + 1) 1 0]]) (vs := [.sl 121 (G.points.map pointV), .fn 50 [.ref (graphL G)]]) (vs' := []) [((0 + 1), 1)] (hx := rfl) (hb := ⟨Try.func49, by kernel_rfl, rfl⟩) (hvs := fun e' ob' g' hk => ⟨⟨⟨rfl, rfl⟩, .inl ⟨[.ref (graphL G)], ⟨⟨_, graphL G, graphL G, (hk (0 + 1, 1) (by simp)).trans oB_, ⟨⟨rfl, rfl⟩, ⟨rfl, rfl⟩, ⟨rfl, rfl⟩, ⟨rfl, rfl⟩, ⟨rfl, rfl⟩, ⟨rfl, rfl⟩, ⟨rfl, rfl⟩, ⟨rfl, rfl⟩, ⟨rfl, rfl⟩, ⟨rfl, rfl⟩, trivial⟩, rfl⟩, trivial⟩, rfl⟩, trivial⟩, trivial⟩) (hf := containsFunc_point (fun p => !inB p.node G.of.length) G.points h2 _ _ _ _ rfl ⟨Try.func50, by kernel_rfl, rfl⟩ fun k _ => check1 k _) (h := ?_)
          refine p_guardYes (h := ?_)
          refine p_not (h := ?_)
          refine p_pick (h := ?_)
          refine p_assign (h := ?_)
          refine p_end ?_
          refine p_seq (p_region fun hf => ?_)
          refine p_move (h := ?_)
          refine p_move (h := ?_)
          refine p_split (s := 56) (ht := fun hb56 => ?_) (hf := fun hb56 => ?_)
          · -- slot 56 is true
            refine p_guardYes (h := ?_)
            (first | refine p_fieldPtr (hf := F.fld29_9) (h := ?_) | refine p_fieldRef (hf := F.fld29_9) (h := ?_) | refine p_fieldRow (hf := F.fld29_9) (h := ?_))
            refine p_guardYes (h := ?_)
            (first | refine p_load (ht := F.leaf27) (h := ?_) | refine p_loadRef (ht := F.leaf27) (h := ?_))
            refine p_guardYes (h := ?_)
            refine p_func (h := ?_)
            refine p_guardYes (h := ?_)
            refine p_callFlat (us := [.sl 126 (G.sinks.map sinkV), .fn 53 [.ptr (0 + 1) 1 0]]) (vs := [.sl 126 (G.sinks.map sinkV), .fn 53 [.ref (graphL G)]]) (vs' := []) [((0 + 1), 1)] (hx := rfl) (hb := ⟨Try.func52, by kernel_rfl, rfl⟩) (hvs := fun e' ob' g' hk => ⟨⟨⟨rfl, rfl⟩, .inl ⟨[.ref (graphL G)], ⟨⟨_, graphL G, graphL G, (hk (0 + 1, 1) (by simp)).trans oB_, ⟨⟨rfl, rfl⟩, ⟨rfl, rfl⟩, ⟨rfl, rfl⟩, ⟨rfl, rfl⟩, ⟨rfl, rfl⟩, ⟨rfl, rfl⟩, ⟨rfl, rfl⟩, ⟨rfl, rfl⟩, ⟨rfl, rfl⟩, ⟨rfl, rfl⟩, trivial⟩, rfl⟩, trivial⟩, rfl⟩, trivial⟩, trivial⟩) (hf := containsFunc_sink (fun p => !inB p.node G.of.length || !inB p.x G.vars.length) G.sinks h3 _ _ _ _ rfl ⟨Try.func53, by kernel_rfl, rfl⟩ fun k _ => check2 k _) (h := ?_)
            refine p_guardYes (h := ?_)
            refine p_not (h := ?_)
            refine p_pick (h := ?_)
            refine p_assign (h := ?_)
            refine p_end ?_
            refine p_seq ?_
            refine p_seq (p_region fun hf => ?_)
            refine p_move (h := ?_)
            refine p_not (h := ?_)
            refine p_end ?_
            refine p_splitC (s := 64) (ht := fun hc64 => ?_) (hf := fun hc64 => ?_)
            · refine p_condT (h := ?_)
              refine p_seq (p_region fun hf => ?_)
              refine p_assign (h := ?_)
              refine p_end ?_
              refine TrC.ret ?_
              refine p_ret1 (hp := by first | (simp [checkE, hfin, hb10, hb40, hb48, hb56, hc64]; done) | (simp only [Bool.not_not] at hc64; simp only [checkE, hfin, hb10, hb40, hb48, hb56, hc64, Bool.and_true, Bool.true_and, Bool.and_false, Bool.false_and, Bool.not_true, Bool.not_false, ↓reduceIte, Bool.false_eq_true]; done) | exact absurd (hb10.symm.trans hb40) (by decide))
            · refine p_condF (h := ?_)
              refine p_skip ?_
              refine p_seq (p_region fun hf => ?_)
              refine p_assign (h := ?_)
              refine p_end ?_
              refine TrC.ret ?_
              refine p_ret1 (hp := by first | (simp [checkE, hfin, hb10, hb40, hb48, hb56, hc64]; done) | (simp only [Bool.not_not] at hc64; simp only [checkE, hfin, hb10, hb40, hb48, hb56, hc64, Bool.and_true, Bool.true_and, Bool.and_false, Bool.false_and, Bool.not_true, Bool.not_false, ↓reduceIte, Bool.false_eq_true]; done) | exact absurd (hb10.symm.trans hb40) (by decide))
          · -- slot 56 is false
            iterate 5 (refine p_guardNo (h := ?_))
            refine p_pick (h := ?_)
            refine p_assign (h := ?_)
            refine p_end ?_
            refine p_seq ?_
            refine p_seq (p_region fun hf => ?_)
            refine p_move (h := ?_)
            refine p_not (h := ?_)
            refine p_end ?_
            refine p_condT (h := ?_)
            refine p_seq (p_region fun hf => ?_)
            refine p_assign (h := ?_)
            refine p_end ?_
            refine TrC.ret ?_
            refine p_ret1 (hp := by first | (simp [checkE, hfin, hb10, hb40, hb48, hb56]; done) | (simp only [Bool.not_not] at hc64; simp only [checkE, hfin, hb10, hb40, hb48, hb56, Bool.and_true, Bool.true_and, Bool.and_false, Bool.false_and, Bool.not_true, Bool.not_false, ↓reduceIte, Bool.false_eq_true]; done) | exact absurd (hb10.symm.trans hb40) (by decide))
        · -- slot 48 is false
          iterate 5 (refine p_guardNo (h := ?_))
          refine p_pick (h := ?_)
          refine p_assign (h := ?_)
          refine p_end ?_
          refine p_seq (p_region fun hf => ?_)
          refine p_move (h := ?_)
          refine p_move (h := ?_)
          iterate 5 (refine p_guardNo (h := ?_))
          refine p_pick (h := ?_)
          refine p_assign (h := ?_)
          refine p_end ?_
          refine p_seq ?_
          refine p_seq (p_region fun hf => ?_)
          refine p_move (h := ?_)
          refine p_not (h := ?_)
          refine p_end ?_
          refine p_condT (h := ?_)
          refine p_seq (p_region fun hf => ?_)
          refine p_assign (h := ?_)
          refine p_end ?_
          refine TrC.ret ?_
          refine p_ret1 (hp := by first | (simp [checkE, hfin, hb10, hb40, hb48]; done) | (simp only [Bool.not_not] at hc64; simp only [checkE, hfin, hb10, hb40, hb48, Bool.and_true, Bool.true_and, Bool.and_false, Bool.false_and, Bool.not_true, Bool.not_false, ↓reduceIte, Bool.false_eq_true]; done) | exact absurd (hb10.symm.trans hb40) (by decide))
      · -- slot 40 is false
        iterate 5 (refine p_guardNo (h := ?_))
        refine p_pick (h := ?_)
        refine p_assign (h := ?_)
        refine p_end ?_
        refine p_seq (p_region fun hf => ?_)
        refine p_move (h := ?_)
        refine p_move (h := ?_)
        iterate 5 (refine p_guardNo (h := ?_))
        refine p_pick (h := ?_)
        refine p_assign (h := ?_)
        refine p_end ?_
        refine p_seq (p_region fun hf => ?_)
        refine p_move (h := ?_)
        refine p_move (h := ?_)
        iterate 5 (refine p_guardNo (h := ?_))
        refine p_pick (h := ?_)
        refine p_assign (h := ?_)
        refine p_end ?_
        refine p_seq ?_
        refine p_seq (p_region fun hf => ?_)
        refine p_move (h := ?_)
        refine p_not (h := ?_)
        refine p_end ?_
        refine p_condT (h := ?_)
        refine p_seq (p_region fun hf => ?_)
        refine p_assign (h := ?_)
        refine p_end ?_
        refine TrC.ret ?_
        refine p_ret1 (hp := by first | (simp [checkE, hfin, hb10, hb40]; done) | (simp only [Bool.not_not] at hc64; simp only [checkE, hfin, hb10, hb40, Bool.and_true, Bool.true_and, Bool.and_false, Bool.false_and, Bool.not_true, Bool.not_false, ↓reduceIte, Bool.false_eq_true]; done) | exact absurd (hb10.symm.trans hb40) (by decide))

end Go.Proofs.Ytfjciangbmjlmaa
