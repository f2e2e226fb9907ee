/-
  procsRight, walked.
-/
import Derived.Test.YtfjciangbmjlmaaGc
set_option linter.unusedSimpArgs false
set_option linter.unusedVariables false
namespace Go.Proofs.Ytfjciangbmjlmaa
open Go.RowKit
def okNode (g : Graph) (i : Nat) (n : Int) : Bool := inB n g.of.length && decide (ofAt g n = i)
def entryAt (g : Graph) (i : Nat) : Int := (g.entry[i]?).getD 0
def exitAt (g : Graph) (i : Nat) : Int := (g.exit[i]?).getD 0
def rightAt (g : Graph) (i : Nat) : Bool := okNode g i (entryAt g i) && okNode g i (exitAt g i)
def headB (g : Graph) : Bool :=
  decide ((64 : Int) < g.vars.length) || decide ((g.procs.length : Int) < 1) || decide ((1024 : Int) < g.procs.length) || decide ((g.entry.length : Int) ≠ g.procs.length) || decide ((g.exit.length : Int) ≠ g.procs.length) || decide ((4096 : Int) < g.of.length) || !inB g.main g.procs.length
def procsRightB (g : Graph) : Bool :=
  !headB g && !(g.of.any fun k => !inB k g.procs.length) && ((List.range g.procs.length).all fun i => rightAt g i) && (decide ((g.sites.length : Int) ≤ 1024) && !(g.sites.any fun s => !inB s.proc g.procs.length))
theorem procs_bad {g : Graph} {i : Nat} (hi : i < g.procs.length) (h : rightAt g i = false) : procsRightB g = false := by
  have : ((List.range g.procs.length).all fun i => rightAt g i) = false := by
    rw [List.all_eq_false]
    exact ⟨i, List.mem_range.2 hi, by simp [h]⟩
  simp [procsRightB, this]
theorem procs_all {g : Graph} (h : ∀ j, j < g.procs.length → rightAt g j = true) : ((List.range g.procs.length).all fun i => rightAt g i) = true := List.all_eq_true.2 fun i hi => h i (List.mem_range.1 hi)
theorem entry_eq {g : Graph} {i : Nat} (h : i < g.entry.length) : g.entry[i] = entryAt g i := by simp [entryAt, h]
theorem exit_eq {g : Graph} {i : Nat} (h : i < g.exit.length) : g.exit[i] = exitAt g i := by simp [exitAt, h]
theorem node_at (G : Graph) (i k : Nat) (hk : k < 2) (h1 : 1 ≤ k → okNode G i (entryAt G i) = true) (h2 : 2 ≤ k → okNode G i (exitAt G i) = true) : ∃ n, [iV (entryAt G i), iV (exitAt G i)][((k : Nat) : Int).toNat]? = some (iV n) ∧ (okNode G i n = false → rightAt G i = false) ∧
    (okNode G i n = true → (1 ≤ k + 1 → okNode G i (entryAt G i) = true) ∧ (2 ≤ k + 1 → okNode G i (exitAt G i) = true)) := by
  obtain rfl | rfl : k = 0 ∨ k = 1 := by omega
  · exact ⟨entryAt G i, rfl, fun h => by simp [rightAt, h], fun h => ⟨fun _ => h, fun h => by omega⟩⟩
  · exact ⟨exitAt G i, rfl, fun h => by simp [rightAt, h], fun h => ⟨fun _ => h1 (by omega), fun _ => h⟩⟩
theorem okN {G : Graph} {i : Nat} {n : Int} (h1 : (!inB n G.of.length) = false) (h2 : decide (ofAt G n ≠ (i : Int)) = false) : okNode G i n = true := by
  simp at h1 h2; simp [okNode, h1, h2]

theorem procsRight (G : Graph) : FnC Try.prog 47 [graphV G] (fun r => r = .bool (procsRightB G)) := by
  refine FnC.of (fn := Try.f47) ⟨Try.func47, by kernel_rfl, rfl⟩ Try.ntmps47 (by simp) fun w0 S0 => ?_
  refine p_seq (p_region fun hf => ?_)
  refine p_box (h := ?_)
  refine p_assign (h := ?_)
  refine p_end ?_
  refine p_seq (p_region fun hf => ?_)
  (first | refine p_fieldPtr (hf := F.fld29_1) (h := ?_) | refine p_fieldRef (hf := F.fld29_1) (h := ?_) | refine p_fieldRow (hf := F.fld29_1) (h := ?_))
  (first | refine p_load (ht := F.leaf22) (h := ?_) | refine p_loadRef (ht := F.leaf22) (h := ?_))
  refine p_len (ht := Try.underlying22) (h := ?_)
  refine p_alloc (hi := F.ti3) (h := ?_)
  refine p_store1 F.ti3 (h := ?_)
  refine p_end ?_
  refine p_seq ?_
  refine p_seq (p_region fun hf => ?_)
  (first | refine p_fieldPtr (hf := F.fld29_0) (h := ?_) | refine p_fieldRef (hf := F.fld29_0) (h := ?_) | refine p_fieldRow (hf := F.fld29_0) (h := ?_))
  (first | refine p_load (ht := F.leaf22) (h := ?_) | refine p_loadRef (ht := F.leaf22) (h := ?_))
  refine p_len (ht := Try.underlying22) (h := ?_)
  refine p_num (h := ?_)
  refine p_move (h := ?_)
  refine p_split (s := 14) (ht := fun hb14 => ?_) (hf := fun hb14 => ?_)
  · -- slot 14 is true
    iterate 2 (refine p_guardNo (h := ?_))
    refine p_pick (h := ?_)
    refine p_move (h := ?_)
    iterate 2 (refine p_guardNo (h := ?_))
    refine p_pick (h := ?_)
    refine p_move (h := ?_)
    iterate 5 (refine p_guardNo (h := ?_))
    refine p_pick (h := ?_)
    refine p_move (h := ?_)
    iterate 5 (refine p_guardNo (h := ?_))
    refine p_pick (h := ?_)
    refine p_move (h := ?_)
    iterate 4 (refine p_guardNo (h := ?_))
    refine p_pick (h := ?_)
    refine p_move (h := ?_)
    iterate 5 (refine p_guardNo (h := ?_))
    refine p_pick (h := ?_)
    refine p_end ?_
    refine p_condT (h := ?_)
    refine p_seq (p_region fun hf => ?_)
    refine p_assign (h := ?_)
    refine p_end ?_
    refine TrC.ret ?_
    refine p_ret1 (hp := by simp [procsRightB, headB, hb14])
  · -- slot 14 is false
    refine p_guardYes (h := ?_)
    (first | refine p_load (ht := F.leaf3) (h := ?_) | refine p_loadRef (ht := F.leaf3) (h := ?_))
    refine p_guardYes (h := ?_)
    refine p_num (h := ?_)
    refine p_pick (h := ?_)
    refine p_move (h := ?_)
    refine p_split (s := 18) (ht := fun hb18 => ?_) (hf := fun hb18 => ?_)
    · -- slot 18 is true
      iterate 2 (refine p_guardNo (h := ?_))
      refine p_pick (h := ?_)
      refine p_move (h := ?_)
      iterate 5 (refine p_guardNo (h := ?_))
      refine p_pick (h := ?_)
      refine p_move (h := ?_)
      iterate 5 (refine p_guardNo (h := ?_))
      refine p_pick (h := ?_)
      refine p_move (h := ?_)
      iterate 4 (refine p_guardNo (h := ?_))
      refine p_pick (h := ?_)
      refine p_move (h := ?_)
      iterate 5 (refine p_guardNo (h := ?_))
      refine p_pick (h := ?_)
      refine p_end ?_
      refine p_condT (h := ?_)
      refine p_seq (p_region fun hf => ?_)
      refine p_assign (h := ?_)
      refine p_end ?_
      refine TrC.ret ?_
      refine p_ret1 (hp := by simp [procsRightB, headB, hb14, hb18])
    · -- slot 18 is false
      refine p_guardYes (h := ?_)
      (first | refine p_load (ht := F.leaf3) (h := ?_) | refine p_loadRef (ht := F.leaf3) (h := ?_))
      refine p_guardYes (h := ?_)
      refine p_num (h := ?_)
      refine p_pick (h := ?_)
      refine p_move (h := ?_)
      refine p_split (s := 22) (ht := fun hb22 => ?_) (hf := fun hb22 => ?_)
      · -- slot 22 is true
        iterate 5 (refine p_guardNo (h := ?_))
        refine p_pick (h := ?_)
        refine p_move (h := ?_)
        iterate 5 (refine p_guardNo (h := ?_))
        refine p_pick (h := ?_)
        refine p_move (h := ?_)
        iterate 4 (refine p_guardNo (h := ?_))
        refine p_pick (h := ?_)
        refine p_move (h := ?_)
        iterate 5 (refine p_guardNo (h := ?_))
        refine p_pick (h := ?_)
        refine p_end ?_
        refine p_condT (h := ?_)
        refine p_seq (p_region fun hf => ?_)
        refine p_assign (h := ?_)
        refine p_end ?_
        refine TrC.ret ?_
        refine p_ret1 (hp := by simp [procsRightB, headB, hb14, hb18, hb22])
      · -- slot 22 is false
        refine p_guardYes (h := ?_)
        (first | refine p_fieldPtr (hf := F.fld29_2) (h := ?_) | refine p_fieldRef (hf := F.fld29_2) (h := ?_) | refine p_fieldRow (hf := F.fld29_2) (h := ?_))
        refine p_guardYes (h := ?_)
        (first | refine p_load (ht := F.leaf23) (h := ?_) | refine p_loadRef (ht := F.leaf23) (h := ?_))
        refine p_guardYes (h := ?_)
        refine p_len (ht := Try.underlying23) (h := ?_)
        refine p_guardYes (h := ?_)
        (first | refine p_load (ht := F.leaf3) (h := ?_) | refine p_loadRef (ht := F.leaf3) (h := ?_))
        refine p_guardYes (h := ?_)
        refine p_num (h := ?_)
        refine p_pick (h := ?_)
        refine p_move (h := ?_)
        refine p_split (s := 29) (ht := fun hb29 => ?_) (hf := fun hb29 => ?_)
        · -- slot 29 is true
          iterate 5 (refine p_guardNo (h := ?_))
          refine p_pick (h := ?_)
          refine p_move (h := ?_)
          iterate 4 (refine p_guardNo (h := ?_))
          refine p_pick (h := ?_)
          refine p_move (h := ?_)
          iterate 5 (refine p_guardNo (h := ?_))
          refine p_pick (h := ?_)
          refine p_end ?_
          refine p_condT (h := ?_)
          refine p_seq (p_region fun hf => ?_)
          refine p_assign (h := ?_)
          refine p_end ?_
          refine TrC.ret ?_
          refine p_ret1 (hp := by simp [procsRightB, headB, hb14, hb18, hb22, hb29])
        · -- slot 29 is false
          refine p_guardYes (h := ?_)
          (first | refine p_fieldPtr (hf := F.fld29_3) (h := ?_) | refine p_fieldRef (hf := F.fld29_3) (h := ?_) | refine p_fieldRow (hf := F.fld29_3) (h := ?_))
          refine p_guardYes (h := ?_)
          (first | refine p_load (ht := F.leaf23) (h := ?_) | refine p_loadRef (ht := F.leaf23) (h := ?_))
          refine p_guardYes (h := ?_)
          refine p_len (ht := Try.underlying23) (h := ?_)
          refine p_guardYes (h := ?_)
          (first | refine p_load (ht := F.leaf3) (h := ?_) | refine p_loadRef (ht := F.leaf3) (h := ?_))
          refine p_guardYes (h := ?_)
          refine p_num (h := ?_)
          refine p_pick (h := ?_)
          refine p_move (h := ?_)
          refine p_split (s := 36) (ht := fun hb36 => ?_) (hf := fun hb36 => ?_)
          · -- slot 36 is true
            iterate 4 (refine p_guardNo (h := ?_))
            refine p_pick (h := ?_)
            refine p_move (h := ?_)
            iterate 5 (refine p_guardNo (h := ?_))
            refine p_pick (h := ?_)
            refine p_end ?_
            refine p_condT (h := ?_)
            refine p_seq (p_region fun hf => ?_)
            refine p_assign (h := ?_)
            refine p_end ?_
            refine TrC.ret ?_
            refine p_ret1 (hp := by simp [procsRightB, headB, hb14, hb18, hb22, hb29, hb36])
          · -- slot 36 is false
            refine p_guardYes (h := ?_)
            (first | refine p_fieldPtr (hf := F.fld29_5) (h := ?_) | refine p_fieldRef (hf := F.fld29_5) (h := ?_) | refine p_fieldRow (hf := F.fld29_5) (h := ?_))
            refine p_guardYes (h := ?_)
            (first | refine p_load (ht := F.leaf23) (h := ?_) | refine p_loadRef (ht := F.leaf23) (h := ?_))
            refine p_guardYes (h := ?_)
            refine p_len (ht := Try.underlying23) (h := ?_)
            refine p_guardYes (h := ?_)
            refine p_num (h := ?_)
            refine p_pick (h := ?_)
            refine p_move (h := ?_)
            refine p_split (s := 42) (ht := fun hb42 => ?_) (hf := fun hb42 => ?_)
            · -- slot 42 is true
              iterate 5 (refine p_guardNo (h := ?_))
              refine p_pick (h := ?_)
              refine p_end ?_
              refine p_condT (h := ?_)
              refine p_seq (p_region fun hf => ?_)
              refine p_assign (h := ?_)
              refine p_end ?_
              refine TrC.ret ?_
              refine p_ret1 (hp := by simp [procsRightB, headB, hb14, hb18, hb22, hb29, hb36, hb42])
            · -- slot 42 is false
              refine p_guardYes (h := ?_)
              (first | refine p_fieldPtr (hf := F.fld29_4) (h := ?_) | refine p_fieldRef (hf := F.fld29_4) (h := ?_) | refine p_fieldRow (hf := F.fld29_4) (h := ?_))
              refine p_guardYes (h := ?_)
              (first | refine p_load (ht := F.leaf3) (h := ?_) | refine p_loadRef (ht := F.leaf3) (h := ?_))
              refine p_guardYes (h := ?_)
              (first | refine p_load (ht := F.leaf3) (h := ?_) | refine p_loadRef (ht := F.leaf3) (h := ?_))
              refine p_guardYes (h := ?_)
              refine p_call (hx := rfl) (hb := ⟨Try.func51, by kernel_rfl, rfl⟩) (hf := in_ _ _) (h := ?_)
              refine p_guardYes (h := ?_)
              refine p_not (h := ?_)
              refine p_pick (h := ?_)
              refine p_end ?_
              refine p_splitC (s := 48) (ht := fun hc48 => ?_) (hf := fun hc48 => ?_)
              · refine p_condT (h := ?_)
                refine p_seq (p_region fun hf => ?_)
                refine p_assign (h := ?_)
                refine p_end ?_
                refine TrC.ret ?_
                refine p_ret1 (hp := by simp [procsRightB, headB, hb14, hb18, hb22, hb29, hb36, hb42, hc48])
              · refine p_condF (h := ?_)
                refine p_skip ?_
                refine p_seq ?_
                refine p_seq (p_region fun hf => ?_)
                (first | refine p_fieldPtr (hf := F.fld29_5) (h := ?_) | refine p_fieldRef (hf := F.fld29_5) (h := ?_) | refine p_fieldRow (hf := F.fld29_5) (h := ?_))
                (first | refine p_load (ht := F.leaf23) (h := ?_) | refine p_loadRef (ht := F.leaf23) (h := ?_))
                refine p_func (h := ?_)
                refine p_callFlat (us := [.sl 3 (G.of.map iV), .fn 72 [.ptr (0 + 1 + 1) 3 0]]) (vs := [.sl 3 (G.of.map iV), .fn 72 [.ref [iV G.procs.length]]]) (vs' := []) [((0 + 1 + 1), 3)] (hx := rfl) (hb := ⟨Try.func71, by kernel_rfl, rfl⟩) (hvs := fun e' ob' g' hk => ⟨⟨⟨rfl, rfl⟩, .inl ⟨[.ref [iV G.procs.length]], ⟨⟨_, [iV G.procs.length], [iV G.procs.length], (hk (0 + 1 + 1, 3) (by simp)).trans oB_, ⟨⟨rfl, rfl⟩, trivial⟩, rfl⟩, trivial⟩, rfl⟩, trivial⟩, trivial⟩) (hf := containsFunc_int (fun k => !inB k G.procs.length) G.of (by simp at hb42; omega) _ _ _ _ rfl ⟨Try.func72, by kernel_rfl, rfl⟩ fun k _ => procs1 k _) (h := ?_)
                refine p_end ?_
                refine p_splitC (s := 52) (ht := fun hc52 => ?_) (hf := fun hc52 => ?_)
                · refine p_condT (h := ?_)
                  refine p_seq (p_region fun hf => ?_)
                  refine p_assign (h := ?_)
                  refine p_end ?_
                  refine TrC.ret ?_
                  refine p_ret1 (hp := by simp [procsRightB, headB, hb14, hb18, hb22, hb29, hb36, hb42, hc48, hc52])
                · refine p_condF (h := ?_)
                  refine p_skip ?_
                  refine p_seq ?_
                  refine p_seq (p_region fun hf => ?_)
                  (first | refine p_load (ht := F.leaf3) (h := ?_) | refine p_loadRef (ht := F.leaf3) (h := ?_))
                  refine p_move (h := ?_)
                  refine p_end ?_
                  refine TrC.block ?_
                  refine p_loop (fun st => ∃ i : Nat, i ≤ G.procs.length ∧ (∀ j, j < i → rightAt G j = true) ∧ st.env 1 = .ptr (0 + 1) 1 0 ∧ st.env 3 = .ptr (0 + 1 + 1) 3 0 ∧ st.env 53 = iV G.procs.length ∧ st.env 54 = iV i ∧ st.obj (0 + 1) 1 = .cells 29 (graphL G) ∧ st.obj (0 + 1 + 1) 3 = .cells 3 [iV G.procs.length]) (fun st => G.procs.length - (st.env 54).toN) ?_ fun e ob g1 hI => ?_
                  · exact ⟨0, by omega, fun j h => by omega, eV_, eV_, eV_, eV_, oB_, oB_⟩
                  · obtain ⟨i, hi, hn, e1, e3, e53, e54, o1, o3⟩ := hI
                    dsimp only at e1 e3 e53 e54 o1 o3
                    have hE := (⟨e1, e3, e53, e54, o1, o3⟩ : _ ∧ _ ∧ _ ∧ _ ∧ _ ∧ _)
                    have hp : G.procs.length ≤ 1024 := by simp at hb22; omega
                    refine p_seq (p_region fun hf => ?_)
                    refine p_num (h := ?_)
                    refine p_end ?_
                    refine p_seq ?_
                    refine p_splitC (s := 55) (ht := fun hc55 => ?_) (hf := fun hc55 => ?_)
                    · refine p_condT (h := ?_)
                      have hlt : i < G.procs.length := by simpa using hc55
                      have hi2 : i < G.entry.length := by simp at hb29; omega
                      have hi3 : i < G.exit.length := by simp at hb36; omega
                      refine p_skip ?_
                      refine p_seq ?_
                      refine TrC.block ?_
                      refine p_seq (p_region fun hf => ?_)
                      refine p_move (h := ?_)
                      refine p_assign (h := ?_)
                      refine p_end ?_
                      refine p_seq (p_draw F.mixed fun hf => ?_)
                      (first | refine p_fieldPtr (hf := F.fld29_2) (h := ?_) | refine p_fieldRef (hf := F.fld29_2) (h := ?_) | refine p_fieldRow (hf := F.fld29_2) (h := ?_))
                      (first | refine p_load (ht := F.leaf23) (h := ?_) | refine p_loadRef (ht := F.leaf23) (h := ?_))
                      refine p_move (h := ?_)
                      refine p_idxMap (j := i) (ht := Try.underlying23) (hi := F.ti3) (hij := rfl) (hj := hi2) (h := ?_)
                      rw [entry_eq hi2]
                      (first | refine p_load (ht := F.leaf3) (h := ?_) | refine p_loadRef (ht := F.leaf3) (h := ?_))
                      (first | refine p_fieldPtr (hf := F.fld29_3) (h := ?_) | refine p_fieldRef (hf := F.fld29_3) (h := ?_) | refine p_fieldRow (hf := F.fld29_3) (h := ?_))
                      (first | refine p_load (ht := F.leaf23) (h := ?_) | refine p_loadRef (ht := F.leaf23) (h := ?_))
                      refine p_move (h := ?_)
                      refine p_idxMap (j := i) (ht := Try.underlying23) (hi := F.ti3) (hij := rfl) (hj := hi3) (h := ?_)
                      rw [exit_eq hi3]
                      (first | refine p_load (ht := F.leaf3) (h := ?_) | refine p_loadRef (ht := F.leaf3) (h := ?_))
                      refine p_buildSlice (ht := Try.underlying23) (hi := F.ti3) (h := ?_)
                      refine p_len (ht := Try.underlying23) (h := ?_)
                      refine p_move (h := ?_)
                      refine p_endD ?_
                      refine TrC.block ?_
                      refine p_loop (fun st => ∃ k : Nat, k ≤ 2 ∧ (1 ≤ k → okNode G i (entryAt G i) = true) ∧ (2 ≤ k → okNode G i (exitAt G i) = true) ∧ st.env 1 = .ptr (0 + 1) 1 0 ∧ st.env 3 = .ptr (0 + 1 + 1) 3 0 ∧ st.env 4 = iV i ∧ st.env 53 = iV G.procs.length ∧ st.env 54 = iV i ∧ st.env 67 = .row (g1 + 1 + 1 + 1) 67 2 ∧ st.env 68 = iV 2 ∧ st.env 69 = iV k ∧ st.obj (0 + 1) 1 = .cells 29 (graphL G) ∧ st.obj (0 + 1 + 1) 3 = .cells 3 [iV G.procs.length] ∧ st.obj (g1 + 1 + 1 + 1) 67 = .row 3 [iV (entryAt G i), iV (exitAt G i)]) (fun st => 2 - (st.env 69).toN) ?_ fun e ob g2 hI => ?_
                      · exact ⟨0, by omega, fun h => by omega, fun h => by omega, eV_, eV_, eV_, eV_, eV_, eV_, eV_, eV_, oB_, oB_, oB_⟩
                      · obtain ⟨k, hk, hk1, hk2, f1, f3, f4, f53, f54, f67, f68, f69, p1, p3, pw⟩ := hI
                        dsimp only at f1 f3 f4 f53 f54 f67 f68 f69 p1 p3 pw
                        have hE := (⟨f1, f3, f4, f53, f54, f67, f68, f69, p1, p3, pw⟩ : _ ∧ _ ∧ _ ∧ _ ∧ _ ∧ _ ∧ _ ∧ _ ∧ _ ∧ _ ∧ _)
                        refine p_seq (p_region fun hf => ?_)
                        refine p_num (h := ?_)
                        refine p_end ?_
                        refine p_seq ?_
                        refine p_splitC (s := 70) (ht := fun hc70 => ?_) (hf := fun hc70 => ?_)
                        · refine p_condT (h := ?_)
                          have hk3 : k < 2 := by simp at hc70; omega
                          obtain ⟨n, hget, hbadR, hgood⟩ := node_at G i k hk3 hk1 hk2
                          refine p_skip ?_
                          refine p_seq ?_
                          refine TrC.block ?_
                          refine p_seq (p_region fun hf => ?_)
                          refine p_idxRow (ht := Try.underlying23) (hi := F.ti3) (h0 := by omega) (hlt := by omega) (h := ?_)
                          refine p_loadRow (ht := F.leaf3) (hy := hget) (hv := rfl) (h := ?_)
                          refine p_assign (h := ?_)
                          refine p_end ?_
                          refine p_seq (p_region fun hf => ?_)
                          refine p_move (h := ?_)
                          (first | refine p_fieldPtr (hf := F.fld29_5) (h := ?_) | refine p_fieldRef (hf := F.fld29_5) (h := ?_) | refine p_fieldRow (hf := F.fld29_5) (h := ?_))
                          (first | refine p_load (ht := F.leaf23) (h := ?_) | refine p_loadRef (ht := F.leaf23) (h := ?_))
                          refine p_len (ht := Try.underlying23) (h := ?_)
                          refine p_call (hx := rfl) (hb := ⟨Try.func51, by kernel_rfl, rfl⟩) (hf := in_ _ _) (h := ?_)
                          refine p_not (h := ?_)
                          refine p_move (h := ?_)
                          refine p_split (s := 79) (ht := fun hb79 => ?_) (hf := fun hb79 => ?_)
                          · -- slot 79 is true
                            iterate 7 (refine p_guardNo (h := ?_))
                            refine p_pick (h := ?_)
                            refine p_end ?_
                            refine p_condT (h := ?_)
                            refine p_seq (p_region fun hf => ?_)
                            refine p_assign (h := ?_)
                            refine p_end ?_
                            refine TrC.ret ?_
                            refine p_ret1 (hp := by rw [procs_bad hlt (hbadR (by simp [okNode]; intro h; simp [h] at hb79))])
                          · -- slot 79 is false
                            refine p_guardYes (h := ?_)
                            (first | refine p_fieldPtr (hf := F.fld29_5) (h := ?_) | refine p_fieldRef (hf := F.fld29_5) (h := ?_) | refine p_fieldRow (hf := F.fld29_5) (h := ?_))
                            refine p_guardYes (h := ?_)
                            (first | refine p_load (ht := F.leaf23) (h := ?_) | refine p_loadRef (ht := F.leaf23) (h := ?_))
                            refine p_guardYes (h := ?_)
                            refine p_move (h := ?_)
                            refine p_guardYes (h := ?_)
                            refine p_idxMap (j := n.toNat) (ht := Try.underlying23) (hi := F.ti3) (hij := inB_nat hb79) (hj := inB_lt hb79) (h := ?_)
                            rw [ofAt_eq (inB_lt hb79)]
                            refine p_guardYes (h := ?_)
                            (first | refine p_load (ht := F.leaf3) (h := ?_) | refine p_loadRef (ht := F.leaf3) (h := ?_))
                            refine p_guardYes (h := ?_)
                            refine p_move (h := ?_)
                            refine p_guardYes (h := ?_)
                            refine p_num (h := ?_)
                            refine p_pick (h := ?_)
                            refine p_end ?_
                            refine p_splitC (s := 87) (ht := fun hc87 => ?_) (hf := fun hc87 => ?_)
                            · refine p_condT (h := ?_)
                              refine p_seq (p_region fun hf => ?_)
                              refine p_assign (h := ?_)
                              refine p_end ?_
                              refine TrC.ret ?_
                              refine p_ret1 (hp := by rw [procs_bad hlt (hbadR (by simp [okNode]; intro _; simpa using hc87))])
                            · refine p_condF (h := ?_)
                              refine p_skip ?_
                              refine p_region fun hf => ?_
                              refine p_add (r := ((k + 1 : Nat) : Int)) (hr := by omega) (hb := by omega) (h := ?_)
                              refine p_move (h := ?_)
                              refine p_end ?_
                              refine p_some ?_
                              refine ⟨⟨k + 1, hk3, fun _ => (hgood ?_).1 (by omega), fun h => (hgood ?_).2 h, eV_, eV_, eV_, eV_, eV_, eV_, eV_, eV_, oB_, oB_, oB_⟩, ?_⟩
                              · exact okN hb79 hc87
                              · exact okN hb79 hc87
                              · simp (decide := true) only [upd, f69, V.toN, ↓reduceIte]; omega
                        · refine p_condF (h := ?_)
                          have hr2 : rightAt G i = true := by simp at hc70; simp [rightAt, hk1 (by omega), hk2 (by omega)]
                          refine p_exit ?_
                          refine p_region fun hf => ?_
                          refine p_add (r := ((i + 1 : Nat) : Int)) (hr := by omega) (hb := by omega) (h := ?_)
                          refine p_move (h := ?_)
                          refine p_end ?_
                          refine p_some ?_
                          refine ⟨⟨i + 1, hlt, fun j hj => ?_, eV_, eV_, eV_, eV_, oB_, oB_⟩, ?_⟩
                          · rcases Nat.lt_succ_iff_lt_or_eq.1 hj with h | h
                            · exact hn j h
                            · subst h; exact hr2
                          · simp (decide := true) only [upd, e54, V.toN, ↓reduceIte]; omega
                    · refine p_condF (h := ?_)
                      refine p_exit ?_
                      refine p_seq (p_region fun hf => ?_)
                      (first | refine p_fieldPtr (hf := F.fld29_7) (h := ?_) | refine p_fieldRef (hf := F.fld29_7) (h := ?_) | refine p_fieldRow (hf := F.fld29_7) (h := ?_))
                      (first | refine p_load (ht := F.leaf25) (h := ?_) | refine p_loadRef (ht := F.leaf25) (h := ?_))
                      refine p_len (ht := Try.underlying25) (h := ?_)
                      refine p_num (h := ?_)
                      refine p_move (h := ?_)
                      refine p_split (s := 94) (ht := fun hb94 => ?_) (hf := fun hb94 => ?_)
                      · -- slot 94 is true
                        refine p_guardYes (h := ?_)
                        (first | refine p_fieldPtr (hf := F.fld29_7) (h := ?_) | refine p_fieldRef (hf := F.fld29_7) (h := ?_) | refine p_fieldRow (hf := F.fld29_7) (h := ?_))
                        refine p_guardYes (h := ?_)
                        (first | refine p_load (ht := F.leaf25) (h := ?_) | refine p_loadRef (ht := F.leaf25) (h := ?_))
                        refine p_guardYes (h := ?_)
                        refine p_func (h := ?_)
                        refine p_guardYes (h := ?_)
                        refine p_callFlat (us := [.sl 54 (G.sites.map siteV), .fn 74 [.ptr (0 + 1 + 1) 3 0]]) (vs := [.sl 54 (G.sites.map siteV), .fn 74 [.ref [iV G.procs.length]]]) (vs' := []) [((0 + 1 + 1), 3)] (hx := rfl) (hb := ⟨Try.func73, by kernel_rfl, rfl⟩) (hvs := fun e' ob' g' hk => ⟨⟨⟨rfl, rfl⟩, .inl ⟨[.ref [iV G.procs.length]], ⟨⟨_, [iV G.procs.length], [iV G.procs.length], (hk (0 + 1 + 1, 3) (by simp)).trans oB_, ⟨⟨rfl, rfl⟩, trivial⟩, rfl⟩, trivial⟩, rfl⟩, trivial⟩, trivial⟩) (hf := containsFunc_site (fun s => !inB s.proc G.procs.length) G.sites (by simp at hb94; omega) _ _ _ _ rfl ⟨Try.func74, by kernel_rfl, rfl⟩ fun s _ => procs2 s _) (h := ?_)
                        refine p_guardYes (h := ?_)
                        refine p_not (h := ?_)
                        refine p_pick (h := ?_)
                        refine p_assign (h := ?_)
                        refine p_end ?_
                        refine TrC.ret ?_
                        refine p_ret1 (hp := by have h1 := procs_all (g := G) (fun j hj => hn j (by simp at hc55; omega)); simp only [procsRightB, h1]; simp [headB, hb14, hb18, hb22, hb29, hb36, hb42, hc48, hc52, hb94])
                      · -- slot 94 is false
                        iterate 5 (refine p_guardNo (h := ?_))
                        refine p_pick (h := ?_)
                        refine p_assign (h := ?_)
                        refine p_end ?_
                        refine TrC.ret ?_
                        refine p_ret1 (hp := by simp [procsRightB, hb94])

end Go.Proofs.Ytfjciangbmjlmaa
