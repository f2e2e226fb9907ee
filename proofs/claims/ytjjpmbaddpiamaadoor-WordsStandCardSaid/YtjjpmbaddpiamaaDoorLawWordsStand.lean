/-
  Proved here: the statement WordsStand (stackyardlaw06), its tied card, out of the walk of its function.
-/
import Derived.Test.YtjjpmbaddpiamaaDoorRows
import Derived.Test.YtjjpmbaddpiamaaDoorCards
import Derived.Test.YtjjpmbaddpiamaaDoorTie
import Derived.Test.YtjjpmbaddpiamaaDoorN2
import Derived.Test.YtjjpmbaddpiamaaDoorWh
import Derived.ProofKit
import Derived.OpenShut
import Derived.ChangeMaps5
import Derived.Stop.LaidErr
import Derived.LaidMore
import Derived.Lib.LaidTab
import Derived.Stop.Joined
import Derived.SevenTiedAt
set_option maxHeartbeats 4000000
set_option linter.unusedSimpArgs false
set_option linter.unusedVariables false
namespace Go.Proofs.YtjjpmbaddpiamaaDoor.wordsStand
open Go.ChangeShapes Go.WideShapes Go.RowKit Go.ChangeMaps
theorem own : ownKnob Tryd.prog.godebug = none := by kernel_rfl
theorem laidOut : laidOutB Tryd.prog = true := by kernel_rfl
abbrev laidL : List (String × DataW Unit) := Rows.wordsStandRow.laid
theorem gP : Tryd.prog.globalNamed "internal/strconv.uint64pow10" = some 3 := by kernel_rfl
theorem gPType : (Tryd.prog.globals[3]?).map (·.type) = some 143 := by kernel_rfl
theorem cP : Tryd.prog.cellsOf 143 = 20 := by kernel_rfl
theorem gR : Tryd.prog.globalNamed "strconv.ErrRange" = some 2 := by kernel_rfl
theorem gRType : (Tryd.prog.globals[2]?).map (·.type) = some 60 := by kernel_rfl
theorem gS : Tryd.prog.globalNamed "strconv.ErrSyntax" = some 1 := by kernel_rfl
theorem gSType : (Tryd.prog.globals[1]?).map (·.type) = some 60 := by kernel_rfl
theorem starE : "*" ++ "errors.errorString" = "*errors.errorString" := by decide
theorem rowE (u : TypeId) (h : Tryd.prog.typeName? 3 u = some "*errors.errorString") : u = 148 :=
  typeName_ptr_named (nm := "errors.errorString") (by rw [starE]; kernel_rfl) (by kernel_rfl) (by decide) u (by rw [starE]; exact h)
theorem tab_eq : laidL = [("math/bits.deBruijn32tab", Rows.laid_math_bits_deBruijn32tab), ("math/bits.deBruijn64tab", Rows.laid_math_bits_deBruijn64tab), ("internal/strconv.uint64pow10", Lib.tabData .u64 Lib.pow10Tab), ("strconv.ErrRange", Rows.laid_strconv_ErrRange), ("strconv.ErrSyntax", Rows.laid_strconv_ErrSyntax)] := by kernel_rfl
theorem door_met (os : Os) (args : Array Value) : laidMetH Tryd.prog laidL ((World.doorLaid Tryd.prog 400 os).forCall (fun _ _ => 0) ⟨#[], args, []⟩).memory :=
  laidMetH_of_parts3 (fuel := 8) (laidMet_of_run' 8 (by kernel_rfl) (by kernel_rfl)) (by kernel_rfl) (by kernel_rfl)
/-- What the condition gives the walks: the table's cells, the errors. -/
theorem globs {W : World} (h : laidMetH Tryd.prog laidL W) : Globs W := by
  rw [MakeChecks.laidMetH_plain _ _ _ (by kernel_rfl), tab_eq] at h
  have h3 := h.tail.tail
  have ht := Lib.tabIs_of_head gP gPType Tryd.underlying143 Tryd.underlying115 F.ti115.h.cells cP h3
  obtain ⟨a0, s0, hv0, -, -, -⟩ := laid_sentinel h3.tail gR gRType Tryd.underlying60 rowE Tryd.underlying148 Tryd.underlying150 rfl rfl Tryd.underlying9 (by kernel_rfl) F.ti9.h.cells
  obtain ⟨a1, s1, hv1, -, -, -⟩ := laid_sentinel h3.tail.tail gS gSType Tryd.underlying60 rowE Tryd.underlying148 Tryd.underlying150 rfl rfl Tryd.underlying9 (by kernel_rfl) F.ti9.h.cells
  exact ⟨fun p hp => (by cases hp), ht, ⟨_, _, by have h0 := World.var?_cell gR hv0 0; simpa using h0⟩, ⟨_, _, by have h0 := World.var?_cell gS hv1 0; simpa using h0⟩⟩
section
variable {H : Type} {enc : TypeId × Value → H} {w : World}

end
/-- A struct that came in is a row of cells. -/
theorem okWide_agg {P : Program} {W : World} {base : Nat} {t : TypeId} {fs : Array Field} {v : Value} (ht : P.underlying t = some (.struct fs)) (h : Value.okWide P W .any base t v) : ∃ cs, v = .agg cs := by
  unfold Value.okWide at h
  rw [ht] at h
  obtain ⟨cs, h, _⟩ := h
  exact ⟨cs, h⟩
/-- A law's function that answers true, called: what is asked of the row's walk. -/
theorem law_calls {P : Program} {f : FuncId} {args : List V} {W : World} {cs : List Value} (hG : Globs W) (h : FnC P f args fun r => r = .bool true) (hc : VRs P W (InW W) (fun _ _ => none) args cs) : Calls P f cs.toArray W fun e W' => e = .returned (.bool true) ∧ Below W.heap.size W W' := by
  refine (h W (InW W) cs hG (fun _ h => h) hc).mono ?_
  rintro e W' ⟨v, r, S', rfl, h1, _, _, h2, rfl⟩
  have h3 : RL P W' S' (.bool true) v := h2
  rw [RL] at h3
  exact ⟨by rw [h3], h1⟩
set_option maxRecDepth 100000 in
theorem lifted (os : Os) (started : os.Started) (H : Type) (enc : TypeId × Value → H) :
    ReturnsInHanded {} Tryd.checked os 3 .any (fun w args => (Rows.wordsStandSpec.pre enc Tryd.prog Tryd.f3 [] false w args ∧ laidMetH Tryd.prog laidL w) ∧ sizedMet enc Tryd.prog Tryd.f3 (OpenSpec.ofChange Rows.wordsStandSpec) false w args) (Rows.wordsStandSpec.post enc Tryd.prog Tryd.f3 false true false false) := by
  refine returnsInHanded_of_change_and (C := Tryd.checked) (X := fun w _ => laidMetH Tryd.prog laidL w) (fun _ _ _ hh h => h.of_heap hh) own started (by kernel_rfl) Tryd.func3
    (ChangeSpec.witness_shaped (enc := enc) (C := Tryd.checked) (os := os) (X := fun w _ => laidMetH Tryd.prog laidL w) false (World.doorLaid Tryd.prog 400 os) #[.string ⟨#[]⟩] 8 rfl (World.shaped_of_RefB (by kernel_rfl) (by kernel_rfl)) (by kernel_rfl) (by kernel_rfl) (by kernel_rfl) (door_met os _)) ?_
  intro W base args ds gs before hval0 hW hcnd hsz hL _
  have hG := globs hL
  have hval : ∀ (j : Nat) t v, Tryd.f3.params[j]? = some t → args[j]? = some v → Value.okWide Tryd.prog W .any base t v := hval0
  have hW' := hW
  obtain ⟨p, q, hA0, hV, rfl, hfz, hnd⟩ := hW
  have hA : DataW.TrodAll enc Tryd.prog W 0 (fun _ => true) true Tryd.f3.params.toList args.toList ds p := hA0
  rw [Tryd.params3] at hA hval hsz
  obtain ⟨v0, vs0, d0, ds0, p0, q0, hargs, rfl, rfl, h0, r0⟩ := trodAll_cons hA
  obtain ⟨rfl, rfl, rfl⟩ := trodAll_nil r0
  obtain rfl : args = #[v0] := by cases args; simp_all
  obtain ⟨rfl, rfl⟩ := trodVars_none hV
  obtain ⟨a0, rfl, rfl, rfl, w0⟩ := open_string Tryd.underlying9 (hval 0 9 v0 rfl rfl) h0
  clear hA0 hval0
  refine (law_calls hG (wordsStandP a0 (by have h1 := sized_string hsz (j := 0) (t := 9) rfl rfl; have h2 := reachBytes_lt; have e1 : a0.size = a0.data.size := rfl; have e2 : a0.data.toList.length = a0.data.size := Array.length_toList; have e3 : (2 : Nat) ^ 47 = 140737488355328 := (by decide); omega)) (cs := [.string a0]) ?_).mono fun e W' ⟨he, bel⟩ => ?_
  · rw [VRs]; exact ⟨(by rw [VR, RL]), by simp [VRs]⟩
  · subst he
    exact ⟨_, rfl, _, _, _, [], _, [], hW', trodAll_mk1 (shut_bool Tryd.underlying4 _), (trodAll_cons_mk (shut_string Tryd.underlying9 w0) trodAll_mk0), rfl, bel.frame _, fun h => by cases h⟩
theorem over : Rows.wordsStandRow.holds Tryd.pinned (OpenSpec.ofChange Rows.wordsStandSpec) :=
  OpenClaim.holds_of_wide 3 Tryd.f3 rfl rfl rfl rfl rfl rfl rfl ⟨rfl, rfl, rfl, rfl, rfl⟩ rfl rfl rfl rfl rfl (by kernel_rfl) Tryd.func3 (by kernel_rfl)
    (of_decide_eq_true (by kernel_rfl)) (by unfold Func.isWrapper; first | (rw [if_pos (by decide +kernel)]; kernel_rfl) | (rw [if_neg (by decide +kernel)]; exact ⟨rfl, rfl⟩))
    (fun os started H enc _ => lifted os started H enc)
theorem carded : Claim7.holds Tryd.pinned (.plain (OpenSpec.ofChange Rows.wordsStandSpec)) Rows.wordsStandCard :=
  Claim7.holds_tied_plain_at .later [] [.data, .data, .data, .sentinel, .sentinel] true (true, "fa4c7f7b0257487800e75f5bf57eacc12b35a014d7ce690681bb7267dae81a58") true
    over (fun _ h => by cases h) (by kernel_rfl) (fun _ h => by cases h) wordsStand_row_tie rfl ⟨rfl, rfl⟩ (by kernel_rfl) rfl
    (fun f fn hf hfn => by
      obtain rfl : f = 3 := Option.some.inj ((show Tryd.prog.funcNamed "stackyard/stackyardlaw06.WordsStand" = some 3 by kernel_rfl).symm.trans hf) |>.symm
      obtain rfl : fn = Tryd.f3 := (Option.some.inj (Tryd.func3.symm.trans hfn)).symm
      exact ⟨by kernel_rfl, fun j t ht => by
        rw [Tryd.params3] at ht
        have hm : t ∈ [9] := by simpa using Array.mem_of_getElem? ht
        have hall : ([9].all fun u => !Tryd.prog.wantsStandIn u) = true := by kernel_rfl
        exact (show Tryd.prog.wantsStandIn t = false by simpa using List.all_eq_true.1 hall t hm)⟩)
    (by kernel_rfl)
end Go.Proofs.YtjjpmbaddpiamaaDoor.wordsStand
namespace Go.Proofs.YtjjpmbaddpiamaaDoor
/-- The statement. -/
theorem wordsStand_holds : Rows.WordsStandCardSaid := wordsStand.carded
end Go.Proofs.YtjjpmbaddpiamaaDoor
