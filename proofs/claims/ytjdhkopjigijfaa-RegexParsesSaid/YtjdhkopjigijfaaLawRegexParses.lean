/-
  Proved here: the statement RegexParses (stackyardlaw07), out of the walk of its function.
-/
import Derived.Test.YtjdhkopjigijfaaRows
import Derived.Test.YtjdhkopjigijfaaN
import Derived.Test.YtjdhkopjigijfaaXuv
import Derived.ProofKit
import Derived.OpenShut
import Derived.ChangeMaps5
set_option maxHeartbeats 4000000
set_option linter.unusedSimpArgs false
set_option linter.unusedVariables false
namespace Go.Proofs.Ytjdhkopjigijfaa.regexParses
open Go.ChangeShapes Go.WideShapes Go.RowKit Go.ChangeMaps
theorem own : ownKnob Try.prog.godebug = none := by kernel_rfl
theorem laidOut : laidOutB Try.prog = true := by kernel_rfl
section
variable {H : Type} {enc : TypeId × Value → H} {w : World}

end
/-- A struct that came in is a row of cells. -/
theorem okWide_agg {P : Program} {W : World} {base : Nat} {t : TypeId} {fs : Array Field} {v : Value} (ht : P.underlying t = some (.struct fs)) (h : Value.okWide P W .any base t v) : ∃ cs, v = .agg cs := by
  unfold Value.okWide at h
  rw [ht] at h
  obtain ⟨cs, h, _⟩ := h
  exact ⟨cs, h⟩
/-- A law's function that answers true, called: what is asked of the row's walk. -/
theorem law_calls {P : Program} {f : FuncId} {args : List V} {W : World} {cs : List Value} (h : FnC P f args fun r => r = .bool true) (hc : VRs P W (InW W) (fun _ _ => none) args cs) : Calls P f cs.toArray W fun e W' => e = .returned (.bool true) ∧ Below W.heap.size W W' := by
  refine (h W (InW W) cs (fun p hp => by simp [globTab] at hp) (fun _ h => h) hc).mono ?_
  rintro e W' ⟨v, r, S', rfl, h1, _, _, h2, rfl⟩
  have h3 : RL P W' S' (.bool true) v := h2
  rw [RL] at h3
  exact ⟨by rw [h3], h1⟩
set_option maxRecDepth 100000 in
theorem lifted (os : Os) (started : os.Started) (H : Type) (enc : TypeId × Value → H) :
    ReturnsInHanded {} Try.checked os 3 .any (Rows.regexParsesSpec.pre6 enc Try.prog Try.f3 Rows.regexParsesRow.domain false) (Rows.regexParsesSpec.post enc Try.prog Try.f3 false true false false) := by
  refine returnsInHanded_of_change_sized (C := Try.checked) own started (by kernel_rfl) Try.func3
    (ChangeSpec.witness6 (enc := enc) (C := Try.checked) false ⟨#[], #[.string ⟨#[]⟩], []⟩ 8 (by kernel_rfl) (by kernel_rfl) (by kernel_rfl) (by kernel_rfl)) ?_
  intro W base args ds gs before hval0 hW hcnd hsz0 _
  have hval : ∀ (j : Nat) t v, Try.f3.params[j]? = some t → args[j]? = some v → Value.okWide Try.prog W .any base t v := hval0
  have hW' := hW
  obtain ⟨p, q, hA0, hV, rfl, hfz, hnd⟩ := hW
  have hA : DataW.TrodAll enc Try.prog W 0 (fun _ => true) true Try.f3.params.toList args.toList ds p := hA0
  rw [Try.params3] at hA hval
  obtain ⟨v0, vs0, d0, ds0, p0, q0, hargs, rfl, rfl, h0, r0⟩ := trodAll_cons hA
  obtain ⟨rfl, rfl, rfl⟩ := trodAll_nil r0
  obtain rfl : args = #[v0] := by cases args; simp_all
  obtain ⟨rfl, rfl⟩ := trodVars_none hV
  obtain ⟨a0, rfl, rfl, rfl, w0⟩ := open_string Try.underlying9 (hval 0 9 v0 rfl rfl) h0
  clear hA0 hval0 hsz0
  refine (law_calls (regexParses a0) (cs := [.string a0]) ?_).mono fun e W' ⟨he, bel⟩ => ?_
  · rw [VRs]; exact ⟨(by rw [VR, RL]), by simp [VRs]⟩
  · subst he
    exact ⟨_, rfl, _, _, _, [], _, [], hW', trodAll_mk1 (shut_bool Try.underlying4 _), (trodAll_cons_mk (shut_string Try.underlying9 w0) trodAll_mk0), rfl, bel.frame _, fun h => by cases h⟩
theorem over : Rows.regexParsesRow.holds Try.pinned (OpenSpec.ofChange Rows.regexParsesSpec) :=
  OpenClaim.holds_of_wide 3 Try.f3 rfl rfl rfl rfl rfl rfl rfl ⟨rfl, rfl, rfl, rfl, rfl⟩ rfl rfl rfl rfl rfl (by kernel_rfl) Try.func3 (by kernel_rfl)
    (of_decide_eq_true (by kernel_rfl)) (by unfold Func.isWrapper; first | (rw [if_pos (by decide +kernel)]; kernel_rfl) | (rw [if_neg (by decide +kernel)]; exact ⟨rfl, rfl⟩))
    (fun os started H enc _ => lifted os started H enc)
end Go.Proofs.Ytjdhkopjigijfaa.regexParses
namespace Go.Proofs.Ytjdhkopjigijfaa
/-- The statement. -/
theorem regexParses_holds : Rows.RegexParsesSaid := regexParses.over
end Go.Proofs.Ytjdhkopjigijfaa
