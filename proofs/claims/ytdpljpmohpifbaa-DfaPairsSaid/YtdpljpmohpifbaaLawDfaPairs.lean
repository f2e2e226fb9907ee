/-
  Proved here: the statement DfaPairs (stackyardlaw09), out of the walk of its function.
-/
import Derived.Test.YtdpljpmohpifbaaRows
import Derived.Test.YtdpljpmohpifbaaN
import Derived.Test.YtdpljpmohpifbaaZz
import Derived.ProofKit
import Derived.OpenShut
set_option linter.unusedSimpArgs false
set_option linter.unusedVariables false
namespace Go.Proofs.Ytdpljpmohpifbaa.dfaPairs
open Go.ChangeShapes Go.WideShapes Go.RowKit
theorem own : ownKnob Try.prog.godebug = none := by kernel_rfl
theorem laidOut : laidOutB Try.prog = true := by kernel_rfl
section
variable {H : Type} {enc : TypeId × Value → H} {w : World}
theorem r_int : RLeaf H enc Try.prog w 3 fun v => ∃ n : Int, v = iV n := RLeaf.int Try.underlying3
theorem r_ints : RLeaf H enc Try.prog w 26 fun v => ∃ l : List Int, v = .sl 3 (l.map iV) := RLeaf.slice (f := iV) Try.underlying26 F.ti3 (by decide) r_int.any
theorem r_rows : RLeaf H enc Try.prog w 22 fun v => ∃ l : List (List Int), v = .sl 26 (l.map rowV) := RLeaf.slice (f := rowV) Try.underlying22 F.ti26 (by decide) r_ints.any
theorem r_bools : RLeaf H enc Try.prog w 23 fun v => ∃ l : List Bool, v = .sl 4 (l.map V.bool) := RLeaf.slice (f := V.bool) Try.underlying23 F.ti4 (by decide) (RLeaf.bool Try.underlying4).any
theorem r_dfa : RAny H enc Try.prog w 25 fun v => ∃ s : Dfa, v = dfaV s :=
  RAny.struct Try.underlying25 F.ti25 rfl (ps := [_, _, _]) ⟨rfl, F.ti3.cells, r_int, rfl, F.ti22.cells, r_rows, rfl, F.ti23.cells, r_bools, trivial⟩ fun vs h => by
    obtain _ | ⟨v0, _ | ⟨v1, _ | ⟨v2, _ | ⟨v3, vs⟩⟩⟩⟩ := vs <;> simp only [AllP, and_false] at h
    obtain ⟨⟨a0, rfl⟩, ⟨a1, rfl⟩, ⟨a2, rfl⟩, _⟩ := h
    exact ⟨⟨a0, a1, a2⟩, rfl⟩

end
/-- A struct that came in is a row of cells. -/
theorem okWide_agg {P : Program} {W : World} {base : Nat} {t : TypeId} {fs : Array Field} {v : Value} (ht : P.underlying t = some (.struct fs)) (h : Value.okWide P W .any base t v) : ∃ cs, v = .agg cs := by
  unfold Value.okWide at h
  rw [ht] at h
  obtain ⟨cs, h, _⟩ := h
  exact ⟨cs, h⟩
/-- A law's function that answers true, called: what is asked of the row's walk. -/
theorem law_calls {P : Program} {f : FuncId} {args : List V} {W : World} {cs : List Value} (h : FnC P f args fun r => r = .bool true) (hc : VRs P W (InW W) (fun _ _ => none) args cs) : Calls P f cs.toArray W fun e W' => e = .returned (.bool true) ∧ Below W.heap.size W W' := by
  refine (h W (InW W) cs (fun _ h => h) hc).mono ?_
  rintro e W' ⟨v, r, S', rfl, h1, _, _, h2, rfl⟩
  have h3 : RL P W' S' (.bool true) v := h2
  rw [RL] at h3
  exact ⟨by rw [h3], h1⟩
set_option maxRecDepth 100000 in
theorem lifted (os : Os) (started : os.Started) (H : Type) (enc : TypeId × Value → H) :
    ReturnsInHanded {} Try.checked os 6 .any (Rows.dfaPairsSpec.pre6 enc Try.prog Try.f6 Rows.dfaPairsRow.domain false) (Rows.dfaPairsSpec.post enc Try.prog Try.f6 false true false false) := by
  refine returnsInHanded_of_change_sized (C := Try.checked) own started (by kernel_rfl) Try.func6
    (ChangeSpec.witness6 (enc := enc) (C := Try.checked) false ⟨#[], #[.agg #[.int .i64 0, .slice none 0 0, .slice none 0 0], .agg #[.int .i64 0, .slice none 0 0, .slice none 0 0]], []⟩ 8 (by kernel_rfl) (by kernel_rfl) (by kernel_rfl) (by kernel_rfl)) ?_
  intro W base args ds gs before hval0 hW hcnd hsz0 _
  have hval : ∀ (j : Nat) t v, Try.f6.params[j]? = some t → args[j]? = some v → Value.okWide Try.prog W .any base t v := hval0
  have hW' := hW
  obtain ⟨p, q, hA0, hV, rfl, hfz, hnd⟩ := hW
  have hA : DataW.TrodAll enc Try.prog W 0 (fun _ => true) true Try.f6.params.toList args.toList ds p := hA0
  rw [Try.params6] at hA hval
  obtain ⟨v0, vs0, d0, ds0, p0, q0, hargs, rfl, rfl, h0, r0⟩ := trodAll_cons hA
  obtain ⟨v1, vs1, d1, ds1, p1, q1, rfl, rfl, rfl, h1, r1⟩ := trodAll_cons r0
  obtain ⟨rfl, rfl, rfl⟩ := trodAll_nil r1
  obtain rfl : args = #[v0, v1] := by cases args; simp_all
  obtain ⟨rfl, rfl⟩ := trodVars_none hV
  obtain ⟨c0, rfl⟩ := okWide_agg Try.underlying25 (hval 0 25 v0 rfl rfl)
  have lt0 : ∀ x ∈ p0, x.block < W.heap.size := by obtain ⟨m, hm⟩ := h0; exact DataW.trod_lt m _ _ _ hm
  obtain ⟨u0, ⟨a0, rfl⟩, g0⟩ := r_dfa.arg (fun u hu => by obtain ⟨s, rfl⟩ := hu; exact ⟨_, rfl⟩) h0
  obtain ⟨c1, rfl⟩ := okWide_agg Try.underlying25 (hval 1 25 v1 rfl rfl)
  have lt1 : ∀ x ∈ p1, x.block < W.heap.size := by obtain ⟨m, hm⟩ := h1; exact DataW.trod_lt m _ _ _ hm
  obtain ⟨u1, ⟨a1, rfl⟩, g1⟩ := r_dfa.arg (fun u hu => by obtain ⟨s, rfl⟩ := hu; exact ⟨_, rfl⟩) h1
  clear hA0 hval0 hsz0
  refine (law_calls (dfaPairs a0 a1) (cs := [.agg c0, .agg c1]) ?_).mono fun e W' ⟨he, bel⟩ => ?_
  · rw [VRs]; refine ⟨g0, ?_⟩
    rw [VRs]; exact ⟨g1, by simp [VRs]⟩
  · subst he
    exact ⟨_, rfl, _, _, _, [], _, [], hW', trodAll_mk1 (shut_bool Try.underlying4 _), (trodAll_cons_mk (Below.trod laidOut (by kernel_rfl) (of_decide_eq_true (by kernel_rfl)) h0 bel lt0) (trodAll_cons_mk (Below.trod laidOut (by kernel_rfl) (of_decide_eq_true (by kernel_rfl)) h1 bel lt1) trodAll_mk0)), rfl, bel.frame _, fun h => by cases h⟩
theorem over : Rows.dfaPairsRow.holds Try.pinned (OpenSpec.ofChange Rows.dfaPairsSpec) :=
  OpenClaim.holds_of_wide 6 Try.f6 rfl rfl rfl rfl rfl rfl rfl ⟨rfl, rfl, rfl, rfl, rfl⟩ rfl rfl rfl rfl rfl (by kernel_rfl) Try.func6 (by kernel_rfl)
    (of_decide_eq_true (by kernel_rfl)) (by unfold Func.isWrapper; first | (rw [if_pos (by decide +kernel)]; kernel_rfl) | (rw [if_neg (by decide +kernel)]; exact ⟨rfl, rfl⟩))
    (fun os started H enc _ => lifted os started H enc)
end Go.Proofs.Ytdpljpmohpifbaa.dfaPairs
namespace Go.Proofs.Ytdpljpmohpifbaa
/-- The statement. -/
theorem dfaPairs_holds : Rows.DfaPairsSaid := dfaPairs.over
end Go.Proofs.Ytdpljpmohpifbaa
